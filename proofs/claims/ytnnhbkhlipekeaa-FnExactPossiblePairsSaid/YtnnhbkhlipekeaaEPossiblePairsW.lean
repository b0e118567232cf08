/- The code of this unit computes what its mirrors say. Written by program (wip/gen). -/
import Derived.Test.YtnnhbkhlipekeaaFacts
import Derived.Test.YtnnhbkhlipekeaaEPossiblePairsM
import Derived.Test.YtnnhbkhlipekeaaNumW
import Derived.Test.YtnnhbkhlipekeaaAsuW
import Derived.Test.YtnnhbkhlipekeaaAsqW
namespace Go.Proofs.Ytnnhbkhlipekeaa
open Go.RowKit
set_option linter.unusedVariables false

set_option maxHeartbeats 4000000 in
theorem laws_FnExactPossiblePairs_any (v_p0 : Value) (p0 : List (List Int)) (W : World) (hr_p0 : RdM W v_p0 p0) {r : Bool} (hm : laws_FnExactPossiblePairs_m p0 = some r) : Calls Try.prog 10 [v_p0].toArray W fun e w => ∃ v, e = .returned v ∧ v = .bool r ∧ Mem W w [] := by
  refine x_enter Try.func10 rfl Try.ntmps10 rfl ?_
  intro a hs
  have hM := Mem.start W
  unfold laws_FnExactPossiblePairs_m at hm
  refine wp_seq ?_
  refine wp_region_lit ?_
  refine wl hs (y_assign hs rfl) rfl ?_; intro a hs
  refine wpList_nil ?_
  refine x_nt ?_
  refine wp_seq ?_
  refine wp_region_lit ?_
  refine wl hs (y_assign hs rfl) rfl ?_; intro a hs
  refine wpList_nil ?_
  refine x_nt ?_
  refine wp_seq ?_
  refine wp_region_lit ?_
  refine wl hs (y_move hs rfl) rfl ?_; intro a hs
  refine wl hs (y_move hs rfl) rfl ?_; intro a hs
  obtain ⟨y1, h2, hm⟩ := bindE hm
  refine wcall is_13 hs rfl rfl (laws_szIntSS_any v_p0 p0 1048576 _ (RdM.below hr_p0 hM.bel) h2) ?_; rintro a _ w hs ⟨rfl, hX⟩
  have hM : Mem W w [] := hM.call hX
  refine wl hs (y_assign hs rfl) rfl ?_; intro a hs
  refine wpList_nil ?_
  refine x_nt ?_
  refine wp_seq ?_
  refine wp_seq ?_
  refine wp_region_lit ?_
  refine wl hs (y_move hs rfl) rfl ?_; intro a hs
  refine wl hs (y_lss hs rfl rfl) rfl ?_; intro a hs
  refine wpList_nil ?_
  refine x_nt ?_
  refine x_cond hs rfl (fun hb => ?_) (fun hb => ?_)
  · replace hm := condT hb hm
    refine wp_seq ?_
    refine wp_region_lit ?_
    refine wl hs (y_assign hs rfl) rfl ?_; intro a hs
    refine wpList_nil ?_
    refine x_nt ?_
    refine wp_ret ?_
    refine x_rt ?_
    have hm : some true = some r := hm
    obtain rfl := Option.some.inj hm
    refine x_ret1 rfl hs rfl ⟨_, rfl, ?_⟩
    exact ⟨rfl, hM⟩
  · replace hm := condF hb hm
    refine wp_skip ?_
    refine x_nt ?_
    refine wp_seq ?_
    refine wp_region_lit ?_
    refine wl hs (y_move hs rfl) rfl ?_; intro a hs
    obtain ⟨y3, h4, hm⟩ := bindE hm
    refine wcall is_15 hs rfl rfl (laws_toIntSS_any v_p0 p0 _ (RdM.below hr_p0 hM.bel) h4) ?_; rintro a v5 w hs ⟨vs7, hX⟩
    have hM : Mem W w [aMat 23 3 v5 vs7 y3] := hM.call hX
    obtain ⟨y8, h9, hm⟩ := bindE hm
    refine wcall is_36 hs rfl rfl (spec_PossiblePairs_any v5 y3 _ (hM.rdM 0 rfl) h9) ?_; rintro a _ w hs ⟨v12, vs13, rfl, hX⟩
    have hM : Mem W w [aMat 23 3 v12 vs13 y8.1, aMat 23 3 v5 vs7 y3] := hM.call hX
    refine wl hs (y_move hs rfl) rfl ?_; intro a hs
    refine wl hs (y_extract hs rfl rfl) rfl ?_; intro a hs
    refine wl hs (y_extract hs rfl rfl) rfl ?_; intro a hs
    refine wl hs (y_assign hs rfl) rfl ?_; intro a hs
    refine wl hs (y_assign hs rfl) rfl ?_; intro a hs
    refine wpList_nil ?_
    refine x_nt ?_
    refine wp_seq ?_
    refine wp_region_lit ?_
    refine wl hs (y_move hs rfl) rfl ?_; intro a hs
    obtain ⟨y14, h15, hm⟩ := bindE hm
    refine wcall is_15 hs rfl rfl (laws_toIntSS_any v_p0 p0 _ (RdM.below hr_p0 hM.bel) h15) ?_; rintro a v16 w hs ⟨vs18, hX⟩
    have hM : Mem W w [aMat 23 3 v16 vs18 y14, aMat 23 3 v12 vs13 y8.1, aMat 23 3 v5 vs7 y3] := hM.call hX
    refine wl hs (y_assign hs rfl) rfl ?_; intro a hs
    refine wpList_nil ?_
    refine x_nt ?_
    refine wp_seq ?_
    refine wp_region_lit ?_
    refine wl hs (y_move hs rfl) rfl ?_; intro a hs
    obtain ⟨y19, h20, hm⟩ := bindE hm
    refine wcall is_37 hs rfl rfl (impl_PossiblePairs_any v16 y14 _ (hM.rdM 0 rfl) h20) ?_; rintro a _ w hs ⟨v23, vs24, rfl, hX⟩
    have hM : Mem W w [aMat 23 3 v23 vs24 y19.1, aMat 23 3 v16 vs18 y14, aMat 23 3 v12 vs13 y8.1, aMat 23 3 v5 vs7 y3] := hM.call hX
    refine wl hs (y_move hs rfl) rfl ?_; intro a hs
    refine wl hs (y_extract hs rfl rfl) rfl ?_; intro a hs
    refine wl hs (y_extract hs rfl rfl) rfl ?_; intro a hs
    refine wl hs (y_assign hs rfl) rfl ?_; intro a hs
    refine wl hs (y_assign hs rfl) rfl ?_; intro a hs
    refine wpList_nil ?_
    refine x_nt ?_
    refine wp_seq ?_
    refine wp_seq ?_
    refine wp_region_lit ?_
    refine wl hs (y_move hs rfl) rfl ?_; intro a hs
    refine wl hs (y_move hs rfl) rfl ?_; intro a hs
    obtain ⟨y25, h26, hm⟩ := bindE hm
    refine wcall is_18 hs rfl rfl (laws_eqIntSS_any v23 y19.1 v12 y8.1 _ (hM.rdM 0 rfl) (hM.rdM 2 rfl) h26) ?_; rintro a _ w hs ⟨rfl, hX⟩
    have hM : Mem W w [aMat 23 3 v23 vs24 y19.1, aMat 23 3 v16 vs18 y14, aMat 23 3 v12 vs13 y8.1, aMat 23 3 v5 vs7 y3] := hM.call hX
    refine wl hs (y_not hs rfl) rfl ?_; intro a hs
    refine wl hs (y_move hs rfl) rfl ?_; intro a hs
    obtain ⟨b27, hb28, hm⟩ := bindE hm
    refine wlguard (N := 96) (L' := [(40, .bool b27), (0, v_p0), (4, v12), (5, .bool y8.2), (6, v16), (7, v23), (8, .bool y19.2)]) (fun w => Mem W w [aMat 23 3 v23 vs24 y19.1, aMat 23 3 v16 vs18 y14, aMat 23 3 v12 vs13 y8.1, aMat 23 3 v5 vs7 y3]) 4 ?_ ?_
    · intro K; rcases Bool.eq_false_or_eq_true (!y25) with hg29 | hg29
      · have hm := condT hg29 hb28
        refine wls hs rfl hg29 rfl ?_; intro a hs
        refine wls hs rfl hg29 rfl ?_; intro a hs
        refine wls hs rfl hg29 rfl ?_; intro a hs
        have hm : some true = some b27 := hm
        cases Option.some.inj hm
        refine wl hs (y_pickT hs rfl hg29 rfl) rfl ?_; intro a hs
        exact K _ _ (hs.sub ⟨rfl, rfl, rfl, rfl, rfl, rfl, rfl, trivial⟩) hM
      · have hm := condF hg29 hb28
        refine wlg hs rfl hg29 (y_move hs rfl) rfl ?_; intro a hs
        refine wlg hs rfl hg29 (y_move hs rfl) rfl ?_; intro a hs
        refine wlg hs rfl hg29 (y_neqB hu_bool hs rfl rfl) rfl ?_; intro a hs
        have hm : some (y19.2 != y8.2) = some b27 := hm
        cases Option.some.inj hm
        refine wl hs (y_pickF hs rfl hg29 rfl) rfl ?_; intro a hs
        exact K _ _ (hs.sub ⟨rfl, rfl, rfl, rfl, rfl, rfl, rfl, trivial⟩) hM
    intro a w hs hM
    simp only [List.drop_succ_cons, List.drop_zero]
    refine wpList_nil ?_
    refine x_nt ?_
    refine x_cond hs rfl (fun hb => ?_) (fun hb => ?_)
    · replace hm := condT hb hm
      refine wp_seq ?_
      refine wp_region_lit ?_
      refine wl hs (y_assign hs rfl) rfl ?_; intro a hs
      refine wpList_nil ?_
      refine x_nt ?_
      refine wp_ret ?_
      refine x_rt ?_
      have hm : some false = some r := hm
      obtain rfl := Option.some.inj hm
      refine x_ret1 rfl hs rfl ⟨_, rfl, ?_⟩
      exact ⟨rfl, hM.none_⟩
    · replace hm := condF hb hm
      refine wp_skip ?_
      refine x_nt ?_
      refine wp_seq ?_
      refine wp_seq ?_
      refine wp_region_lit ?_
      refine wl hs (y_move hs rfl) rfl ?_; intro a hs
      refine wl hs (y_move hs rfl) rfl ?_; intro a hs
      obtain ⟨y30, h31, hm⟩ := bindE hm
      refine wcall is_15 hs rfl rfl (laws_toIntSS_any v_p0 p0 _ (RdM.below hr_p0 hM.bel) h31) ?_; rintro a v32 w hs ⟨vs34, hX⟩
      have hM : Mem W w [aMat 23 3 v32 vs34 y30, aMat 23 3 v23 vs24 y19.1, aMat 23 3 v16 vs18 y14, aMat 23 3 v12 vs13 y8.1, aMat 23 3 v5 vs7 y3] := hM.call hX
      obtain ⟨y35, h36, hm⟩ := bindE hm
      refine wcall is_18 hs rfl rfl (laws_eqIntSS_any v16 y14 v32 y30 _ (hM.rdM 2 rfl) (hM.rdM 0 rfl) h36) ?_; rintro a _ w hs ⟨rfl, hX⟩
      have hM : Mem W w [aMat 23 3 v32 vs34 y30, aMat 23 3 v23 vs24 y19.1, aMat 23 3 v16 vs18 y14, aMat 23 3 v12 vs13 y8.1, aMat 23 3 v5 vs7 y3] := hM.call hX
      refine wl hs (y_not hs rfl) rfl ?_; intro a hs
      refine wpList_nil ?_
      refine x_nt ?_
      refine x_cond hs rfl (fun hb => ?_) (fun hb => ?_)
      · replace hm := condT hb hm
        refine wp_seq ?_
        refine wp_region_lit ?_
        refine wl hs (y_assign hs rfl) rfl ?_; intro a hs
        refine wpList_nil ?_
        refine x_nt ?_
        refine wp_ret ?_
        refine x_rt ?_
        have hm : some false = some r := hm
        obtain rfl := Option.some.inj hm
        refine x_ret1 rfl hs rfl ⟨_, rfl, ?_⟩
        exact ⟨rfl, hM.none_⟩
      · replace hm := condF hb hm
        refine wp_skip ?_
        refine x_nt ?_
        refine wp_seq ?_
        refine wp_region_lit ?_
        refine wl hs (y_assign hs rfl) rfl ?_; intro a hs
        refine wpList_nil ?_
        refine x_nt ?_
        refine wp_seq ?_
        refine wp_region_lit ?_
        refine wl hs (y_move hs rfl) rfl ?_; intro a hs
        refine wl hs (y_move hs rfl) rfl ?_; intro a hs
        obtain ⟨y37, h38, hm⟩ := bindE hm
        have hM : Mem W w [aMat 23 3 v16 vs18 y14, aMat 23 3 v32 vs34 y30, aMat 23 3 v23 vs24 y19.1, aMat 23 3 v12 vs13 y8.1, aMat 23 3 v5 vs7 y3] := (((((hM.front 4 rfl).front 4 rfl).front 3 rfl).front 3 rfl).front 4 rfl)
        refine wcall is_28 hs rfl rfl (laws_markIntSS_any v16 y14 _ 1 _ _ _  hM h38) ?_; rintro a _ w hs ⟨vs39, rfl, hM⟩
        have hM : Mem W w [aMat 23 3 v16 vs39 y37.2, aMat 23 3 v32 vs34 y30, aMat 23 3 v23 vs24 y19.1, aMat 23 3 v12 vs13 y8.1, aMat 23 3 v5 vs7 y3] := hM
        refine wl hs (y_assign hs rfl) rfl ?_; intro a hs
        refine wpList_nil ?_
        refine x_nt ?_
        refine wp_seq ?_
        refine wp_seq ?_
        refine wp_region_lit ?_
        refine wl hs (y_move hs rfl) rfl ?_; intro a hs
        refine wl hs (y_lss hs rfl rfl) rfl ?_; intro a hs
        refine wl hs (y_move hs rfl) rfl ?_; intro a hs
        obtain ⟨b40, hb41, hm⟩ := bindE hm
        refine wlguard (N := 96) (L' := [(56, .bool b40), (0, v_p0), (4, v12), (5, .bool y8.2), (7, v23), (8, .bool y19.2)]) (fun w => Mem W w [aMat 23 3 v16 vs39 y37.2, aMat 23 3 v32 vs34 y30, aMat 23 3 v23 vs24 y19.1, aMat 23 3 v12 vs13 y8.1, aMat 23 3 v5 vs7 y3]) 5 ?_ ?_
        · intro K; rcases Bool.eq_false_or_eq_true (decide (y37.1 < 0)) with hg42 | hg42
          · have hm := condT hg42 hb41
            refine wls hs rfl hg42 rfl ?_; intro a hs
            refine wls hs rfl hg42 rfl ?_; intro a hs
            refine wls hs rfl hg42 rfl ?_; intro a hs
            refine wls hs rfl hg42 rfl ?_; intro a hs
            have hm : some true = some b40 := hm
            cases Option.some.inj hm
            refine wl hs (y_pickT hs rfl hg42 rfl) rfl ?_; intro a hs
            exact K _ _ (hs.sub ⟨rfl, rfl, rfl, rfl, rfl, rfl, trivial⟩) hM
          · have hm := condF hg42 hb41
            refine wlg hs rfl hg42 (y_move hs rfl) rfl ?_; intro a hs
            refine wlg hs rfl hg42 (y_move hs rfl) rfl ?_; intro a hs
            obtain ⟨y43, h44, hm⟩ := bindE hm
            refine wcallg is_18 hs rfl hg42 rfl rfl (laws_eqIntSS_any v23 y19.1 v12 y8.1 _ (hM.rdM 2 rfl) (hM.rdM 3 rfl) h44) ?_; rintro a _ w hs ⟨rfl, hX⟩
            have hM : Mem W w [aMat 23 3 v16 vs39 y37.2, aMat 23 3 v32 vs34 y30, aMat 23 3 v23 vs24 y19.1, aMat 23 3 v12 vs13 y8.1, aMat 23 3 v5 vs7 y3] := hM.call hX
            refine wlg hs rfl hg42 (y_not hs rfl) rfl ?_; intro a hs
            have hm : some (!y43) = some b40 := hm
            cases Option.some.inj hm
            refine wl hs (y_pickF hs rfl hg42 rfl) rfl ?_; intro a hs
            exact K _ _ (hs.sub ⟨rfl, rfl, rfl, rfl, rfl, rfl, trivial⟩) hM
        intro a w hs hM
        simp only [List.drop_succ_cons, List.drop_zero]
        refine wl hs (y_move hs rfl) rfl ?_; intro a hs
        obtain ⟨b45, hb46, hm⟩ := bindE hm
        refine wlguard (N := 96) (L' := [(61, .bool b45), (0, v_p0), (4, v12), (5, .bool y8.2), (7, v23)]) (fun w => Mem W w [aMat 23 3 v16 vs39 y37.2, aMat 23 3 v32 vs34 y30, aMat 23 3 v23 vs24 y19.1, aMat 23 3 v12 vs13 y8.1, aMat 23 3 v5 vs7 y3]) 4 ?_ ?_
        · intro K; rcases Bool.eq_false_or_eq_true b40 with hg47 | hg47
          · have hm := condT hg47 hb46
            refine wls hs rfl hg47 rfl ?_; intro a hs
            refine wls hs rfl hg47 rfl ?_; intro a hs
            refine wls hs rfl hg47 rfl ?_; intro a hs
            have hm : some true = some b45 := hm
            cases Option.some.inj hm
            refine wl hs (y_pickT hs rfl hg47 rfl) rfl ?_; intro a hs
            exact K _ _ (hs.sub ⟨rfl, rfl, rfl, rfl, rfl, trivial⟩) hM
          · have hm := condF hg47 hb46
            refine wlg hs rfl hg47 (y_move hs rfl) rfl ?_; intro a hs
            refine wlg hs rfl hg47 (y_move hs rfl) rfl ?_; intro a hs
            refine wlg hs rfl hg47 (y_neqB hu_bool hs rfl rfl) rfl ?_; intro a hs
            have hm : some (y19.2 != y8.2) = some b45 := hm
            cases Option.some.inj hm
            refine wl hs (y_pickF hs rfl hg47 rfl) rfl ?_; intro a hs
            exact K _ _ (hs.sub ⟨rfl, rfl, rfl, rfl, rfl, trivial⟩) hM
        intro a w hs hM
        simp only [List.drop_succ_cons, List.drop_zero]
        refine wpList_nil ?_
        refine x_nt ?_
        refine x_cond hs rfl (fun hb => ?_) (fun hb => ?_)
        · replace hm := condT hb hm
          refine wp_seq ?_
          refine wp_region_lit ?_
          refine wl hs (y_assign hs rfl) rfl ?_; intro a hs
          refine wpList_nil ?_
          refine x_nt ?_
          refine wp_ret ?_
          refine x_rt ?_
          have hm : some false = some r := hm
          obtain rfl := Option.some.inj hm
          refine x_ret1 rfl hs rfl ⟨_, rfl, ?_⟩
          exact ⟨rfl, hM.none_⟩
        · replace hm := condF hb hm
          refine wp_skip ?_
          refine x_nt ?_
          refine wp_seq ?_
          refine wp_region_lit ?_
          refine wl hs (y_assign hs rfl) rfl ?_; intro a hs
          refine wpList_nil ?_
          refine x_nt ?_
          refine wp_seq ?_
          refine wp_region_lit ?_
          refine wl hs (y_move hs rfl) rfl ?_; intro a hs
          refine wl hs (y_move hs rfl) rfl ?_; intro a hs
          obtain ⟨y48, h49, hm⟩ := bindE hm
          have hM : Mem W w [aMat 23 3 v23 vs24 y19.1, aMat 23 3 v16 vs39 y37.2, aMat 23 3 v32 vs34 y30, aMat 23 3 v12 vs13 y8.1, aMat 23 3 v5 vs7 y3] := (((((hM.front 4 rfl).front 4 rfl).front 3 rfl).front 3 rfl).front 4 rfl)
          refine wcall is_28 hs rfl rfl (laws_markIntSS_any v23 y19.1 _ 1 _ _ _  hM h49) ?_; rintro a _ w hs ⟨vs50, rfl, hM⟩
          have hM : Mem W w [aMat 23 3 v23 vs50 y48.2, aMat 23 3 v16 vs39 y37.2, aMat 23 3 v32 vs34 y30, aMat 23 3 v12 vs13 y8.1, aMat 23 3 v5 vs7 y3] := hM
          refine wl hs (y_assign hs rfl) rfl ?_; intro a hs
          refine wpList_nil ?_
          refine x_nt ?_
          refine wp_seq ?_
          refine wp_region_lit ?_
          refine wl hs (y_assign hs rfl) rfl ?_; intro a hs
          refine wpList_nil ?_
          refine x_nt ?_
          refine wp_seq ?_
          refine wp_region_lit ?_
          refine wl hs (y_move hs rfl) rfl ?_; intro a hs
          refine wl hs (y_move hs rfl) rfl ?_; intro a hs
          obtain ⟨y51, h52, hm⟩ := bindE hm
          refine wcall is_35 hs rfl rfl (laws_heldIntSS_any v23 y48.2 1 _ (hM.rdM 0 rfl) h52) ?_; rintro a _ w hs ⟨rfl, hX⟩
          have hM : Mem W w [aMat 23 3 v23 vs50 y48.2, aMat 23 3 v16 vs39 y37.2, aMat 23 3 v32 vs34 y30, aMat 23 3 v12 vs13 y8.1, aMat 23 3 v5 vs7 y3] := hM.call hX
          refine wl hs (y_assign hs rfl) rfl ?_; intro a hs
          refine wpList_nil ?_
          refine x_nt ?_
          refine wp_seq ?_
          refine wp_seq ?_
          refine wp_region_lit ?_
          refine wl hs (y_move hs rfl) rfl ?_; intro a hs
          refine wl hs (y_lss hs rfl rfl) rfl ?_; intro a hs
          refine wpList_nil ?_
          refine x_nt ?_
          refine x_cond hs rfl (fun hb => ?_) (fun hb => ?_)
          · replace hm := condT hb hm
            refine wp_seq ?_
            refine wp_region_lit ?_
            refine wl hs (y_assign hs rfl) rfl ?_; intro a hs
            refine wpList_nil ?_
            refine x_nt ?_
            refine wp_ret ?_
            refine x_rt ?_
            have hm : some false = some r := hm
            obtain rfl := Option.some.inj hm
            refine x_ret1 rfl hs rfl ⟨_, rfl, ?_⟩
            exact ⟨rfl, hM.none_⟩
          · replace hm := condF hb hm
            refine wp_skip ?_
            refine x_nt ?_
            refine wp_seq ?_
            refine wp_seq ?_
            refine wp_region_lit ?_
            refine wl hs (y_move hs rfl) rfl ?_; intro a hs
            refine wl hs (y_move hs rfl) rfl ?_; intro a hs
            refine wl hs (y_neq hs rfl rfl) rfl ?_; intro a hs
            refine wpList_nil ?_
            refine x_nt ?_
            refine x_cond hs rfl (fun hb => ?_) (fun hb => ?_)
            · replace hm := condT hb hm
              refine wp_seq ?_
              refine wp_region_lit ?_
              refine wl hs (y_assign hs rfl) rfl ?_; intro a hs
              refine wpList_nil ?_
              refine x_nt ?_
              refine wp_ret ?_
              refine x_rt ?_
              have hm : some false = some r := hm
              obtain rfl := Option.some.inj hm
              refine x_ret1 rfl hs rfl ⟨_, rfl, ?_⟩
              exact ⟨rfl, hM.none_⟩
            · replace hm := condF hb hm
              refine wp_skip ?_
              refine x_nt ?_
              refine wp_seq ?_
              refine wp_region_lit ?_
              refine wl hs (y_move hs rfl) rfl ?_; intro a hs
              obtain ⟨y53, h54, hm⟩ := bindE hm
              refine wcall is_15 hs rfl rfl (laws_toIntSS_any v_p0 p0 _ (RdM.below hr_p0 hM.bel) h54) ?_; rintro a v55 w hs ⟨vs57, hX⟩
              have hM : Mem W w [aMat 23 3 v55 vs57 y53, aMat 23 3 v23 vs50 y48.2, aMat 23 3 v16 vs39 y37.2, aMat 23 3 v32 vs34 y30, aMat 23 3 v12 vs13 y8.1, aMat 23 3 v5 vs7 y3] := hM.call hX
              obtain ⟨y58, h59, hm⟩ := bindE hm
              refine wcall is_37 hs rfl rfl (impl_PossiblePairs_any v55 y53 _ (hM.rdM 0 rfl) h59) ?_; rintro a _ w hs ⟨v62, vs63, rfl, hX⟩
              have hM : Mem W w [aMat 23 3 v62 vs63 y58.1, aMat 23 3 v55 vs57 y53, aMat 23 3 v23 vs50 y48.2, aMat 23 3 v16 vs39 y37.2, aMat 23 3 v32 vs34 y30, aMat 23 3 v12 vs13 y8.1, aMat 23 3 v5 vs7 y3] := hM.call hX
              refine wl hs (y_move hs rfl) rfl ?_; intro a hs
              refine wl hs (y_extract hs rfl rfl) rfl ?_; intro a hs
              refine wl hs (y_extract hs rfl rfl) rfl ?_; intro a hs
              refine wl hs (y_assign hs rfl) rfl ?_; intro a hs
              refine wl hs (y_assign hs rfl) rfl ?_; intro a hs
              refine wpList_nil ?_
              refine x_nt ?_
              refine wp_seq ?_
              refine wp_seq ?_
              refine wp_region_lit ?_
              refine wl hs (y_move hs rfl) rfl ?_; intro a hs
              refine wl hs (y_move hs rfl) rfl ?_; intro a hs
              obtain ⟨y64, h65, hm⟩ := bindE hm
              refine wcall is_18 hs rfl rfl (laws_eqIntSS_any v62 y58.1 v12 y8.1 _ (hM.rdM 0 rfl) (hM.rdM 5 rfl) h65) ?_; rintro a _ w hs ⟨rfl, hX⟩
              have hM : Mem W w [aMat 23 3 v62 vs63 y58.1, aMat 23 3 v55 vs57 y53, aMat 23 3 v23 vs50 y48.2, aMat 23 3 v16 vs39 y37.2, aMat 23 3 v32 vs34 y30, aMat 23 3 v12 vs13 y8.1, aMat 23 3 v5 vs7 y3] := hM.call hX
              refine wl hs (y_not hs rfl) rfl ?_; intro a hs
              refine wl hs (y_move hs rfl) rfl ?_; intro a hs
              obtain ⟨b66, hb67, hm⟩ := bindE hm
              refine wlguard (N := 96) (L' := [(87, .bool b66), (7, v23), (10, .int .i64 y48.1)]) (fun w => Mem W w [aMat 23 3 v62 vs63 y58.1, aMat 23 3 v55 vs57 y53, aMat 23 3 v23 vs50 y48.2, aMat 23 3 v16 vs39 y37.2, aMat 23 3 v32 vs34 y30, aMat 23 3 v12 vs13 y8.1, aMat 23 3 v5 vs7 y3]) 4 ?_ ?_
              · intro K; rcases Bool.eq_false_or_eq_true (!y64) with hg68 | hg68
                · have hm := condT hg68 hb67
                  refine wls hs rfl hg68 rfl ?_; intro a hs
                  refine wls hs rfl hg68 rfl ?_; intro a hs
                  refine wls hs rfl hg68 rfl ?_; intro a hs
                  have hm : some true = some b66 := hm
                  cases Option.some.inj hm
                  refine wl hs (y_pickT hs rfl hg68 rfl) rfl ?_; intro a hs
                  exact K _ _ (hs.sub ⟨rfl, rfl, rfl, trivial⟩) hM
                · have hm := condF hg68 hb67
                  refine wlg hs rfl hg68 (y_move hs rfl) rfl ?_; intro a hs
                  refine wlg hs rfl hg68 (y_move hs rfl) rfl ?_; intro a hs
                  refine wlg hs rfl hg68 (y_neqB hu_bool hs rfl rfl) rfl ?_; intro a hs
                  have hm : some (y58.2 != y8.2) = some b66 := hm
                  cases Option.some.inj hm
                  refine wl hs (y_pickF hs rfl hg68 rfl) rfl ?_; intro a hs
                  exact K _ _ (hs.sub ⟨rfl, rfl, rfl, trivial⟩) hM
              intro a w hs hM
              simp only [List.drop_succ_cons, List.drop_zero]
              refine wpList_nil ?_
              refine x_nt ?_
              refine x_cond hs rfl (fun hb => ?_) (fun hb => ?_)
              · replace hm := condT hb hm
                refine wp_seq ?_
                refine wp_region_lit ?_
                refine wl hs (y_assign hs rfl) rfl ?_; intro a hs
                refine wpList_nil ?_
                refine x_nt ?_
                refine wp_ret ?_
                refine x_rt ?_
                have hm : some false = some r := hm
                obtain rfl := Option.some.inj hm
                refine x_ret1 rfl hs rfl ⟨_, rfl, ?_⟩
                exact ⟨rfl, hM.none_⟩
              · replace hm := condF hb hm
                refine wp_skip ?_
                refine x_nt ?_
                refine wp_seq ?_
                refine wp_region_lit ?_
                refine wl hs (y_assign hs rfl) rfl ?_; intro a hs
                refine wpList_nil ?_
                refine x_nt ?_
                refine wp_seq ?_
                refine wp_region_lit ?_
                refine wl hs (y_move hs rfl) rfl ?_; intro a hs
                refine wl hs (y_move hs rfl) rfl ?_; intro a hs
                obtain ⟨y69, h70, hm⟩ := bindE hm
                refine wcall is_35 hs rfl rfl (laws_heldIntSS_any v23 y48.2 1 _ (hM.rdM 2 rfl) h70) ?_; rintro a _ w hs ⟨rfl, hX⟩
                have hM : Mem W w [aMat 23 3 v62 vs63 y58.1, aMat 23 3 v55 vs57 y53, aMat 23 3 v23 vs50 y48.2, aMat 23 3 v16 vs39 y37.2, aMat 23 3 v32 vs34 y30, aMat 23 3 v12 vs13 y8.1, aMat 23 3 v5 vs7 y3] := hM.call hX
                refine wl hs (y_assign hs rfl) rfl ?_; intro a hs
                refine wpList_nil ?_
                refine x_nt ?_
                refine wp_seq ?_
                refine wp_seq ?_
                refine wp_region_lit ?_
                refine wl hs (y_move hs rfl) rfl ?_; intro a hs
                refine wl hs (y_lss hs rfl rfl) rfl ?_; intro a hs
                refine wpList_nil ?_
                refine x_nt ?_
                refine x_cond hs rfl (fun hb => ?_) (fun hb => ?_)
                · replace hm := condT hb hm
                  refine wp_seq ?_
                  refine wp_region_lit ?_
                  refine wl hs (y_assign hs rfl) rfl ?_; intro a hs
                  refine wpList_nil ?_
                  refine x_nt ?_
                  refine wp_ret ?_
                  refine x_rt ?_
                  have hm : some false = some r := hm
                  obtain rfl := Option.some.inj hm
                  refine x_ret1 rfl hs rfl ⟨_, rfl, ?_⟩
                  exact ⟨rfl, hM.none_⟩
                · replace hm := condF hb hm
                  refine wp_skip ?_
                  refine x_nt ?_
                  refine wp_seq ?_
                  refine wp_seq ?_
                  refine wp_region_lit ?_
                  refine wl hs (y_move hs rfl) rfl ?_; intro a hs
                  refine wl hs (y_move hs rfl) rfl ?_; intro a hs
                  refine wl hs (y_neq hs rfl rfl) rfl ?_; intro a hs
                  refine wpList_nil ?_
                  refine x_nt ?_
                  refine x_cond hs rfl (fun hb => ?_) (fun hb => ?_)
                  · replace hm := condT hb hm
                    refine wp_seq ?_
                    refine wp_region_lit ?_
                    refine wl hs (y_assign hs rfl) rfl ?_; intro a hs
                    refine wpList_nil ?_
                    refine x_nt ?_
                    refine wp_ret ?_
                    refine x_rt ?_
                    have hm : some false = some r := hm
                    obtain rfl := Option.some.inj hm
                    refine x_ret1 rfl hs rfl ⟨_, rfl, ?_⟩
                    exact ⟨rfl, hM.none_⟩
                  · replace hm := condF hb hm
                    refine wp_skip ?_
                    refine x_nt ?_
                    refine wp_seq ?_
                    refine wp_region_lit ?_
                    refine wl hs (y_assign hs rfl) rfl ?_; intro a hs
                    refine wpList_nil ?_
                    refine x_nt ?_
                    refine wp_ret ?_
                    have hm : some true = some r := hm
                    obtain rfl := Option.some.inj hm
                    refine x_ret1 rfl hs rfl ⟨_, rfl, ?_⟩
                    exact ⟨rfl, hM.none_⟩

end Go.Proofs.Ytnnhbkhlipekeaa
