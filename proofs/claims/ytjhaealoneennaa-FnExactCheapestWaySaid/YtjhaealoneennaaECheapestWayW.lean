/- The code of this unit computes what its mirrors say. Written by program (wip/gen). -/
import Derived.Test.YtjhaealoneennaaFacts
import Derived.Test.YtjhaealoneennaaECheapestWayM
import Derived.Test.YtjhaealoneennaaNumW
import Derived.Test.YtjhaealoneennaaChwW
namespace Go.Proofs.Ytjhaealoneennaa
open Go.RowKit
set_option linter.unusedVariables false

set_option maxHeartbeats 4000000 in
theorem laws_FnExactCheapestWay_any (v_p0 : Value) (p0 : List (List Int)) (p1 : Int) (p2 : Int) (W : World) (hr_p0 : RdM W v_p0 p0) {r : Bool} (hm : laws_FnExactCheapestWay_m p0 p1 p2 = some r) : Calls Try.prog 4 [v_p0, .int .i64 p1, .int .i64 p2].toArray W fun e w => ∃ v, e = .returned v ∧ v = .bool r ∧ Mem W w [] := by
  refine x_enter Try.func4 rfl Try.ntmps4 rfl ?_
  intro a hs
  have hM := Mem.start W
  unfold laws_FnExactCheapestWay_m at hm
  refine wp_seq ?_
  refine wp_region_lit ?_
  refine wl hs (y_assign hs rfl) rfl ?_; intro a hs
  refine wpList_nil ?_
  refine x_nt ?_
  refine wp_seq ?_
  refine wp_region_lit ?_
  refine wl hs (y_assign hs rfl) rfl ?_; intro a hs
  refine wpList_nil ?_
  refine x_nt ?_
  refine wp_seq ?_
  refine wp_region_lit ?_
  refine wl hs (y_move hs rfl) rfl ?_; intro a hs
  refine wl hs (y_move hs rfl) rfl ?_; intro a hs
  obtain ⟨y1, h2, hm⟩ := bindE hm
  refine wcall is_14 hs rfl rfl (laws_szIntSS_any v_p0 p0 1048576 _ (RdM.below hr_p0 hM.bel) h2) ?_; rintro a _ w hs ⟨rfl, hX⟩
  have hM : Mem W w [] := hM.call hX
  refine wl hs (y_assign hs rfl) rfl ?_; intro a hs
  refine wpList_nil ?_
  refine x_nt ?_
  refine wp_seq ?_
  refine wp_seq ?_
  refine wp_region_lit ?_
  refine wl hs (y_move hs rfl) rfl ?_; intro a hs
  refine wl hs (y_lss hs rfl rfl) rfl ?_; intro a hs
  refine wpList_nil ?_
  refine x_nt ?_
  refine x_cond hs rfl (fun hb => ?_) (fun hb => ?_)
  · replace hm := condT hb hm
    refine wp_seq ?_
    refine wp_region_lit ?_
    refine wl hs (y_assign hs rfl) rfl ?_; intro a hs
    refine wpList_nil ?_
    refine x_nt ?_
    refine wp_ret ?_
    refine x_rt ?_
    have hm : some true = some r := hm
    obtain rfl := Option.some.inj hm
    refine x_ret1 rfl hs rfl ⟨_, rfl, ?_⟩
    exact ⟨rfl, hM⟩
  · replace hm := condF hb hm
    refine wp_skip ?_
    refine x_nt ?_
    refine wp_seq ?_
    refine wp_region_lit ?_
    refine wl hs (y_move hs rfl) rfl ?_; intro a hs
    obtain ⟨y3, h4, hm⟩ := bindE hm
    refine wcall is_16 hs rfl rfl (laws_toIntSS_any v_p0 p0 _ (RdM.below hr_p0 hM.bel) h4) ?_; rintro a v5 w hs ⟨vs7, hX⟩
    have hM : Mem W w [aMat 24 3 v5 vs7 y3] := hM.call hX
    refine wl hs (y_move hs rfl) rfl ?_; intro a hs
    refine wl hs (y_move hs rfl) rfl ?_; intro a hs
    obtain ⟨y8, h9, hm⟩ := bindE hm
    refine wcall is_23 hs rfl rfl (spec_CheapestWay_any v5 y3 p1 p2 _ (hM.rdM 0 rfl) h9) ?_; rintro a _ w hs ⟨v12, rfl, hX⟩
    have hM : Mem W w [aInts 3 v12 y8.1, aMat 24 3 v5 vs7 y3] := hM.call hX
    refine wl hs (y_move hs rfl) rfl ?_; intro a hs
    refine wl hs (y_extract hs rfl rfl) rfl ?_; intro a hs
    refine wl hs (y_extract hs rfl rfl) rfl ?_; intro a hs
    refine wl hs (y_assign hs rfl) rfl ?_; intro a hs
    refine wl hs (y_assign hs rfl) rfl ?_; intro a hs
    refine wpList_nil ?_
    refine x_nt ?_
    refine wp_seq ?_
    refine wp_region_lit ?_
    refine wl hs (y_move hs rfl) rfl ?_; intro a hs
    obtain ⟨y13, h14, hm⟩ := bindE hm
    refine wcall is_16 hs rfl rfl (laws_toIntSS_any v_p0 p0 _ (RdM.below hr_p0 hM.bel) h14) ?_; rintro a v15 w hs ⟨vs17, hX⟩
    have hM : Mem W w [aMat 24 3 v15 vs17 y13, aInts 3 v12 y8.1, aMat 24 3 v5 vs7 y3] := hM.call hX
    refine wl hs (y_assign hs rfl) rfl ?_; intro a hs
    refine wpList_nil ?_
    refine x_nt ?_
    refine wp_seq ?_
    refine wp_region_lit ?_
    refine wl hs (y_move hs rfl) rfl ?_; intro a hs
    refine wl hs (y_move hs rfl) rfl ?_; intro a hs
    refine wl hs (y_move hs rfl) rfl ?_; intro a hs
    obtain ⟨y18, h19, hm⟩ := bindE hm
    refine wcall is_24 hs rfl rfl (impl_CheapestWay_any v15 y13 p1 p2 _ (hM.rdM 0 rfl) h19) ?_; rintro a _ w hs ⟨v22, rfl, hX⟩
    have hM : Mem W w [aInts 3 v22 y18.1, aMat 24 3 v15 vs17 y13, aInts 3 v12 y8.1, aMat 24 3 v5 vs7 y3] := hM.call hX
    refine wl hs (y_move hs rfl) rfl ?_; intro a hs
    refine wl hs (y_extract hs rfl rfl) rfl ?_; intro a hs
    refine wl hs (y_extract hs rfl rfl) rfl ?_; intro a hs
    refine wl hs (y_assign hs rfl) rfl ?_; intro a hs
    refine wl hs (y_assign hs rfl) rfl ?_; intro a hs
    refine wpList_nil ?_
    refine x_nt ?_
    refine wp_seq ?_
    refine wp_seq ?_
    refine wp_region_lit ?_
    refine wl hs (y_move hs rfl) rfl ?_; intro a hs
    refine wl hs (y_move hs rfl) rfl ?_; intro a hs
    obtain ⟨y23, h24, hm⟩ := bindE hm
    refine wcall is_18 hs rfl rfl (laws_eqIntS_any v22 y18.1 v12 y8.1 _ (hM.rdI 0 rfl) (hM.rdI 2 rfl) h24) ?_; rintro a _ w hs ⟨rfl, hX⟩
    have hM : Mem W w [aInts 3 v22 y18.1, aMat 24 3 v15 vs17 y13, aInts 3 v12 y8.1, aMat 24 3 v5 vs7 y3] := hM.call hX
    refine wl hs (y_not hs rfl) rfl ?_; intro a hs
    refine wl hs (y_move hs rfl) rfl ?_; intro a hs
    obtain ⟨b25, hb26, hm⟩ := bindE hm
    refine wlguard (N := 106) (L' := [(48, .bool b25), (0, v_p0), (1, .int .i64 p1), (2, .int .i64 p2), (8, v12), (9, .bool y8.2), (10, v15), (11, v22), (12, .bool y18.2)]) (fun w => Mem W w [aInts 3 v22 y18.1, aMat 24 3 v15 vs17 y13, aInts 3 v12 y8.1, aMat 24 3 v5 vs7 y3]) 4 ?_ ?_
    · intro K; rcases Bool.eq_false_or_eq_true (!y23) with hg27 | hg27
      · have hm := condT hg27 hb26
        refine wls hs rfl hg27 rfl ?_; intro a hs
        refine wls hs rfl hg27 rfl ?_; intro a hs
        refine wls hs rfl hg27 rfl ?_; intro a hs
        have hm : some true = some b25 := hm
        cases Option.some.inj hm
        refine wl hs (y_pickT hs rfl hg27 rfl) rfl ?_; intro a hs
        exact K _ _ (hs.sub ⟨rfl, rfl, rfl, rfl, rfl, rfl, rfl, rfl, rfl, trivial⟩) hM
      · have hm := condF hg27 hb26
        refine wlg hs rfl hg27 (y_move hs rfl) rfl ?_; intro a hs
        refine wlg hs rfl hg27 (y_move hs rfl) rfl ?_; intro a hs
        refine wlg hs rfl hg27 (y_neqB hu_bool hs rfl rfl) rfl ?_; intro a hs
        have hm : some (y18.2 != y8.2) = some b25 := hm
        cases Option.some.inj hm
        refine wl hs (y_pickF hs rfl hg27 rfl) rfl ?_; intro a hs
        exact K _ _ (hs.sub ⟨rfl, rfl, rfl, rfl, rfl, rfl, rfl, rfl, rfl, trivial⟩) hM
    intro a w hs hM
    simp only [List.drop_succ_cons, List.drop_zero]
    refine wpList_nil ?_
    refine x_nt ?_
    refine x_cond hs rfl (fun hb => ?_) (fun hb => ?_)
    · replace hm := condT hb hm
      refine wp_seq ?_
      refine wp_region_lit ?_
      refine wl hs (y_assign hs rfl) rfl ?_; intro a hs
      refine wpList_nil ?_
      refine x_nt ?_
      refine wp_ret ?_
      refine x_rt ?_
      have hm : some false = some r := hm
      obtain rfl := Option.some.inj hm
      refine x_ret1 rfl hs rfl ⟨_, rfl, ?_⟩
      exact ⟨rfl, hM.none_⟩
    · replace hm := condF hb hm
      refine wp_skip ?_
      refine x_nt ?_
      refine wp_seq ?_
      refine wp_seq ?_
      refine wp_region_lit ?_
      refine wl hs (y_move hs rfl) rfl ?_; intro a hs
      refine wl hs (y_move hs rfl) rfl ?_; intro a hs
      obtain ⟨y28, h29, hm⟩ := bindE hm
      refine wcall is_16 hs rfl rfl (laws_toIntSS_any v_p0 p0 _ (RdM.below hr_p0 hM.bel) h29) ?_; rintro a v30 w hs ⟨vs32, hX⟩
      have hM : Mem W w [aMat 24 3 v30 vs32 y28, aInts 3 v22 y18.1, aMat 24 3 v15 vs17 y13, aInts 3 v12 y8.1, aMat 24 3 v5 vs7 y3] := hM.call hX
      obtain ⟨y33, h34, hm⟩ := bindE hm
      refine wcall is_19 hs rfl rfl (laws_eqIntSS_any v15 y13 v30 y28 _ (hM.rdM 2 rfl) (hM.rdM 0 rfl) h34) ?_; rintro a _ w hs ⟨rfl, hX⟩
      have hM : Mem W w [aMat 24 3 v30 vs32 y28, aInts 3 v22 y18.1, aMat 24 3 v15 vs17 y13, aInts 3 v12 y8.1, aMat 24 3 v5 vs7 y3] := hM.call hX
      refine wl hs (y_not hs rfl) rfl ?_; intro a hs
      refine wpList_nil ?_
      refine x_nt ?_
      refine x_cond hs rfl (fun hb => ?_) (fun hb => ?_)
      · replace hm := condT hb hm
        refine wp_seq ?_
        refine wp_region_lit ?_
        refine wl hs (y_assign hs rfl) rfl ?_; intro a hs
        refine wpList_nil ?_
        refine x_nt ?_
        refine wp_ret ?_
        refine x_rt ?_
        have hm : some false = some r := hm
        obtain rfl := Option.some.inj hm
        refine x_ret1 rfl hs rfl ⟨_, rfl, ?_⟩
        exact ⟨rfl, hM.none_⟩
      · replace hm := condF hb hm
        refine wp_skip ?_
        refine x_nt ?_
        refine wp_seq ?_
        refine wp_region_lit ?_
        refine wl hs (y_assign hs rfl) rfl ?_; intro a hs
        refine wpList_nil ?_
        refine x_nt ?_
        refine wp_seq ?_
        refine wp_region_lit ?_
        refine wl hs (y_move hs rfl) rfl ?_; intro a hs
        refine wl hs (y_move hs rfl) rfl ?_; intro a hs
        obtain ⟨y35, h36, hm⟩ := bindE hm
        have hM : Mem W w [aMat 24 3 v15 vs17 y13, aMat 24 3 v30 vs32 y28, aInts 3 v22 y18.1, aInts 3 v12 y8.1, aMat 24 3 v5 vs7 y3] := (((((hM.front 4 rfl).front 4 rfl).front 3 rfl).front 3 rfl).front 4 rfl)
        refine wcall is_20 hs rfl rfl (laws_markIntSS_any v15 y13 _ 1 _ _ _  hM h36) ?_; rintro a _ w hs ⟨vs37, rfl, hM⟩
        have hM : Mem W w [aMat 24 3 v15 vs37 y35.2, aMat 24 3 v30 vs32 y28, aInts 3 v22 y18.1, aInts 3 v12 y8.1, aMat 24 3 v5 vs7 y3] := hM
        refine wl hs (y_assign hs rfl) rfl ?_; intro a hs
        refine wpList_nil ?_
        refine x_nt ?_
        refine wp_seq ?_
        refine wp_seq ?_
        refine wp_region_lit ?_
        refine wl hs (y_move hs rfl) rfl ?_; intro a hs
        refine wl hs (y_lss hs rfl rfl) rfl ?_; intro a hs
        refine wl hs (y_move hs rfl) rfl ?_; intro a hs
        obtain ⟨b38, hb39, hm⟩ := bindE hm
        refine wlguard (N := 106) (L' := [(64, .bool b38), (0, v_p0), (1, .int .i64 p1), (2, .int .i64 p2), (8, v12), (9, .bool y8.2), (11, v22), (12, .bool y18.2)]) (fun w => Mem W w [aMat 24 3 v15 vs37 y35.2, aMat 24 3 v30 vs32 y28, aInts 3 v22 y18.1, aInts 3 v12 y8.1, aMat 24 3 v5 vs7 y3]) 5 ?_ ?_
        · intro K; rcases Bool.eq_false_or_eq_true (decide (y35.1 < 0)) with hg40 | hg40
          · have hm := condT hg40 hb39
            refine wls hs rfl hg40 rfl ?_; intro a hs
            refine wls hs rfl hg40 rfl ?_; intro a hs
            refine wls hs rfl hg40 rfl ?_; intro a hs
            refine wls hs rfl hg40 rfl ?_; intro a hs
            have hm : some true = some b38 := hm
            cases Option.some.inj hm
            refine wl hs (y_pickT hs rfl hg40 rfl) rfl ?_; intro a hs
            exact K _ _ (hs.sub ⟨rfl, rfl, rfl, rfl, rfl, rfl, rfl, rfl, trivial⟩) hM
          · have hm := condF hg40 hb39
            refine wlg hs rfl hg40 (y_move hs rfl) rfl ?_; intro a hs
            refine wlg hs rfl hg40 (y_move hs rfl) rfl ?_; intro a hs
            obtain ⟨y41, h42, hm⟩ := bindE hm
            refine wcallg is_18 hs rfl hg40 rfl rfl (laws_eqIntS_any v22 y18.1 v12 y8.1 _ (hM.rdI 2 rfl) (hM.rdI 3 rfl) h42) ?_; rintro a _ w hs ⟨rfl, hX⟩
            have hM : Mem W w [aMat 24 3 v15 vs37 y35.2, aMat 24 3 v30 vs32 y28, aInts 3 v22 y18.1, aInts 3 v12 y8.1, aMat 24 3 v5 vs7 y3] := hM.call hX
            refine wlg hs rfl hg40 (y_not hs rfl) rfl ?_; intro a hs
            have hm : some (!y41) = some b38 := hm
            cases Option.some.inj hm
            refine wl hs (y_pickF hs rfl hg40 rfl) rfl ?_; intro a hs
            exact K _ _ (hs.sub ⟨rfl, rfl, rfl, rfl, rfl, rfl, rfl, rfl, trivial⟩) hM
        intro a w hs hM
        simp only [List.drop_succ_cons, List.drop_zero]
        refine wl hs (y_move hs rfl) rfl ?_; intro a hs
        obtain ⟨b43, hb44, hm⟩ := bindE hm
        refine wlguard (N := 106) (L' := [(69, .bool b43), (0, v_p0), (1, .int .i64 p1), (2, .int .i64 p2), (8, v12), (9, .bool y8.2), (11, v22)]) (fun w => Mem W w [aMat 24 3 v15 vs37 y35.2, aMat 24 3 v30 vs32 y28, aInts 3 v22 y18.1, aInts 3 v12 y8.1, aMat 24 3 v5 vs7 y3]) 4 ?_ ?_
        · intro K; rcases Bool.eq_false_or_eq_true b38 with hg45 | hg45
          · have hm := condT hg45 hb44
            refine wls hs rfl hg45 rfl ?_; intro a hs
            refine wls hs rfl hg45 rfl ?_; intro a hs
            refine wls hs rfl hg45 rfl ?_; intro a hs
            have hm : some true = some b43 := hm
            cases Option.some.inj hm
            refine wl hs (y_pickT hs rfl hg45 rfl) rfl ?_; intro a hs
            exact K _ _ (hs.sub ⟨rfl, rfl, rfl, rfl, rfl, rfl, rfl, trivial⟩) hM
          · have hm := condF hg45 hb44
            refine wlg hs rfl hg45 (y_move hs rfl) rfl ?_; intro a hs
            refine wlg hs rfl hg45 (y_move hs rfl) rfl ?_; intro a hs
            refine wlg hs rfl hg45 (y_neqB hu_bool hs rfl rfl) rfl ?_; intro a hs
            have hm : some (y18.2 != y8.2) = some b43 := hm
            cases Option.some.inj hm
            refine wl hs (y_pickF hs rfl hg45 rfl) rfl ?_; intro a hs
            exact K _ _ (hs.sub ⟨rfl, rfl, rfl, rfl, rfl, rfl, rfl, trivial⟩) hM
        intro a w hs hM
        simp only [List.drop_succ_cons, List.drop_zero]
        refine wpList_nil ?_
        refine x_nt ?_
        refine x_cond hs rfl (fun hb => ?_) (fun hb => ?_)
        · replace hm := condT hb hm
          refine wp_seq ?_
          refine wp_region_lit ?_
          refine wl hs (y_assign hs rfl) rfl ?_; intro a hs
          refine wpList_nil ?_
          refine x_nt ?_
          refine wp_ret ?_
          refine x_rt ?_
          have hm : some false = some r := hm
          obtain rfl := Option.some.inj hm
          refine x_ret1 rfl hs rfl ⟨_, rfl, ?_⟩
          exact ⟨rfl, hM.none_⟩
        · replace hm := condF hb hm
          refine wp_skip ?_
          refine x_nt ?_
          refine wp_seq ?_
          refine wp_region_lit ?_
          refine wl hs (y_assign hs rfl) rfl ?_; intro a hs
          refine wpList_nil ?_
          refine x_nt ?_
          refine wp_seq ?_
          refine wp_region_lit ?_
          refine wl hs (y_move hs rfl) rfl ?_; intro a hs
          refine wl hs (y_move hs rfl) rfl ?_; intro a hs
          obtain ⟨y46, h47, hm⟩ := bindE hm
          have hM : Mem W w [aInts 3 v22 y18.1, aMat 24 3 v15 vs37 y35.2, aMat 24 3 v30 vs32 y28, aInts 3 v12 y8.1, aMat 24 3 v5 vs7 y3] := (((((hM.front 4 rfl).front 4 rfl).front 3 rfl).front 3 rfl).front 4 rfl)
          refine wcall is_21 hs rfl rfl (laws_markIntS_any v22 y18.1 1 _ _ _  hM h47) ?_; rintro a _ w hs ⟨rfl, hM⟩
          have hM : Mem W w [aInts 3 v22 y46.2, aMat 24 3 v15 vs37 y35.2, aMat 24 3 v30 vs32 y28, aInts 3 v12 y8.1, aMat 24 3 v5 vs7 y3] := hM
          refine wl hs (y_assign hs rfl) rfl ?_; intro a hs
          refine wpList_nil ?_
          refine x_nt ?_
          refine wp_seq ?_
          refine wp_region_lit ?_
          refine wl hs (y_assign hs rfl) rfl ?_; intro a hs
          refine wpList_nil ?_
          refine x_nt ?_
          refine wp_seq ?_
          refine wp_region_lit ?_
          refine wl hs (y_move hs rfl) rfl ?_; intro a hs
          refine wl hs (y_move hs rfl) rfl ?_; intro a hs
          obtain ⟨y48, h49, hm⟩ := bindE hm
          refine wcall is_22 hs rfl rfl (laws_heldIntS_any v22 y46.2 1 _ (hM.rdI 0 rfl) h49) ?_; rintro a _ w hs ⟨rfl, hX⟩
          have hM : Mem W w [aInts 3 v22 y46.2, aMat 24 3 v15 vs37 y35.2, aMat 24 3 v30 vs32 y28, aInts 3 v12 y8.1, aMat 24 3 v5 vs7 y3] := hM.call hX
          refine wl hs (y_assign hs rfl) rfl ?_; intro a hs
          refine wpList_nil ?_
          refine x_nt ?_
          refine wp_seq ?_
          refine wp_seq ?_
          refine wp_region_lit ?_
          refine wl hs (y_move hs rfl) rfl ?_; intro a hs
          refine wl hs (y_lss hs rfl rfl) rfl ?_; intro a hs
          refine wpList_nil ?_
          refine x_nt ?_
          refine x_cond hs rfl (fun hb => ?_) (fun hb => ?_)
          · replace hm := condT hb hm
            refine wp_seq ?_
            refine wp_region_lit ?_
            refine wl hs (y_assign hs rfl) rfl ?_; intro a hs
            refine wpList_nil ?_
            refine x_nt ?_
            refine wp_ret ?_
            refine x_rt ?_
            have hm : some false = some r := hm
            obtain rfl := Option.some.inj hm
            refine x_ret1 rfl hs rfl ⟨_, rfl, ?_⟩
            exact ⟨rfl, hM.none_⟩
          · replace hm := condF hb hm
            refine wp_skip ?_
            refine x_nt ?_
            refine wp_seq ?_
            refine wp_seq ?_
            refine wp_region_lit ?_
            refine wl hs (y_move hs rfl) rfl ?_; intro a hs
            refine wl hs (y_move hs rfl) rfl ?_; intro a hs
            refine wl hs (y_neq hs rfl rfl) rfl ?_; intro a hs
            refine wpList_nil ?_
            refine x_nt ?_
            refine x_cond hs rfl (fun hb => ?_) (fun hb => ?_)
            · replace hm := condT hb hm
              refine wp_seq ?_
              refine wp_region_lit ?_
              refine wl hs (y_assign hs rfl) rfl ?_; intro a hs
              refine wpList_nil ?_
              refine x_nt ?_
              refine wp_ret ?_
              refine x_rt ?_
              have hm : some false = some r := hm
              obtain rfl := Option.some.inj hm
              refine x_ret1 rfl hs rfl ⟨_, rfl, ?_⟩
              exact ⟨rfl, hM.none_⟩
            · replace hm := condF hb hm
              refine wp_skip ?_
              refine x_nt ?_
              refine wp_seq ?_
              refine wp_region_lit ?_
              refine wl hs (y_move hs rfl) rfl ?_; intro a hs
              obtain ⟨y50, h51, hm⟩ := bindE hm
              refine wcall is_16 hs rfl rfl (laws_toIntSS_any v_p0 p0 _ (RdM.below hr_p0 hM.bel) h51) ?_; rintro a v52 w hs ⟨vs54, hX⟩
              have hM : Mem W w [aMat 24 3 v52 vs54 y50, aInts 3 v22 y46.2, aMat 24 3 v15 vs37 y35.2, aMat 24 3 v30 vs32 y28, aInts 3 v12 y8.1, aMat 24 3 v5 vs7 y3] := hM.call hX
              refine wl hs (y_move hs rfl) rfl ?_; intro a hs
              refine wl hs (y_move hs rfl) rfl ?_; intro a hs
              obtain ⟨y55, h56, hm⟩ := bindE hm
              refine wcall is_24 hs rfl rfl (impl_CheapestWay_any v52 y50 p1 p2 _ (hM.rdM 0 rfl) h56) ?_; rintro a _ w hs ⟨v59, rfl, hX⟩
              have hM : Mem W w [aInts 3 v59 y55.1, aMat 24 3 v52 vs54 y50, aInts 3 v22 y46.2, aMat 24 3 v15 vs37 y35.2, aMat 24 3 v30 vs32 y28, aInts 3 v12 y8.1, aMat 24 3 v5 vs7 y3] := hM.call hX
              refine wl hs (y_move hs rfl) rfl ?_; intro a hs
              refine wl hs (y_extract hs rfl rfl) rfl ?_; intro a hs
              refine wl hs (y_extract hs rfl rfl) rfl ?_; intro a hs
              refine wl hs (y_assign hs rfl) rfl ?_; intro a hs
              refine wl hs (y_assign hs rfl) rfl ?_; intro a hs
              refine wpList_nil ?_
              refine x_nt ?_
              refine wp_seq ?_
              refine wp_seq ?_
              refine wp_region_lit ?_
              refine wl hs (y_move hs rfl) rfl ?_; intro a hs
              refine wl hs (y_move hs rfl) rfl ?_; intro a hs
              obtain ⟨y60, h61, hm⟩ := bindE hm
              refine wcall is_18 hs rfl rfl (laws_eqIntS_any v59 y55.1 v12 y8.1 _ (hM.rdI 0 rfl) (hM.rdI 5 rfl) h61) ?_; rintro a _ w hs ⟨rfl, hX⟩
              have hM : Mem W w [aInts 3 v59 y55.1, aMat 24 3 v52 vs54 y50, aInts 3 v22 y46.2, aMat 24 3 v15 vs37 y35.2, aMat 24 3 v30 vs32 y28, aInts 3 v12 y8.1, aMat 24 3 v5 vs7 y3] := hM.call hX
              refine wl hs (y_not hs rfl) rfl ?_; intro a hs
              refine wl hs (y_move hs rfl) rfl ?_; intro a hs
              obtain ⟨b62, hb63, hm⟩ := bindE hm
              refine wlguard (N := 106) (L' := [(97, .bool b62), (11, v22), (14, .int .i64 y46.1)]) (fun w => Mem W w [aInts 3 v59 y55.1, aMat 24 3 v52 vs54 y50, aInts 3 v22 y46.2, aMat 24 3 v15 vs37 y35.2, aMat 24 3 v30 vs32 y28, aInts 3 v12 y8.1, aMat 24 3 v5 vs7 y3]) 4 ?_ ?_
              · intro K; rcases Bool.eq_false_or_eq_true (!y60) with hg64 | hg64
                · have hm := condT hg64 hb63
                  refine wls hs rfl hg64 rfl ?_; intro a hs
                  refine wls hs rfl hg64 rfl ?_; intro a hs
                  refine wls hs rfl hg64 rfl ?_; intro a hs
                  have hm : some true = some b62 := hm
                  cases Option.some.inj hm
                  refine wl hs (y_pickT hs rfl hg64 rfl) rfl ?_; intro a hs
                  exact K _ _ (hs.sub ⟨rfl, rfl, rfl, trivial⟩) hM
                · have hm := condF hg64 hb63
                  refine wlg hs rfl hg64 (y_move hs rfl) rfl ?_; intro a hs
                  refine wlg hs rfl hg64 (y_move hs rfl) rfl ?_; intro a hs
                  refine wlg hs rfl hg64 (y_neqB hu_bool hs rfl rfl) rfl ?_; intro a hs
                  have hm : some (y55.2 != y8.2) = some b62 := hm
                  cases Option.some.inj hm
                  refine wl hs (y_pickF hs rfl hg64 rfl) rfl ?_; intro a hs
                  exact K _ _ (hs.sub ⟨rfl, rfl, rfl, trivial⟩) hM
              intro a w hs hM
              simp only [List.drop_succ_cons, List.drop_zero]
              refine wpList_nil ?_
              refine x_nt ?_
              refine x_cond hs rfl (fun hb => ?_) (fun hb => ?_)
              · replace hm := condT hb hm
                refine wp_seq ?_
                refine wp_region_lit ?_
                refine wl hs (y_assign hs rfl) rfl ?_; intro a hs
                refine wpList_nil ?_
                refine x_nt ?_
                refine wp_ret ?_
                refine x_rt ?_
                have hm : some false = some r := hm
                obtain rfl := Option.some.inj hm
                refine x_ret1 rfl hs rfl ⟨_, rfl, ?_⟩
                exact ⟨rfl, hM.none_⟩
              · replace hm := condF hb hm
                refine wp_skip ?_
                refine x_nt ?_
                refine wp_seq ?_
                refine wp_region_lit ?_
                refine wl hs (y_assign hs rfl) rfl ?_; intro a hs
                refine wpList_nil ?_
                refine x_nt ?_
                refine wp_seq ?_
                refine wp_region_lit ?_
                refine wl hs (y_move hs rfl) rfl ?_; intro a hs
                refine wl hs (y_move hs rfl) rfl ?_; intro a hs
                obtain ⟨y65, h66, hm⟩ := bindE hm
                refine wcall is_22 hs rfl rfl (laws_heldIntS_any v22 y46.2 1 _ (hM.rdI 2 rfl) h66) ?_; rintro a _ w hs ⟨rfl, hX⟩
                have hM : Mem W w [aInts 3 v59 y55.1, aMat 24 3 v52 vs54 y50, aInts 3 v22 y46.2, aMat 24 3 v15 vs37 y35.2, aMat 24 3 v30 vs32 y28, aInts 3 v12 y8.1, aMat 24 3 v5 vs7 y3] := hM.call hX
                refine wl hs (y_assign hs rfl) rfl ?_; intro a hs
                refine wpList_nil ?_
                refine x_nt ?_
                refine wp_seq ?_
                refine wp_seq ?_
                refine wp_region_lit ?_
                refine wl hs (y_move hs rfl) rfl ?_; intro a hs
                refine wl hs (y_lss hs rfl rfl) rfl ?_; intro a hs
                refine wpList_nil ?_
                refine x_nt ?_
                refine x_cond hs rfl (fun hb => ?_) (fun hb => ?_)
                · replace hm := condT hb hm
                  refine wp_seq ?_
                  refine wp_region_lit ?_
                  refine wl hs (y_assign hs rfl) rfl ?_; intro a hs
                  refine wpList_nil ?_
                  refine x_nt ?_
                  refine wp_ret ?_
                  refine x_rt ?_
                  have hm : some false = some r := hm
                  obtain rfl := Option.some.inj hm
                  refine x_ret1 rfl hs rfl ⟨_, rfl, ?_⟩
                  exact ⟨rfl, hM.none_⟩
                · replace hm := condF hb hm
                  refine wp_skip ?_
                  refine x_nt ?_
                  refine wp_seq ?_
                  refine wp_seq ?_
                  refine wp_region_lit ?_
                  refine wl hs (y_move hs rfl) rfl ?_; intro a hs
                  refine wl hs (y_move hs rfl) rfl ?_; intro a hs
                  refine wl hs (y_neq hs rfl rfl) rfl ?_; intro a hs
                  refine wpList_nil ?_
                  refine x_nt ?_
                  refine x_cond hs rfl (fun hb => ?_) (fun hb => ?_)
                  · replace hm := condT hb hm
                    refine wp_seq ?_
                    refine wp_region_lit ?_
                    refine wl hs (y_assign hs rfl) rfl ?_; intro a hs
                    refine wpList_nil ?_
                    refine x_nt ?_
                    refine wp_ret ?_
                    refine x_rt ?_
                    have hm : some false = some r := hm
                    obtain rfl := Option.some.inj hm
                    refine x_ret1 rfl hs rfl ⟨_, rfl, ?_⟩
                    exact ⟨rfl, hM.none_⟩
                  · replace hm := condF hb hm
                    refine wp_skip ?_
                    refine x_nt ?_
                    refine wp_seq ?_
                    refine wp_region_lit ?_
                    refine wl hs (y_assign hs rfl) rfl ?_; intro a hs
                    refine wpList_nil ?_
                    refine x_nt ?_
                    refine wp_ret ?_
                    have hm : some true = some r := hm
                    obtain rfl := Option.some.inj hm
                    refine x_ret1 rfl hs rfl ⟨_, rfl, ?_⟩
                    exact ⟨rfl, hM.none_⟩

end Go.Proofs.Ytjhaealoneennaa
