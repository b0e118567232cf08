/- The code of this unit computes what its mirrors say. Written by program (wip/gen). -/
import Derived.Test.YtjicdfplhenohaaFacts
import Derived.Test.YtjicdfplhenohaaEMultiplyMatricesM
import Derived.Test.YtjicdfplhenohaaNumW
import Derived.Test.YtjicdfplhenohaaMx2W
namespace Go.Proofs.Ytjicdfplhenohaa
open Go.RowKit
set_option linter.unusedVariables false

theorem laws_FnExactMultiplyMatrices_any (v_p0 : Value) (p0 : List (List Int)) (v_p1 : Value) (p1 : List (List Int)) (W : World) (hr_p0 : RdM W v_p0 p0) (hr_p1 : RdM W v_p1 p1) {r : Bool} (hm : laws_FnExactMultiplyMatrices_m p0 p1 = some r) : Calls Try.prog 7 [v_p0, v_p1].toArray W fun e w => ∃ v, e = .returned v ∧ v = .bool r ∧ Mem W w [] := by
  refine x_enter Try.func7 rfl Try.ntmps7 rfl ?_
  intro a hs
  have hM := Mem.start W
  unfold laws_FnExactMultiplyMatrices_m at hm
  refine wp_seq ?_
  refine wp_region_lit ?_
  refine wl hs (y_assign hs rfl) rfl ?_; intro a hs
  refine wpList_nil ?_
  refine x_nt ?_
  refine wp_seq ?_
  refine wp_region_lit ?_
  refine wl hs (y_assign hs rfl) rfl ?_; intro a hs
  refine wpList_nil ?_
  refine x_nt ?_
  refine wp_seq ?_
  refine wp_region_lit ?_
  refine wl hs (y_move hs rfl) rfl ?_; intro a hs
  refine wl hs (y_move hs rfl) rfl ?_; intro a hs
  obtain ⟨y1, h2, hm⟩ := bindE hm
  refine wcall is_15 hs rfl rfl (laws_szIntSS_any v_p0 p0 1048576 _ (RdM.below hr_p0 hM.bel) h2) ?_; rintro a _ w hs ⟨rfl, hX⟩
  have hM : Mem W w [] := hM.call hX
  refine wl hs (y_assign hs rfl) rfl ?_; intro a hs
  refine wpList_nil ?_
  refine x_nt ?_
  refine wp_seq ?_
  refine wp_seq ?_
  refine wp_region_lit ?_
  refine wl hs (y_move hs rfl) rfl ?_; intro a hs
  refine wl hs (y_lss hs rfl rfl) rfl ?_; intro a hs
  refine wpList_nil ?_
  refine x_nt ?_
  refine x_cond hs rfl (fun hb => ?_) (fun hb => ?_)
  · replace hm := condT hb hm
    refine wp_seq ?_
    refine wp_region_lit ?_
    refine wl hs (y_assign hs rfl) rfl ?_; intro a hs
    refine wpList_nil ?_
    refine x_nt ?_
    refine wp_ret ?_
    refine x_rt ?_
    have hm : some true = some r := hm
    obtain rfl := Option.some.inj hm
    refine x_ret1 rfl hs rfl ⟨_, rfl, ?_⟩
    exact ⟨rfl, hM⟩
  · replace hm := condF hb hm
    refine wp_skip ?_
    refine x_nt ?_
    refine wp_seq ?_
    refine wp_region_lit ?_
    refine wl hs (y_move hs rfl) rfl ?_; intro a hs
    refine wl hs (y_move hs rfl) rfl ?_; intro a hs
    obtain ⟨y3, h4, hm⟩ := bindE hm
    refine wcall is_15 hs rfl rfl (laws_szIntSS_any v_p1 p1 y1 _ (RdM.below hr_p1 hM.bel) h4) ?_; rintro a _ w hs ⟨rfl, hX⟩
    have hM : Mem W w [] := hM.call hX
    refine wl hs (y_assign hs rfl) rfl ?_; intro a hs
    refine wpList_nil ?_
    refine x_nt ?_
    refine wp_seq ?_
    refine wp_seq ?_
    refine wp_region_lit ?_
    refine wl hs (y_move hs rfl) rfl ?_; intro a hs
    refine wl hs (y_lss hs rfl rfl) rfl ?_; intro a hs
    refine wpList_nil ?_
    refine x_nt ?_
    refine x_cond hs rfl (fun hb => ?_) (fun hb => ?_)
    · replace hm := condT hb hm
      refine wp_seq ?_
      refine wp_region_lit ?_
      refine wl hs (y_assign hs rfl) rfl ?_; intro a hs
      refine wpList_nil ?_
      refine x_nt ?_
      refine wp_ret ?_
      refine x_rt ?_
      have hm : some true = some r := hm
      obtain rfl := Option.some.inj hm
      refine x_ret1 rfl hs rfl ⟨_, rfl, ?_⟩
      exact ⟨rfl, hM⟩
    · replace hm := condF hb hm
      refine wp_skip ?_
      refine x_nt ?_
      refine wp_seq ?_
      refine wp_region_lit ?_
      refine wl hs (y_move hs rfl) rfl ?_; intro a hs
      obtain ⟨y5, h6, hm⟩ := bindE hm
      refine wcall is_17 hs rfl rfl (laws_toIntSS_any v_p0 p0 _ (RdM.below hr_p0 hM.bel) h6) ?_; rintro a v7 w hs ⟨vs9, hX⟩
      have hM : Mem W w [aMat 28 3 v7 vs9 y5] := hM.call hX
      refine wl hs (y_move hs rfl) rfl ?_; intro a hs
      obtain ⟨y10, h11, hm⟩ := bindE hm
      refine wcall is_17 hs rfl rfl (laws_toIntSS_any v_p1 p1 _ (RdM.below hr_p1 hM.bel) h11) ?_; rintro a v12 w hs ⟨vs14, hX⟩
      have hM : Mem W w [aMat 28 3 v12 vs14 y10, aMat 28 3 v7 vs9 y5] := hM.call hX
      obtain ⟨y15, h16, hm⟩ := bindE hm
      refine wcall is_32 hs rfl rfl (spec_MultiplyMatrices_any v7 y5 v12 y10 _ (hM.rdM 1 rfl) (hM.rdM 0 rfl) h16) ?_; rintro a _ w hs ⟨v19, vs20, rfl, hX⟩
      have hM : Mem W w [aMat 28 3 v19 vs20 y15.1, aMat 28 3 v12 vs14 y10, aMat 28 3 v7 vs9 y5] := hM.call hX
      refine wl hs (y_move hs rfl) rfl ?_; intro a hs
      refine wl hs (y_extract hs rfl rfl) rfl ?_; intro a hs
      refine wl hs (y_extract hs rfl rfl) rfl ?_; intro a hs
      refine wl hs (y_assign hs rfl) rfl ?_; intro a hs
      refine wl hs (y_assign hs rfl) rfl ?_; intro a hs
      refine wpList_nil ?_
      refine x_nt ?_
      refine wp_seq ?_
      refine wp_region_lit ?_
      refine wl hs (y_move hs rfl) rfl ?_; intro a hs
      obtain ⟨y21, h22, hm⟩ := bindE hm
      refine wcall is_17 hs rfl rfl (laws_toIntSS_any v_p0 p0 _ (RdM.below hr_p0 hM.bel) h22) ?_; rintro a v23 w hs ⟨vs25, hX⟩
      have hM : Mem W w [aMat 28 3 v23 vs25 y21, aMat 28 3 v19 vs20 y15.1, aMat 28 3 v12 vs14 y10, aMat 28 3 v7 vs9 y5] := hM.call hX
      refine wl hs (y_assign hs rfl) rfl ?_; intro a hs
      refine wpList_nil ?_
      refine x_nt ?_
      refine wp_seq ?_
      refine wp_region_lit ?_
      refine wl hs (y_move hs rfl) rfl ?_; intro a hs
      obtain ⟨y26, h27, hm⟩ := bindE hm
      refine wcall is_17 hs rfl rfl (laws_toIntSS_any v_p1 p1 _ (RdM.below hr_p1 hM.bel) h27) ?_; rintro a v28 w hs ⟨vs30, hX⟩
      have hM : Mem W w [aMat 28 3 v28 vs30 y26, aMat 28 3 v23 vs25 y21, aMat 28 3 v19 vs20 y15.1, aMat 28 3 v12 vs14 y10, aMat 28 3 v7 vs9 y5] := hM.call hX
      refine wl hs (y_assign hs rfl) rfl ?_; intro a hs
      refine wpList_nil ?_
      refine x_nt ?_
      refine wp_seq ?_
      refine wp_region_lit ?_
      refine wl hs (y_move hs rfl) rfl ?_; intro a hs
      refine wl hs (y_move hs rfl) rfl ?_; intro a hs
      obtain ⟨y31, h32, hm⟩ := bindE hm
      refine wcall is_33 hs rfl rfl (impl_MultiplyMatrices_any v23 y21 v28 y26 _ (hM.rdM 1 rfl) (hM.rdM 0 rfl) h32) ?_; rintro a _ w hs ⟨v35, vs36, rfl, hX⟩
      have hM : Mem W w [aMat 28 3 v35 vs36 y31.1, aMat 28 3 v28 vs30 y26, aMat 28 3 v23 vs25 y21, aMat 28 3 v19 vs20 y15.1, aMat 28 3 v12 vs14 y10, aMat 28 3 v7 vs9 y5] := hM.call hX
      refine wl hs (y_move hs rfl) rfl ?_; intro a hs
      refine wl hs (y_extract hs rfl rfl) rfl ?_; intro a hs
      refine wl hs (y_extract hs rfl rfl) rfl ?_; intro a hs
      refine wl hs (y_assign hs rfl) rfl ?_; intro a hs
      refine wl hs (y_assign hs rfl) rfl ?_; intro a hs
      refine wpList_nil ?_
      refine x_nt ?_
      refine wp_seq ?_
      refine wp_seq ?_
      refine wp_region_lit ?_
      refine wl hs (y_move hs rfl) rfl ?_; intro a hs
      refine wl hs (y_move hs rfl) rfl ?_; intro a hs
      obtain ⟨y37, h38, hm⟩ := bindE hm
      refine wcall is_19 hs rfl rfl (laws_eqIntSS_any v35 y31.1 v19 y15.1 _ (hM.rdM 0 rfl) (hM.rdM 3 rfl) h38) ?_; rintro a _ w hs ⟨rfl, hX⟩
      have hM : Mem W w [aMat 28 3 v35 vs36 y31.1, aMat 28 3 v28 vs30 y26, aMat 28 3 v23 vs25 y21, aMat 28 3 v19 vs20 y15.1, aMat 28 3 v12 vs14 y10, aMat 28 3 v7 vs9 y5] := hM.call hX
      refine wl hs (y_not hs rfl) rfl ?_; intro a hs
      refine wl hs (y_move hs rfl) rfl ?_; intro a hs
      obtain ⟨b39, hb40, hm⟩ := bindE hm
      refine wlguard (N := 119) (L' := [(53, .bool b39), (0, v_p0), (1, v_p1), (6, v19), (7, .bool y15.2), (8, v23), (9, v28), (10, v35), (11, .bool y31.2)]) (fun w => Mem W w [aMat 28 3 v35 vs36 y31.1, aMat 28 3 v28 vs30 y26, aMat 28 3 v23 vs25 y21, aMat 28 3 v19 vs20 y15.1, aMat 28 3 v12 vs14 y10, aMat 28 3 v7 vs9 y5]) 4 ?_ ?_
      · intro K; rcases Bool.eq_false_or_eq_true (!y37) with hg41 | hg41
        · have hm := condT hg41 hb40
          refine wls hs rfl hg41 rfl ?_; intro a hs
          refine wls hs rfl hg41 rfl ?_; intro a hs
          refine wls hs rfl hg41 rfl ?_; intro a hs
          have hm : some true = some b39 := hm
          cases Option.some.inj hm
          refine wl hs (y_pickT hs rfl hg41 rfl) rfl ?_; intro a hs
          exact K _ _ (hs.sub ⟨rfl, rfl, rfl, rfl, rfl, rfl, rfl, rfl, rfl, trivial⟩) hM
        · have hm := condF hg41 hb40
          refine wlg hs rfl hg41 (y_move hs rfl) rfl ?_; intro a hs
          refine wlg hs rfl hg41 (y_move hs rfl) rfl ?_; intro a hs
          refine wlg hs rfl hg41 (y_neqB hu_bool hs rfl rfl) rfl ?_; intro a hs
          have hm : some (y31.2 != y15.2) = some b39 := hm
          cases Option.some.inj hm
          refine wl hs (y_pickF hs rfl hg41 rfl) rfl ?_; intro a hs
          exact K _ _ (hs.sub ⟨rfl, rfl, rfl, rfl, rfl, rfl, rfl, rfl, rfl, trivial⟩) hM
      intro a w hs hM
      simp only [List.drop_succ_cons, List.drop_zero]
      refine wpList_nil ?_
      refine x_nt ?_
      refine x_cond hs rfl (fun hb => ?_) (fun hb => ?_)
      · replace hm := condT hb hm
        refine wp_seq ?_
        refine wp_region_lit ?_
        refine wl hs (y_assign hs rfl) rfl ?_; intro a hs
        refine wpList_nil ?_
        refine x_nt ?_
        refine wp_ret ?_
        refine x_rt ?_
        have hm : some false = some r := hm
        obtain rfl := Option.some.inj hm
        refine x_ret1 rfl hs rfl ⟨_, rfl, ?_⟩
        exact ⟨rfl, hM.none_⟩
      · replace hm := condF hb hm
        refine wp_skip ?_
        refine x_nt ?_
        refine wp_seq ?_
        refine wp_seq ?_
        refine wp_region_lit ?_
        refine wl hs (y_move hs rfl) rfl ?_; intro a hs
        refine wl hs (y_move hs rfl) rfl ?_; intro a hs
        obtain ⟨y42, h43, hm⟩ := bindE hm
        refine wcall is_17 hs rfl rfl (laws_toIntSS_any v_p0 p0 _ (RdM.below hr_p0 hM.bel) h43) ?_; rintro a v44 w hs ⟨vs46, hX⟩
        have hM : Mem W w [aMat 28 3 v44 vs46 y42, aMat 28 3 v35 vs36 y31.1, aMat 28 3 v28 vs30 y26, aMat 28 3 v23 vs25 y21, aMat 28 3 v19 vs20 y15.1, aMat 28 3 v12 vs14 y10, aMat 28 3 v7 vs9 y5] := hM.call hX
        obtain ⟨y47, h48, hm⟩ := bindE hm
        refine wcall is_19 hs rfl rfl (laws_eqIntSS_any v23 y21 v44 y42 _ (hM.rdM 3 rfl) (hM.rdM 0 rfl) h48) ?_; rintro a _ w hs ⟨rfl, hX⟩
        have hM : Mem W w [aMat 28 3 v44 vs46 y42, aMat 28 3 v35 vs36 y31.1, aMat 28 3 v28 vs30 y26, aMat 28 3 v23 vs25 y21, aMat 28 3 v19 vs20 y15.1, aMat 28 3 v12 vs14 y10, aMat 28 3 v7 vs9 y5] := hM.call hX
        refine wl hs (y_not hs rfl) rfl ?_; intro a hs
        refine wpList_nil ?_
        refine x_nt ?_
        refine x_cond hs rfl (fun hb => ?_) (fun hb => ?_)
        · replace hm := condT hb hm
          refine wp_seq ?_
          refine wp_region_lit ?_
          refine wl hs (y_assign hs rfl) rfl ?_; intro a hs
          refine wpList_nil ?_
          refine x_nt ?_
          refine wp_ret ?_
          refine x_rt ?_
          have hm : some false = some r := hm
          obtain rfl := Option.some.inj hm
          refine x_ret1 rfl hs rfl ⟨_, rfl, ?_⟩
          exact ⟨rfl, hM.none_⟩
        · replace hm := condF hb hm
          refine wp_skip ?_
          refine x_nt ?_
          refine wp_seq ?_
          refine wp_seq ?_
          refine wp_region_lit ?_
          refine wl hs (y_move hs rfl) rfl ?_; intro a hs
          refine wl hs (y_move hs rfl) rfl ?_; intro a hs
          obtain ⟨y49, h50, hm⟩ := bindE hm
          refine wcall is_17 hs rfl rfl (laws_toIntSS_any v_p1 p1 _ (RdM.below hr_p1 hM.bel) h50) ?_; rintro a v51 w hs ⟨vs53, hX⟩
          have hM : Mem W w [aMat 28 3 v51 vs53 y49, aMat 28 3 v44 vs46 y42, aMat 28 3 v35 vs36 y31.1, aMat 28 3 v28 vs30 y26, aMat 28 3 v23 vs25 y21, aMat 28 3 v19 vs20 y15.1, aMat 28 3 v12 vs14 y10, aMat 28 3 v7 vs9 y5] := hM.call hX
          obtain ⟨y54, h55, hm⟩ := bindE hm
          refine wcall is_19 hs rfl rfl (laws_eqIntSS_any v28 y26 v51 y49 _ (hM.rdM 3 rfl) (hM.rdM 0 rfl) h55) ?_; rintro a _ w hs ⟨rfl, hX⟩
          have hM : Mem W w [aMat 28 3 v51 vs53 y49, aMat 28 3 v44 vs46 y42, aMat 28 3 v35 vs36 y31.1, aMat 28 3 v28 vs30 y26, aMat 28 3 v23 vs25 y21, aMat 28 3 v19 vs20 y15.1, aMat 28 3 v12 vs14 y10, aMat 28 3 v7 vs9 y5] := hM.call hX
          refine wl hs (y_not hs rfl) rfl ?_; intro a hs
          refine wpList_nil ?_
          refine x_nt ?_
          refine x_cond hs rfl (fun hb => ?_) (fun hb => ?_)
          · replace hm := condT hb hm
            refine wp_seq ?_
            refine wp_region_lit ?_
            refine wl hs (y_assign hs rfl) rfl ?_; intro a hs
            refine wpList_nil ?_
            refine x_nt ?_
            refine wp_ret ?_
            refine x_rt ?_
            have hm : some false = some r := hm
            obtain rfl := Option.some.inj hm
            refine x_ret1 rfl hs rfl ⟨_, rfl, ?_⟩
            exact ⟨rfl, hM.none_⟩
          · replace hm := condF hb hm
            refine wp_skip ?_
            refine x_nt ?_
            refine wp_seq ?_
            refine wp_region_lit ?_
            refine wl hs (y_assign hs rfl) rfl ?_; intro a hs
            refine wpList_nil ?_
            refine x_nt ?_
            refine wp_seq ?_
            refine wp_region_lit ?_
            refine wl hs (y_move hs rfl) rfl ?_; intro a hs
            refine wl hs (y_move hs rfl) rfl ?_; intro a hs
            obtain ⟨y56, h57, hm⟩ := bindE hm
            have hM : Mem W w [aMat 28 3 v23 vs25 y21, aMat 28 3 v51 vs53 y49, aMat 28 3 v44 vs46 y42, aMat 28 3 v35 vs36 y31.1, aMat 28 3 v28 vs30 y26, aMat 28 3 v19 vs20 y15.1, aMat 28 3 v12 vs14 y10, aMat 28 3 v7 vs9 y5] := ((((((((hM.front 7 rfl).front 7 rfl).front 7 rfl).front 6 rfl).front 6 rfl).front 6 rfl).front 6 rfl).front 7 rfl)
            refine wcall is_20 hs rfl rfl (laws_markIntSS_any v23 y21 _ 1 _ _ _  hM h57) ?_; rintro a _ w hs ⟨vs58, rfl, hM⟩
            have hM : Mem W w [aMat 28 3 v23 vs58 y56.2, aMat 28 3 v51 vs53 y49, aMat 28 3 v44 vs46 y42, aMat 28 3 v35 vs36 y31.1, aMat 28 3 v28 vs30 y26, aMat 28 3 v19 vs20 y15.1, aMat 28 3 v12 vs14 y10, aMat 28 3 v7 vs9 y5] := hM
            refine wl hs (y_assign hs rfl) rfl ?_; intro a hs
            refine wpList_nil ?_
            refine x_nt ?_
            refine wp_seq ?_
            refine wp_region_lit ?_
            refine wl hs (y_move hs rfl) rfl ?_; intro a hs
            refine wl hs (y_move hs rfl) rfl ?_; intro a hs
            obtain ⟨y59, h60, hm⟩ := bindE hm
            have hM : Mem W w [aMat 28 3 v28 vs30 y26, aMat 28 3 v23 vs58 y56.2, aMat 28 3 v51 vs53 y49, aMat 28 3 v44 vs46 y42, aMat 28 3 v35 vs36 y31.1, aMat 28 3 v19 vs20 y15.1, aMat 28 3 v12 vs14 y10, aMat 28 3 v7 vs9 y5] := ((((((((hM.front 7 rfl).front 7 rfl).front 7 rfl).front 6 rfl).front 6 rfl).front 6 rfl).front 6 rfl).front 7 rfl)
            refine wcall is_20 hs rfl rfl (laws_markIntSS_any v28 y26 _ y56.1 _ _ _  hM h60) ?_; rintro a _ w hs ⟨vs61, rfl, hM⟩
            have hM : Mem W w [aMat 28 3 v28 vs61 y59.2, aMat 28 3 v23 vs58 y56.2, aMat 28 3 v51 vs53 y49, aMat 28 3 v44 vs46 y42, aMat 28 3 v35 vs36 y31.1, aMat 28 3 v19 vs20 y15.1, aMat 28 3 v12 vs14 y10, aMat 28 3 v7 vs9 y5] := hM
            refine wl hs (y_assign hs rfl) rfl ?_; intro a hs
            refine wpList_nil ?_
            refine x_nt ?_
            refine wp_seq ?_
            refine wp_seq ?_
            refine wp_region_lit ?_
            refine wl hs (y_move hs rfl) rfl ?_; intro a hs
            refine wl hs (y_lss hs rfl rfl) rfl ?_; intro a hs
            refine wl hs (y_move hs rfl) rfl ?_; intro a hs
            obtain ⟨b62, hb63, hm⟩ := bindE hm
            refine wlguard (N := 119) (L' := [(77, .bool b62), (0, v_p0), (1, v_p1), (6, v19), (7, .bool y15.2), (10, v35), (11, .bool y31.2)]) (fun w => Mem W w [aMat 28 3 v28 vs61 y59.2, aMat 28 3 v23 vs58 y56.2, aMat 28 3 v51 vs53 y49, aMat 28 3 v44 vs46 y42, aMat 28 3 v35 vs36 y31.1, aMat 28 3 v19 vs20 y15.1, aMat 28 3 v12 vs14 y10, aMat 28 3 v7 vs9 y5]) 5 ?_ ?_
            · intro K; rcases Bool.eq_false_or_eq_true (decide (y59.1 < 0)) with hg64 | hg64
              · have hm := condT hg64 hb63
                refine wls hs rfl hg64 rfl ?_; intro a hs
                refine wls hs rfl hg64 rfl ?_; intro a hs
                refine wls hs rfl hg64 rfl ?_; intro a hs
                refine wls hs rfl hg64 rfl ?_; intro a hs
                have hm : some true = some b62 := hm
                cases Option.some.inj hm
                refine wl hs (y_pickT hs rfl hg64 rfl) rfl ?_; intro a hs
                exact K _ _ (hs.sub ⟨rfl, rfl, rfl, rfl, rfl, rfl, rfl, trivial⟩) hM
              · have hm := condF hg64 hb63
                refine wlg hs rfl hg64 (y_move hs rfl) rfl ?_; intro a hs
                refine wlg hs rfl hg64 (y_move hs rfl) rfl ?_; intro a hs
                obtain ⟨y65, h66, hm⟩ := bindE hm
                refine wcallg is_19 hs rfl hg64 rfl rfl (laws_eqIntSS_any v35 y31.1 v19 y15.1 _ (hM.rdM 4 rfl) (hM.rdM 5 rfl) h66) ?_; rintro a _ w hs ⟨rfl, hX⟩
                have hM : Mem W w [aMat 28 3 v28 vs61 y59.2, aMat 28 3 v23 vs58 y56.2, aMat 28 3 v51 vs53 y49, aMat 28 3 v44 vs46 y42, aMat 28 3 v35 vs36 y31.1, aMat 28 3 v19 vs20 y15.1, aMat 28 3 v12 vs14 y10, aMat 28 3 v7 vs9 y5] := hM.call hX
                refine wlg hs rfl hg64 (y_not hs rfl) rfl ?_; intro a hs
                have hm : some (!y65) = some b62 := hm
                cases Option.some.inj hm
                refine wl hs (y_pickF hs rfl hg64 rfl) rfl ?_; intro a hs
                exact K _ _ (hs.sub ⟨rfl, rfl, rfl, rfl, rfl, rfl, rfl, trivial⟩) hM
            intro a w hs hM
            simp only [List.drop_succ_cons, List.drop_zero]
            refine wl hs (y_move hs rfl) rfl ?_; intro a hs
            obtain ⟨b67, hb68, hm⟩ := bindE hm
            refine wlguard (N := 119) (L' := [(82, .bool b67), (0, v_p0), (1, v_p1), (6, v19), (7, .bool y15.2), (10, v35)]) (fun w => Mem W w [aMat 28 3 v28 vs61 y59.2, aMat 28 3 v23 vs58 y56.2, aMat 28 3 v51 vs53 y49, aMat 28 3 v44 vs46 y42, aMat 28 3 v35 vs36 y31.1, aMat 28 3 v19 vs20 y15.1, aMat 28 3 v12 vs14 y10, aMat 28 3 v7 vs9 y5]) 4 ?_ ?_
            · intro K; rcases Bool.eq_false_or_eq_true b62 with hg69 | hg69
              · have hm := condT hg69 hb68
                refine wls hs rfl hg69 rfl ?_; intro a hs
                refine wls hs rfl hg69 rfl ?_; intro a hs
                refine wls hs rfl hg69 rfl ?_; intro a hs
                have hm : some true = some b67 := hm
                cases Option.some.inj hm
                refine wl hs (y_pickT hs rfl hg69 rfl) rfl ?_; intro a hs
                exact K _ _ (hs.sub ⟨rfl, rfl, rfl, rfl, rfl, rfl, trivial⟩) hM
              · have hm := condF hg69 hb68
                refine wlg hs rfl hg69 (y_move hs rfl) rfl ?_; intro a hs
                refine wlg hs rfl hg69 (y_move hs rfl) rfl ?_; intro a hs
                refine wlg hs rfl hg69 (y_neqB hu_bool hs rfl rfl) rfl ?_; intro a hs
                have hm : some (y31.2 != y15.2) = some b67 := hm
                cases Option.some.inj hm
                refine wl hs (y_pickF hs rfl hg69 rfl) rfl ?_; intro a hs
                exact K _ _ (hs.sub ⟨rfl, rfl, rfl, rfl, rfl, rfl, trivial⟩) hM
            intro a w hs hM
            simp only [List.drop_succ_cons, List.drop_zero]
            refine wpList_nil ?_
            refine x_nt ?_
            refine x_cond hs rfl (fun hb => ?_) (fun hb => ?_)
            · replace hm := condT hb hm
              refine wp_seq ?_
              refine wp_region_lit ?_
              refine wl hs (y_assign hs rfl) rfl ?_; intro a hs
              refine wpList_nil ?_
              refine x_nt ?_
              refine wp_ret ?_
              refine x_rt ?_
              have hm : some false = some r := hm
              obtain rfl := Option.some.inj hm
              refine x_ret1 rfl hs rfl ⟨_, rfl, ?_⟩
              exact ⟨rfl, hM.none_⟩
            · replace hm := condF hb hm
              refine wp_skip ?_
              refine x_nt ?_
              refine wp_seq ?_
              refine wp_region_lit ?_
              refine wl hs (y_assign hs rfl) rfl ?_; intro a hs
              refine wpList_nil ?_
              refine x_nt ?_
              refine wp_seq ?_
              refine wp_region_lit ?_
              refine wl hs (y_move hs rfl) rfl ?_; intro a hs
              refine wl hs (y_move hs rfl) rfl ?_; intro a hs
              obtain ⟨y70, h71, hm⟩ := bindE hm
              have hM : Mem W w [aMat 28 3 v35 vs36 y31.1, aMat 28 3 v28 vs61 y59.2, aMat 28 3 v23 vs58 y56.2, aMat 28 3 v51 vs53 y49, aMat 28 3 v44 vs46 y42, aMat 28 3 v19 vs20 y15.1, aMat 28 3 v12 vs14 y10, aMat 28 3 v7 vs9 y5] := ((((((((hM.front 7 rfl).front 7 rfl).front 7 rfl).front 6 rfl).front 6 rfl).front 6 rfl).front 6 rfl).front 7 rfl)
              refine wcall is_20 hs rfl rfl (laws_markIntSS_any v35 y31.1 _ 1 _ _ _  hM h71) ?_; rintro a _ w hs ⟨vs72, rfl, hM⟩
              have hM : Mem W w [aMat 28 3 v35 vs72 y70.2, aMat 28 3 v28 vs61 y59.2, aMat 28 3 v23 vs58 y56.2, aMat 28 3 v51 vs53 y49, aMat 28 3 v44 vs46 y42, aMat 28 3 v19 vs20 y15.1, aMat 28 3 v12 vs14 y10, aMat 28 3 v7 vs9 y5] := hM
              refine wl hs (y_assign hs rfl) rfl ?_; intro a hs
              refine wpList_nil ?_
              refine x_nt ?_
              refine wp_seq ?_
              refine wp_region_lit ?_
              refine wl hs (y_assign hs rfl) rfl ?_; intro a hs
              refine wpList_nil ?_
              refine x_nt ?_
              refine wp_seq ?_
              refine wp_region_lit ?_
              refine wl hs (y_move hs rfl) rfl ?_; intro a hs
              refine wl hs (y_move hs rfl) rfl ?_; intro a hs
              obtain ⟨y73, h74, hm⟩ := bindE hm
              refine wcall is_21 hs rfl rfl (laws_heldIntSS_any v35 y70.2 1 _ (hM.rdM 0 rfl) h74) ?_; rintro a _ w hs ⟨rfl, hX⟩
              have hM : Mem W w [aMat 28 3 v35 vs72 y70.2, aMat 28 3 v28 vs61 y59.2, aMat 28 3 v23 vs58 y56.2, aMat 28 3 v51 vs53 y49, aMat 28 3 v44 vs46 y42, aMat 28 3 v19 vs20 y15.1, aMat 28 3 v12 vs14 y10, aMat 28 3 v7 vs9 y5] := hM.call hX
              refine wl hs (y_assign hs rfl) rfl ?_; intro a hs
              refine wpList_nil ?_
              refine x_nt ?_
              refine wp_seq ?_
              refine wp_seq ?_
              refine wp_region_lit ?_
              refine wl hs (y_move hs rfl) rfl ?_; intro a hs
              refine wl hs (y_lss hs rfl rfl) rfl ?_; intro a hs
              refine wpList_nil ?_
              refine x_nt ?_
              refine x_cond hs rfl (fun hb => ?_) (fun hb => ?_)
              · replace hm := condT hb hm
                refine wp_seq ?_
                refine wp_region_lit ?_
                refine wl hs (y_assign hs rfl) rfl ?_; intro a hs
                refine wpList_nil ?_
                refine x_nt ?_
                refine wp_ret ?_
                refine x_rt ?_
                have hm : some false = some r := hm
                obtain rfl := Option.some.inj hm
                refine x_ret1 rfl hs rfl ⟨_, rfl, ?_⟩
                exact ⟨rfl, hM.none_⟩
              · replace hm := condF hb hm
                refine wp_skip ?_
                refine x_nt ?_
                refine wp_seq ?_
                refine wp_seq ?_
                refine wp_region_lit ?_
                refine wl hs (y_move hs rfl) rfl ?_; intro a hs
                refine wl hs (y_move hs rfl) rfl ?_; intro a hs
                refine wl hs (y_neq hs rfl rfl) rfl ?_; intro a hs
                refine wpList_nil ?_
                refine x_nt ?_
                refine x_cond hs rfl (fun hb => ?_) (fun hb => ?_)
                · replace hm := condT hb hm
                  refine wp_seq ?_
                  refine wp_region_lit ?_
                  refine wl hs (y_assign hs rfl) rfl ?_; intro a hs
                  refine wpList_nil ?_
                  refine x_nt ?_
                  refine wp_ret ?_
                  refine x_rt ?_
                  have hm : some false = some r := hm
                  obtain rfl := Option.some.inj hm
                  refine x_ret1 rfl hs rfl ⟨_, rfl, ?_⟩
                  exact ⟨rfl, hM.none_⟩
                · replace hm := condF hb hm
                  refine wp_skip ?_
                  refine x_nt ?_
                  refine wp_seq ?_
                  refine wp_region_lit ?_
                  refine wl hs (y_move hs rfl) rfl ?_; intro a hs
                  obtain ⟨y75, h76, hm⟩ := bindE hm
                  refine wcall is_17 hs rfl rfl (laws_toIntSS_any v_p0 p0 _ (RdM.below hr_p0 hM.bel) h76) ?_; rintro a v77 w hs ⟨vs79, hX⟩
                  have hM : Mem W w [aMat 28 3 v77 vs79 y75, aMat 28 3 v35 vs72 y70.2, aMat 28 3 v28 vs61 y59.2, aMat 28 3 v23 vs58 y56.2, aMat 28 3 v51 vs53 y49, aMat 28 3 v44 vs46 y42, aMat 28 3 v19 vs20 y15.1, aMat 28 3 v12 vs14 y10, aMat 28 3 v7 vs9 y5] := hM.call hX
                  refine wl hs (y_move hs rfl) rfl ?_; intro a hs
                  obtain ⟨y80, h81, hm⟩ := bindE hm
                  refine wcall is_17 hs rfl rfl (laws_toIntSS_any v_p1 p1 _ (RdM.below hr_p1 hM.bel) h81) ?_; rintro a v82 w hs ⟨vs84, hX⟩
                  have hM : Mem W w [aMat 28 3 v82 vs84 y80, aMat 28 3 v77 vs79 y75, aMat 28 3 v35 vs72 y70.2, aMat 28 3 v28 vs61 y59.2, aMat 28 3 v23 vs58 y56.2, aMat 28 3 v51 vs53 y49, aMat 28 3 v44 vs46 y42, aMat 28 3 v19 vs20 y15.1, aMat 28 3 v12 vs14 y10, aMat 28 3 v7 vs9 y5] := hM.call hX
                  obtain ⟨y85, h86, hm⟩ := bindE hm
                  refine wcall is_33 hs rfl rfl (impl_MultiplyMatrices_any v77 y75 v82 y80 _ (hM.rdM 1 rfl) (hM.rdM 0 rfl) h86) ?_; rintro a _ w hs ⟨v89, vs90, rfl, hX⟩
                  have hM : Mem W w [aMat 28 3 v89 vs90 y85.1, aMat 28 3 v82 vs84 y80, aMat 28 3 v77 vs79 y75, aMat 28 3 v35 vs72 y70.2, aMat 28 3 v28 vs61 y59.2, aMat 28 3 v23 vs58 y56.2, aMat 28 3 v51 vs53 y49, aMat 28 3 v44 vs46 y42, aMat 28 3 v19 vs20 y15.1, aMat 28 3 v12 vs14 y10, aMat 28 3 v7 vs9 y5] := hM.call hX
                  refine wl hs (y_move hs rfl) rfl ?_; intro a hs
                  refine wl hs (y_extract hs rfl rfl) rfl ?_; intro a hs
                  refine wl hs (y_extract hs rfl rfl) rfl ?_; intro a hs
                  refine wl hs (y_assign hs rfl) rfl ?_; intro a hs
                  refine wl hs (y_assign hs rfl) rfl ?_; intro a hs
                  refine wpList_nil ?_
                  refine x_nt ?_
                  refine wp_seq ?_
                  refine wp_seq ?_
                  refine wp_region_lit ?_
                  refine wl hs (y_move hs rfl) rfl ?_; intro a hs
                  refine wl hs (y_move hs rfl) rfl ?_; intro a hs
                  obtain ⟨y91, h92, hm⟩ := bindE hm
                  refine wcall is_19 hs rfl rfl (laws_eqIntSS_any v89 y85.1 v19 y15.1 _ (hM.rdM 0 rfl) (hM.rdM 8 rfl) h92) ?_; rintro a _ w hs ⟨rfl, hX⟩
                  have hM : Mem W w [aMat 28 3 v89 vs90 y85.1, aMat 28 3 v82 vs84 y80, aMat 28 3 v77 vs79 y75, aMat 28 3 v35 vs72 y70.2, aMat 28 3 v28 vs61 y59.2, aMat 28 3 v23 vs58 y56.2, aMat 28 3 v51 vs53 y49, aMat 28 3 v44 vs46 y42, aMat 28 3 v19 vs20 y15.1, aMat 28 3 v12 vs14 y10, aMat 28 3 v7 vs9 y5] := hM.call hX
                  refine wl hs (y_not hs rfl) rfl ?_; intro a hs
                  refine wl hs (y_move hs rfl) rfl ?_; intro a hs
                  obtain ⟨b93, hb94, hm⟩ := bindE hm
                  refine wlguard (N := 119) (L' := [(110, .bool b93), (10, v35), (13, .int .i64 y70.1)]) (fun w => Mem W w [aMat 28 3 v89 vs90 y85.1, aMat 28 3 v82 vs84 y80, aMat 28 3 v77 vs79 y75, aMat 28 3 v35 vs72 y70.2, aMat 28 3 v28 vs61 y59.2, aMat 28 3 v23 vs58 y56.2, aMat 28 3 v51 vs53 y49, aMat 28 3 v44 vs46 y42, aMat 28 3 v19 vs20 y15.1, aMat 28 3 v12 vs14 y10, aMat 28 3 v7 vs9 y5]) 4 ?_ ?_
                  · intro K; rcases Bool.eq_false_or_eq_true (!y91) with hg95 | hg95
                    · have hm := condT hg95 hb94
                      refine wls hs rfl hg95 rfl ?_; intro a hs
                      refine wls hs rfl hg95 rfl ?_; intro a hs
                      refine wls hs rfl hg95 rfl ?_; intro a hs
                      have hm : some true = some b93 := hm
                      cases Option.some.inj hm
                      refine wl hs (y_pickT hs rfl hg95 rfl) rfl ?_; intro a hs
                      exact K _ _ (hs.sub ⟨rfl, rfl, rfl, trivial⟩) hM
                    · have hm := condF hg95 hb94
                      refine wlg hs rfl hg95 (y_move hs rfl) rfl ?_; intro a hs
                      refine wlg hs rfl hg95 (y_move hs rfl) rfl ?_; intro a hs
                      refine wlg hs rfl hg95 (y_neqB hu_bool hs rfl rfl) rfl ?_; intro a hs
                      have hm : some (y85.2 != y15.2) = some b93 := hm
                      cases Option.some.inj hm
                      refine wl hs (y_pickF hs rfl hg95 rfl) rfl ?_; intro a hs
                      exact K _ _ (hs.sub ⟨rfl, rfl, rfl, trivial⟩) hM
                  intro a w hs hM
                  simp only [List.drop_succ_cons, List.drop_zero]
                  refine wpList_nil ?_
                  refine x_nt ?_
                  refine x_cond hs rfl (fun hb => ?_) (fun hb => ?_)
                  · replace hm := condT hb hm
                    refine wp_seq ?_
                    refine wp_region_lit ?_
                    refine wl hs (y_assign hs rfl) rfl ?_; intro a hs
                    refine wpList_nil ?_
                    refine x_nt ?_
                    refine wp_ret ?_
                    refine x_rt ?_
                    have hm : some false = some r := hm
                    obtain rfl := Option.some.inj hm
                    refine x_ret1 rfl hs rfl ⟨_, rfl, ?_⟩
                    exact ⟨rfl, hM.none_⟩
                  · replace hm := condF hb hm
                    refine wp_skip ?_
                    refine x_nt ?_
                    refine wp_seq ?_
                    refine wp_region_lit ?_
                    refine wl hs (y_assign hs rfl) rfl ?_; intro a hs
                    refine wpList_nil ?_
                    refine x_nt ?_
                    refine wp_seq ?_
                    refine wp_region_lit ?_
                    refine wl hs (y_move hs rfl) rfl ?_; intro a hs
                    refine wl hs (y_move hs rfl) rfl ?_; intro a hs
                    obtain ⟨y96, h97, hm⟩ := bindE hm
                    refine wcall is_21 hs rfl rfl (laws_heldIntSS_any v35 y70.2 1 _ (hM.rdM 3 rfl) h97) ?_; rintro a _ w hs ⟨rfl, hX⟩
                    have hM : Mem W w [aMat 28 3 v89 vs90 y85.1, aMat 28 3 v82 vs84 y80, aMat 28 3 v77 vs79 y75, aMat 28 3 v35 vs72 y70.2, aMat 28 3 v28 vs61 y59.2, aMat 28 3 v23 vs58 y56.2, aMat 28 3 v51 vs53 y49, aMat 28 3 v44 vs46 y42, aMat 28 3 v19 vs20 y15.1, aMat 28 3 v12 vs14 y10, aMat 28 3 v7 vs9 y5] := hM.call hX
                    refine wl hs (y_assign hs rfl) rfl ?_; intro a hs
                    refine wpList_nil ?_
                    refine x_nt ?_
                    refine wp_seq ?_
                    refine wp_seq ?_
                    refine wp_region_lit ?_
                    refine wl hs (y_move hs rfl) rfl ?_; intro a hs
                    refine wl hs (y_lss hs rfl rfl) rfl ?_; intro a hs
                    refine wpList_nil ?_
                    refine x_nt ?_
                    refine x_cond hs rfl (fun hb => ?_) (fun hb => ?_)
                    · replace hm := condT hb hm
                      refine wp_seq ?_
                      refine wp_region_lit ?_
                      refine wl hs (y_assign hs rfl) rfl ?_; intro a hs
                      refine wpList_nil ?_
                      refine x_nt ?_
                      refine wp_ret ?_
                      refine x_rt ?_
                      have hm : some false = some r := hm
                      obtain rfl := Option.some.inj hm
                      refine x_ret1 rfl hs rfl ⟨_, rfl, ?_⟩
                      exact ⟨rfl, hM.none_⟩
                    · replace hm := condF hb hm
                      refine wp_skip ?_
                      refine x_nt ?_
                      refine wp_seq ?_
                      refine wp_seq ?_
                      refine wp_region_lit ?_
                      refine wl hs (y_move hs rfl) rfl ?_; intro a hs
                      refine wl hs (y_move hs rfl) rfl ?_; intro a hs
                      refine wl hs (y_neq hs rfl rfl) rfl ?_; intro a hs
                      refine wpList_nil ?_
                      refine x_nt ?_
                      refine x_cond hs rfl (fun hb => ?_) (fun hb => ?_)
                      · replace hm := condT hb hm
                        refine wp_seq ?_
                        refine wp_region_lit ?_
                        refine wl hs (y_assign hs rfl) rfl ?_; intro a hs
                        refine wpList_nil ?_
                        refine x_nt ?_
                        refine wp_ret ?_
                        refine x_rt ?_
                        have hm : some false = some r := hm
                        obtain rfl := Option.some.inj hm
                        refine x_ret1 rfl hs rfl ⟨_, rfl, ?_⟩
                        exact ⟨rfl, hM.none_⟩
                      · replace hm := condF hb hm
                        refine wp_skip ?_
                        refine x_nt ?_
                        refine wp_seq ?_
                        refine wp_region_lit ?_
                        refine wl hs (y_assign hs rfl) rfl ?_; intro a hs
                        refine wpList_nil ?_
                        refine x_nt ?_
                        refine wp_ret ?_
                        have hm : some true = some r := hm
                        obtain rfl := Option.some.inj hm
                        refine x_ret1 rfl hs rfl ⟨_, rfl, ?_⟩
                        exact ⟨rfl, hM.none_⟩

end Go.Proofs.Ytjicdfplhenohaa
