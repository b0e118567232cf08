/- The code of this unit computes what its mirrors say. Written by program (wip/gen). -/
import Derived.Test.YtefjnpdpeablpaaFacts
import Derived.Test.YtefjnpdpeablpaaEOuterProductM
import Derived.Test.YtefjnpdpeablpaaNumW
import Derived.Test.YtefjnpdpeablpaaRk1W
namespace Go.Proofs.Ytefjnpdpeablpaa
open Go.RowKit
set_option linter.unusedVariables false

theorem laws_FnExactOuterProduct_any (v_p0 : Value) (p0 : List Int) (v_p1 : Value) (p1 : List Int) (W : World) (hr_p0 : RdI W v_p0 p0) (hr_p1 : RdI W v_p1 p1) {r : Bool} (hm : laws_FnExactOuterProduct_m p0 p1 = some r) : Calls Try.prog 12 [v_p0, v_p1].toArray W fun e w => ∃ v, e = .returned v ∧ v = .bool r ∧ Mem W w [] := by
  refine x_enter Try.func12 rfl Try.ntmps12 rfl ?_
  intro a hs
  have hM := Mem.start W
  unfold laws_FnExactOuterProduct_m at hm
  refine wp_seq ?_
  refine wp_region_lit ?_
  refine wl hs (y_assign hs rfl) rfl ?_; intro a hs
  refine wpList_nil ?_
  refine x_nt ?_
  refine wp_seq ?_
  refine wp_seq ?_
  refine wp_region_lit ?_
  refine wl hs (y_move hs rfl) rfl ?_; intro a hs
  refine wl hs (y_len hu_I hs rfl (RdI.below hr_p0 hM.bel)) rfl ?_; intro a hs
  refine wl hs (y_gtr hs rfl rfl) rfl ?_; intro a hs
  refine wpList_nil ?_
  refine x_nt ?_
  refine x_cond hs rfl (fun hb => ?_) (fun hb => ?_)
  · replace hm := condT hb hm
    refine wp_seq ?_
    refine wp_region_lit ?_
    refine wl hs (y_assign hs rfl) rfl ?_; intro a hs
    refine wpList_nil ?_
    refine x_nt ?_
    refine wp_ret ?_
    refine x_rt ?_
    have hm : some true = some r := hm
    obtain rfl := Option.some.inj hm
    refine x_ret1 rfl hs rfl ⟨_, rfl, ?_⟩
    exact ⟨rfl, hM⟩
  · replace hm := condF hb hm
    refine wp_skip ?_
    refine x_nt ?_
    refine wp_seq ?_
    refine wp_seq ?_
    refine wp_region_lit ?_
    refine wl hs (y_move hs rfl) rfl ?_; intro a hs
    refine wl hs (y_len hu_I hs rfl (RdI.below hr_p1 hM.bel)) rfl ?_; intro a hs
    refine wl hs (y_gtr hs rfl rfl) rfl ?_; intro a hs
    refine wpList_nil ?_
    refine x_nt ?_
    refine x_cond hs rfl (fun hb => ?_) (fun hb => ?_)
    · replace hm := condT hb hm
      refine wp_seq ?_
      refine wp_region_lit ?_
      refine wl hs (y_assign hs rfl) rfl ?_; intro a hs
      refine wpList_nil ?_
      refine x_nt ?_
      refine wp_ret ?_
      refine x_rt ?_
      have hm : some true = some r := hm
      obtain rfl := Option.some.inj hm
      refine x_ret1 rfl hs rfl ⟨_, rfl, ?_⟩
      exact ⟨rfl, hM⟩
    · replace hm := condF hb hm
      refine wp_skip ?_
      refine x_nt ?_
      refine wp_seq ?_
      refine wp_region_lit ?_
      refine wl hs (y_move hs rfl) rfl ?_; intro a hs
      obtain ⟨y1, h2, hm⟩ := bindE hm
      refine wcall is_28 hs rfl rfl (laws_toIntS_any v_p0 p0 _ (RdI.below hr_p0 hM.bel) h2) ?_; rintro a v3 w hs hX
      have hM : Mem W w [aInts 3 v3 y1] := hM.call hX
      refine wl hs (y_move hs rfl) rfl ?_; intro a hs
      obtain ⟨y5, h6, hm⟩ := bindE hm
      refine wcall is_28 hs rfl rfl (laws_toIntS_any v_p1 p1 _ (RdI.below hr_p1 hM.bel) h6) ?_; rintro a v7 w hs hX
      have hM : Mem W w [aInts 3 v7 y5, aInts 3 v3 y1] := hM.call hX
      obtain ⟨y9, h10, hm⟩ := bindE hm
      refine wcall is_39 hs rfl rfl (spec_OuterProduct_any v3 y1 v7 y5 _ (hM.rdI 1 rfl) (hM.rdI 0 rfl) h10) ?_; rintro a _ w hs ⟨v13, vs14, rfl, hX⟩
      have hM : Mem W w [aMat 34 3 v13 vs14 y9.1, aInts 3 v7 y5, aInts 3 v3 y1] := hM.call hX
      refine wl hs (y_move hs rfl) rfl ?_; intro a hs
      refine wl hs (y_extract hs rfl rfl) rfl ?_; intro a hs
      refine wl hs (y_extract hs rfl rfl) rfl ?_; intro a hs
      refine wl hs (y_assign hs rfl) rfl ?_; intro a hs
      refine wl hs (y_assign hs rfl) rfl ?_; intro a hs
      refine wpList_nil ?_
      refine x_nt ?_
      refine wp_seq ?_
      refine wp_region_lit ?_
      refine wl hs (y_move hs rfl) rfl ?_; intro a hs
      obtain ⟨y15, h16, hm⟩ := bindE hm
      refine wcall is_28 hs rfl rfl (laws_toIntS_any v_p0 p0 _ (RdI.below hr_p0 hM.bel) h16) ?_; rintro a v17 w hs hX
      have hM : Mem W w [aInts 3 v17 y15, aMat 34 3 v13 vs14 y9.1, aInts 3 v7 y5, aInts 3 v3 y1] := hM.call hX
      refine wl hs (y_assign hs rfl) rfl ?_; intro a hs
      refine wpList_nil ?_
      refine x_nt ?_
      refine wp_seq ?_
      refine wp_region_lit ?_
      refine wl hs (y_move hs rfl) rfl ?_; intro a hs
      obtain ⟨y19, h20, hm⟩ := bindE hm
      refine wcall is_28 hs rfl rfl (laws_toIntS_any v_p1 p1 _ (RdI.below hr_p1 hM.bel) h20) ?_; rintro a v21 w hs hX
      have hM : Mem W w [aInts 3 v21 y19, aInts 3 v17 y15, aMat 34 3 v13 vs14 y9.1, aInts 3 v7 y5, aInts 3 v3 y1] := hM.call hX
      refine wl hs (y_assign hs rfl) rfl ?_; intro a hs
      refine wpList_nil ?_
      refine x_nt ?_
      refine wp_seq ?_
      refine wp_region_lit ?_
      refine wl hs (y_move hs rfl) rfl ?_; intro a hs
      refine wl hs (y_move hs rfl) rfl ?_; intro a hs
      obtain ⟨y23, h24, hm⟩ := bindE hm
      refine wcall is_40 hs rfl rfl (impl_OuterProduct_any v17 y15 v21 y19 _ (hM.rdI 1 rfl) (hM.rdI 0 rfl) h24) ?_; rintro a _ w hs ⟨v27, vs28, rfl, hX⟩
      have hM : Mem W w [aMat 34 3 v27 vs28 y23.1, aInts 3 v21 y19, aInts 3 v17 y15, aMat 34 3 v13 vs14 y9.1, aInts 3 v7 y5, aInts 3 v3 y1] := hM.call hX
      refine wl hs (y_move hs rfl) rfl ?_; intro a hs
      refine wl hs (y_extract hs rfl rfl) rfl ?_; intro a hs
      refine wl hs (y_extract hs rfl rfl) rfl ?_; intro a hs
      refine wl hs (y_assign hs rfl) rfl ?_; intro a hs
      refine wl hs (y_assign hs rfl) rfl ?_; intro a hs
      refine wpList_nil ?_
      refine x_nt ?_
      refine wp_seq ?_
      refine wp_seq ?_
      refine wp_region_lit ?_
      refine wl hs (y_move hs rfl) rfl ?_; intro a hs
      refine wl hs (y_move hs rfl) rfl ?_; intro a hs
      obtain ⟨y29, h30, hm⟩ := bindE hm
      refine wcall is_16 hs rfl rfl (laws_eqIntSS_any v27 y23.1 v13 y9.1 _ (hM.rdM 0 rfl) (hM.rdM 3 rfl) h30) ?_; rintro a _ w hs ⟨rfl, hX⟩
      have hM : Mem W w [aMat 34 3 v27 vs28 y23.1, aInts 3 v21 y19, aInts 3 v17 y15, aMat 34 3 v13 vs14 y9.1, aInts 3 v7 y5, aInts 3 v3 y1] := hM.call hX
      refine wl hs (y_not hs rfl) rfl ?_; intro a hs
      refine wl hs (y_move hs rfl) rfl ?_; intro a hs
      obtain ⟨b31, hb32, hm⟩ := bindE hm
      refine wlguard (N := 114) (L' := [(48, .bool b31), (0, v_p0), (1, v_p1), (5, v13), (6, .bool y9.2), (7, v17), (8, v21), (9, v27), (10, .bool y23.2)]) (fun w => Mem W w [aMat 34 3 v27 vs28 y23.1, aInts 3 v21 y19, aInts 3 v17 y15, aMat 34 3 v13 vs14 y9.1, aInts 3 v7 y5, aInts 3 v3 y1]) 4 ?_ ?_
      · intro K; rcases Bool.eq_false_or_eq_true (!y29) with hg33 | hg33
        · have hm := condT hg33 hb32
          refine wls hs rfl hg33 rfl ?_; intro a hs
          refine wls hs rfl hg33 rfl ?_; intro a hs
          refine wls hs rfl hg33 rfl ?_; intro a hs
          have hm : some true = some b31 := hm
          cases Option.some.inj hm
          refine wl hs (y_pickT hs rfl hg33 rfl) rfl ?_; intro a hs
          exact K _ _ (hs.sub ⟨rfl, rfl, rfl, rfl, rfl, rfl, rfl, rfl, rfl, trivial⟩) hM
        · have hm := condF hg33 hb32
          refine wlg hs rfl hg33 (y_move hs rfl) rfl ?_; intro a hs
          refine wlg hs rfl hg33 (y_move hs rfl) rfl ?_; intro a hs
          refine wlg hs rfl hg33 (y_neqB hu_bool hs rfl rfl) rfl ?_; intro a hs
          have hm : some (y23.2 != y9.2) = some b31 := hm
          cases Option.some.inj hm
          refine wl hs (y_pickF hs rfl hg33 rfl) rfl ?_; intro a hs
          exact K _ _ (hs.sub ⟨rfl, rfl, rfl, rfl, rfl, rfl, rfl, rfl, rfl, trivial⟩) hM
      intro a w hs hM
      simp only [List.drop_succ_cons, List.drop_zero]
      refine wpList_nil ?_
      refine x_nt ?_
      refine x_cond hs rfl (fun hb => ?_) (fun hb => ?_)
      · replace hm := condT hb hm
        refine wp_seq ?_
        refine wp_region_lit ?_
        refine wl hs (y_assign hs rfl) rfl ?_; intro a hs
        refine wpList_nil ?_
        refine x_nt ?_
        refine wp_ret ?_
        refine x_rt ?_
        have hm : some false = some r := hm
        obtain rfl := Option.some.inj hm
        refine x_ret1 rfl hs rfl ⟨_, rfl, ?_⟩
        exact ⟨rfl, hM.none_⟩
      · replace hm := condF hb hm
        refine wp_skip ?_
        refine x_nt ?_
        refine wp_seq ?_
        refine wp_seq ?_
        refine wp_region_lit ?_
        refine wl hs (y_move hs rfl) rfl ?_; intro a hs
        refine wl hs (y_move hs rfl) rfl ?_; intro a hs
        obtain ⟨y34, h35, hm⟩ := bindE hm
        refine wcall is_28 hs rfl rfl (laws_toIntS_any v_p0 p0 _ (RdI.below hr_p0 hM.bel) h35) ?_; rintro a v36 w hs hX
        have hM : Mem W w [aInts 3 v36 y34, aMat 34 3 v27 vs28 y23.1, aInts 3 v21 y19, aInts 3 v17 y15, aMat 34 3 v13 vs14 y9.1, aInts 3 v7 y5, aInts 3 v3 y1] := hM.call hX
        obtain ⟨y38, h39, hm⟩ := bindE hm
        refine wcall is_30 hs rfl rfl (laws_eqIntS_any v17 y15 v36 y34 _ (hM.rdI 3 rfl) (hM.rdI 0 rfl) h39) ?_; rintro a _ w hs ⟨rfl, hX⟩
        have hM : Mem W w [aInts 3 v36 y34, aMat 34 3 v27 vs28 y23.1, aInts 3 v21 y19, aInts 3 v17 y15, aMat 34 3 v13 vs14 y9.1, aInts 3 v7 y5, aInts 3 v3 y1] := hM.call hX
        refine wl hs (y_not hs rfl) rfl ?_; intro a hs
        refine wpList_nil ?_
        refine x_nt ?_
        refine x_cond hs rfl (fun hb => ?_) (fun hb => ?_)
        · replace hm := condT hb hm
          refine wp_seq ?_
          refine wp_region_lit ?_
          refine wl hs (y_assign hs rfl) rfl ?_; intro a hs
          refine wpList_nil ?_
          refine x_nt ?_
          refine wp_ret ?_
          refine x_rt ?_
          have hm : some false = some r := hm
          obtain rfl := Option.some.inj hm
          refine x_ret1 rfl hs rfl ⟨_, rfl, ?_⟩
          exact ⟨rfl, hM.none_⟩
        · replace hm := condF hb hm
          refine wp_skip ?_
          refine x_nt ?_
          refine wp_seq ?_
          refine wp_seq ?_
          refine wp_region_lit ?_
          refine wl hs (y_move hs rfl) rfl ?_; intro a hs
          refine wl hs (y_move hs rfl) rfl ?_; intro a hs
          obtain ⟨y40, h41, hm⟩ := bindE hm
          refine wcall is_28 hs rfl rfl (laws_toIntS_any v_p1 p1 _ (RdI.below hr_p1 hM.bel) h41) ?_; rintro a v42 w hs hX
          have hM : Mem W w [aInts 3 v42 y40, aInts 3 v36 y34, aMat 34 3 v27 vs28 y23.1, aInts 3 v21 y19, aInts 3 v17 y15, aMat 34 3 v13 vs14 y9.1, aInts 3 v7 y5, aInts 3 v3 y1] := hM.call hX
          obtain ⟨y44, h45, hm⟩ := bindE hm
          refine wcall is_30 hs rfl rfl (laws_eqIntS_any v21 y19 v42 y40 _ (hM.rdI 3 rfl) (hM.rdI 0 rfl) h45) ?_; rintro a _ w hs ⟨rfl, hX⟩
          have hM : Mem W w [aInts 3 v42 y40, aInts 3 v36 y34, aMat 34 3 v27 vs28 y23.1, aInts 3 v21 y19, aInts 3 v17 y15, aMat 34 3 v13 vs14 y9.1, aInts 3 v7 y5, aInts 3 v3 y1] := hM.call hX
          refine wl hs (y_not hs rfl) rfl ?_; intro a hs
          refine wpList_nil ?_
          refine x_nt ?_
          refine x_cond hs rfl (fun hb => ?_) (fun hb => ?_)
          · replace hm := condT hb hm
            refine wp_seq ?_
            refine wp_region_lit ?_
            refine wl hs (y_assign hs rfl) rfl ?_; intro a hs
            refine wpList_nil ?_
            refine x_nt ?_
            refine wp_ret ?_
            refine x_rt ?_
            have hm : some false = some r := hm
            obtain rfl := Option.some.inj hm
            refine x_ret1 rfl hs rfl ⟨_, rfl, ?_⟩
            exact ⟨rfl, hM.none_⟩
          · replace hm := condF hb hm
            refine wp_skip ?_
            refine x_nt ?_
            refine wp_seq ?_
            refine wp_region_lit ?_
            refine wl hs (y_assign hs rfl) rfl ?_; intro a hs
            refine wpList_nil ?_
            refine x_nt ?_
            refine wp_seq ?_
            refine wp_region_lit ?_
            refine wl hs (y_move hs rfl) rfl ?_; intro a hs
            refine wl hs (y_move hs rfl) rfl ?_; intro a hs
            obtain ⟨y46, h47, hm⟩ := bindE hm
            have hM : Mem W w [aInts 3 v17 y15, aInts 3 v42 y40, aInts 3 v36 y34, aMat 34 3 v27 vs28 y23.1, aInts 3 v21 y19, aMat 34 3 v13 vs14 y9.1, aInts 3 v7 y5, aInts 3 v3 y1] := ((((((((hM.front 7 rfl).front 7 rfl).front 7 rfl).front 6 rfl).front 6 rfl).front 6 rfl).front 6 rfl).front 7 rfl)
            refine wcall is_41 hs rfl rfl (laws_markIntS_any v17 y15 1 _ _ _  hM h47) ?_; rintro a _ w hs ⟨rfl, hM⟩
            have hM : Mem W w [aInts 3 v17 y46.2, aInts 3 v42 y40, aInts 3 v36 y34, aMat 34 3 v27 vs28 y23.1, aInts 3 v21 y19, aMat 34 3 v13 vs14 y9.1, aInts 3 v7 y5, aInts 3 v3 y1] := hM
            refine wl hs (y_assign hs rfl) rfl ?_; intro a hs
            refine wpList_nil ?_
            refine x_nt ?_
            refine wp_seq ?_
            refine wp_region_lit ?_
            refine wl hs (y_move hs rfl) rfl ?_; intro a hs
            refine wl hs (y_move hs rfl) rfl ?_; intro a hs
            obtain ⟨y48, h49, hm⟩ := bindE hm
            have hM : Mem W w [aInts 3 v21 y19, aInts 3 v17 y46.2, aInts 3 v42 y40, aInts 3 v36 y34, aMat 34 3 v27 vs28 y23.1, aMat 34 3 v13 vs14 y9.1, aInts 3 v7 y5, aInts 3 v3 y1] := ((((((((hM.front 7 rfl).front 7 rfl).front 7 rfl).front 6 rfl).front 6 rfl).front 6 rfl).front 6 rfl).front 7 rfl)
            refine wcall is_41 hs rfl rfl (laws_markIntS_any v21 y19 y46.1 _ _ _  hM h49) ?_; rintro a _ w hs ⟨rfl, hM⟩
            have hM : Mem W w [aInts 3 v21 y48.2, aInts 3 v17 y46.2, aInts 3 v42 y40, aInts 3 v36 y34, aMat 34 3 v27 vs28 y23.1, aMat 34 3 v13 vs14 y9.1, aInts 3 v7 y5, aInts 3 v3 y1] := hM
            refine wl hs (y_assign hs rfl) rfl ?_; intro a hs
            refine wpList_nil ?_
            refine x_nt ?_
            refine wp_seq ?_
            refine wp_seq ?_
            refine wp_region_lit ?_
            refine wl hs (y_move hs rfl) rfl ?_; intro a hs
            refine wl hs (y_lss hs rfl rfl) rfl ?_; intro a hs
            refine wl hs (y_move hs rfl) rfl ?_; intro a hs
            obtain ⟨b50, hb51, hm⟩ := bindE hm
            refine wlguard (N := 114) (L' := [(72, .bool b50), (0, v_p0), (1, v_p1), (5, v13), (6, .bool y9.2), (9, v27), (10, .bool y23.2)]) (fun w => Mem W w [aInts 3 v21 y48.2, aInts 3 v17 y46.2, aInts 3 v42 y40, aInts 3 v36 y34, aMat 34 3 v27 vs28 y23.1, aMat 34 3 v13 vs14 y9.1, aInts 3 v7 y5, aInts 3 v3 y1]) 5 ?_ ?_
            · intro K; rcases Bool.eq_false_or_eq_true (decide (y48.1 < 0)) with hg52 | hg52
              · have hm := condT hg52 hb51
                refine wls hs rfl hg52 rfl ?_; intro a hs
                refine wls hs rfl hg52 rfl ?_; intro a hs
                refine wls hs rfl hg52 rfl ?_; intro a hs
                refine wls hs rfl hg52 rfl ?_; intro a hs
                have hm : some true = some b50 := hm
                cases Option.some.inj hm
                refine wl hs (y_pickT hs rfl hg52 rfl) rfl ?_; intro a hs
                exact K _ _ (hs.sub ⟨rfl, rfl, rfl, rfl, rfl, rfl, rfl, trivial⟩) hM
              · have hm := condF hg52 hb51
                refine wlg hs rfl hg52 (y_move hs rfl) rfl ?_; intro a hs
                refine wlg hs rfl hg52 (y_move hs rfl) rfl ?_; intro a hs
                obtain ⟨y53, h54, hm⟩ := bindE hm
                refine wcallg is_16 hs rfl hg52 rfl rfl (laws_eqIntSS_any v27 y23.1 v13 y9.1 _ (hM.rdM 4 rfl) (hM.rdM 5 rfl) h54) ?_; rintro a _ w hs ⟨rfl, hX⟩
                have hM : Mem W w [aInts 3 v21 y48.2, aInts 3 v17 y46.2, aInts 3 v42 y40, aInts 3 v36 y34, aMat 34 3 v27 vs28 y23.1, aMat 34 3 v13 vs14 y9.1, aInts 3 v7 y5, aInts 3 v3 y1] := hM.call hX
                refine wlg hs rfl hg52 (y_not hs rfl) rfl ?_; intro a hs
                have hm : some (!y53) = some b50 := hm
                cases Option.some.inj hm
                refine wl hs (y_pickF hs rfl hg52 rfl) rfl ?_; intro a hs
                exact K _ _ (hs.sub ⟨rfl, rfl, rfl, rfl, rfl, rfl, rfl, trivial⟩) hM
            intro a w hs hM
            simp only [List.drop_succ_cons, List.drop_zero]
            refine wl hs (y_move hs rfl) rfl ?_; intro a hs
            obtain ⟨b55, hb56, hm⟩ := bindE hm
            refine wlguard (N := 114) (L' := [(77, .bool b55), (0, v_p0), (1, v_p1), (5, v13), (6, .bool y9.2), (9, v27)]) (fun w => Mem W w [aInts 3 v21 y48.2, aInts 3 v17 y46.2, aInts 3 v42 y40, aInts 3 v36 y34, aMat 34 3 v27 vs28 y23.1, aMat 34 3 v13 vs14 y9.1, aInts 3 v7 y5, aInts 3 v3 y1]) 4 ?_ ?_
            · intro K; rcases Bool.eq_false_or_eq_true b50 with hg57 | hg57
              · have hm := condT hg57 hb56
                refine wls hs rfl hg57 rfl ?_; intro a hs
                refine wls hs rfl hg57 rfl ?_; intro a hs
                refine wls hs rfl hg57 rfl ?_; intro a hs
                have hm : some true = some b55 := hm
                cases Option.some.inj hm
                refine wl hs (y_pickT hs rfl hg57 rfl) rfl ?_; intro a hs
                exact K _ _ (hs.sub ⟨rfl, rfl, rfl, rfl, rfl, rfl, trivial⟩) hM
              · have hm := condF hg57 hb56
                refine wlg hs rfl hg57 (y_move hs rfl) rfl ?_; intro a hs
                refine wlg hs rfl hg57 (y_move hs rfl) rfl ?_; intro a hs
                refine wlg hs rfl hg57 (y_neqB hu_bool hs rfl rfl) rfl ?_; intro a hs
                have hm : some (y23.2 != y9.2) = some b55 := hm
                cases Option.some.inj hm
                refine wl hs (y_pickF hs rfl hg57 rfl) rfl ?_; intro a hs
                exact K _ _ (hs.sub ⟨rfl, rfl, rfl, rfl, rfl, rfl, trivial⟩) hM
            intro a w hs hM
            simp only [List.drop_succ_cons, List.drop_zero]
            refine wpList_nil ?_
            refine x_nt ?_
            refine x_cond hs rfl (fun hb => ?_) (fun hb => ?_)
            · replace hm := condT hb hm
              refine wp_seq ?_
              refine wp_region_lit ?_
              refine wl hs (y_assign hs rfl) rfl ?_; intro a hs
              refine wpList_nil ?_
              refine x_nt ?_
              refine wp_ret ?_
              refine x_rt ?_
              have hm : some false = some r := hm
              obtain rfl := Option.some.inj hm
              refine x_ret1 rfl hs rfl ⟨_, rfl, ?_⟩
              exact ⟨rfl, hM.none_⟩
            · replace hm := condF hb hm
              refine wp_skip ?_
              refine x_nt ?_
              refine wp_seq ?_
              refine wp_region_lit ?_
              refine wl hs (y_assign hs rfl) rfl ?_; intro a hs
              refine wpList_nil ?_
              refine x_nt ?_
              refine wp_seq ?_
              refine wp_region_lit ?_
              refine wl hs (y_move hs rfl) rfl ?_; intro a hs
              refine wl hs (y_move hs rfl) rfl ?_; intro a hs
              obtain ⟨y58, h59, hm⟩ := bindE hm
              have hM : Mem W w [aMat 34 3 v27 vs28 y23.1, aInts 3 v21 y48.2, aInts 3 v17 y46.2, aInts 3 v42 y40, aInts 3 v36 y34, aMat 34 3 v13 vs14 y9.1, aInts 3 v7 y5, aInts 3 v3 y1] := ((((((((hM.front 7 rfl).front 7 rfl).front 7 rfl).front 6 rfl).front 6 rfl).front 6 rfl).front 6 rfl).front 7 rfl)
              refine wcall is_17 hs rfl rfl (laws_markIntSS_any v27 y23.1 _ 1 _ _ _  hM h59) ?_; rintro a _ w hs ⟨vs60, rfl, hM⟩
              have hM : Mem W w [aMat 34 3 v27 vs60 y58.2, aInts 3 v21 y48.2, aInts 3 v17 y46.2, aInts 3 v42 y40, aInts 3 v36 y34, aMat 34 3 v13 vs14 y9.1, aInts 3 v7 y5, aInts 3 v3 y1] := hM
              refine wl hs (y_assign hs rfl) rfl ?_; intro a hs
              refine wpList_nil ?_
              refine x_nt ?_
              refine wp_seq ?_
              refine wp_region_lit ?_
              refine wl hs (y_assign hs rfl) rfl ?_; intro a hs
              refine wpList_nil ?_
              refine x_nt ?_
              refine wp_seq ?_
              refine wp_region_lit ?_
              refine wl hs (y_move hs rfl) rfl ?_; intro a hs
              refine wl hs (y_move hs rfl) rfl ?_; intro a hs
              obtain ⟨y61, h62, hm⟩ := bindE hm
              refine wcall is_18 hs rfl rfl (laws_heldIntSS_any v27 y58.2 1 _ (hM.rdM 0 rfl) h62) ?_; rintro a _ w hs ⟨rfl, hX⟩
              have hM : Mem W w [aMat 34 3 v27 vs60 y58.2, aInts 3 v21 y48.2, aInts 3 v17 y46.2, aInts 3 v42 y40, aInts 3 v36 y34, aMat 34 3 v13 vs14 y9.1, aInts 3 v7 y5, aInts 3 v3 y1] := hM.call hX
              refine wl hs (y_assign hs rfl) rfl ?_; intro a hs
              refine wpList_nil ?_
              refine x_nt ?_
              refine wp_seq ?_
              refine wp_seq ?_
              refine wp_region_lit ?_
              refine wl hs (y_move hs rfl) rfl ?_; intro a hs
              refine wl hs (y_lss hs rfl rfl) rfl ?_; intro a hs
              refine wpList_nil ?_
              refine x_nt ?_
              refine x_cond hs rfl (fun hb => ?_) (fun hb => ?_)
              · replace hm := condT hb hm
                refine wp_seq ?_
                refine wp_region_lit ?_
                refine wl hs (y_assign hs rfl) rfl ?_; intro a hs
                refine wpList_nil ?_
                refine x_nt ?_
                refine wp_ret ?_
                refine x_rt ?_
                have hm : some false = some r := hm
                obtain rfl := Option.some.inj hm
                refine x_ret1 rfl hs rfl ⟨_, rfl, ?_⟩
                exact ⟨rfl, hM.none_⟩
              · replace hm := condF hb hm
                refine wp_skip ?_
                refine x_nt ?_
                refine wp_seq ?_
                refine wp_seq ?_
                refine wp_region_lit ?_
                refine wl hs (y_move hs rfl) rfl ?_; intro a hs
                refine wl hs (y_move hs rfl) rfl ?_; intro a hs
                refine wl hs (y_neq hs rfl rfl) rfl ?_; intro a hs
                refine wpList_nil ?_
                refine x_nt ?_
                refine x_cond hs rfl (fun hb => ?_) (fun hb => ?_)
                · replace hm := condT hb hm
                  refine wp_seq ?_
                  refine wp_region_lit ?_
                  refine wl hs (y_assign hs rfl) rfl ?_; intro a hs
                  refine wpList_nil ?_
                  refine x_nt ?_
                  refine wp_ret ?_
                  refine x_rt ?_
                  have hm : some false = some r := hm
                  obtain rfl := Option.some.inj hm
                  refine x_ret1 rfl hs rfl ⟨_, rfl, ?_⟩
                  exact ⟨rfl, hM.none_⟩
                · replace hm := condF hb hm
                  refine wp_skip ?_
                  refine x_nt ?_
                  refine wp_seq ?_
                  refine wp_region_lit ?_
                  refine wl hs (y_move hs rfl) rfl ?_; intro a hs
                  obtain ⟨y63, h64, hm⟩ := bindE hm
                  refine wcall is_28 hs rfl rfl (laws_toIntS_any v_p0 p0 _ (RdI.below hr_p0 hM.bel) h64) ?_; rintro a v65 w hs hX
                  have hM : Mem W w [aInts 3 v65 y63, aMat 34 3 v27 vs60 y58.2, aInts 3 v21 y48.2, aInts 3 v17 y46.2, aInts 3 v42 y40, aInts 3 v36 y34, aMat 34 3 v13 vs14 y9.1, aInts 3 v7 y5, aInts 3 v3 y1] := hM.call hX
                  refine wl hs (y_move hs rfl) rfl ?_; intro a hs
                  obtain ⟨y67, h68, hm⟩ := bindE hm
                  refine wcall is_28 hs rfl rfl (laws_toIntS_any v_p1 p1 _ (RdI.below hr_p1 hM.bel) h68) ?_; rintro a v69 w hs hX
                  have hM : Mem W w [aInts 3 v69 y67, aInts 3 v65 y63, aMat 34 3 v27 vs60 y58.2, aInts 3 v21 y48.2, aInts 3 v17 y46.2, aInts 3 v42 y40, aInts 3 v36 y34, aMat 34 3 v13 vs14 y9.1, aInts 3 v7 y5, aInts 3 v3 y1] := hM.call hX
                  obtain ⟨y71, h72, hm⟩ := bindE hm
                  refine wcall is_40 hs rfl rfl (impl_OuterProduct_any v65 y63 v69 y67 _ (hM.rdI 1 rfl) (hM.rdI 0 rfl) h72) ?_; rintro a _ w hs ⟨v75, vs76, rfl, hX⟩
                  have hM : Mem W w [aMat 34 3 v75 vs76 y71.1, aInts 3 v69 y67, aInts 3 v65 y63, aMat 34 3 v27 vs60 y58.2, aInts 3 v21 y48.2, aInts 3 v17 y46.2, aInts 3 v42 y40, aInts 3 v36 y34, aMat 34 3 v13 vs14 y9.1, aInts 3 v7 y5, aInts 3 v3 y1] := hM.call hX
                  refine wl hs (y_move hs rfl) rfl ?_; intro a hs
                  refine wl hs (y_extract hs rfl rfl) rfl ?_; intro a hs
                  refine wl hs (y_extract hs rfl rfl) rfl ?_; intro a hs
                  refine wl hs (y_assign hs rfl) rfl ?_; intro a hs
                  refine wl hs (y_assign hs rfl) rfl ?_; intro a hs
                  refine wpList_nil ?_
                  refine x_nt ?_
                  refine wp_seq ?_
                  refine wp_seq ?_
                  refine wp_region_lit ?_
                  refine wl hs (y_move hs rfl) rfl ?_; intro a hs
                  refine wl hs (y_move hs rfl) rfl ?_; intro a hs
                  obtain ⟨y77, h78, hm⟩ := bindE hm
                  refine wcall is_16 hs rfl rfl (laws_eqIntSS_any v75 y71.1 v13 y9.1 _ (hM.rdM 0 rfl) (hM.rdM 8 rfl) h78) ?_; rintro a _ w hs ⟨rfl, hX⟩
                  have hM : Mem W w [aMat 34 3 v75 vs76 y71.1, aInts 3 v69 y67, aInts 3 v65 y63, aMat 34 3 v27 vs60 y58.2, aInts 3 v21 y48.2, aInts 3 v17 y46.2, aInts 3 v42 y40, aInts 3 v36 y34, aMat 34 3 v13 vs14 y9.1, aInts 3 v7 y5, aInts 3 v3 y1] := hM.call hX
                  refine wl hs (y_not hs rfl) rfl ?_; intro a hs
                  refine wl hs (y_move hs rfl) rfl ?_; intro a hs
                  obtain ⟨b79, hb80, hm⟩ := bindE hm
                  refine wlguard (N := 114) (L' := [(105, .bool b79), (9, v27), (12, .int .i64 y58.1)]) (fun w => Mem W w [aMat 34 3 v75 vs76 y71.1, aInts 3 v69 y67, aInts 3 v65 y63, aMat 34 3 v27 vs60 y58.2, aInts 3 v21 y48.2, aInts 3 v17 y46.2, aInts 3 v42 y40, aInts 3 v36 y34, aMat 34 3 v13 vs14 y9.1, aInts 3 v7 y5, aInts 3 v3 y1]) 4 ?_ ?_
                  · intro K; rcases Bool.eq_false_or_eq_true (!y77) with hg81 | hg81
                    · have hm := condT hg81 hb80
                      refine wls hs rfl hg81 rfl ?_; intro a hs
                      refine wls hs rfl hg81 rfl ?_; intro a hs
                      refine wls hs rfl hg81 rfl ?_; intro a hs
                      have hm : some true = some b79 := hm
                      cases Option.some.inj hm
                      refine wl hs (y_pickT hs rfl hg81 rfl) rfl ?_; intro a hs
                      exact K _ _ (hs.sub ⟨rfl, rfl, rfl, trivial⟩) hM
                    · have hm := condF hg81 hb80
                      refine wlg hs rfl hg81 (y_move hs rfl) rfl ?_; intro a hs
                      refine wlg hs rfl hg81 (y_move hs rfl) rfl ?_; intro a hs
                      refine wlg hs rfl hg81 (y_neqB hu_bool hs rfl rfl) rfl ?_; intro a hs
                      have hm : some (y71.2 != y9.2) = some b79 := hm
                      cases Option.some.inj hm
                      refine wl hs (y_pickF hs rfl hg81 rfl) rfl ?_; intro a hs
                      exact K _ _ (hs.sub ⟨rfl, rfl, rfl, trivial⟩) hM
                  intro a w hs hM
                  simp only [List.drop_succ_cons, List.drop_zero]
                  refine wpList_nil ?_
                  refine x_nt ?_
                  refine x_cond hs rfl (fun hb => ?_) (fun hb => ?_)
                  · replace hm := condT hb hm
                    refine wp_seq ?_
                    refine wp_region_lit ?_
                    refine wl hs (y_assign hs rfl) rfl ?_; intro a hs
                    refine wpList_nil ?_
                    refine x_nt ?_
                    refine wp_ret ?_
                    refine x_rt ?_
                    have hm : some false = some r := hm
                    obtain rfl := Option.some.inj hm
                    refine x_ret1 rfl hs rfl ⟨_, rfl, ?_⟩
                    exact ⟨rfl, hM.none_⟩
                  · replace hm := condF hb hm
                    refine wp_skip ?_
                    refine x_nt ?_
                    refine wp_seq ?_
                    refine wp_region_lit ?_
                    refine wl hs (y_assign hs rfl) rfl ?_; intro a hs
                    refine wpList_nil ?_
                    refine x_nt ?_
                    refine wp_seq ?_
                    refine wp_region_lit ?_
                    refine wl hs (y_move hs rfl) rfl ?_; intro a hs
                    refine wl hs (y_move hs rfl) rfl ?_; intro a hs
                    obtain ⟨y82, h83, hm⟩ := bindE hm
                    refine wcall is_18 hs rfl rfl (laws_heldIntSS_any v27 y58.2 1 _ (hM.rdM 3 rfl) h83) ?_; rintro a _ w hs ⟨rfl, hX⟩
                    have hM : Mem W w [aMat 34 3 v75 vs76 y71.1, aInts 3 v69 y67, aInts 3 v65 y63, aMat 34 3 v27 vs60 y58.2, aInts 3 v21 y48.2, aInts 3 v17 y46.2, aInts 3 v42 y40, aInts 3 v36 y34, aMat 34 3 v13 vs14 y9.1, aInts 3 v7 y5, aInts 3 v3 y1] := hM.call hX
                    refine wl hs (y_assign hs rfl) rfl ?_; intro a hs
                    refine wpList_nil ?_
                    refine x_nt ?_
                    refine wp_seq ?_
                    refine wp_seq ?_
                    refine wp_region_lit ?_
                    refine wl hs (y_move hs rfl) rfl ?_; intro a hs
                    refine wl hs (y_lss hs rfl rfl) rfl ?_; intro a hs
                    refine wpList_nil ?_
                    refine x_nt ?_
                    refine x_cond hs rfl (fun hb => ?_) (fun hb => ?_)
                    · replace hm := condT hb hm
                      refine wp_seq ?_
                      refine wp_region_lit ?_
                      refine wl hs (y_assign hs rfl) rfl ?_; intro a hs
                      refine wpList_nil ?_
                      refine x_nt ?_
                      refine wp_ret ?_
                      refine x_rt ?_
                      have hm : some false = some r := hm
                      obtain rfl := Option.some.inj hm
                      refine x_ret1 rfl hs rfl ⟨_, rfl, ?_⟩
                      exact ⟨rfl, hM.none_⟩
                    · replace hm := condF hb hm
                      refine wp_skip ?_
                      refine x_nt ?_
                      refine wp_seq ?_
                      refine wp_seq ?_
                      refine wp_region_lit ?_
                      refine wl hs (y_move hs rfl) rfl ?_; intro a hs
                      refine wl hs (y_move hs rfl) rfl ?_; intro a hs
                      refine wl hs (y_neq hs rfl rfl) rfl ?_; intro a hs
                      refine wpList_nil ?_
                      refine x_nt ?_
                      refine x_cond hs rfl (fun hb => ?_) (fun hb => ?_)
                      · replace hm := condT hb hm
                        refine wp_seq ?_
                        refine wp_region_lit ?_
                        refine wl hs (y_assign hs rfl) rfl ?_; intro a hs
                        refine wpList_nil ?_
                        refine x_nt ?_
                        refine wp_ret ?_
                        refine x_rt ?_
                        have hm : some false = some r := hm
                        obtain rfl := Option.some.inj hm
                        refine x_ret1 rfl hs rfl ⟨_, rfl, ?_⟩
                        exact ⟨rfl, hM.none_⟩
                      · replace hm := condF hb hm
                        refine wp_skip ?_
                        refine x_nt ?_
                        refine wp_seq ?_
                        refine wp_region_lit ?_
                        refine wl hs (y_assign hs rfl) rfl ?_; intro a hs
                        refine wpList_nil ?_
                        refine x_nt ?_
                        refine wp_ret ?_
                        have hm : some true = some r := hm
                        obtain rfl := Option.some.inj hm
                        refine x_ret1 rfl hs rfl ⟨_, rfl, ?_⟩
                        exact ⟨rfl, hM.none_⟩

end Go.Proofs.Ytefjnpdpeablpaa
