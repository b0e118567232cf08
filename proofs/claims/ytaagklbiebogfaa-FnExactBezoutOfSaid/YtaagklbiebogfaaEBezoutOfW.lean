/- The code of this unit computes what its mirrors say. Written by program (wip/gen). -/
import Derived.Test.YtaagklbiebogfaaFacts
import Derived.Test.YtaagklbiebogfaaEBezoutOfM
import Derived.Test.YtaagklbiebogfaaLryW
import Derived.Test.YtaagklbiebogfaaRay1W
namespace Go.Proofs.Ytaagklbiebogfaa
open Go.RowKit
set_option linter.unusedVariables false

set_option maxHeartbeats 4000000 in
theorem laws_FnExactBezoutOf_any (v_p0 : Value) (p0 : List Y3) (v_p1 : Value) (p1 : List Y3) (W : World) (hr_p0 : RdY W v_p0 p0) (hr_p1 : RdY W v_p1 p1) {r : Bool} (hm : laws_FnExactBezoutOf_m p0 p1 = some r) : Calls Try.prog 11 [v_p0, v_p1].toArray W fun e w => ∃ v, e = .returned v ∧ v = .bool r ∧ Mem W w [] := by
  refine x_enter Try.func11 rfl Try.ntmps11 rfl ?_
  intro a hs
  have hM := Mem.start W
  unfold laws_FnExactBezoutOf_m at hm
  refine wp_seq ?_
  refine wp_region_lit ?_
  refine wl hs (y_assign hs rfl) rfl ?_; intro a hs
  refine wpList_nil ?_
  refine x_nt ?_
  refine wp_seq ?_
  refine wp_region_lit ?_
  refine wl hs (y_assign hs rfl) rfl ?_; intro a hs
  refine wpList_nil ?_
  refine x_nt ?_
  refine wp_seq ?_
  refine wp_region_lit ?_
  refine wl hs (y_move hs rfl) rfl ?_; intro a hs
  refine wl hs (y_move hs rfl) rfl ?_; intro a hs
  obtain ⟨y1, h2, hm⟩ := bindE hm
  refine wcall is_40 hs rfl rfl (laws_szRayS_any v_p0 p0 1048576 _ (RdY.below hr_p0 hM.bel) h2) ?_; rintro a _ w hs ⟨rfl, hX⟩
  have hM : Mem W w [] := hM.call hX
  refine wl hs (y_assign hs rfl) rfl ?_; intro a hs
  refine wpList_nil ?_
  refine x_nt ?_
  refine wp_seq ?_
  refine wp_seq ?_
  refine wp_region_lit ?_
  refine wl hs (y_move hs rfl) rfl ?_; intro a hs
  refine wl hs (y_lss hs rfl rfl) rfl ?_; intro a hs
  refine wpList_nil ?_
  refine x_nt ?_
  refine x_cond hs rfl (fun hb => ?_) (fun hb => ?_)
  · replace hm := condT hb hm
    refine wp_seq ?_
    refine wp_region_lit ?_
    refine wl hs (y_assign hs rfl) rfl ?_; intro a hs
    refine wpList_nil ?_
    refine x_nt ?_
    refine wp_ret ?_
    refine x_rt ?_
    have hm : some true = some r := hm
    obtain rfl := Option.some.inj hm
    refine x_ret1 rfl hs rfl ⟨_, rfl, ?_⟩
    exact ⟨rfl, hM⟩
  · replace hm := condF hb hm
    refine wp_skip ?_
    refine x_nt ?_
    refine wp_seq ?_
    refine wp_region_lit ?_
    refine wl hs (y_move hs rfl) rfl ?_; intro a hs
    refine wl hs (y_move hs rfl) rfl ?_; intro a hs
    obtain ⟨y3, h4, hm⟩ := bindE hm
    refine wcall is_40 hs rfl rfl (laws_szRayS_any v_p1 p1 y1 _ (RdY.below hr_p1 hM.bel) h4) ?_; rintro a _ w hs ⟨rfl, hX⟩
    have hM : Mem W w [] := hM.call hX
    refine wl hs (y_assign hs rfl) rfl ?_; intro a hs
    refine wpList_nil ?_
    refine x_nt ?_
    refine wp_seq ?_
    refine wp_seq ?_
    refine wp_region_lit ?_
    refine wl hs (y_move hs rfl) rfl ?_; intro a hs
    refine wl hs (y_lss hs rfl rfl) rfl ?_; intro a hs
    refine wpList_nil ?_
    refine x_nt ?_
    refine x_cond hs rfl (fun hb => ?_) (fun hb => ?_)
    · replace hm := condT hb hm
      refine wp_seq ?_
      refine wp_region_lit ?_
      refine wl hs (y_assign hs rfl) rfl ?_; intro a hs
      refine wpList_nil ?_
      refine x_nt ?_
      refine wp_ret ?_
      refine x_rt ?_
      have hm : some true = some r := hm
      obtain rfl := Option.some.inj hm
      refine x_ret1 rfl hs rfl ⟨_, rfl, ?_⟩
      exact ⟨rfl, hM⟩
    · replace hm := condF hb hm
      refine wp_skip ?_
      refine x_nt ?_
      refine wp_seq ?_
      refine wp_region_lit ?_
      refine wl hs (y_move hs rfl) rfl ?_; intro a hs
      obtain ⟨y5, h6, hm⟩ := bindE hm
      refine wcall is_42 hs rfl rfl (laws_toRayS_any v_p0 p0 _ (RdY.below hr_p0 hM.bel) h6) ?_; rintro a v7 w hs hX
      have hM : Mem W w [aYs 82 v7 y5] := hM.call hX
      refine wl hs (y_move hs rfl) rfl ?_; intro a hs
      obtain ⟨y9, h10, hm⟩ := bindE hm
      refine wcall is_42 hs rfl rfl (laws_toRayS_any v_p1 p1 _ (RdY.below hr_p1 hM.bel) h10) ?_; rintro a v11 w hs hX
      have hM : Mem W w [aYs 82 v11 y9, aYs 82 v7 y5] := hM.call hX
      obtain ⟨y13, h14, hm⟩ := bindE hm
      refine wcall is_41 hs rfl rfl (spec_BezoutOf_any v7 y5 v11 y9 _ (hM.rdY 1 rfl) (hM.rdY 0 rfl) h14) ?_; rintro a _ w hs ⟨rfl, hX⟩
      have hM : Mem W w [aYs 82 v11 y9, aYs 82 v7 y5] := hM.call hX
      refine wl hs (y_move hs rfl) rfl ?_; intro a hs
      refine wl hs (y_extract hs rfl rfl) rfl ?_; intro a hs
      refine wl hs (y_extract hs rfl rfl) rfl ?_; intro a hs
      refine wl hs (y_assign hs rfl) rfl ?_; intro a hs
      refine wl hs (y_assign hs rfl) rfl ?_; intro a hs
      refine wpList_nil ?_
      refine x_nt ?_
      refine wp_seq ?_
      refine wp_region_lit ?_
      refine wl hs (y_move hs rfl) rfl ?_; intro a hs
      obtain ⟨y15, h16, hm⟩ := bindE hm
      refine wcall is_42 hs rfl rfl (laws_toRayS_any v_p0 p0 _ (RdY.below hr_p0 hM.bel) h16) ?_; rintro a v17 w hs hX
      have hM : Mem W w [aYs 82 v17 y15, aYs 82 v11 y9, aYs 82 v7 y5] := hM.call hX
      refine wl hs (y_assign hs rfl) rfl ?_; intro a hs
      refine wpList_nil ?_
      refine x_nt ?_
      refine wp_seq ?_
      refine wp_region_lit ?_
      refine wl hs (y_move hs rfl) rfl ?_; intro a hs
      obtain ⟨y19, h20, hm⟩ := bindE hm
      refine wcall is_42 hs rfl rfl (laws_toRayS_any v_p1 p1 _ (RdY.below hr_p1 hM.bel) h20) ?_; rintro a v21 w hs hX
      have hM : Mem W w [aYs 82 v21 y19, aYs 82 v17 y15, aYs 82 v11 y9, aYs 82 v7 y5] := hM.call hX
      refine wl hs (y_assign hs rfl) rfl ?_; intro a hs
      refine wpList_nil ?_
      refine x_nt ?_
      refine wp_seq ?_
      refine wp_region_lit ?_
      refine wl hs (y_move hs rfl) rfl ?_; intro a hs
      refine wl hs (y_move hs rfl) rfl ?_; intro a hs
      obtain ⟨y23, h24, hm⟩ := bindE hm
      refine wcall is_43 hs rfl rfl (impl_BezoutOf_any v17 y15 v21 y19 _ (hM.rdY 1 rfl) (hM.rdY 0 rfl) h24) ?_; rintro a _ w hs ⟨rfl, hX⟩
      have hM : Mem W w [aYs 82 v21 y19, aYs 82 v17 y15, aYs 82 v11 y9, aYs 82 v7 y5] := hM.call hX
      refine wl hs (y_move hs rfl) rfl ?_; intro a hs
      refine wl hs (y_extract hs rfl rfl) rfl ?_; intro a hs
      refine wl hs (y_extract hs rfl rfl) rfl ?_; intro a hs
      refine wl hs (y_assign hs rfl) rfl ?_; intro a hs
      refine wl hs (y_assign hs rfl) rfl ?_; intro a hs
      refine wpList_nil ?_
      refine x_nt ?_
      refine wp_seq ?_
      refine wp_seq ?_
      refine wp_region_lit ?_
      refine wl hs (y_move hs rfl) rfl ?_; intro a hs
      refine wl hs (y_move hs rfl) rfl ?_; intro a hs
      refine wl hs (y_neq hs rfl rfl) rfl ?_; intro a hs
      refine wl hs (y_move hs rfl) rfl ?_; intro a hs
      obtain ⟨b25, hb26, hm⟩ := bindE hm
      refine wlguard (N := 58) (L' := [(47, .bool b25), (0, v_p0), (1, v_p1), (8, v17), (9, v21)]) (fun w => Mem W w [aYs 82 v21 y19, aYs 82 v17 y15, aYs 82 v11 y9, aYs 82 v7 y5]) 4 ?_ ?_
      · intro K; rcases Bool.eq_false_or_eq_true (y23.1 != y13.1) with hg27 | hg27
        · have hm := condT hg27 hb26
          refine wls hs rfl hg27 rfl ?_; intro a hs
          refine wls hs rfl hg27 rfl ?_; intro a hs
          refine wls hs rfl hg27 rfl ?_; intro a hs
          have hm : some true = some b25 := hm
          cases Option.some.inj hm
          refine wl hs (y_pickT hs rfl hg27 rfl) rfl ?_; intro a hs
          exact K _ _ (hs.sub ⟨rfl, rfl, rfl, rfl, rfl, trivial⟩) hM
        · have hm := condF hg27 hb26
          refine wlg hs rfl hg27 (y_move hs rfl) rfl ?_; intro a hs
          refine wlg hs rfl hg27 (y_move hs rfl) rfl ?_; intro a hs
          refine wlg hs rfl hg27 (y_neqB hu_bool hs rfl rfl) rfl ?_; intro a hs
          have hm : some (y23.2 != y13.2) = some b25 := hm
          cases Option.some.inj hm
          refine wl hs (y_pickF hs rfl hg27 rfl) rfl ?_; intro a hs
          exact K _ _ (hs.sub ⟨rfl, rfl, rfl, rfl, rfl, trivial⟩) hM
      intro a w hs hM
      simp only [List.drop_succ_cons, List.drop_zero]
      refine wpList_nil ?_
      refine x_nt ?_
      refine x_cond hs rfl (fun hb => ?_) (fun hb => ?_)
      · replace hm := condT hb hm
        refine wp_seq ?_
        refine wp_region_lit ?_
        refine wl hs (y_assign hs rfl) rfl ?_; intro a hs
        refine wpList_nil ?_
        refine x_nt ?_
        refine wp_ret ?_
        refine x_rt ?_
        have hm : some false = some r := hm
        obtain rfl := Option.some.inj hm
        refine x_ret1 rfl hs rfl ⟨_, rfl, ?_⟩
        exact ⟨rfl, hM.none_⟩
      · replace hm := condF hb hm
        refine wp_skip ?_
        refine x_nt ?_
        refine wp_seq ?_
        refine wp_seq ?_
        refine wp_region_lit ?_
        refine wl hs (y_move hs rfl) rfl ?_; intro a hs
        refine wl hs (y_move hs rfl) rfl ?_; intro a hs
        obtain ⟨y28, h29, hm⟩ := bindE hm
        refine wcall is_42 hs rfl rfl (laws_toRayS_any v_p0 p0 _ (RdY.below hr_p0 hM.bel) h29) ?_; rintro a v30 w hs hX
        have hM : Mem W w [aYs 82 v30 y28, aYs 82 v21 y19, aYs 82 v17 y15, aYs 82 v11 y9, aYs 82 v7 y5] := hM.call hX
        obtain ⟨y32, h33, hm⟩ := bindE hm
        refine wcall is_44 hs rfl rfl (laws_eqRayS_any v17 y15 v30 y28 _ (hM.rdY 2 rfl) (hM.rdY 0 rfl) h33) ?_; rintro a _ w hs ⟨rfl, hX⟩
        have hM : Mem W w [aYs 82 v30 y28, aYs 82 v21 y19, aYs 82 v17 y15, aYs 82 v11 y9, aYs 82 v7 y5] := hM.call hX
        refine wl hs (y_not hs rfl) rfl ?_; intro a hs
        refine wpList_nil ?_
        refine x_nt ?_
        refine x_cond hs rfl (fun hb => ?_) (fun hb => ?_)
        · replace hm := condT hb hm
          refine wp_seq ?_
          refine wp_region_lit ?_
          refine wl hs (y_assign hs rfl) rfl ?_; intro a hs
          refine wpList_nil ?_
          refine x_nt ?_
          refine wp_ret ?_
          refine x_rt ?_
          have hm : some false = some r := hm
          obtain rfl := Option.some.inj hm
          refine x_ret1 rfl hs rfl ⟨_, rfl, ?_⟩
          exact ⟨rfl, hM.none_⟩
        · replace hm := condF hb hm
          refine wp_skip ?_
          refine x_nt ?_
          refine wp_seq ?_
          refine wp_seq ?_
          refine wp_region_lit ?_
          refine wl hs (y_move hs rfl) rfl ?_; intro a hs
          refine wl hs (y_move hs rfl) rfl ?_; intro a hs
          obtain ⟨y34, h35, hm⟩ := bindE hm
          refine wcall is_42 hs rfl rfl (laws_toRayS_any v_p1 p1 _ (RdY.below hr_p1 hM.bel) h35) ?_; rintro a v36 w hs hX
          have hM : Mem W w [aYs 82 v36 y34, aYs 82 v30 y28, aYs 82 v21 y19, aYs 82 v17 y15, aYs 82 v11 y9, aYs 82 v7 y5] := hM.call hX
          obtain ⟨y38, h39, hm⟩ := bindE hm
          refine wcall is_44 hs rfl rfl (laws_eqRayS_any v21 y19 v36 y34 _ (hM.rdY 2 rfl) (hM.rdY 0 rfl) h39) ?_; rintro a _ w hs ⟨rfl, hX⟩
          have hM : Mem W w [aYs 82 v36 y34, aYs 82 v30 y28, aYs 82 v21 y19, aYs 82 v17 y15, aYs 82 v11 y9, aYs 82 v7 y5] := hM.call hX
          refine wl hs (y_not hs rfl) rfl ?_; intro a hs
          refine wpList_nil ?_
          refine x_nt ?_
          refine x_cond hs rfl (fun hb => ?_) (fun hb => ?_)
          · replace hm := condT hb hm
            refine wp_seq ?_
            refine wp_region_lit ?_
            refine wl hs (y_assign hs rfl) rfl ?_; intro a hs
            refine wpList_nil ?_
            refine x_nt ?_
            refine wp_ret ?_
            refine x_rt ?_
            have hm : some false = some r := hm
            obtain rfl := Option.some.inj hm
            refine x_ret1 rfl hs rfl ⟨_, rfl, ?_⟩
            exact ⟨rfl, hM.none_⟩
          · replace hm := condF hb hm
            refine wp_skip ?_
            refine x_nt ?_
            refine wp_seq ?_
            refine wp_region_lit ?_
            refine wl hs (y_assign hs rfl) rfl ?_; intro a hs
            refine wpList_nil ?_
            refine x_nt ?_
            refine wp_ret ?_
            have hm : some true = some r := hm
            obtain rfl := Option.some.inj hm
            refine x_ret1 rfl hs rfl ⟨_, rfl, ?_⟩
            exact ⟨rfl, hM.none_⟩

end Go.Proofs.Ytaagklbiebogfaa
