/- The code of this unit computes what its mirrors say. Written by program (wip/gen). -/
import Derived.Test.YtnnhbkhlipekeaaFacts
import Derived.Test.YtnnhbkhlipekeaaECostOfAssignmentM
import Derived.Test.YtnnhbkhlipekeaaNumW
import Derived.Test.YtnnhbkhlipekeaaAs2W
namespace Go.Proofs.Ytnnhbkhlipekeaa
open Go.RowKit
set_option linter.unusedVariables false

theorem laws_FnExactCostOfAssignment_any (v_p0 : Value) (p0 : List (List Int)) (v_p1 : Value) (p1 : List Int) (W : World) (hr_p0 : RdM W v_p0 p0) (hr_p1 : RdI W v_p1 p1) {r : Bool} (hm : laws_FnExactCostOfAssignment_m p0 p1 = some r) : Calls Try.prog 3 [v_p0, v_p1].toArray W fun e w => ∃ v, e = .returned v ∧ v = .bool r ∧ Mem W w [] := by
  refine x_enter Try.func3 rfl Try.ntmps3 rfl ?_
  intro a hs
  have hM := Mem.start W
  unfold laws_FnExactCostOfAssignment_m at hm
  refine wp_seq ?_
  refine wp_region_lit ?_
  refine wl hs (y_assign hs rfl) rfl ?_; intro a hs
  refine wpList_nil ?_
  refine x_nt ?_
  refine wp_seq ?_
  refine wp_seq ?_
  refine wp_region_lit ?_
  refine wl hs (y_move hs rfl) rfl ?_; intro a hs
  refine wl hs (y_len hu_I hs rfl (RdI.below hr_p1 hM.bel)) rfl ?_; intro a hs
  refine wl hs (y_gtr hs rfl rfl) rfl ?_; intro a hs
  refine wpList_nil ?_
  refine x_nt ?_
  refine x_cond hs rfl (fun hb => ?_) (fun hb => ?_)
  · replace hm := condT hb hm
    refine wp_seq ?_
    refine wp_region_lit ?_
    refine wl hs (y_assign hs rfl) rfl ?_; intro a hs
    refine wpList_nil ?_
    refine x_nt ?_
    refine wp_ret ?_
    refine x_rt ?_
    have hm : some true = some r := hm
    obtain rfl := Option.some.inj hm
    refine x_ret1 rfl hs rfl ⟨_, rfl, ?_⟩
    exact ⟨rfl, hM⟩
  · replace hm := condF hb hm
    refine wp_skip ?_
    refine x_nt ?_
    refine wp_seq ?_
    refine wp_region_lit ?_
    refine wl hs (y_assign hs rfl) rfl ?_; intro a hs
    refine wpList_nil ?_
    refine x_nt ?_
    refine wp_seq ?_
    refine wp_region_lit ?_
    refine wl hs (y_move hs rfl) rfl ?_; intro a hs
    refine wl hs (y_move hs rfl) rfl ?_; intro a hs
    obtain ⟨y1, h2, hm⟩ := bindE hm
    refine wcall is_13 hs rfl rfl (laws_szIntSS_any v_p0 p0 1048576 _ (RdM.below hr_p0 hM.bel) h2) ?_; rintro a _ w hs ⟨rfl, hX⟩
    have hM : Mem W w [] := hM.call hX
    refine wl hs (y_assign hs rfl) rfl ?_; intro a hs
    refine wpList_nil ?_
    refine x_nt ?_
    refine wp_seq ?_
    refine wp_seq ?_
    refine wp_region_lit ?_
    refine wl hs (y_move hs rfl) rfl ?_; intro a hs
    refine wl hs (y_lss hs rfl rfl) rfl ?_; intro a hs
    refine wpList_nil ?_
    refine x_nt ?_
    refine x_cond hs rfl (fun hb => ?_) (fun hb => ?_)
    · replace hm := condT hb hm
      refine wp_seq ?_
      refine wp_region_lit ?_
      refine wl hs (y_assign hs rfl) rfl ?_; intro a hs
      refine wpList_nil ?_
      refine x_nt ?_
      refine wp_ret ?_
      refine x_rt ?_
      have hm : some true = some r := hm
      obtain rfl := Option.some.inj hm
      refine x_ret1 rfl hs rfl ⟨_, rfl, ?_⟩
      exact ⟨rfl, hM⟩
    · replace hm := condF hb hm
      refine wp_skip ?_
      refine x_nt ?_
      refine wp_seq ?_
      refine wp_region_lit ?_
      refine wl hs (y_move hs rfl) rfl ?_; intro a hs
      obtain ⟨y3, h4, hm⟩ := bindE hm
      refine wcall is_15 hs rfl rfl (laws_toIntSS_any v_p0 p0 _ (RdM.below hr_p0 hM.bel) h4) ?_; rintro a v5 w hs ⟨vs7, hX⟩
      have hM : Mem W w [aMat 23 3 v5 vs7 y3] := hM.call hX
      refine wl hs (y_move hs rfl) rfl ?_; intro a hs
      obtain ⟨y8, h9, hm⟩ := bindE hm
      refine wcall is_16 hs rfl rfl (laws_toIntS_any v_p1 p1 _ (RdI.below hr_p1 hM.bel) h9) ?_; rintro a v10 w hs hX
      have hM : Mem W w [aInts 3 v10 y8, aMat 23 3 v5 vs7 y3] := hM.call hX
      obtain ⟨y12, h13, hm⟩ := bindE hm
      refine wcall is_14 hs rfl rfl (spec_CostOfAssignment_any v5 y3 v10 y8 _ (hM.rdM 1 rfl) (hM.rdI 0 rfl) h13) ?_; rintro a _ w hs ⟨rfl, hX⟩
      have hM : Mem W w [aInts 3 v10 y8, aMat 23 3 v5 vs7 y3] := hM.call hX
      refine wl hs (y_move hs rfl) rfl ?_; intro a hs
      refine wl hs (y_extract hs rfl rfl) rfl ?_; intro a hs
      refine wl hs (y_extract hs rfl rfl) rfl ?_; intro a hs
      refine wl hs (y_assign hs rfl) rfl ?_; intro a hs
      refine wl hs (y_assign hs rfl) rfl ?_; intro a hs
      refine wpList_nil ?_
      refine x_nt ?_
      refine wp_seq ?_
      refine wp_region_lit ?_
      refine wl hs (y_move hs rfl) rfl ?_; intro a hs
      obtain ⟨y14, h15, hm⟩ := bindE hm
      refine wcall is_15 hs rfl rfl (laws_toIntSS_any v_p0 p0 _ (RdM.below hr_p0 hM.bel) h15) ?_; rintro a v16 w hs ⟨vs18, hX⟩
      have hM : Mem W w [aMat 23 3 v16 vs18 y14, aInts 3 v10 y8, aMat 23 3 v5 vs7 y3] := hM.call hX
      refine wl hs (y_assign hs rfl) rfl ?_; intro a hs
      refine wpList_nil ?_
      refine x_nt ?_
      refine wp_seq ?_
      refine wp_region_lit ?_
      refine wl hs (y_move hs rfl) rfl ?_; intro a hs
      obtain ⟨y19, h20, hm⟩ := bindE hm
      refine wcall is_16 hs rfl rfl (laws_toIntS_any v_p1 p1 _ (RdI.below hr_p1 hM.bel) h20) ?_; rintro a v21 w hs hX
      have hM : Mem W w [aInts 3 v21 y19, aMat 23 3 v16 vs18 y14, aInts 3 v10 y8, aMat 23 3 v5 vs7 y3] := hM.call hX
      refine wl hs (y_assign hs rfl) rfl ?_; intro a hs
      refine wpList_nil ?_
      refine x_nt ?_
      refine wp_seq ?_
      refine wp_region_lit ?_
      refine wl hs (y_move hs rfl) rfl ?_; intro a hs
      refine wl hs (y_move hs rfl) rfl ?_; intro a hs
      obtain ⟨y23, h24, hm⟩ := bindE hm
      refine wcall is_17 hs rfl rfl (impl_CostOfAssignment_any v16 y14 v21 y19 _ (hM.rdM 1 rfl) (hM.rdI 0 rfl) h24) ?_; rintro a _ w hs ⟨rfl, hX⟩
      have hM : Mem W w [aInts 3 v21 y19, aMat 23 3 v16 vs18 y14, aInts 3 v10 y8, aMat 23 3 v5 vs7 y3] := hM.call hX
      refine wl hs (y_move hs rfl) rfl ?_; intro a hs
      refine wl hs (y_extract hs rfl rfl) rfl ?_; intro a hs
      refine wl hs (y_extract hs rfl rfl) rfl ?_; intro a hs
      refine wl hs (y_assign hs rfl) rfl ?_; intro a hs
      refine wl hs (y_assign hs rfl) rfl ?_; intro a hs
      refine wpList_nil ?_
      refine x_nt ?_
      refine wp_seq ?_
      refine wp_seq ?_
      refine wp_region_lit ?_
      refine wl hs (y_move hs rfl) rfl ?_; intro a hs
      refine wl hs (y_move hs rfl) rfl ?_; intro a hs
      refine wl hs (y_neq hs rfl rfl) rfl ?_; intro a hs
      refine wl hs (y_move hs rfl) rfl ?_; intro a hs
      obtain ⟨b25, hb26, hm⟩ := bindE hm
      refine wlguard (N := 56) (L' := [(45, .bool b25), (0, v_p0), (1, v_p1), (8, v16), (9, v21)]) (fun w => Mem W w [aInts 3 v21 y19, aMat 23 3 v16 vs18 y14, aInts 3 v10 y8, aMat 23 3 v5 vs7 y3]) 4 ?_ ?_
      · intro K; rcases Bool.eq_false_or_eq_true (y23.1 != y12.1) with hg27 | hg27
        · have hm := condT hg27 hb26
          refine wls hs rfl hg27 rfl ?_; intro a hs
          refine wls hs rfl hg27 rfl ?_; intro a hs
          refine wls hs rfl hg27 rfl ?_; intro a hs
          have hm : some true = some b25 := hm
          cases Option.some.inj hm
          refine wl hs (y_pickT hs rfl hg27 rfl) rfl ?_; intro a hs
          exact K _ _ (hs.sub ⟨rfl, rfl, rfl, rfl, rfl, trivial⟩) hM
        · have hm := condF hg27 hb26
          refine wlg hs rfl hg27 (y_move hs rfl) rfl ?_; intro a hs
          refine wlg hs rfl hg27 (y_move hs rfl) rfl ?_; intro a hs
          refine wlg hs rfl hg27 (y_neqB hu_bool hs rfl rfl) rfl ?_; intro a hs
          have hm : some (y23.2 != y12.2) = some b25 := hm
          cases Option.some.inj hm
          refine wl hs (y_pickF hs rfl hg27 rfl) rfl ?_; intro a hs
          exact K _ _ (hs.sub ⟨rfl, rfl, rfl, rfl, rfl, trivial⟩) hM
      intro a w hs hM
      simp only [List.drop_succ_cons, List.drop_zero]
      refine wpList_nil ?_
      refine x_nt ?_
      refine x_cond hs rfl (fun hb => ?_) (fun hb => ?_)
      · replace hm := condT hb hm
        refine wp_seq ?_
        refine wp_region_lit ?_
        refine wl hs (y_assign hs rfl) rfl ?_; intro a hs
        refine wpList_nil ?_
        refine x_nt ?_
        refine wp_ret ?_
        refine x_rt ?_
        have hm : some false = some r := hm
        obtain rfl := Option.some.inj hm
        refine x_ret1 rfl hs rfl ⟨_, rfl, ?_⟩
        exact ⟨rfl, hM.none_⟩
      · replace hm := condF hb hm
        refine wp_skip ?_
        refine x_nt ?_
        refine wp_seq ?_
        refine wp_seq ?_
        refine wp_region_lit ?_
        refine wl hs (y_move hs rfl) rfl ?_; intro a hs
        refine wl hs (y_move hs rfl) rfl ?_; intro a hs
        obtain ⟨y28, h29, hm⟩ := bindE hm
        refine wcall is_15 hs rfl rfl (laws_toIntSS_any v_p0 p0 _ (RdM.below hr_p0 hM.bel) h29) ?_; rintro a v30 w hs ⟨vs32, hX⟩
        have hM : Mem W w [aMat 23 3 v30 vs32 y28, aInts 3 v21 y19, aMat 23 3 v16 vs18 y14, aInts 3 v10 y8, aMat 23 3 v5 vs7 y3] := hM.call hX
        obtain ⟨y33, h34, hm⟩ := bindE hm
        refine wcall is_18 hs rfl rfl (laws_eqIntSS_any v16 y14 v30 y28 _ (hM.rdM 2 rfl) (hM.rdM 0 rfl) h34) ?_; rintro a _ w hs ⟨rfl, hX⟩
        have hM : Mem W w [aMat 23 3 v30 vs32 y28, aInts 3 v21 y19, aMat 23 3 v16 vs18 y14, aInts 3 v10 y8, aMat 23 3 v5 vs7 y3] := hM.call hX
        refine wl hs (y_not hs rfl) rfl ?_; intro a hs
        refine wpList_nil ?_
        refine x_nt ?_
        refine x_cond hs rfl (fun hb => ?_) (fun hb => ?_)
        · replace hm := condT hb hm
          refine wp_seq ?_
          refine wp_region_lit ?_
          refine wl hs (y_assign hs rfl) rfl ?_; intro a hs
          refine wpList_nil ?_
          refine x_nt ?_
          refine wp_ret ?_
          refine x_rt ?_
          have hm : some false = some r := hm
          obtain rfl := Option.some.inj hm
          refine x_ret1 rfl hs rfl ⟨_, rfl, ?_⟩
          exact ⟨rfl, hM.none_⟩
        · replace hm := condF hb hm
          refine wp_skip ?_
          refine x_nt ?_
          refine wp_seq ?_
          refine wp_seq ?_
          refine wp_region_lit ?_
          refine wl hs (y_move hs rfl) rfl ?_; intro a hs
          refine wl hs (y_move hs rfl) rfl ?_; intro a hs
          obtain ⟨y35, h36, hm⟩ := bindE hm
          refine wcall is_16 hs rfl rfl (laws_toIntS_any v_p1 p1 _ (RdI.below hr_p1 hM.bel) h36) ?_; rintro a v37 w hs hX
          have hM : Mem W w [aInts 3 v37 y35, aMat 23 3 v30 vs32 y28, aInts 3 v21 y19, aMat 23 3 v16 vs18 y14, aInts 3 v10 y8, aMat 23 3 v5 vs7 y3] := hM.call hX
          obtain ⟨y39, h40, hm⟩ := bindE hm
          refine wcall is_19 hs rfl rfl (laws_eqIntS_any v21 y19 v37 y35 _ (hM.rdI 2 rfl) (hM.rdI 0 rfl) h40) ?_; rintro a _ w hs ⟨rfl, hX⟩
          have hM : Mem W w [aInts 3 v37 y35, aMat 23 3 v30 vs32 y28, aInts 3 v21 y19, aMat 23 3 v16 vs18 y14, aInts 3 v10 y8, aMat 23 3 v5 vs7 y3] := hM.call hX
          refine wl hs (y_not hs rfl) rfl ?_; intro a hs
          refine wpList_nil ?_
          refine x_nt ?_
          refine x_cond hs rfl (fun hb => ?_) (fun hb => ?_)
          · replace hm := condT hb hm
            refine wp_seq ?_
            refine wp_region_lit ?_
            refine wl hs (y_assign hs rfl) rfl ?_; intro a hs
            refine wpList_nil ?_
            refine x_nt ?_
            refine wp_ret ?_
            refine x_rt ?_
            have hm : some false = some r := hm
            obtain rfl := Option.some.inj hm
            refine x_ret1 rfl hs rfl ⟨_, rfl, ?_⟩
            exact ⟨rfl, hM.none_⟩
          · replace hm := condF hb hm
            refine wp_skip ?_
            refine x_nt ?_
            refine wp_seq ?_
            refine wp_region_lit ?_
            refine wl hs (y_assign hs rfl) rfl ?_; intro a hs
            refine wpList_nil ?_
            refine x_nt ?_
            refine wp_ret ?_
            have hm : some true = some r := hm
            obtain rfl := Option.some.inj hm
            refine x_ret1 rfl hs rfl ⟨_, rfl, ?_⟩
            exact ⟨rfl, hM.none_⟩

end Go.Proofs.Ytnnhbkhlipekeaa
