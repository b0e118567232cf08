/- The code of this unit computes what its mirrors say. Written by program (wip/gen). -/
import Derived.Test.YtnnhbkhlipekeaaFacts
import Derived.Test.YtnnhbkhlipekeaaEBestAssignmentM
import Derived.Test.YtnnhbkhlipekeaaNumW
import Derived.Test.YtnnhbkhlipekeaaAs2W
import Derived.Test.YtnnhbkhlipekeaaAsnW
namespace Go.Proofs.Ytnnhbkhlipekeaa
open Go.RowKit
set_option linter.unusedVariables false

set_option maxHeartbeats 4000000 in
theorem laws_FnExactBestAssignment_any (v_p0 : Value) (p0 : List (List Int)) (W : World) (hr_p0 : RdM W v_p0 p0) {r : Bool} (hm : laws_FnExactBestAssignment_m p0 = some r) : Calls Try.prog 7 [v_p0].toArray W fun e w => ∃ v, e = .returned v ∧ v = .bool r ∧ Mem W w [] := by
  refine x_enter Try.func7 rfl Try.ntmps7 rfl ?_
  intro a hs
  have hM := Mem.start W
  unfold laws_FnExactBestAssignment_m at hm
  refine wp_seq ?_
  refine wp_region_lit ?_
  refine wl hs (y_assign hs rfl) rfl ?_; intro a hs
  refine wpList_nil ?_
  refine x_nt ?_
  refine wp_seq ?_
  refine wp_region_lit ?_
  refine wl hs (y_assign hs rfl) rfl ?_; intro a hs
  refine wpList_nil ?_
  refine x_nt ?_
  refine wp_seq ?_
  refine wp_region_lit ?_
  refine wl hs (y_move hs rfl) rfl ?_; intro a hs
  refine wl hs (y_move hs rfl) rfl ?_; intro a hs
  obtain ⟨y1, h2, hm⟩ := bindE hm
  refine wcall is_13 hs rfl rfl (laws_szIntSS_any v_p0 p0 1048576 _ (RdM.below hr_p0 hM.bel) h2) ?_; rintro a _ w hs ⟨rfl, hX⟩
  have hM : Mem W w [] := hM.call hX
  refine wl hs (y_assign hs rfl) rfl ?_; intro a hs
  refine wpList_nil ?_
  refine x_nt ?_
  refine wp_seq ?_
  refine wp_seq ?_
  refine wp_region_lit ?_
  refine wl hs (y_move hs rfl) rfl ?_; intro a hs
  refine wl hs (y_lss hs rfl rfl) rfl ?_; intro a hs
  refine wpList_nil ?_
  refine x_nt ?_
  refine x_cond hs rfl (fun hb => ?_) (fun hb => ?_)
  · replace hm := condT hb hm
    refine wp_seq ?_
    refine wp_region_lit ?_
    refine wl hs (y_assign hs rfl) rfl ?_; intro a hs
    refine wpList_nil ?_
    refine x_nt ?_
    refine wp_ret ?_
    refine x_rt ?_
    have hm : some true = some r := hm
    obtain rfl := Option.some.inj hm
    refine x_ret1 rfl hs rfl ⟨_, rfl, ?_⟩
    exact ⟨rfl, hM⟩
  · replace hm := condF hb hm
    refine wp_skip ?_
    refine x_nt ?_
    refine wp_seq ?_
    refine wp_region_lit ?_
    refine wl hs (y_move hs rfl) rfl ?_; intro a hs
    obtain ⟨y3, h4, hm⟩ := bindE hm
    refine wcall is_15 hs rfl rfl (laws_toIntSS_any v_p0 p0 _ (RdM.below hr_p0 hM.bel) h4) ?_; rintro a v5 w hs ⟨vs7, hX⟩
    have hM : Mem W w [aMat 23 3 v5 vs7 y3] := hM.call hX
    obtain ⟨y8, h9, hm⟩ := bindE hm
    refine wcall is_26 hs rfl rfl (spec_BestAssignment_any v5 y3 _ (hM.rdM 0 rfl) h9) ?_; rintro a _ w hs ⟨v12, rfl, hX⟩
    have hM : Mem W w [aInts 3 v12 y8.1, aMat 23 3 v5 vs7 y3] := hM.call hX
    refine wl hs (y_move hs rfl) rfl ?_; intro a hs
    refine wl hs (y_extract hs rfl rfl) rfl ?_; intro a hs
    refine wl hs (y_extract hs rfl rfl) rfl ?_; intro a hs
    refine wl hs (y_extract hs rfl rfl) rfl ?_; intro a hs
    refine wl hs (y_assign hs rfl) rfl ?_; intro a hs
    refine wl hs (y_assign hs rfl) rfl ?_; intro a hs
    refine wl hs (y_assign hs rfl) rfl ?_; intro a hs
    refine wpList_nil ?_
    refine x_nt ?_
    refine wp_seq ?_
    refine wp_region_lit ?_
    refine wl hs (y_move hs rfl) rfl ?_; intro a hs
    obtain ⟨y13, h14, hm⟩ := bindE hm
    refine wcall is_15 hs rfl rfl (laws_toIntSS_any v_p0 p0 _ (RdM.below hr_p0 hM.bel) h14) ?_; rintro a v15 w hs ⟨vs17, hX⟩
    have hM : Mem W w [aMat 23 3 v15 vs17 y13, aInts 3 v12 y8.1, aMat 23 3 v5 vs7 y3] := hM.call hX
    refine wl hs (y_assign hs rfl) rfl ?_; intro a hs
    refine wpList_nil ?_
    refine x_nt ?_
    refine wp_seq ?_
    refine wp_region_lit ?_
    refine wl hs (y_move hs rfl) rfl ?_; intro a hs
    obtain ⟨y18, h19, hm⟩ := bindE hm
    refine wcall is_27 hs rfl rfl (impl_BestAssignment_any v15 y13 _ (hM.rdM 0 rfl) h19) ?_; rintro a _ w hs ⟨v22, rfl, hX⟩
    have hM : Mem W w [aInts 3 v22 y18.1, aMat 23 3 v15 vs17 y13, aInts 3 v12 y8.1, aMat 23 3 v5 vs7 y3] := hM.call hX
    refine wl hs (y_move hs rfl) rfl ?_; intro a hs
    refine wl hs (y_extract hs rfl rfl) rfl ?_; intro a hs
    refine wl hs (y_extract hs rfl rfl) rfl ?_; intro a hs
    refine wl hs (y_extract hs rfl rfl) rfl ?_; intro a hs
    refine wl hs (y_assign hs rfl) rfl ?_; intro a hs
    refine wl hs (y_assign hs rfl) rfl ?_; intro a hs
    refine wl hs (y_assign hs rfl) rfl ?_; intro a hs
    refine wpList_nil ?_
    refine x_nt ?_
    refine wp_seq ?_
    refine wp_seq ?_
    refine wp_region_lit ?_
    refine wl hs (y_move hs rfl) rfl ?_; intro a hs
    refine wl hs (y_move hs rfl) rfl ?_; intro a hs
    obtain ⟨y23, h24, hm⟩ := bindE hm
    refine wcall is_19 hs rfl rfl (laws_eqIntS_any v22 y18.1 v12 y8.1 _ (hM.rdI 0 rfl) (hM.rdI 2 rfl) h24) ?_; rintro a _ w hs ⟨rfl, hX⟩
    have hM : Mem W w [aInts 3 v22 y18.1, aMat 23 3 v15 vs17 y13, aInts 3 v12 y8.1, aMat 23 3 v5 vs7 y3] := hM.call hX
    refine wl hs (y_not hs rfl) rfl ?_; intro a hs
    refine wl hs (y_move hs rfl) rfl ?_; intro a hs
    obtain ⟨b25, hb26, hm⟩ := bindE hm
    refine wlguard (N := 117) (L' := [(45, .bool b25), (0, v_p0), (4, v12), (5, .int .i64 y8.2.1), (6, .bool y8.2.2), (7, v15), (8, v22), (9, .int .i64 y18.2.1), (10, .bool y18.2.2)]) (fun w => Mem W w [aInts 3 v22 y18.1, aMat 23 3 v15 vs17 y13, aInts 3 v12 y8.1, aMat 23 3 v5 vs7 y3]) 4 ?_ ?_
    · intro K; rcases Bool.eq_false_or_eq_true (!y23) with hg27 | hg27
      · have hm := condT hg27 hb26
        refine wls hs rfl hg27 rfl ?_; intro a hs
        refine wls hs rfl hg27 rfl ?_; intro a hs
        refine wls hs rfl hg27 rfl ?_; intro a hs
        have hm : some true = some b25 := hm
        cases Option.some.inj hm
        refine wl hs (y_pickT hs rfl hg27 rfl) rfl ?_; intro a hs
        exact K _ _ (hs.sub ⟨rfl, rfl, rfl, rfl, rfl, rfl, rfl, rfl, rfl, trivial⟩) hM
      · have hm := condF hg27 hb26
        refine wlg hs rfl hg27 (y_move hs rfl) rfl ?_; intro a hs
        refine wlg hs rfl hg27 (y_move hs rfl) rfl ?_; intro a hs
        refine wlg hs rfl hg27 (y_neq hs rfl rfl) rfl ?_; intro a hs
        have hm : some (y18.2.1 != y8.2.1) = some b25 := hm
        cases Option.some.inj hm
        refine wl hs (y_pickF hs rfl hg27 rfl) rfl ?_; intro a hs
        exact K _ _ (hs.sub ⟨rfl, rfl, rfl, rfl, rfl, rfl, rfl, rfl, rfl, trivial⟩) hM
    intro a w hs hM
    simp only [List.drop_succ_cons, List.drop_zero]
    refine wl hs (y_move hs rfl) rfl ?_; intro a hs
    obtain ⟨b28, hb29, hm⟩ := bindE hm
    refine wlguard (N := 117) (L' := [(50, .bool b28), (0, v_p0), (4, v12), (5, .int .i64 y8.2.1), (6, .bool y8.2.2), (7, v15), (8, v22), (9, .int .i64 y18.2.1), (10, .bool y18.2.2)]) (fun w => Mem W w [aInts 3 v22 y18.1, aMat 23 3 v15 vs17 y13, aInts 3 v12 y8.1, aMat 23 3 v5 vs7 y3]) 4 ?_ ?_
    · intro K; rcases Bool.eq_false_or_eq_true b25 with hg30 | hg30
      · have hm := condT hg30 hb29
        refine wls hs rfl hg30 rfl ?_; intro a hs
        refine wls hs rfl hg30 rfl ?_; intro a hs
        refine wls hs rfl hg30 rfl ?_; intro a hs
        have hm : some true = some b28 := hm
        cases Option.some.inj hm
        refine wl hs (y_pickT hs rfl hg30 rfl) rfl ?_; intro a hs
        exact K _ _ (hs.sub ⟨rfl, rfl, rfl, rfl, rfl, rfl, rfl, rfl, rfl, trivial⟩) hM
      · have hm := condF hg30 hb29
        refine wlg hs rfl hg30 (y_move hs rfl) rfl ?_; intro a hs
        refine wlg hs rfl hg30 (y_move hs rfl) rfl ?_; intro a hs
        refine wlg hs rfl hg30 (y_neqB hu_bool hs rfl rfl) rfl ?_; intro a hs
        have hm : some (y18.2.2 != y8.2.2) = some b28 := hm
        cases Option.some.inj hm
        refine wl hs (y_pickF hs rfl hg30 rfl) rfl ?_; intro a hs
        exact K _ _ (hs.sub ⟨rfl, rfl, rfl, rfl, rfl, rfl, rfl, rfl, rfl, trivial⟩) hM
    intro a w hs hM
    simp only [List.drop_succ_cons, List.drop_zero]
    refine wpList_nil ?_
    refine x_nt ?_
    refine x_cond hs rfl (fun hb => ?_) (fun hb => ?_)
    · replace hm := condT hb hm
      refine wp_seq ?_
      refine wp_region_lit ?_
      refine wl hs (y_assign hs rfl) rfl ?_; intro a hs
      refine wpList_nil ?_
      refine x_nt ?_
      refine wp_ret ?_
      refine x_rt ?_
      have hm : some false = some r := hm
      obtain rfl := Option.some.inj hm
      refine x_ret1 rfl hs rfl ⟨_, rfl, ?_⟩
      exact ⟨rfl, hM.none_⟩
    · replace hm := condF hb hm
      refine wp_skip ?_
      refine x_nt ?_
      refine wp_seq ?_
      refine wp_seq ?_
      refine wp_region_lit ?_
      refine wl hs (y_move hs rfl) rfl ?_; intro a hs
      refine wl hs (y_move hs rfl) rfl ?_; intro a hs
      obtain ⟨y31, h32, hm⟩ := bindE hm
      refine wcall is_15 hs rfl rfl (laws_toIntSS_any v_p0 p0 _ (RdM.below hr_p0 hM.bel) h32) ?_; rintro a v33 w hs ⟨vs35, hX⟩
      have hM : Mem W w [aMat 23 3 v33 vs35 y31, aInts 3 v22 y18.1, aMat 23 3 v15 vs17 y13, aInts 3 v12 y8.1, aMat 23 3 v5 vs7 y3] := hM.call hX
      obtain ⟨y36, h37, hm⟩ := bindE hm
      refine wcall is_18 hs rfl rfl (laws_eqIntSS_any v15 y13 v33 y31 _ (hM.rdM 2 rfl) (hM.rdM 0 rfl) h37) ?_; rintro a _ w hs ⟨rfl, hX⟩
      have hM : Mem W w [aMat 23 3 v33 vs35 y31, aInts 3 v22 y18.1, aMat 23 3 v15 vs17 y13, aInts 3 v12 y8.1, aMat 23 3 v5 vs7 y3] := hM.call hX
      refine wl hs (y_not hs rfl) rfl ?_; intro a hs
      refine wpList_nil ?_
      refine x_nt ?_
      refine x_cond hs rfl (fun hb => ?_) (fun hb => ?_)
      · replace hm := condT hb hm
        refine wp_seq ?_
        refine wp_region_lit ?_
        refine wl hs (y_assign hs rfl) rfl ?_; intro a hs
        refine wpList_nil ?_
        refine x_nt ?_
        refine wp_ret ?_
        refine x_rt ?_
        have hm : some false = some r := hm
        obtain rfl := Option.some.inj hm
        refine x_ret1 rfl hs rfl ⟨_, rfl, ?_⟩
        exact ⟨rfl, hM.none_⟩
      · replace hm := condF hb hm
        refine wp_skip ?_
        refine x_nt ?_
        refine wp_seq ?_
        refine wp_region_lit ?_
        refine wl hs (y_assign hs rfl) rfl ?_; intro a hs
        refine wpList_nil ?_
        refine x_nt ?_
        refine wp_seq ?_
        refine wp_region_lit ?_
        refine wl hs (y_move hs rfl) rfl ?_; intro a hs
        refine wl hs (y_move hs rfl) rfl ?_; intro a hs
        obtain ⟨y38, h39, hm⟩ := bindE hm
        have hM : Mem W w [aMat 23 3 v15 vs17 y13, aMat 23 3 v33 vs35 y31, aInts 3 v22 y18.1, aInts 3 v12 y8.1, aMat 23 3 v5 vs7 y3] := (((((hM.front 4 rfl).front 4 rfl).front 3 rfl).front 3 rfl).front 4 rfl)
        refine wcall is_28 hs rfl rfl (laws_markIntSS_any v15 y13 _ 1 _ _ _  hM h39) ?_; rintro a _ w hs ⟨vs40, rfl, hM⟩
        have hM : Mem W w [aMat 23 3 v15 vs40 y38.2, aMat 23 3 v33 vs35 y31, aInts 3 v22 y18.1, aInts 3 v12 y8.1, aMat 23 3 v5 vs7 y3] := hM
        refine wl hs (y_assign hs rfl) rfl ?_; intro a hs
        refine wpList_nil ?_
        refine x_nt ?_
        refine wp_seq ?_
        refine wp_seq ?_
        refine wp_region_lit ?_
        refine wl hs (y_move hs rfl) rfl ?_; intro a hs
        refine wl hs (y_lss hs rfl rfl) rfl ?_; intro a hs
        refine wl hs (y_move hs rfl) rfl ?_; intro a hs
        obtain ⟨b41, hb42, hm⟩ := bindE hm
        refine wlguard (N := 117) (L' := [(66, .bool b41), (0, v_p0), (4, v12), (5, .int .i64 y8.2.1), (6, .bool y8.2.2), (8, v22), (9, .int .i64 y18.2.1), (10, .bool y18.2.2)]) (fun w => Mem W w [aMat 23 3 v15 vs40 y38.2, aMat 23 3 v33 vs35 y31, aInts 3 v22 y18.1, aInts 3 v12 y8.1, aMat 23 3 v5 vs7 y3]) 5 ?_ ?_
        · intro K; rcases Bool.eq_false_or_eq_true (decide (y38.1 < 0)) with hg43 | hg43
          · have hm := condT hg43 hb42
            refine wls hs rfl hg43 rfl ?_; intro a hs
            refine wls hs rfl hg43 rfl ?_; intro a hs
            refine wls hs rfl hg43 rfl ?_; intro a hs
            refine wls hs rfl hg43 rfl ?_; intro a hs
            have hm : some true = some b41 := hm
            cases Option.some.inj hm
            refine wl hs (y_pickT hs rfl hg43 rfl) rfl ?_; intro a hs
            exact K _ _ (hs.sub ⟨rfl, rfl, rfl, rfl, rfl, rfl, rfl, rfl, trivial⟩) hM
          · have hm := condF hg43 hb42
            refine wlg hs rfl hg43 (y_move hs rfl) rfl ?_; intro a hs
            refine wlg hs rfl hg43 (y_move hs rfl) rfl ?_; intro a hs
            obtain ⟨y44, h45, hm⟩ := bindE hm
            refine wcallg is_19 hs rfl hg43 rfl rfl (laws_eqIntS_any v22 y18.1 v12 y8.1 _ (hM.rdI 2 rfl) (hM.rdI 3 rfl) h45) ?_; rintro a _ w hs ⟨rfl, hX⟩
            have hM : Mem W w [aMat 23 3 v15 vs40 y38.2, aMat 23 3 v33 vs35 y31, aInts 3 v22 y18.1, aInts 3 v12 y8.1, aMat 23 3 v5 vs7 y3] := hM.call hX
            refine wlg hs rfl hg43 (y_not hs rfl) rfl ?_; intro a hs
            have hm : some (!y44) = some b41 := hm
            cases Option.some.inj hm
            refine wl hs (y_pickF hs rfl hg43 rfl) rfl ?_; intro a hs
            exact K _ _ (hs.sub ⟨rfl, rfl, rfl, rfl, rfl, rfl, rfl, rfl, trivial⟩) hM
        intro a w hs hM
        simp only [List.drop_succ_cons, List.drop_zero]
        refine wl hs (y_move hs rfl) rfl ?_; intro a hs
        obtain ⟨b46, hb47, hm⟩ := bindE hm
        refine wlguard (N := 117) (L' := [(71, .bool b46), (0, v_p0), (4, v12), (5, .int .i64 y8.2.1), (6, .bool y8.2.2), (8, v22), (10, .bool y18.2.2)]) (fun w => Mem W w [aMat 23 3 v15 vs40 y38.2, aMat 23 3 v33 vs35 y31, aInts 3 v22 y18.1, aInts 3 v12 y8.1, aMat 23 3 v5 vs7 y3]) 4 ?_ ?_
        · intro K; rcases Bool.eq_false_or_eq_true b41 with hg48 | hg48
          · have hm := condT hg48 hb47
            refine wls hs rfl hg48 rfl ?_; intro a hs
            refine wls hs rfl hg48 rfl ?_; intro a hs
            refine wls hs rfl hg48 rfl ?_; intro a hs
            have hm : some true = some b46 := hm
            cases Option.some.inj hm
            refine wl hs (y_pickT hs rfl hg48 rfl) rfl ?_; intro a hs
            exact K _ _ (hs.sub ⟨rfl, rfl, rfl, rfl, rfl, rfl, rfl, trivial⟩) hM
          · have hm := condF hg48 hb47
            refine wlg hs rfl hg48 (y_move hs rfl) rfl ?_; intro a hs
            refine wlg hs rfl hg48 (y_move hs rfl) rfl ?_; intro a hs
            refine wlg hs rfl hg48 (y_neq hs rfl rfl) rfl ?_; intro a hs
            have hm : some (y18.2.1 != y8.2.1) = some b46 := hm
            cases Option.some.inj hm
            refine wl hs (y_pickF hs rfl hg48 rfl) rfl ?_; intro a hs
            exact K _ _ (hs.sub ⟨rfl, rfl, rfl, rfl, rfl, rfl, rfl, trivial⟩) hM
        intro a w hs hM
        simp only [List.drop_succ_cons, List.drop_zero]
        refine wl hs (y_move hs rfl) rfl ?_; intro a hs
        obtain ⟨b49, hb50, hm⟩ := bindE hm
        refine wlguard (N := 117) (L' := [(76, .bool b49), (0, v_p0), (4, v12), (5, .int .i64 y8.2.1), (6, .bool y8.2.2), (8, v22)]) (fun w => Mem W w [aMat 23 3 v15 vs40 y38.2, aMat 23 3 v33 vs35 y31, aInts 3 v22 y18.1, aInts 3 v12 y8.1, aMat 23 3 v5 vs7 y3]) 4 ?_ ?_
        · intro K; rcases Bool.eq_false_or_eq_true b46 with hg51 | hg51
          · have hm := condT hg51 hb50
            refine wls hs rfl hg51 rfl ?_; intro a hs
            refine wls hs rfl hg51 rfl ?_; intro a hs
            refine wls hs rfl hg51 rfl ?_; intro a hs
            have hm : some true = some b49 := hm
            cases Option.some.inj hm
            refine wl hs (y_pickT hs rfl hg51 rfl) rfl ?_; intro a hs
            exact K _ _ (hs.sub ⟨rfl, rfl, rfl, rfl, rfl, rfl, trivial⟩) hM
          · have hm := condF hg51 hb50
            refine wlg hs rfl hg51 (y_move hs rfl) rfl ?_; intro a hs
            refine wlg hs rfl hg51 (y_move hs rfl) rfl ?_; intro a hs
            refine wlg hs rfl hg51 (y_neqB hu_bool hs rfl rfl) rfl ?_; intro a hs
            have hm : some (y18.2.2 != y8.2.2) = some b49 := hm
            cases Option.some.inj hm
            refine wl hs (y_pickF hs rfl hg51 rfl) rfl ?_; intro a hs
            exact K _ _ (hs.sub ⟨rfl, rfl, rfl, rfl, rfl, rfl, trivial⟩) hM
        intro a w hs hM
        simp only [List.drop_succ_cons, List.drop_zero]
        refine wpList_nil ?_
        refine x_nt ?_
        refine x_cond hs rfl (fun hb => ?_) (fun hb => ?_)
        · replace hm := condT hb hm
          refine wp_seq ?_
          refine wp_region_lit ?_
          refine wl hs (y_assign hs rfl) rfl ?_; intro a hs
          refine wpList_nil ?_
          refine x_nt ?_
          refine wp_ret ?_
          refine x_rt ?_
          have hm : some false = some r := hm
          obtain rfl := Option.some.inj hm
          refine x_ret1 rfl hs rfl ⟨_, rfl, ?_⟩
          exact ⟨rfl, hM.none_⟩
        · replace hm := condF hb hm
          refine wp_skip ?_
          refine x_nt ?_
          refine wp_seq ?_
          refine wp_region_lit ?_
          refine wl hs (y_assign hs rfl) rfl ?_; intro a hs
          refine wpList_nil ?_
          refine x_nt ?_
          refine wp_seq ?_
          refine wp_region_lit ?_
          refine wl hs (y_move hs rfl) rfl ?_; intro a hs
          refine wl hs (y_move hs rfl) rfl ?_; intro a hs
          obtain ⟨y52, h53, hm⟩ := bindE hm
          have hM : Mem W w [aInts 3 v22 y18.1, aMat 23 3 v15 vs40 y38.2, aMat 23 3 v33 vs35 y31, aInts 3 v12 y8.1, aMat 23 3 v5 vs7 y3] := (((((hM.front 4 rfl).front 4 rfl).front 3 rfl).front 3 rfl).front 4 rfl)
          refine wcall is_29 hs rfl rfl (laws_markIntS_any v22 y18.1 1 _ _ _  hM h53) ?_; rintro a _ w hs ⟨rfl, hM⟩
          have hM : Mem W w [aInts 3 v22 y52.2, aMat 23 3 v15 vs40 y38.2, aMat 23 3 v33 vs35 y31, aInts 3 v12 y8.1, aMat 23 3 v5 vs7 y3] := hM
          refine wl hs (y_assign hs rfl) rfl ?_; intro a hs
          refine wpList_nil ?_
          refine x_nt ?_
          refine wp_seq ?_
          refine wp_region_lit ?_
          refine wl hs (y_assign hs rfl) rfl ?_; intro a hs
          refine wpList_nil ?_
          refine x_nt ?_
          refine wp_seq ?_
          refine wp_region_lit ?_
          refine wl hs (y_move hs rfl) rfl ?_; intro a hs
          refine wl hs (y_move hs rfl) rfl ?_; intro a hs
          obtain ⟨y54, h55, hm⟩ := bindE hm
          refine wcall is_30 hs rfl rfl (laws_heldIntS_any v22 y52.2 1 _ (hM.rdI 0 rfl) h55) ?_; rintro a _ w hs ⟨rfl, hX⟩
          have hM : Mem W w [aInts 3 v22 y52.2, aMat 23 3 v15 vs40 y38.2, aMat 23 3 v33 vs35 y31, aInts 3 v12 y8.1, aMat 23 3 v5 vs7 y3] := hM.call hX
          refine wl hs (y_assign hs rfl) rfl ?_; intro a hs
          refine wpList_nil ?_
          refine x_nt ?_
          refine wp_seq ?_
          refine wp_seq ?_
          refine wp_region_lit ?_
          refine wl hs (y_move hs rfl) rfl ?_; intro a hs
          refine wl hs (y_lss hs rfl rfl) rfl ?_; intro a hs
          refine wpList_nil ?_
          refine x_nt ?_
          refine x_cond hs rfl (fun hb => ?_) (fun hb => ?_)
          · replace hm := condT hb hm
            refine wp_seq ?_
            refine wp_region_lit ?_
            refine wl hs (y_assign hs rfl) rfl ?_; intro a hs
            refine wpList_nil ?_
            refine x_nt ?_
            refine wp_ret ?_
            refine x_rt ?_
            have hm : some false = some r := hm
            obtain rfl := Option.some.inj hm
            refine x_ret1 rfl hs rfl ⟨_, rfl, ?_⟩
            exact ⟨rfl, hM.none_⟩
          · replace hm := condF hb hm
            refine wp_skip ?_
            refine x_nt ?_
            refine wp_seq ?_
            refine wp_seq ?_
            refine wp_region_lit ?_
            refine wl hs (y_move hs rfl) rfl ?_; intro a hs
            refine wl hs (y_move hs rfl) rfl ?_; intro a hs
            refine wl hs (y_neq hs rfl rfl) rfl ?_; intro a hs
            refine wpList_nil ?_
            refine x_nt ?_
            refine x_cond hs rfl (fun hb => ?_) (fun hb => ?_)
            · replace hm := condT hb hm
              refine wp_seq ?_
              refine wp_region_lit ?_
              refine wl hs (y_assign hs rfl) rfl ?_; intro a hs
              refine wpList_nil ?_
              refine x_nt ?_
              refine wp_ret ?_
              refine x_rt ?_
              have hm : some false = some r := hm
              obtain rfl := Option.some.inj hm
              refine x_ret1 rfl hs rfl ⟨_, rfl, ?_⟩
              exact ⟨rfl, hM.none_⟩
            · replace hm := condF hb hm
              refine wp_skip ?_
              refine x_nt ?_
              refine wp_seq ?_
              refine wp_region_lit ?_
              refine wl hs (y_move hs rfl) rfl ?_; intro a hs
              obtain ⟨y56, h57, hm⟩ := bindE hm
              refine wcall is_15 hs rfl rfl (laws_toIntSS_any v_p0 p0 _ (RdM.below hr_p0 hM.bel) h57) ?_; rintro a v58 w hs ⟨vs60, hX⟩
              have hM : Mem W w [aMat 23 3 v58 vs60 y56, aInts 3 v22 y52.2, aMat 23 3 v15 vs40 y38.2, aMat 23 3 v33 vs35 y31, aInts 3 v12 y8.1, aMat 23 3 v5 vs7 y3] := hM.call hX
              obtain ⟨y61, h62, hm⟩ := bindE hm
              refine wcall is_27 hs rfl rfl (impl_BestAssignment_any v58 y56 _ (hM.rdM 0 rfl) h62) ?_; rintro a _ w hs ⟨v65, rfl, hX⟩
              have hM : Mem W w [aInts 3 v65 y61.1, aMat 23 3 v58 vs60 y56, aInts 3 v22 y52.2, aMat 23 3 v15 vs40 y38.2, aMat 23 3 v33 vs35 y31, aInts 3 v12 y8.1, aMat 23 3 v5 vs7 y3] := hM.call hX
              refine wl hs (y_move hs rfl) rfl ?_; intro a hs
              refine wl hs (y_extract hs rfl rfl) rfl ?_; intro a hs
              refine wl hs (y_extract hs rfl rfl) rfl ?_; intro a hs
              refine wl hs (y_extract hs rfl rfl) rfl ?_; intro a hs
              refine wl hs (y_assign hs rfl) rfl ?_; intro a hs
              refine wl hs (y_assign hs rfl) rfl ?_; intro a hs
              refine wl hs (y_assign hs rfl) rfl ?_; intro a hs
              refine wpList_nil ?_
              refine x_nt ?_
              refine wp_seq ?_
              refine wp_seq ?_
              refine wp_region_lit ?_
              refine wl hs (y_move hs rfl) rfl ?_; intro a hs
              refine wl hs (y_move hs rfl) rfl ?_; intro a hs
              obtain ⟨y66, h67, hm⟩ := bindE hm
              refine wcall is_19 hs rfl rfl (laws_eqIntS_any v65 y61.1 v12 y8.1 _ (hM.rdI 0 rfl) (hM.rdI 5 rfl) h67) ?_; rintro a _ w hs ⟨rfl, hX⟩
              have hM : Mem W w [aInts 3 v65 y61.1, aMat 23 3 v58 vs60 y56, aInts 3 v22 y52.2, aMat 23 3 v15 vs40 y38.2, aMat 23 3 v33 vs35 y31, aInts 3 v12 y8.1, aMat 23 3 v5 vs7 y3] := hM.call hX
              refine wl hs (y_not hs rfl) rfl ?_; intro a hs
              refine wl hs (y_move hs rfl) rfl ?_; intro a hs
              obtain ⟨b68, hb69, hm⟩ := bindE hm
              refine wlguard (N := 117) (L' := [(103, .bool b68), (6, .bool y8.2.2), (8, v22), (12, .int .i64 y52.1), (16, .bool y61.2.2)]) (fun w => Mem W w [aInts 3 v65 y61.1, aMat 23 3 v58 vs60 y56, aInts 3 v22 y52.2, aMat 23 3 v15 vs40 y38.2, aMat 23 3 v33 vs35 y31, aInts 3 v12 y8.1, aMat 23 3 v5 vs7 y3]) 4 ?_ ?_
              · intro K; rcases Bool.eq_false_or_eq_true (!y66) with hg70 | hg70
                · have hm := condT hg70 hb69
                  refine wls hs rfl hg70 rfl ?_; intro a hs
                  refine wls hs rfl hg70 rfl ?_; intro a hs
                  refine wls hs rfl hg70 rfl ?_; intro a hs
                  have hm : some true = some b68 := hm
                  cases Option.some.inj hm
                  refine wl hs (y_pickT hs rfl hg70 rfl) rfl ?_; intro a hs
                  exact K _ _ (hs.sub ⟨rfl, rfl, rfl, rfl, rfl, trivial⟩) hM
                · have hm := condF hg70 hb69
                  refine wlg hs rfl hg70 (y_move hs rfl) rfl ?_; intro a hs
                  refine wlg hs rfl hg70 (y_move hs rfl) rfl ?_; intro a hs
                  refine wlg hs rfl hg70 (y_neq hs rfl rfl) rfl ?_; intro a hs
                  have hm : some (y61.2.1 != y8.2.1) = some b68 := hm
                  cases Option.some.inj hm
                  refine wl hs (y_pickF hs rfl hg70 rfl) rfl ?_; intro a hs
                  exact K _ _ (hs.sub ⟨rfl, rfl, rfl, rfl, rfl, trivial⟩) hM
              intro a w hs hM
              simp only [List.drop_succ_cons, List.drop_zero]
              refine wl hs (y_move hs rfl) rfl ?_; intro a hs
              obtain ⟨b71, hb72, hm⟩ := bindE hm
              refine wlguard (N := 117) (L' := [(108, .bool b71), (8, v22), (12, .int .i64 y52.1)]) (fun w => Mem W w [aInts 3 v65 y61.1, aMat 23 3 v58 vs60 y56, aInts 3 v22 y52.2, aMat 23 3 v15 vs40 y38.2, aMat 23 3 v33 vs35 y31, aInts 3 v12 y8.1, aMat 23 3 v5 vs7 y3]) 4 ?_ ?_
              · intro K; rcases Bool.eq_false_or_eq_true b68 with hg73 | hg73
                · have hm := condT hg73 hb72
                  refine wls hs rfl hg73 rfl ?_; intro a hs
                  refine wls hs rfl hg73 rfl ?_; intro a hs
                  refine wls hs rfl hg73 rfl ?_; intro a hs
                  have hm : some true = some b71 := hm
                  cases Option.some.inj hm
                  refine wl hs (y_pickT hs rfl hg73 rfl) rfl ?_; intro a hs
                  exact K _ _ (hs.sub ⟨rfl, rfl, rfl, trivial⟩) hM
                · have hm := condF hg73 hb72
                  refine wlg hs rfl hg73 (y_move hs rfl) rfl ?_; intro a hs
                  refine wlg hs rfl hg73 (y_move hs rfl) rfl ?_; intro a hs
                  refine wlg hs rfl hg73 (y_neqB hu_bool hs rfl rfl) rfl ?_; intro a hs
                  have hm : some (y61.2.2 != y8.2.2) = some b71 := hm
                  cases Option.some.inj hm
                  refine wl hs (y_pickF hs rfl hg73 rfl) rfl ?_; intro a hs
                  exact K _ _ (hs.sub ⟨rfl, rfl, rfl, trivial⟩) hM
              intro a w hs hM
              simp only [List.drop_succ_cons, List.drop_zero]
              refine wpList_nil ?_
              refine x_nt ?_
              refine x_cond hs rfl (fun hb => ?_) (fun hb => ?_)
              · replace hm := condT hb hm
                refine wp_seq ?_
                refine wp_region_lit ?_
                refine wl hs (y_assign hs rfl) rfl ?_; intro a hs
                refine wpList_nil ?_
                refine x_nt ?_
                refine wp_ret ?_
                refine x_rt ?_
                have hm : some false = some r := hm
                obtain rfl := Option.some.inj hm
                refine x_ret1 rfl hs rfl ⟨_, rfl, ?_⟩
                exact ⟨rfl, hM.none_⟩
              · replace hm := condF hb hm
                refine wp_skip ?_
                refine x_nt ?_
                refine wp_seq ?_
                refine wp_region_lit ?_
                refine wl hs (y_assign hs rfl) rfl ?_; intro a hs
                refine wpList_nil ?_
                refine x_nt ?_
                refine wp_seq ?_
                refine wp_region_lit ?_
                refine wl hs (y_move hs rfl) rfl ?_; intro a hs
                refine wl hs (y_move hs rfl) rfl ?_; intro a hs
                obtain ⟨y74, h75, hm⟩ := bindE hm
                refine wcall is_30 hs rfl rfl (laws_heldIntS_any v22 y52.2 1 _ (hM.rdI 2 rfl) h75) ?_; rintro a _ w hs ⟨rfl, hX⟩
                have hM : Mem W w [aInts 3 v65 y61.1, aMat 23 3 v58 vs60 y56, aInts 3 v22 y52.2, aMat 23 3 v15 vs40 y38.2, aMat 23 3 v33 vs35 y31, aInts 3 v12 y8.1, aMat 23 3 v5 vs7 y3] := hM.call hX
                refine wl hs (y_assign hs rfl) rfl ?_; intro a hs
                refine wpList_nil ?_
                refine x_nt ?_
                refine wp_seq ?_
                refine wp_seq ?_
                refine wp_region_lit ?_
                refine wl hs (y_move hs rfl) rfl ?_; intro a hs
                refine wl hs (y_lss hs rfl rfl) rfl ?_; intro a hs
                refine wpList_nil ?_
                refine x_nt ?_
                refine x_cond hs rfl (fun hb => ?_) (fun hb => ?_)
                · replace hm := condT hb hm
                  refine wp_seq ?_
                  refine wp_region_lit ?_
                  refine wl hs (y_assign hs rfl) rfl ?_; intro a hs
                  refine wpList_nil ?_
                  refine x_nt ?_
                  refine wp_ret ?_
                  refine x_rt ?_
                  have hm : some false = some r := hm
                  obtain rfl := Option.some.inj hm
                  refine x_ret1 rfl hs rfl ⟨_, rfl, ?_⟩
                  exact ⟨rfl, hM.none_⟩
                · replace hm := condF hb hm
                  refine wp_skip ?_
                  refine x_nt ?_
                  refine wp_seq ?_
                  refine wp_seq ?_
                  refine wp_region_lit ?_
                  refine wl hs (y_move hs rfl) rfl ?_; intro a hs
                  refine wl hs (y_move hs rfl) rfl ?_; intro a hs
                  refine wl hs (y_neq hs rfl rfl) rfl ?_; intro a hs
                  refine wpList_nil ?_
                  refine x_nt ?_
                  refine x_cond hs rfl (fun hb => ?_) (fun hb => ?_)
                  · replace hm := condT hb hm
                    refine wp_seq ?_
                    refine wp_region_lit ?_
                    refine wl hs (y_assign hs rfl) rfl ?_; intro a hs
                    refine wpList_nil ?_
                    refine x_nt ?_
                    refine wp_ret ?_
                    refine x_rt ?_
                    have hm : some false = some r := hm
                    obtain rfl := Option.some.inj hm
                    refine x_ret1 rfl hs rfl ⟨_, rfl, ?_⟩
                    exact ⟨rfl, hM.none_⟩
                  · replace hm := condF hb hm
                    refine wp_skip ?_
                    refine x_nt ?_
                    refine wp_seq ?_
                    refine wp_region_lit ?_
                    refine wl hs (y_assign hs rfl) rfl ?_; intro a hs
                    refine wpList_nil ?_
                    refine x_nt ?_
                    refine wp_ret ?_
                    have hm : some true = some r := hm
                    obtain rfl := Option.some.inj hm
                    refine x_ret1 rfl hs rfl ⟨_, rfl, ?_⟩
                    exact ⟨rfl, hM.none_⟩

end Go.Proofs.Ytnnhbkhlipekeaa
