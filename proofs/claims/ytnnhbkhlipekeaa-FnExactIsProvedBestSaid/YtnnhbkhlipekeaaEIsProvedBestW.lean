/- The code of this unit computes what its mirrors say. Written by program (wip/gen). -/
import Derived.Test.YtnnhbkhlipekeaaFacts
import Derived.Test.YtnnhbkhlipekeaaEIsProvedBestM
import Derived.Test.YtnnhbkhlipekeaaNumW
import Derived.Test.YtnnhbkhlipekeaaAs2W
namespace Go.Proofs.Ytnnhbkhlipekeaa
open Go.RowKit
set_option linter.unusedVariables false

theorem laws_FnExactIsProvedBest_any (v_p0 : Value) (p0 : List (List Int)) (v_p1 : Value) (p1 : List Int) (v_p2 : Value) (p2 : List Int) (v_p3 : Value) (p3 : List Int) (W : World) (hr_p0 : RdM W v_p0 p0) (hr_p1 : RdI W v_p1 p1) (hr_p2 : RdI W v_p2 p2) (hr_p3 : RdI W v_p3 p3) {r : Bool} (hm : laws_FnExactIsProvedBest_m p0 p1 p2 p3 = some r) : Calls Try.prog 4 [v_p0, v_p1, v_p2, v_p3].toArray W fun e w => ∃ v, e = .returned v ∧ v = .bool r ∧ Mem W w [] := by
  refine x_enter Try.func4 rfl Try.ntmps4 rfl ?_
  intro a hs
  have hM := Mem.start W
  unfold laws_FnExactIsProvedBest_m at hm
  refine wp_seq ?_
  refine wp_region_lit ?_
  refine wl hs (y_assign hs rfl) rfl ?_; intro a hs
  refine wpList_nil ?_
  refine x_nt ?_
  refine wp_seq ?_
  refine wp_seq ?_
  refine wp_region_lit ?_
  refine wl hs (y_move hs rfl) rfl ?_; intro a hs
  refine wl hs (y_len hu_I hs rfl (RdI.below hr_p1 hM.bel)) rfl ?_; intro a hs
  refine wl hs (y_gtr hs rfl rfl) rfl ?_; intro a hs
  refine wpList_nil ?_
  refine x_nt ?_
  refine x_cond hs rfl (fun hb => ?_) (fun hb => ?_)
  · replace hm := condT hb hm
    refine wp_seq ?_
    refine wp_region_lit ?_
    refine wl hs (y_assign hs rfl) rfl ?_; intro a hs
    refine wpList_nil ?_
    refine x_nt ?_
    refine wp_ret ?_
    refine x_rt ?_
    have hm : some true = some r := hm
    obtain rfl := Option.some.inj hm
    refine x_ret1 rfl hs rfl ⟨_, rfl, ?_⟩
    exact ⟨rfl, hM⟩
  · replace hm := condF hb hm
    refine wp_skip ?_
    refine x_nt ?_
    refine wp_seq ?_
    refine wp_seq ?_
    refine wp_region_lit ?_
    refine wl hs (y_move hs rfl) rfl ?_; intro a hs
    refine wl hs (y_len hu_I hs rfl (RdI.below hr_p2 hM.bel)) rfl ?_; intro a hs
    refine wl hs (y_gtr hs rfl rfl) rfl ?_; intro a hs
    refine wpList_nil ?_
    refine x_nt ?_
    refine x_cond hs rfl (fun hb => ?_) (fun hb => ?_)
    · replace hm := condT hb hm
      refine wp_seq ?_
      refine wp_region_lit ?_
      refine wl hs (y_assign hs rfl) rfl ?_; intro a hs
      refine wpList_nil ?_
      refine x_nt ?_
      refine wp_ret ?_
      refine x_rt ?_
      have hm : some true = some r := hm
      obtain rfl := Option.some.inj hm
      refine x_ret1 rfl hs rfl ⟨_, rfl, ?_⟩
      exact ⟨rfl, hM⟩
    · replace hm := condF hb hm
      refine wp_skip ?_
      refine x_nt ?_
      refine wp_seq ?_
      refine wp_seq ?_
      refine wp_region_lit ?_
      refine wl hs (y_move hs rfl) rfl ?_; intro a hs
      refine wl hs (y_len hu_I hs rfl (RdI.below hr_p3 hM.bel)) rfl ?_; intro a hs
      refine wl hs (y_gtr hs rfl rfl) rfl ?_; intro a hs
      refine wpList_nil ?_
      refine x_nt ?_
      refine x_cond hs rfl (fun hb => ?_) (fun hb => ?_)
      · replace hm := condT hb hm
        refine wp_seq ?_
        refine wp_region_lit ?_
        refine wl hs (y_assign hs rfl) rfl ?_; intro a hs
        refine wpList_nil ?_
        refine x_nt ?_
        refine wp_ret ?_
        refine x_rt ?_
        have hm : some true = some r := hm
        obtain rfl := Option.some.inj hm
        refine x_ret1 rfl hs rfl ⟨_, rfl, ?_⟩
        exact ⟨rfl, hM⟩
      · replace hm := condF hb hm
        refine wp_skip ?_
        refine x_nt ?_
        refine wp_seq ?_
        refine wp_region_lit ?_
        refine wl hs (y_assign hs rfl) rfl ?_; intro a hs
        refine wpList_nil ?_
        refine x_nt ?_
        refine wp_seq ?_
        refine wp_region_lit ?_
        refine wl hs (y_move hs rfl) rfl ?_; intro a hs
        refine wl hs (y_move hs rfl) rfl ?_; intro a hs
        obtain ⟨y1, h2, hm⟩ := bindE hm
        refine wcall is_13 hs rfl rfl (laws_szIntSS_any v_p0 p0 1048576 _ (RdM.below hr_p0 hM.bel) h2) ?_; rintro a _ w hs ⟨rfl, hX⟩
        have hM : Mem W w [] := hM.call hX
        refine wl hs (y_assign hs rfl) rfl ?_; intro a hs
        refine wpList_nil ?_
        refine x_nt ?_
        refine wp_seq ?_
        refine wp_seq ?_
        refine wp_region_lit ?_
        refine wl hs (y_move hs rfl) rfl ?_; intro a hs
        refine wl hs (y_lss hs rfl rfl) rfl ?_; intro a hs
        refine wpList_nil ?_
        refine x_nt ?_
        refine x_cond hs rfl (fun hb => ?_) (fun hb => ?_)
        · replace hm := condT hb hm
          refine wp_seq ?_
          refine wp_region_lit ?_
          refine wl hs (y_assign hs rfl) rfl ?_; intro a hs
          refine wpList_nil ?_
          refine x_nt ?_
          refine wp_ret ?_
          refine x_rt ?_
          have hm : some true = some r := hm
          obtain rfl := Option.some.inj hm
          refine x_ret1 rfl hs rfl ⟨_, rfl, ?_⟩
          exact ⟨rfl, hM⟩
        · replace hm := condF hb hm
          refine wp_skip ?_
          refine x_nt ?_
          refine wp_seq ?_
          refine wp_region_lit ?_
          refine wl hs (y_move hs rfl) rfl ?_; intro a hs
          obtain ⟨y3, h4, hm⟩ := bindE hm
          refine wcall is_15 hs rfl rfl (laws_toIntSS_any v_p0 p0 _ (RdM.below hr_p0 hM.bel) h4) ?_; rintro a v5 w hs ⟨vs7, hX⟩
          have hM : Mem W w [aMat 23 3 v5 vs7 y3] := hM.call hX
          refine wl hs (y_move hs rfl) rfl ?_; intro a hs
          obtain ⟨y8, h9, hm⟩ := bindE hm
          refine wcall is_16 hs rfl rfl (laws_toIntS_any v_p1 p1 _ (RdI.below hr_p1 hM.bel) h9) ?_; rintro a v10 w hs hX
          have hM : Mem W w [aInts 3 v10 y8, aMat 23 3 v5 vs7 y3] := hM.call hX
          refine wl hs (y_move hs rfl) rfl ?_; intro a hs
          obtain ⟨y12, h13, hm⟩ := bindE hm
          refine wcall is_16 hs rfl rfl (laws_toIntS_any v_p2 p2 _ (RdI.below hr_p2 hM.bel) h13) ?_; rintro a v14 w hs hX
          have hM : Mem W w [aInts 3 v14 y12, aInts 3 v10 y8, aMat 23 3 v5 vs7 y3] := hM.call hX
          refine wl hs (y_move hs rfl) rfl ?_; intro a hs
          obtain ⟨y16, h17, hm⟩ := bindE hm
          refine wcall is_16 hs rfl rfl (laws_toIntS_any v_p3 p3 _ (RdI.below hr_p3 hM.bel) h17) ?_; rintro a v18 w hs hX
          have hM : Mem W w [aInts 3 v18 y16, aInts 3 v14 y12, aInts 3 v10 y8, aMat 23 3 v5 vs7 y3] := hM.call hX
          obtain ⟨y20, h21, hm⟩ := bindE hm
          refine wcall is_20 hs rfl rfl (spec_IsProvedBest_any v5 y3 v10 y8 v14 y12 v18 y16 _ (hM.rdM 3 rfl) (hM.rdI 2 rfl) (hM.rdI 1 rfl) (hM.rdI 0 rfl) h21) ?_; rintro a _ w hs ⟨rfl, hX⟩
          have hM : Mem W w [aInts 3 v18 y16, aInts 3 v14 y12, aInts 3 v10 y8, aMat 23 3 v5 vs7 y3] := hM.call hX
          refine wl hs (y_move hs rfl) rfl ?_; intro a hs
          refine wl hs (y_extract hs rfl rfl) rfl ?_; intro a hs
          refine wl hs (y_extract hs rfl rfl) rfl ?_; intro a hs
          refine wl hs (y_assign hs rfl) rfl ?_; intro a hs
          refine wl hs (y_assign hs rfl) rfl ?_; intro a hs
          refine wpList_nil ?_
          refine x_nt ?_
          refine wp_seq ?_
          refine wp_region_lit ?_
          refine wl hs (y_move hs rfl) rfl ?_; intro a hs
          obtain ⟨y22, h23, hm⟩ := bindE hm
          refine wcall is_15 hs rfl rfl (laws_toIntSS_any v_p0 p0 _ (RdM.below hr_p0 hM.bel) h23) ?_; rintro a v24 w hs ⟨vs26, hX⟩
          have hM : Mem W w [aMat 23 3 v24 vs26 y22, aInts 3 v18 y16, aInts 3 v14 y12, aInts 3 v10 y8, aMat 23 3 v5 vs7 y3] := hM.call hX
          refine wl hs (y_assign hs rfl) rfl ?_; intro a hs
          refine wpList_nil ?_
          refine x_nt ?_
          refine wp_seq ?_
          refine wp_region_lit ?_
          refine wl hs (y_move hs rfl) rfl ?_; intro a hs
          obtain ⟨y27, h28, hm⟩ := bindE hm
          refine wcall is_16 hs rfl rfl (laws_toIntS_any v_p1 p1 _ (RdI.below hr_p1 hM.bel) h28) ?_; rintro a v29 w hs hX
          have hM : Mem W w [aInts 3 v29 y27, aMat 23 3 v24 vs26 y22, aInts 3 v18 y16, aInts 3 v14 y12, aInts 3 v10 y8, aMat 23 3 v5 vs7 y3] := hM.call hX
          refine wl hs (y_assign hs rfl) rfl ?_; intro a hs
          refine wpList_nil ?_
          refine x_nt ?_
          refine wp_seq ?_
          refine wp_region_lit ?_
          refine wl hs (y_move hs rfl) rfl ?_; intro a hs
          obtain ⟨y31, h32, hm⟩ := bindE hm
          refine wcall is_16 hs rfl rfl (laws_toIntS_any v_p2 p2 _ (RdI.below hr_p2 hM.bel) h32) ?_; rintro a v33 w hs hX
          have hM : Mem W w [aInts 3 v33 y31, aInts 3 v29 y27, aMat 23 3 v24 vs26 y22, aInts 3 v18 y16, aInts 3 v14 y12, aInts 3 v10 y8, aMat 23 3 v5 vs7 y3] := hM.call hX
          refine wl hs (y_assign hs rfl) rfl ?_; intro a hs
          refine wpList_nil ?_
          refine x_nt ?_
          refine wp_seq ?_
          refine wp_region_lit ?_
          refine wl hs (y_move hs rfl) rfl ?_; intro a hs
          obtain ⟨y35, h36, hm⟩ := bindE hm
          refine wcall is_16 hs rfl rfl (laws_toIntS_any v_p3 p3 _ (RdI.below hr_p3 hM.bel) h36) ?_; rintro a v37 w hs hX
          have hM : Mem W w [aInts 3 v37 y35, aInts 3 v33 y31, aInts 3 v29 y27, aMat 23 3 v24 vs26 y22, aInts 3 v18 y16, aInts 3 v14 y12, aInts 3 v10 y8, aMat 23 3 v5 vs7 y3] := hM.call hX
          refine wl hs (y_assign hs rfl) rfl ?_; intro a hs
          refine wpList_nil ?_
          refine x_nt ?_
          refine wp_seq ?_
          refine wp_region_lit ?_
          refine wl hs (y_move hs rfl) rfl ?_; intro a hs
          refine wl hs (y_move hs rfl) rfl ?_; intro a hs
          refine wl hs (y_move hs rfl) rfl ?_; intro a hs
          refine wl hs (y_move hs rfl) rfl ?_; intro a hs
          obtain ⟨y39, h40, hm⟩ := bindE hm
          refine wcall is_21 hs rfl rfl (impl_IsProvedBest_any v24 y22 v29 y27 v33 y31 v37 y35 _ (hM.rdM 3 rfl) (hM.rdI 2 rfl) (hM.rdI 1 rfl) (hM.rdI 0 rfl) h40) ?_; rintro a _ w hs ⟨rfl, hX⟩
          have hM : Mem W w [aInts 3 v37 y35, aInts 3 v33 y31, aInts 3 v29 y27, aMat 23 3 v24 vs26 y22, aInts 3 v18 y16, aInts 3 v14 y12, aInts 3 v10 y8, aMat 23 3 v5 vs7 y3] := hM.call hX
          refine wl hs (y_move hs rfl) rfl ?_; intro a hs
          refine wl hs (y_extract hs rfl rfl) rfl ?_; intro a hs
          refine wl hs (y_extract hs rfl rfl) rfl ?_; intro a hs
          refine wl hs (y_assign hs rfl) rfl ?_; intro a hs
          refine wl hs (y_assign hs rfl) rfl ?_; intro a hs
          refine wpList_nil ?_
          refine x_nt ?_
          refine wp_seq ?_
          refine wp_seq ?_
          refine wp_region_lit ?_
          refine wl hs (y_move hs rfl) rfl ?_; intro a hs
          refine wl hs (y_move hs rfl) rfl ?_; intro a hs
          refine wl hs (y_neqB hu_bool hs rfl rfl) rfl ?_; intro a hs
          refine wl hs (y_move hs rfl) rfl ?_; intro a hs
          obtain ⟨b41, hb42, hm⟩ := bindE hm
          refine wlguard (N := 88) (L' := [(67, .bool b41), (0, v_p0), (1, v_p1), (2, v_p2), (3, v_p3), (12, v24), (13, v29), (14, v33), (15, v37)]) (fun w => Mem W w [aInts 3 v37 y35, aInts 3 v33 y31, aInts 3 v29 y27, aMat 23 3 v24 vs26 y22, aInts 3 v18 y16, aInts 3 v14 y12, aInts 3 v10 y8, aMat 23 3 v5 vs7 y3]) 4 ?_ ?_
          · intro K; rcases Bool.eq_false_or_eq_true (y39.1 != y20.1) with hg43 | hg43
            · have hm := condT hg43 hb42
              refine wls hs rfl hg43 rfl ?_; intro a hs
              refine wls hs rfl hg43 rfl ?_; intro a hs
              refine wls hs rfl hg43 rfl ?_; intro a hs
              have hm : some true = some b41 := hm
              cases Option.some.inj hm
              refine wl hs (y_pickT hs rfl hg43 rfl) rfl ?_; intro a hs
              exact K _ _ (hs.sub ⟨rfl, rfl, rfl, rfl, rfl, rfl, rfl, rfl, rfl, trivial⟩) hM
            · have hm := condF hg43 hb42
              refine wlg hs rfl hg43 (y_move hs rfl) rfl ?_; intro a hs
              refine wlg hs rfl hg43 (y_move hs rfl) rfl ?_; intro a hs
              refine wlg hs rfl hg43 (y_neqB hu_bool hs rfl rfl) rfl ?_; intro a hs
              have hm : some (y39.2 != y20.2) = some b41 := hm
              cases Option.some.inj hm
              refine wl hs (y_pickF hs rfl hg43 rfl) rfl ?_; intro a hs
              exact K _ _ (hs.sub ⟨rfl, rfl, rfl, rfl, rfl, rfl, rfl, rfl, rfl, trivial⟩) hM
          intro a w hs hM
          simp only [List.drop_succ_cons, List.drop_zero]
          refine wpList_nil ?_
          refine x_nt ?_
          refine x_cond hs rfl (fun hb => ?_) (fun hb => ?_)
          · replace hm := condT hb hm
            refine wp_seq ?_
            refine wp_region_lit ?_
            refine wl hs (y_assign hs rfl) rfl ?_; intro a hs
            refine wpList_nil ?_
            refine x_nt ?_
            refine wp_ret ?_
            refine x_rt ?_
            have hm : some false = some r := hm
            obtain rfl := Option.some.inj hm
            refine x_ret1 rfl hs rfl ⟨_, rfl, ?_⟩
            exact ⟨rfl, hM.none_⟩
          · replace hm := condF hb hm
            refine wp_skip ?_
            refine x_nt ?_
            refine wp_seq ?_
            refine wp_seq ?_
            refine wp_region_lit ?_
            refine wl hs (y_move hs rfl) rfl ?_; intro a hs
            refine wl hs (y_move hs rfl) rfl ?_; intro a hs
            obtain ⟨y44, h45, hm⟩ := bindE hm
            refine wcall is_15 hs rfl rfl (laws_toIntSS_any v_p0 p0 _ (RdM.below hr_p0 hM.bel) h45) ?_; rintro a v46 w hs ⟨vs48, hX⟩
            have hM : Mem W w [aMat 23 3 v46 vs48 y44, aInts 3 v37 y35, aInts 3 v33 y31, aInts 3 v29 y27, aMat 23 3 v24 vs26 y22, aInts 3 v18 y16, aInts 3 v14 y12, aInts 3 v10 y8, aMat 23 3 v5 vs7 y3] := hM.call hX
            obtain ⟨y49, h50, hm⟩ := bindE hm
            refine wcall is_18 hs rfl rfl (laws_eqIntSS_any v24 y22 v46 y44 _ (hM.rdM 4 rfl) (hM.rdM 0 rfl) h50) ?_; rintro a _ w hs ⟨rfl, hX⟩
            have hM : Mem W w [aMat 23 3 v46 vs48 y44, aInts 3 v37 y35, aInts 3 v33 y31, aInts 3 v29 y27, aMat 23 3 v24 vs26 y22, aInts 3 v18 y16, aInts 3 v14 y12, aInts 3 v10 y8, aMat 23 3 v5 vs7 y3] := hM.call hX
            refine wl hs (y_not hs rfl) rfl ?_; intro a hs
            refine wpList_nil ?_
            refine x_nt ?_
            refine x_cond hs rfl (fun hb => ?_) (fun hb => ?_)
            · replace hm := condT hb hm
              refine wp_seq ?_
              refine wp_region_lit ?_
              refine wl hs (y_assign hs rfl) rfl ?_; intro a hs
              refine wpList_nil ?_
              refine x_nt ?_
              refine wp_ret ?_
              refine x_rt ?_
              have hm : some false = some r := hm
              obtain rfl := Option.some.inj hm
              refine x_ret1 rfl hs rfl ⟨_, rfl, ?_⟩
              exact ⟨rfl, hM.none_⟩
            · replace hm := condF hb hm
              refine wp_skip ?_
              refine x_nt ?_
              refine wp_seq ?_
              refine wp_seq ?_
              refine wp_region_lit ?_
              refine wl hs (y_move hs rfl) rfl ?_; intro a hs
              refine wl hs (y_move hs rfl) rfl ?_; intro a hs
              obtain ⟨y51, h52, hm⟩ := bindE hm
              refine wcall is_16 hs rfl rfl (laws_toIntS_any v_p1 p1 _ (RdI.below hr_p1 hM.bel) h52) ?_; rintro a v53 w hs hX
              have hM : Mem W w [aInts 3 v53 y51, aMat 23 3 v46 vs48 y44, aInts 3 v37 y35, aInts 3 v33 y31, aInts 3 v29 y27, aMat 23 3 v24 vs26 y22, aInts 3 v18 y16, aInts 3 v14 y12, aInts 3 v10 y8, aMat 23 3 v5 vs7 y3] := hM.call hX
              obtain ⟨y55, h56, hm⟩ := bindE hm
              refine wcall is_19 hs rfl rfl (laws_eqIntS_any v29 y27 v53 y51 _ (hM.rdI 4 rfl) (hM.rdI 0 rfl) h56) ?_; rintro a _ w hs ⟨rfl, hX⟩
              have hM : Mem W w [aInts 3 v53 y51, aMat 23 3 v46 vs48 y44, aInts 3 v37 y35, aInts 3 v33 y31, aInts 3 v29 y27, aMat 23 3 v24 vs26 y22, aInts 3 v18 y16, aInts 3 v14 y12, aInts 3 v10 y8, aMat 23 3 v5 vs7 y3] := hM.call hX
              refine wl hs (y_not hs rfl) rfl ?_; intro a hs
              refine wpList_nil ?_
              refine x_nt ?_
              refine x_cond hs rfl (fun hb => ?_) (fun hb => ?_)
              · replace hm := condT hb hm
                refine wp_seq ?_
                refine wp_region_lit ?_
                refine wl hs (y_assign hs rfl) rfl ?_; intro a hs
                refine wpList_nil ?_
                refine x_nt ?_
                refine wp_ret ?_
                refine x_rt ?_
                have hm : some false = some r := hm
                obtain rfl := Option.some.inj hm
                refine x_ret1 rfl hs rfl ⟨_, rfl, ?_⟩
                exact ⟨rfl, hM.none_⟩
              · replace hm := condF hb hm
                refine wp_skip ?_
                refine x_nt ?_
                refine wp_seq ?_
                refine wp_seq ?_
                refine wp_region_lit ?_
                refine wl hs (y_move hs rfl) rfl ?_; intro a hs
                refine wl hs (y_move hs rfl) rfl ?_; intro a hs
                obtain ⟨y57, h58, hm⟩ := bindE hm
                refine wcall is_16 hs rfl rfl (laws_toIntS_any v_p2 p2 _ (RdI.below hr_p2 hM.bel) h58) ?_; rintro a v59 w hs hX
                have hM : Mem W w [aInts 3 v59 y57, aInts 3 v53 y51, aMat 23 3 v46 vs48 y44, aInts 3 v37 y35, aInts 3 v33 y31, aInts 3 v29 y27, aMat 23 3 v24 vs26 y22, aInts 3 v18 y16, aInts 3 v14 y12, aInts 3 v10 y8, aMat 23 3 v5 vs7 y3] := hM.call hX
                obtain ⟨y61, h62, hm⟩ := bindE hm
                refine wcall is_19 hs rfl rfl (laws_eqIntS_any v33 y31 v59 y57 _ (hM.rdI 4 rfl) (hM.rdI 0 rfl) h62) ?_; rintro a _ w hs ⟨rfl, hX⟩
                have hM : Mem W w [aInts 3 v59 y57, aInts 3 v53 y51, aMat 23 3 v46 vs48 y44, aInts 3 v37 y35, aInts 3 v33 y31, aInts 3 v29 y27, aMat 23 3 v24 vs26 y22, aInts 3 v18 y16, aInts 3 v14 y12, aInts 3 v10 y8, aMat 23 3 v5 vs7 y3] := hM.call hX
                refine wl hs (y_not hs rfl) rfl ?_; intro a hs
                refine wpList_nil ?_
                refine x_nt ?_
                refine x_cond hs rfl (fun hb => ?_) (fun hb => ?_)
                · replace hm := condT hb hm
                  refine wp_seq ?_
                  refine wp_region_lit ?_
                  refine wl hs (y_assign hs rfl) rfl ?_; intro a hs
                  refine wpList_nil ?_
                  refine x_nt ?_
                  refine wp_ret ?_
                  refine x_rt ?_
                  have hm : some false = some r := hm
                  obtain rfl := Option.some.inj hm
                  refine x_ret1 rfl hs rfl ⟨_, rfl, ?_⟩
                  exact ⟨rfl, hM.none_⟩
                · replace hm := condF hb hm
                  refine wp_skip ?_
                  refine x_nt ?_
                  refine wp_seq ?_
                  refine wp_seq ?_
                  refine wp_region_lit ?_
                  refine wl hs (y_move hs rfl) rfl ?_; intro a hs
                  refine wl hs (y_move hs rfl) rfl ?_; intro a hs
                  obtain ⟨y63, h64, hm⟩ := bindE hm
                  refine wcall is_16 hs rfl rfl (laws_toIntS_any v_p3 p3 _ (RdI.below hr_p3 hM.bel) h64) ?_; rintro a v65 w hs hX
                  have hM : Mem W w [aInts 3 v65 y63, aInts 3 v59 y57, aInts 3 v53 y51, aMat 23 3 v46 vs48 y44, aInts 3 v37 y35, aInts 3 v33 y31, aInts 3 v29 y27, aMat 23 3 v24 vs26 y22, aInts 3 v18 y16, aInts 3 v14 y12, aInts 3 v10 y8, aMat 23 3 v5 vs7 y3] := hM.call hX
                  obtain ⟨y67, h68, hm⟩ := bindE hm
                  refine wcall is_19 hs rfl rfl (laws_eqIntS_any v37 y35 v65 y63 _ (hM.rdI 4 rfl) (hM.rdI 0 rfl) h68) ?_; rintro a _ w hs ⟨rfl, hX⟩
                  have hM : Mem W w [aInts 3 v65 y63, aInts 3 v59 y57, aInts 3 v53 y51, aMat 23 3 v46 vs48 y44, aInts 3 v37 y35, aInts 3 v33 y31, aInts 3 v29 y27, aMat 23 3 v24 vs26 y22, aInts 3 v18 y16, aInts 3 v14 y12, aInts 3 v10 y8, aMat 23 3 v5 vs7 y3] := hM.call hX
                  refine wl hs (y_not hs rfl) rfl ?_; intro a hs
                  refine wpList_nil ?_
                  refine x_nt ?_
                  refine x_cond hs rfl (fun hb => ?_) (fun hb => ?_)
                  · replace hm := condT hb hm
                    refine wp_seq ?_
                    refine wp_region_lit ?_
                    refine wl hs (y_assign hs rfl) rfl ?_; intro a hs
                    refine wpList_nil ?_
                    refine x_nt ?_
                    refine wp_ret ?_
                    refine x_rt ?_
                    have hm : some false = some r := hm
                    obtain rfl := Option.some.inj hm
                    refine x_ret1 rfl hs rfl ⟨_, rfl, ?_⟩
                    exact ⟨rfl, hM.none_⟩
                  · replace hm := condF hb hm
                    refine wp_skip ?_
                    refine x_nt ?_
                    refine wp_seq ?_
                    refine wp_region_lit ?_
                    refine wl hs (y_assign hs rfl) rfl ?_; intro a hs
                    refine wpList_nil ?_
                    refine x_nt ?_
                    refine wp_ret ?_
                    have hm : some true = some r := hm
                    obtain rfl := Option.some.inj hm
                    refine x_ret1 rfl hs rfl ⟨_, rfl, ?_⟩
                    exact ⟨rfl, hM.none_⟩

end Go.Proofs.Ytnnhbkhlipekeaa
