/- The code of this unit computes what its mirrors say. Written by program (wip/gen). -/
import Derived.Test.YtaagklbiebogfaaFacts
import Derived.Test.YtaagklbiebogfaaEPartOfM
import Derived.Test.YtaagklbiebogfaaNumW
import Derived.Test.YtaagklbiebogfaaRk2W
namespace Go.Proofs.Ytaagklbiebogfaa
open Go.RowKit
set_option linter.unusedVariables false

theorem laws_FnExactPartOf_any (v_p0 : Value) (p0 : List (List Int)) (v_p1 : Value) (p1 : List Int) (v_p2 : Value) (p2 : List Int) (W : World) (hr_p0 : RdM W v_p0 p0) (hr_p1 : RdI W v_p1 p1) (hr_p2 : RdI W v_p2 p2) {r : Bool} (hm : laws_FnExactPartOf_m p0 p1 p2 = some r) : Calls Try.prog 4 [v_p0, v_p1, v_p2].toArray W fun e w => ∃ v, e = .returned v ∧ v = .bool r ∧ Mem W w [] := by
  refine x_enter Try.func4 rfl Try.ntmps4 rfl ?_
  intro a hs
  have hM := Mem.start W
  unfold laws_FnExactPartOf_m at hm
  refine wp_seq ?_
  refine wp_region_lit ?_
  refine wl hs (y_assign hs rfl) rfl ?_; intro a hs
  refine wpList_nil ?_
  refine x_nt ?_
  refine wp_seq ?_
  refine wp_seq ?_
  refine wp_region_lit ?_
  refine wl hs (y_move hs rfl) rfl ?_; intro a hs
  refine wl hs (y_len hu_I hs rfl (RdI.below hr_p1 hM.bel)) rfl ?_; intro a hs
  refine wl hs (y_gtr hs rfl rfl) rfl ?_; intro a hs
  refine wpList_nil ?_
  refine x_nt ?_
  refine x_cond hs rfl (fun hb => ?_) (fun hb => ?_)
  · replace hm := condT hb hm
    refine wp_seq ?_
    refine wp_region_lit ?_
    refine wl hs (y_assign hs rfl) rfl ?_; intro a hs
    refine wpList_nil ?_
    refine x_nt ?_
    refine wp_ret ?_
    refine x_rt ?_
    have hm : some true = some r := hm
    obtain rfl := Option.some.inj hm
    refine x_ret1 rfl hs rfl ⟨_, rfl, ?_⟩
    exact ⟨rfl, hM⟩
  · replace hm := condF hb hm
    refine wp_skip ?_
    refine x_nt ?_
    refine wp_seq ?_
    refine wp_seq ?_
    refine wp_region_lit ?_
    refine wl hs (y_move hs rfl) rfl ?_; intro a hs
    refine wl hs (y_len hu_I hs rfl (RdI.below hr_p2 hM.bel)) rfl ?_; intro a hs
    refine wl hs (y_gtr hs rfl rfl) rfl ?_; intro a hs
    refine wpList_nil ?_
    refine x_nt ?_
    refine x_cond hs rfl (fun hb => ?_) (fun hb => ?_)
    · replace hm := condT hb hm
      refine wp_seq ?_
      refine wp_region_lit ?_
      refine wl hs (y_assign hs rfl) rfl ?_; intro a hs
      refine wpList_nil ?_
      refine x_nt ?_
      refine wp_ret ?_
      refine x_rt ?_
      have hm : some true = some r := hm
      obtain rfl := Option.some.inj hm
      refine x_ret1 rfl hs rfl ⟨_, rfl, ?_⟩
      exact ⟨rfl, hM⟩
    · replace hm := condF hb hm
      refine wp_skip ?_
      refine x_nt ?_
      refine wp_seq ?_
      refine wp_region_lit ?_
      refine wl hs (y_assign hs rfl) rfl ?_; intro a hs
      refine wpList_nil ?_
      refine x_nt ?_
      refine wp_seq ?_
      refine wp_region_lit ?_
      refine wl hs (y_move hs rfl) rfl ?_; intro a hs
      refine wl hs (y_move hs rfl) rfl ?_; intro a hs
      obtain ⟨y1, h2, hm⟩ := bindE hm
      refine wcall is_15 hs rfl rfl (laws_szIntSS_any v_p0 p0 1048576 _ (RdM.below hr_p0 hM.bel) h2) ?_; rintro a _ w hs ⟨rfl, hX⟩
      have hM : Mem W w [] := hM.call hX
      refine wl hs (y_assign hs rfl) rfl ?_; intro a hs
      refine wpList_nil ?_
      refine x_nt ?_
      refine wp_seq ?_
      refine wp_seq ?_
      refine wp_region_lit ?_
      refine wl hs (y_move hs rfl) rfl ?_; intro a hs
      refine wl hs (y_lss hs rfl rfl) rfl ?_; intro a hs
      refine wpList_nil ?_
      refine x_nt ?_
      refine x_cond hs rfl (fun hb => ?_) (fun hb => ?_)
      · replace hm := condT hb hm
        refine wp_seq ?_
        refine wp_region_lit ?_
        refine wl hs (y_assign hs rfl) rfl ?_; intro a hs
        refine wpList_nil ?_
        refine x_nt ?_
        refine wp_ret ?_
        refine x_rt ?_
        have hm : some true = some r := hm
        obtain rfl := Option.some.inj hm
        refine x_ret1 rfl hs rfl ⟨_, rfl, ?_⟩
        exact ⟨rfl, hM⟩
      · replace hm := condF hb hm
        refine wp_skip ?_
        refine x_nt ?_
        refine wp_seq ?_
        refine wp_region_lit ?_
        refine wl hs (y_move hs rfl) rfl ?_; intro a hs
        obtain ⟨y3, h4, hm⟩ := bindE hm
        refine wcall is_17 hs rfl rfl (laws_toIntSS_any v_p0 p0 _ (RdM.below hr_p0 hM.bel) h4) ?_; rintro a v5 w hs ⟨vs7, hX⟩
        have hM : Mem W w [aMat 24 3 v5 vs7 y3] := hM.call hX
        refine wl hs (y_move hs rfl) rfl ?_; intro a hs
        obtain ⟨y8, h9, hm⟩ := bindE hm
        refine wcall is_25 hs rfl rfl (laws_toIntS_any v_p1 p1 _ (RdI.below hr_p1 hM.bel) h9) ?_; rintro a v10 w hs hX
        have hM : Mem W w [aInts 3 v10 y8, aMat 24 3 v5 vs7 y3] := hM.call hX
        refine wl hs (y_move hs rfl) rfl ?_; intro a hs
        obtain ⟨y12, h13, hm⟩ := bindE hm
        refine wcall is_25 hs rfl rfl (laws_toIntS_any v_p2 p2 _ (RdI.below hr_p2 hM.bel) h13) ?_; rintro a v14 w hs hX
        have hM : Mem W w [aInts 3 v14 y12, aInts 3 v10 y8, aMat 24 3 v5 vs7 y3] := hM.call hX
        obtain ⟨y16, h17, hm⟩ := bindE hm
        refine wcall is_24 hs rfl rfl (spec_PartOf_any v5 y3 v10 y8 v14 y12 _ (hM.rdM 2 rfl) (hM.rdI 1 rfl) (hM.rdI 0 rfl) h17) ?_; rintro a _ w hs ⟨v20, vs21, rfl, hX⟩
        have hM : Mem W w [aMat 24 3 v20 vs21 y16.1, aInts 3 v14 y12, aInts 3 v10 y8, aMat 24 3 v5 vs7 y3] := hM.call hX
        refine wl hs (y_move hs rfl) rfl ?_; intro a hs
        refine wl hs (y_extract hs rfl rfl) rfl ?_; intro a hs
        refine wl hs (y_extract hs rfl rfl) rfl ?_; intro a hs
        refine wl hs (y_assign hs rfl) rfl ?_; intro a hs
        refine wl hs (y_assign hs rfl) rfl ?_; intro a hs
        refine wpList_nil ?_
        refine x_nt ?_
        refine wp_seq ?_
        refine wp_region_lit ?_
        refine wl hs (y_move hs rfl) rfl ?_; intro a hs
        obtain ⟨y22, h23, hm⟩ := bindE hm
        refine wcall is_17 hs rfl rfl (laws_toIntSS_any v_p0 p0 _ (RdM.below hr_p0 hM.bel) h23) ?_; rintro a v24 w hs ⟨vs26, hX⟩
        have hM : Mem W w [aMat 24 3 v24 vs26 y22, aMat 24 3 v20 vs21 y16.1, aInts 3 v14 y12, aInts 3 v10 y8, aMat 24 3 v5 vs7 y3] := hM.call hX
        refine wl hs (y_assign hs rfl) rfl ?_; intro a hs
        refine wpList_nil ?_
        refine x_nt ?_
        refine wp_seq ?_
        refine wp_region_lit ?_
        refine wl hs (y_move hs rfl) rfl ?_; intro a hs
        obtain ⟨y27, h28, hm⟩ := bindE hm
        refine wcall is_25 hs rfl rfl (laws_toIntS_any v_p1 p1 _ (RdI.below hr_p1 hM.bel) h28) ?_; rintro a v29 w hs hX
        have hM : Mem W w [aInts 3 v29 y27, aMat 24 3 v24 vs26 y22, aMat 24 3 v20 vs21 y16.1, aInts 3 v14 y12, aInts 3 v10 y8, aMat 24 3 v5 vs7 y3] := hM.call hX
        refine wl hs (y_assign hs rfl) rfl ?_; intro a hs
        refine wpList_nil ?_
        refine x_nt ?_
        refine wp_seq ?_
        refine wp_region_lit ?_
        refine wl hs (y_move hs rfl) rfl ?_; intro a hs
        obtain ⟨y31, h32, hm⟩ := bindE hm
        refine wcall is_25 hs rfl rfl (laws_toIntS_any v_p2 p2 _ (RdI.below hr_p2 hM.bel) h32) ?_; rintro a v33 w hs hX
        have hM : Mem W w [aInts 3 v33 y31, aInts 3 v29 y27, aMat 24 3 v24 vs26 y22, aMat 24 3 v20 vs21 y16.1, aInts 3 v14 y12, aInts 3 v10 y8, aMat 24 3 v5 vs7 y3] := hM.call hX
        refine wl hs (y_assign hs rfl) rfl ?_; intro a hs
        refine wpList_nil ?_
        refine x_nt ?_
        refine wp_seq ?_
        refine wp_region_lit ?_
        refine wl hs (y_move hs rfl) rfl ?_; intro a hs
        refine wl hs (y_move hs rfl) rfl ?_; intro a hs
        refine wl hs (y_move hs rfl) rfl ?_; intro a hs
        obtain ⟨y35, h36, hm⟩ := bindE hm
        refine wcall is_26 hs rfl rfl (impl_PartOf_any v24 y22 v29 y27 v33 y31 _ (hM.rdM 2 rfl) (hM.rdI 1 rfl) (hM.rdI 0 rfl) h36) ?_; rintro a _ w hs ⟨v39, vs40, rfl, hX⟩
        have hM : Mem W w [aMat 24 3 v39 vs40 y35.1, aInts 3 v33 y31, aInts 3 v29 y27, aMat 24 3 v24 vs26 y22, aMat 24 3 v20 vs21 y16.1, aInts 3 v14 y12, aInts 3 v10 y8, aMat 24 3 v5 vs7 y3] := hM.call hX
        refine wl hs (y_move hs rfl) rfl ?_; intro a hs
        refine wl hs (y_extract hs rfl rfl) rfl ?_; intro a hs
        refine wl hs (y_extract hs rfl rfl) rfl ?_; intro a hs
        refine wl hs (y_assign hs rfl) rfl ?_; intro a hs
        refine wl hs (y_assign hs rfl) rfl ?_; intro a hs
        refine wpList_nil ?_
        refine x_nt ?_
        refine wp_seq ?_
        refine wp_seq ?_
        refine wp_region_lit ?_
        refine wl hs (y_move hs rfl) rfl ?_; intro a hs
        refine wl hs (y_move hs rfl) rfl ?_; intro a hs
        obtain ⟨y41, h42, hm⟩ := bindE hm
        refine wcall is_20 hs rfl rfl (laws_eqIntSS_any v39 y35.1 v20 y16.1 _ (hM.rdM 0 rfl) (hM.rdM 4 rfl) h42) ?_; rintro a _ w hs ⟨rfl, hX⟩
        have hM : Mem W w [aMat 24 3 v39 vs40 y35.1, aInts 3 v33 y31, aInts 3 v29 y27, aMat 24 3 v24 vs26 y22, aMat 24 3 v20 vs21 y16.1, aInts 3 v14 y12, aInts 3 v10 y8, aMat 24 3 v5 vs7 y3] := hM.call hX
        refine wl hs (y_not hs rfl) rfl ?_; intro a hs
        refine wl hs (y_move hs rfl) rfl ?_; intro a hs
        obtain ⟨b43, hb44, hm⟩ := bindE hm
        refine wlguard (N := 138) (L' := [(62, .bool b43), (0, v_p0), (1, v_p1), (2, v_p2), (8, v20), (9, .bool y16.2), (10, v24), (11, v29), (12, v33), (13, v39), (14, .bool y35.2)]) (fun w => Mem W w [aMat 24 3 v39 vs40 y35.1, aInts 3 v33 y31, aInts 3 v29 y27, aMat 24 3 v24 vs26 y22, aMat 24 3 v20 vs21 y16.1, aInts 3 v14 y12, aInts 3 v10 y8, aMat 24 3 v5 vs7 y3]) 4 ?_ ?_
        · intro K; rcases Bool.eq_false_or_eq_true (!y41) with hg45 | hg45
          · have hm := condT hg45 hb44
            refine wls hs rfl hg45 rfl ?_; intro a hs
            refine wls hs rfl hg45 rfl ?_; intro a hs
            refine wls hs rfl hg45 rfl ?_; intro a hs
            have hm : some true = some b43 := hm
            cases Option.some.inj hm
            refine wl hs (y_pickT hs rfl hg45 rfl) rfl ?_; intro a hs
            exact K _ _ (hs.sub ⟨rfl, rfl, rfl, rfl, rfl, rfl, rfl, rfl, rfl, rfl, rfl, trivial⟩) hM
          · have hm := condF hg45 hb44
            refine wlg hs rfl hg45 (y_move hs rfl) rfl ?_; intro a hs
            refine wlg hs rfl hg45 (y_move hs rfl) rfl ?_; intro a hs
            refine wlg hs rfl hg45 (y_neqB hu_bool hs rfl rfl) rfl ?_; intro a hs
            have hm : some (y35.2 != y16.2) = some b43 := hm
            cases Option.some.inj hm
            refine wl hs (y_pickF hs rfl hg45 rfl) rfl ?_; intro a hs
            exact K _ _ (hs.sub ⟨rfl, rfl, rfl, rfl, rfl, rfl, rfl, rfl, rfl, rfl, rfl, trivial⟩) hM
        intro a w hs hM
        simp only [List.drop_succ_cons, List.drop_zero]
        refine wpList_nil ?_
        refine x_nt ?_
        refine x_cond hs rfl (fun hb => ?_) (fun hb => ?_)
        · replace hm := condT hb hm
          refine wp_seq ?_
          refine wp_region_lit ?_
          refine wl hs (y_assign hs rfl) rfl ?_; intro a hs
          refine wpList_nil ?_
          refine x_nt ?_
          refine wp_ret ?_
          refine x_rt ?_
          have hm : some false = some r := hm
          obtain rfl := Option.some.inj hm
          refine x_ret1 rfl hs rfl ⟨_, rfl, ?_⟩
          exact ⟨rfl, hM.none_⟩
        · replace hm := condF hb hm
          refine wp_skip ?_
          refine x_nt ?_
          refine wp_seq ?_
          refine wp_seq ?_
          refine wp_region_lit ?_
          refine wl hs (y_move hs rfl) rfl ?_; intro a hs
          refine wl hs (y_move hs rfl) rfl ?_; intro a hs
          obtain ⟨y46, h47, hm⟩ := bindE hm
          refine wcall is_17 hs rfl rfl (laws_toIntSS_any v_p0 p0 _ (RdM.below hr_p0 hM.bel) h47) ?_; rintro a v48 w hs ⟨vs50, hX⟩
          have hM : Mem W w [aMat 24 3 v48 vs50 y46, aMat 24 3 v39 vs40 y35.1, aInts 3 v33 y31, aInts 3 v29 y27, aMat 24 3 v24 vs26 y22, aMat 24 3 v20 vs21 y16.1, aInts 3 v14 y12, aInts 3 v10 y8, aMat 24 3 v5 vs7 y3] := hM.call hX
          obtain ⟨y51, h52, hm⟩ := bindE hm
          refine wcall is_20 hs rfl rfl (laws_eqIntSS_any v24 y22 v48 y46 _ (hM.rdM 4 rfl) (hM.rdM 0 rfl) h52) ?_; rintro a _ w hs ⟨rfl, hX⟩
          have hM : Mem W w [aMat 24 3 v48 vs50 y46, aMat 24 3 v39 vs40 y35.1, aInts 3 v33 y31, aInts 3 v29 y27, aMat 24 3 v24 vs26 y22, aMat 24 3 v20 vs21 y16.1, aInts 3 v14 y12, aInts 3 v10 y8, aMat 24 3 v5 vs7 y3] := hM.call hX
          refine wl hs (y_not hs rfl) rfl ?_; intro a hs
          refine wpList_nil ?_
          refine x_nt ?_
          refine x_cond hs rfl (fun hb => ?_) (fun hb => ?_)
          · replace hm := condT hb hm
            refine wp_seq ?_
            refine wp_region_lit ?_
            refine wl hs (y_assign hs rfl) rfl ?_; intro a hs
            refine wpList_nil ?_
            refine x_nt ?_
            refine wp_ret ?_
            refine x_rt ?_
            have hm : some false = some r := hm
            obtain rfl := Option.some.inj hm
            refine x_ret1 rfl hs rfl ⟨_, rfl, ?_⟩
            exact ⟨rfl, hM.none_⟩
          · replace hm := condF hb hm
            refine wp_skip ?_
            refine x_nt ?_
            refine wp_seq ?_
            refine wp_seq ?_
            refine wp_region_lit ?_
            refine wl hs (y_move hs rfl) rfl ?_; intro a hs
            refine wl hs (y_move hs rfl) rfl ?_; intro a hs
            obtain ⟨y53, h54, hm⟩ := bindE hm
            refine wcall is_25 hs rfl rfl (laws_toIntS_any v_p1 p1 _ (RdI.below hr_p1 hM.bel) h54) ?_; rintro a v55 w hs hX
            have hM : Mem W w [aInts 3 v55 y53, aMat 24 3 v48 vs50 y46, aMat 24 3 v39 vs40 y35.1, aInts 3 v33 y31, aInts 3 v29 y27, aMat 24 3 v24 vs26 y22, aMat 24 3 v20 vs21 y16.1, aInts 3 v14 y12, aInts 3 v10 y8, aMat 24 3 v5 vs7 y3] := hM.call hX
            obtain ⟨y57, h58, hm⟩ := bindE hm
            refine wcall is_19 hs rfl rfl (laws_eqIntS_any v29 y27 v55 y53 _ (hM.rdI 4 rfl) (hM.rdI 0 rfl) h58) ?_; rintro a _ w hs ⟨rfl, hX⟩
            have hM : Mem W w [aInts 3 v55 y53, aMat 24 3 v48 vs50 y46, aMat 24 3 v39 vs40 y35.1, aInts 3 v33 y31, aInts 3 v29 y27, aMat 24 3 v24 vs26 y22, aMat 24 3 v20 vs21 y16.1, aInts 3 v14 y12, aInts 3 v10 y8, aMat 24 3 v5 vs7 y3] := hM.call hX
            refine wl hs (y_not hs rfl) rfl ?_; intro a hs
            refine wpList_nil ?_
            refine x_nt ?_
            refine x_cond hs rfl (fun hb => ?_) (fun hb => ?_)
            · replace hm := condT hb hm
              refine wp_seq ?_
              refine wp_region_lit ?_
              refine wl hs (y_assign hs rfl) rfl ?_; intro a hs
              refine wpList_nil ?_
              refine x_nt ?_
              refine wp_ret ?_
              refine x_rt ?_
              have hm : some false = some r := hm
              obtain rfl := Option.some.inj hm
              refine x_ret1 rfl hs rfl ⟨_, rfl, ?_⟩
              exact ⟨rfl, hM.none_⟩
            · replace hm := condF hb hm
              refine wp_skip ?_
              refine x_nt ?_
              refine wp_seq ?_
              refine wp_seq ?_
              refine wp_region_lit ?_
              refine wl hs (y_move hs rfl) rfl ?_; intro a hs
              refine wl hs (y_move hs rfl) rfl ?_; intro a hs
              obtain ⟨y59, h60, hm⟩ := bindE hm
              refine wcall is_25 hs rfl rfl (laws_toIntS_any v_p2 p2 _ (RdI.below hr_p2 hM.bel) h60) ?_; rintro a v61 w hs hX
              have hM : Mem W w [aInts 3 v61 y59, aInts 3 v55 y53, aMat 24 3 v48 vs50 y46, aMat 24 3 v39 vs40 y35.1, aInts 3 v33 y31, aInts 3 v29 y27, aMat 24 3 v24 vs26 y22, aMat 24 3 v20 vs21 y16.1, aInts 3 v14 y12, aInts 3 v10 y8, aMat 24 3 v5 vs7 y3] := hM.call hX
              obtain ⟨y63, h64, hm⟩ := bindE hm
              refine wcall is_19 hs rfl rfl (laws_eqIntS_any v33 y31 v61 y59 _ (hM.rdI 4 rfl) (hM.rdI 0 rfl) h64) ?_; rintro a _ w hs ⟨rfl, hX⟩
              have hM : Mem W w [aInts 3 v61 y59, aInts 3 v55 y53, aMat 24 3 v48 vs50 y46, aMat 24 3 v39 vs40 y35.1, aInts 3 v33 y31, aInts 3 v29 y27, aMat 24 3 v24 vs26 y22, aMat 24 3 v20 vs21 y16.1, aInts 3 v14 y12, aInts 3 v10 y8, aMat 24 3 v5 vs7 y3] := hM.call hX
              refine wl hs (y_not hs rfl) rfl ?_; intro a hs
              refine wpList_nil ?_
              refine x_nt ?_
              refine x_cond hs rfl (fun hb => ?_) (fun hb => ?_)
              · replace hm := condT hb hm
                refine wp_seq ?_
                refine wp_region_lit ?_
                refine wl hs (y_assign hs rfl) rfl ?_; intro a hs
                refine wpList_nil ?_
                refine x_nt ?_
                refine wp_ret ?_
                refine x_rt ?_
                have hm : some false = some r := hm
                obtain rfl := Option.some.inj hm
                refine x_ret1 rfl hs rfl ⟨_, rfl, ?_⟩
                exact ⟨rfl, hM.none_⟩
              · replace hm := condF hb hm
                refine wp_skip ?_
                refine x_nt ?_
                refine wp_seq ?_
                refine wp_region_lit ?_
                refine wl hs (y_assign hs rfl) rfl ?_; intro a hs
                refine wpList_nil ?_
                refine x_nt ?_
                refine wp_seq ?_
                refine wp_region_lit ?_
                refine wl hs (y_move hs rfl) rfl ?_; intro a hs
                refine wl hs (y_move hs rfl) rfl ?_; intro a hs
                obtain ⟨y65, h66, hm⟩ := bindE hm
                have hM : Mem W w [aMat 24 3 v24 vs26 y22, aInts 3 v61 y59, aInts 3 v55 y53, aMat 24 3 v48 vs50 y46, aMat 24 3 v39 vs40 y35.1, aInts 3 v33 y31, aInts 3 v29 y27, aMat 24 3 v20 vs21 y16.1, aInts 3 v14 y12, aInts 3 v10 y8, aMat 24 3 v5 vs7 y3] := (((((((((((hM.front 10 rfl).front 10 rfl).front 10 rfl).front 10 rfl).front 9 rfl).front 9 rfl).front 9 rfl).front 9 rfl).front 9 rfl).front 9 rfl).front 10 rfl)
                refine wcall is_21 hs rfl rfl (laws_markIntSS_any v24 y22 _ 1 _ _ _  hM h66) ?_; rintro a _ w hs ⟨vs67, rfl, hM⟩
                have hM : Mem W w [aMat 24 3 v24 vs67 y65.2, aInts 3 v61 y59, aInts 3 v55 y53, aMat 24 3 v48 vs50 y46, aMat 24 3 v39 vs40 y35.1, aInts 3 v33 y31, aInts 3 v29 y27, aMat 24 3 v20 vs21 y16.1, aInts 3 v14 y12, aInts 3 v10 y8, aMat 24 3 v5 vs7 y3] := hM
                refine wl hs (y_assign hs rfl) rfl ?_; intro a hs
                refine wpList_nil ?_
                refine x_nt ?_
                refine wp_seq ?_
                refine wp_region_lit ?_
                refine wl hs (y_move hs rfl) rfl ?_; intro a hs
                refine wl hs (y_move hs rfl) rfl ?_; intro a hs
                obtain ⟨y68, h69, hm⟩ := bindE hm
                have hM : Mem W w [aInts 3 v29 y27, aMat 24 3 v24 vs67 y65.2, aInts 3 v61 y59, aInts 3 v55 y53, aMat 24 3 v48 vs50 y46, aMat 24 3 v39 vs40 y35.1, aInts 3 v33 y31, aMat 24 3 v20 vs21 y16.1, aInts 3 v14 y12, aInts 3 v10 y8, aMat 24 3 v5 vs7 y3] := (((((((((((hM.front 10 rfl).front 10 rfl).front 10 rfl).front 10 rfl).front 9 rfl).front 9 rfl).front 9 rfl).front 9 rfl).front 9 rfl).front 9 rfl).front 10 rfl)
                refine wcall is_22 hs rfl rfl (laws_markIntS_any v29 y27 y65.1 _ _ _  hM h69) ?_; rintro a _ w hs ⟨rfl, hM⟩
                have hM : Mem W w [aInts 3 v29 y68.2, aMat 24 3 v24 vs67 y65.2, aInts 3 v61 y59, aInts 3 v55 y53, aMat 24 3 v48 vs50 y46, aMat 24 3 v39 vs40 y35.1, aInts 3 v33 y31, aMat 24 3 v20 vs21 y16.1, aInts 3 v14 y12, aInts 3 v10 y8, aMat 24 3 v5 vs7 y3] := hM
                refine wl hs (y_assign hs rfl) rfl ?_; intro a hs
                refine wpList_nil ?_
                refine x_nt ?_
                refine wp_seq ?_
                refine wp_region_lit ?_
                refine wl hs (y_move hs rfl) rfl ?_; intro a hs
                refine wl hs (y_move hs rfl) rfl ?_; intro a hs
                obtain ⟨y70, h71, hm⟩ := bindE hm
                have hM : Mem W w [aInts 3 v33 y31, aInts 3 v29 y68.2, aMat 24 3 v24 vs67 y65.2, aInts 3 v61 y59, aInts 3 v55 y53, aMat 24 3 v48 vs50 y46, aMat 24 3 v39 vs40 y35.1, aMat 24 3 v20 vs21 y16.1, aInts 3 v14 y12, aInts 3 v10 y8, aMat 24 3 v5 vs7 y3] := (((((((((((hM.front 10 rfl).front 10 rfl).front 10 rfl).front 10 rfl).front 9 rfl).front 9 rfl).front 9 rfl).front 9 rfl).front 9 rfl).front 9 rfl).front 10 rfl)
                refine wcall is_22 hs rfl rfl (laws_markIntS_any v33 y31 y68.1 _ _ _  hM h71) ?_; rintro a _ w hs ⟨rfl, hM⟩
                have hM : Mem W w [aInts 3 v33 y70.2, aInts 3 v29 y68.2, aMat 24 3 v24 vs67 y65.2, aInts 3 v61 y59, aInts 3 v55 y53, aMat 24 3 v48 vs50 y46, aMat 24 3 v39 vs40 y35.1, aMat 24 3 v20 vs21 y16.1, aInts 3 v14 y12, aInts 3 v10 y8, aMat 24 3 v5 vs7 y3] := hM
                refine wl hs (y_assign hs rfl) rfl ?_; intro a hs
                refine wpList_nil ?_
                refine x_nt ?_
                refine wp_seq ?_
                refine wp_seq ?_
                refine wp_region_lit ?_
                refine wl hs (y_move hs rfl) rfl ?_; intro a hs
                refine wl hs (y_lss hs rfl rfl) rfl ?_; intro a hs
                refine wl hs (y_move hs rfl) rfl ?_; intro a hs
                obtain ⟨b72, hb73, hm⟩ := bindE hm
                refine wlguard (N := 138) (L' := [(94, .bool b72), (0, v_p0), (1, v_p1), (2, v_p2), (8, v20), (9, .bool y16.2), (13, v39), (14, .bool y35.2)]) (fun w => Mem W w [aInts 3 v33 y70.2, aInts 3 v29 y68.2, aMat 24 3 v24 vs67 y65.2, aInts 3 v61 y59, aInts 3 v55 y53, aMat 24 3 v48 vs50 y46, aMat 24 3 v39 vs40 y35.1, aMat 24 3 v20 vs21 y16.1, aInts 3 v14 y12, aInts 3 v10 y8, aMat 24 3 v5 vs7 y3]) 5 ?_ ?_
                · intro K; rcases Bool.eq_false_or_eq_true (decide (y70.1 < 0)) with hg74 | hg74
                  · have hm := condT hg74 hb73
                    refine wls hs rfl hg74 rfl ?_; intro a hs
                    refine wls hs rfl hg74 rfl ?_; intro a hs
                    refine wls hs rfl hg74 rfl ?_; intro a hs
                    refine wls hs rfl hg74 rfl ?_; intro a hs
                    have hm : some true = some b72 := hm
                    cases Option.some.inj hm
                    refine wl hs (y_pickT hs rfl hg74 rfl) rfl ?_; intro a hs
                    exact K _ _ (hs.sub ⟨rfl, rfl, rfl, rfl, rfl, rfl, rfl, rfl, trivial⟩) hM
                  · have hm := condF hg74 hb73
                    refine wlg hs rfl hg74 (y_move hs rfl) rfl ?_; intro a hs
                    refine wlg hs rfl hg74 (y_move hs rfl) rfl ?_; intro a hs
                    obtain ⟨y75, h76, hm⟩ := bindE hm
                    refine wcallg is_20 hs rfl hg74 rfl rfl (laws_eqIntSS_any v39 y35.1 v20 y16.1 _ (hM.rdM 6 rfl) (hM.rdM 7 rfl) h76) ?_; rintro a _ w hs ⟨rfl, hX⟩
                    have hM : Mem W w [aInts 3 v33 y70.2, aInts 3 v29 y68.2, aMat 24 3 v24 vs67 y65.2, aInts 3 v61 y59, aInts 3 v55 y53, aMat 24 3 v48 vs50 y46, aMat 24 3 v39 vs40 y35.1, aMat 24 3 v20 vs21 y16.1, aInts 3 v14 y12, aInts 3 v10 y8, aMat 24 3 v5 vs7 y3] := hM.call hX
                    refine wlg hs rfl hg74 (y_not hs rfl) rfl ?_; intro a hs
                    have hm : some (!y75) = some b72 := hm
                    cases Option.some.inj hm
                    refine wl hs (y_pickF hs rfl hg74 rfl) rfl ?_; intro a hs
                    exact K _ _ (hs.sub ⟨rfl, rfl, rfl, rfl, rfl, rfl, rfl, rfl, trivial⟩) hM
                intro a w hs hM
                simp only [List.drop_succ_cons, List.drop_zero]
                refine wl hs (y_move hs rfl) rfl ?_; intro a hs
                obtain ⟨b77, hb78, hm⟩ := bindE hm
                refine wlguard (N := 138) (L' := [(99, .bool b77), (0, v_p0), (1, v_p1), (2, v_p2), (8, v20), (9, .bool y16.2), (13, v39)]) (fun w => Mem W w [aInts 3 v33 y70.2, aInts 3 v29 y68.2, aMat 24 3 v24 vs67 y65.2, aInts 3 v61 y59, aInts 3 v55 y53, aMat 24 3 v48 vs50 y46, aMat 24 3 v39 vs40 y35.1, aMat 24 3 v20 vs21 y16.1, aInts 3 v14 y12, aInts 3 v10 y8, aMat 24 3 v5 vs7 y3]) 4 ?_ ?_
                · intro K; rcases Bool.eq_false_or_eq_true b72 with hg79 | hg79
                  · have hm := condT hg79 hb78
                    refine wls hs rfl hg79 rfl ?_; intro a hs
                    refine wls hs rfl hg79 rfl ?_; intro a hs
                    refine wls hs rfl hg79 rfl ?_; intro a hs
                    have hm : some true = some b77 := hm
                    cases Option.some.inj hm
                    refine wl hs (y_pickT hs rfl hg79 rfl) rfl ?_; intro a hs
                    exact K _ _ (hs.sub ⟨rfl, rfl, rfl, rfl, rfl, rfl, rfl, trivial⟩) hM
                  · have hm := condF hg79 hb78
                    refine wlg hs rfl hg79 (y_move hs rfl) rfl ?_; intro a hs
                    refine wlg hs rfl hg79 (y_move hs rfl) rfl ?_; intro a hs
                    refine wlg hs rfl hg79 (y_neqB hu_bool hs rfl rfl) rfl ?_; intro a hs
                    have hm : some (y35.2 != y16.2) = some b77 := hm
                    cases Option.some.inj hm
                    refine wl hs (y_pickF hs rfl hg79 rfl) rfl ?_; intro a hs
                    exact K _ _ (hs.sub ⟨rfl, rfl, rfl, rfl, rfl, rfl, rfl, trivial⟩) hM
                intro a w hs hM
                simp only [List.drop_succ_cons, List.drop_zero]
                refine wpList_nil ?_
                refine x_nt ?_
                refine x_cond hs rfl (fun hb => ?_) (fun hb => ?_)
                · replace hm := condT hb hm
                  refine wp_seq ?_
                  refine wp_region_lit ?_
                  refine wl hs (y_assign hs rfl) rfl ?_; intro a hs
                  refine wpList_nil ?_
                  refine x_nt ?_
                  refine wp_ret ?_
                  refine x_rt ?_
                  have hm : some false = some r := hm
                  obtain rfl := Option.some.inj hm
                  refine x_ret1 rfl hs rfl ⟨_, rfl, ?_⟩
                  exact ⟨rfl, hM.none_⟩
                · replace hm := condF hb hm
                  refine wp_skip ?_
                  refine x_nt ?_
                  refine wp_seq ?_
                  refine wp_region_lit ?_
                  refine wl hs (y_assign hs rfl) rfl ?_; intro a hs
                  refine wpList_nil ?_
                  refine x_nt ?_
                  refine wp_seq ?_
                  refine wp_region_lit ?_
                  refine wl hs (y_move hs rfl) rfl ?_; intro a hs
                  refine wl hs (y_move hs rfl) rfl ?_; intro a hs
                  obtain ⟨y80, h81, hm⟩ := bindE hm
                  have hM : Mem W w [aMat 24 3 v39 vs40 y35.1, aInts 3 v33 y70.2, aInts 3 v29 y68.2, aMat 24 3 v24 vs67 y65.2, aInts 3 v61 y59, aInts 3 v55 y53, aMat 24 3 v48 vs50 y46, aMat 24 3 v20 vs21 y16.1, aInts 3 v14 y12, aInts 3 v10 y8, aMat 24 3 v5 vs7 y3] := (((((((((((hM.front 10 rfl).front 10 rfl).front 10 rfl).front 10 rfl).front 9 rfl).front 9 rfl).front 9 rfl).front 9 rfl).front 9 rfl).front 9 rfl).front 10 rfl)
                  refine wcall is_21 hs rfl rfl (laws_markIntSS_any v39 y35.1 _ 1 _ _ _  hM h81) ?_; rintro a _ w hs ⟨vs82, rfl, hM⟩
                  have hM : Mem W w [aMat 24 3 v39 vs82 y80.2, aInts 3 v33 y70.2, aInts 3 v29 y68.2, aMat 24 3 v24 vs67 y65.2, aInts 3 v61 y59, aInts 3 v55 y53, aMat 24 3 v48 vs50 y46, aMat 24 3 v20 vs21 y16.1, aInts 3 v14 y12, aInts 3 v10 y8, aMat 24 3 v5 vs7 y3] := hM
                  refine wl hs (y_assign hs rfl) rfl ?_; intro a hs
                  refine wpList_nil ?_
                  refine x_nt ?_
                  refine wp_seq ?_
                  refine wp_region_lit ?_
                  refine wl hs (y_assign hs rfl) rfl ?_; intro a hs
                  refine wpList_nil ?_
                  refine x_nt ?_
                  refine wp_seq ?_
                  refine wp_region_lit ?_
                  refine wl hs (y_move hs rfl) rfl ?_; intro a hs
                  refine wl hs (y_move hs rfl) rfl ?_; intro a hs
                  obtain ⟨y83, h84, hm⟩ := bindE hm
                  refine wcall is_27 hs rfl rfl (laws_heldIntSS_any v39 y80.2 1 _ (hM.rdM 0 rfl) h84) ?_; rintro a _ w hs ⟨rfl, hX⟩
                  have hM : Mem W w [aMat 24 3 v39 vs82 y80.2, aInts 3 v33 y70.2, aInts 3 v29 y68.2, aMat 24 3 v24 vs67 y65.2, aInts 3 v61 y59, aInts 3 v55 y53, aMat 24 3 v48 vs50 y46, aMat 24 3 v20 vs21 y16.1, aInts 3 v14 y12, aInts 3 v10 y8, aMat 24 3 v5 vs7 y3] := hM.call hX
                  refine wl hs (y_assign hs rfl) rfl ?_; intro a hs
                  refine wpList_nil ?_
                  refine x_nt ?_
                  refine wp_seq ?_
                  refine wp_seq ?_
                  refine wp_region_lit ?_
                  refine wl hs (y_move hs rfl) rfl ?_; intro a hs
                  refine wl hs (y_lss hs rfl rfl) rfl ?_; intro a hs
                  refine wpList_nil ?_
                  refine x_nt ?_
                  refine x_cond hs rfl (fun hb => ?_) (fun hb => ?_)
                  · replace hm := condT hb hm
                    refine wp_seq ?_
                    refine wp_region_lit ?_
                    refine wl hs (y_assign hs rfl) rfl ?_; intro a hs
                    refine wpList_nil ?_
                    refine x_nt ?_
                    refine wp_ret ?_
                    refine x_rt ?_
                    have hm : some false = some r := hm
                    obtain rfl := Option.some.inj hm
                    refine x_ret1 rfl hs rfl ⟨_, rfl, ?_⟩
                    exact ⟨rfl, hM.none_⟩
                  · replace hm := condF hb hm
                    refine wp_skip ?_
                    refine x_nt ?_
                    refine wp_seq ?_
                    refine wp_seq ?_
                    refine wp_region_lit ?_
                    refine wl hs (y_move hs rfl) rfl ?_; intro a hs
                    refine wl hs (y_move hs rfl) rfl ?_; intro a hs
                    refine wl hs (y_neq hs rfl rfl) rfl ?_; intro a hs
                    refine wpList_nil ?_
                    refine x_nt ?_
                    refine x_cond hs rfl (fun hb => ?_) (fun hb => ?_)
                    · replace hm := condT hb hm
                      refine wp_seq ?_
                      refine wp_region_lit ?_
                      refine wl hs (y_assign hs rfl) rfl ?_; intro a hs
                      refine wpList_nil ?_
                      refine x_nt ?_
                      refine wp_ret ?_
                      refine x_rt ?_
                      have hm : some false = some r := hm
                      obtain rfl := Option.some.inj hm
                      refine x_ret1 rfl hs rfl ⟨_, rfl, ?_⟩
                      exact ⟨rfl, hM.none_⟩
                    · replace hm := condF hb hm
                      refine wp_skip ?_
                      refine x_nt ?_
                      refine wp_seq ?_
                      refine wp_region_lit ?_
                      refine wl hs (y_move hs rfl) rfl ?_; intro a hs
                      obtain ⟨y85, h86, hm⟩ := bindE hm
                      refine wcall is_17 hs rfl rfl (laws_toIntSS_any v_p0 p0 _ (RdM.below hr_p0 hM.bel) h86) ?_; rintro a v87 w hs ⟨vs89, hX⟩
                      have hM : Mem W w [aMat 24 3 v87 vs89 y85, aMat 24 3 v39 vs82 y80.2, aInts 3 v33 y70.2, aInts 3 v29 y68.2, aMat 24 3 v24 vs67 y65.2, aInts 3 v61 y59, aInts 3 v55 y53, aMat 24 3 v48 vs50 y46, aMat 24 3 v20 vs21 y16.1, aInts 3 v14 y12, aInts 3 v10 y8, aMat 24 3 v5 vs7 y3] := hM.call hX
                      refine wl hs (y_move hs rfl) rfl ?_; intro a hs
                      obtain ⟨y90, h91, hm⟩ := bindE hm
                      refine wcall is_25 hs rfl rfl (laws_toIntS_any v_p1 p1 _ (RdI.below hr_p1 hM.bel) h91) ?_; rintro a v92 w hs hX
                      have hM : Mem W w [aInts 3 v92 y90, aMat 24 3 v87 vs89 y85, aMat 24 3 v39 vs82 y80.2, aInts 3 v33 y70.2, aInts 3 v29 y68.2, aMat 24 3 v24 vs67 y65.2, aInts 3 v61 y59, aInts 3 v55 y53, aMat 24 3 v48 vs50 y46, aMat 24 3 v20 vs21 y16.1, aInts 3 v14 y12, aInts 3 v10 y8, aMat 24 3 v5 vs7 y3] := hM.call hX
                      refine wl hs (y_move hs rfl) rfl ?_; intro a hs
                      obtain ⟨y94, h95, hm⟩ := bindE hm
                      refine wcall is_25 hs rfl rfl (laws_toIntS_any v_p2 p2 _ (RdI.below hr_p2 hM.bel) h95) ?_; rintro a v96 w hs hX
                      have hM : Mem W w [aInts 3 v96 y94, aInts 3 v92 y90, aMat 24 3 v87 vs89 y85, aMat 24 3 v39 vs82 y80.2, aInts 3 v33 y70.2, aInts 3 v29 y68.2, aMat 24 3 v24 vs67 y65.2, aInts 3 v61 y59, aInts 3 v55 y53, aMat 24 3 v48 vs50 y46, aMat 24 3 v20 vs21 y16.1, aInts 3 v14 y12, aInts 3 v10 y8, aMat 24 3 v5 vs7 y3] := hM.call hX
                      obtain ⟨y98, h99, hm⟩ := bindE hm
                      refine wcall is_26 hs rfl rfl (impl_PartOf_any v87 y85 v92 y90 v96 y94 _ (hM.rdM 2 rfl) (hM.rdI 1 rfl) (hM.rdI 0 rfl) h99) ?_; rintro a _ w hs ⟨v102, vs103, rfl, hX⟩
                      have hM : Mem W w [aMat 24 3 v102 vs103 y98.1, aInts 3 v96 y94, aInts 3 v92 y90, aMat 24 3 v87 vs89 y85, aMat 24 3 v39 vs82 y80.2, aInts 3 v33 y70.2, aInts 3 v29 y68.2, aMat 24 3 v24 vs67 y65.2, aInts 3 v61 y59, aInts 3 v55 y53, aMat 24 3 v48 vs50 y46, aMat 24 3 v20 vs21 y16.1, aInts 3 v14 y12, aInts 3 v10 y8, aMat 24 3 v5 vs7 y3] := hM.call hX
                      refine wl hs (y_move hs rfl) rfl ?_; intro a hs
                      refine wl hs (y_extract hs rfl rfl) rfl ?_; intro a hs
                      refine wl hs (y_extract hs rfl rfl) rfl ?_; intro a hs
                      refine wl hs (y_assign hs rfl) rfl ?_; intro a hs
                      refine wl hs (y_assign hs rfl) rfl ?_; intro a hs
                      refine wpList_nil ?_
                      refine x_nt ?_
                      refine wp_seq ?_
                      refine wp_seq ?_
                      refine wp_region_lit ?_
                      refine wl hs (y_move hs rfl) rfl ?_; intro a hs
                      refine wl hs (y_move hs rfl) rfl ?_; intro a hs
                      obtain ⟨y104, h105, hm⟩ := bindE hm
                      refine wcall is_20 hs rfl rfl (laws_eqIntSS_any v102 y98.1 v20 y16.1 _ (hM.rdM 0 rfl) (hM.rdM 11 rfl) h105) ?_; rintro a _ w hs ⟨rfl, hX⟩
                      have hM : Mem W w [aMat 24 3 v102 vs103 y98.1, aInts 3 v96 y94, aInts 3 v92 y90, aMat 24 3 v87 vs89 y85, aMat 24 3 v39 vs82 y80.2, aInts 3 v33 y70.2, aInts 3 v29 y68.2, aMat 24 3 v24 vs67 y65.2, aInts 3 v61 y59, aInts 3 v55 y53, aMat 24 3 v48 vs50 y46, aMat 24 3 v20 vs21 y16.1, aInts 3 v14 y12, aInts 3 v10 y8, aMat 24 3 v5 vs7 y3] := hM.call hX
                      refine wl hs (y_not hs rfl) rfl ?_; intro a hs
                      refine wl hs (y_move hs rfl) rfl ?_; intro a hs
                      obtain ⟨b106, hb107, hm⟩ := bindE hm
                      refine wlguard (N := 138) (L' := [(129, .bool b106), (13, v39), (16, .int .i64 y80.1)]) (fun w => Mem W w [aMat 24 3 v102 vs103 y98.1, aInts 3 v96 y94, aInts 3 v92 y90, aMat 24 3 v87 vs89 y85, aMat 24 3 v39 vs82 y80.2, aInts 3 v33 y70.2, aInts 3 v29 y68.2, aMat 24 3 v24 vs67 y65.2, aInts 3 v61 y59, aInts 3 v55 y53, aMat 24 3 v48 vs50 y46, aMat 24 3 v20 vs21 y16.1, aInts 3 v14 y12, aInts 3 v10 y8, aMat 24 3 v5 vs7 y3]) 4 ?_ ?_
                      · intro K; rcases Bool.eq_false_or_eq_true (!y104) with hg108 | hg108
                        · have hm := condT hg108 hb107
                          refine wls hs rfl hg108 rfl ?_; intro a hs
                          refine wls hs rfl hg108 rfl ?_; intro a hs
                          refine wls hs rfl hg108 rfl ?_; intro a hs
                          have hm : some true = some b106 := hm
                          cases Option.some.inj hm
                          refine wl hs (y_pickT hs rfl hg108 rfl) rfl ?_; intro a hs
                          exact K _ _ (hs.sub ⟨rfl, rfl, rfl, trivial⟩) hM
                        · have hm := condF hg108 hb107
                          refine wlg hs rfl hg108 (y_move hs rfl) rfl ?_; intro a hs
                          refine wlg hs rfl hg108 (y_move hs rfl) rfl ?_; intro a hs
                          refine wlg hs rfl hg108 (y_neqB hu_bool hs rfl rfl) rfl ?_; intro a hs
                          have hm : some (y98.2 != y16.2) = some b106 := hm
                          cases Option.some.inj hm
                          refine wl hs (y_pickF hs rfl hg108 rfl) rfl ?_; intro a hs
                          exact K _ _ (hs.sub ⟨rfl, rfl, rfl, trivial⟩) hM
                      intro a w hs hM
                      simp only [List.drop_succ_cons, List.drop_zero]
                      refine wpList_nil ?_
                      refine x_nt ?_
                      refine x_cond hs rfl (fun hb => ?_) (fun hb => ?_)
                      · replace hm := condT hb hm
                        refine wp_seq ?_
                        refine wp_region_lit ?_
                        refine wl hs (y_assign hs rfl) rfl ?_; intro a hs
                        refine wpList_nil ?_
                        refine x_nt ?_
                        refine wp_ret ?_
                        refine x_rt ?_
                        have hm : some false = some r := hm
                        obtain rfl := Option.some.inj hm
                        refine x_ret1 rfl hs rfl ⟨_, rfl, ?_⟩
                        exact ⟨rfl, hM.none_⟩
                      · replace hm := condF hb hm
                        refine wp_skip ?_
                        refine x_nt ?_
                        refine wp_seq ?_
                        refine wp_region_lit ?_
                        refine wl hs (y_assign hs rfl) rfl ?_; intro a hs
                        refine wpList_nil ?_
                        refine x_nt ?_
                        refine wp_seq ?_
                        refine wp_region_lit ?_
                        refine wl hs (y_move hs rfl) rfl ?_; intro a hs
                        refine wl hs (y_move hs rfl) rfl ?_; intro a hs
                        obtain ⟨y109, h110, hm⟩ := bindE hm
                        refine wcall is_27 hs rfl rfl (laws_heldIntSS_any v39 y80.2 1 _ (hM.rdM 4 rfl) h110) ?_; rintro a _ w hs ⟨rfl, hX⟩
                        have hM : Mem W w [aMat 24 3 v102 vs103 y98.1, aInts 3 v96 y94, aInts 3 v92 y90, aMat 24 3 v87 vs89 y85, aMat 24 3 v39 vs82 y80.2, aInts 3 v33 y70.2, aInts 3 v29 y68.2, aMat 24 3 v24 vs67 y65.2, aInts 3 v61 y59, aInts 3 v55 y53, aMat 24 3 v48 vs50 y46, aMat 24 3 v20 vs21 y16.1, aInts 3 v14 y12, aInts 3 v10 y8, aMat 24 3 v5 vs7 y3] := hM.call hX
                        refine wl hs (y_assign hs rfl) rfl ?_; intro a hs
                        refine wpList_nil ?_
                        refine x_nt ?_
                        refine wp_seq ?_
                        refine wp_seq ?_
                        refine wp_region_lit ?_
                        refine wl hs (y_move hs rfl) rfl ?_; intro a hs
                        refine wl hs (y_lss hs rfl rfl) rfl ?_; intro a hs
                        refine wpList_nil ?_
                        refine x_nt ?_
                        refine x_cond hs rfl (fun hb => ?_) (fun hb => ?_)
                        · replace hm := condT hb hm
                          refine wp_seq ?_
                          refine wp_region_lit ?_
                          refine wl hs (y_assign hs rfl) rfl ?_; intro a hs
                          refine wpList_nil ?_
                          refine x_nt ?_
                          refine wp_ret ?_
                          refine x_rt ?_
                          have hm : some false = some r := hm
                          obtain rfl := Option.some.inj hm
                          refine x_ret1 rfl hs rfl ⟨_, rfl, ?_⟩
                          exact ⟨rfl, hM.none_⟩
                        · replace hm := condF hb hm
                          refine wp_skip ?_
                          refine x_nt ?_
                          refine wp_seq ?_
                          refine wp_seq ?_
                          refine wp_region_lit ?_
                          refine wl hs (y_move hs rfl) rfl ?_; intro a hs
                          refine wl hs (y_move hs rfl) rfl ?_; intro a hs
                          refine wl hs (y_neq hs rfl rfl) rfl ?_; intro a hs
                          refine wpList_nil ?_
                          refine x_nt ?_
                          refine x_cond hs rfl (fun hb => ?_) (fun hb => ?_)
                          · replace hm := condT hb hm
                            refine wp_seq ?_
                            refine wp_region_lit ?_
                            refine wl hs (y_assign hs rfl) rfl ?_; intro a hs
                            refine wpList_nil ?_
                            refine x_nt ?_
                            refine wp_ret ?_
                            refine x_rt ?_
                            have hm : some false = some r := hm
                            obtain rfl := Option.some.inj hm
                            refine x_ret1 rfl hs rfl ⟨_, rfl, ?_⟩
                            exact ⟨rfl, hM.none_⟩
                          · replace hm := condF hb hm
                            refine wp_skip ?_
                            refine x_nt ?_
                            refine wp_seq ?_
                            refine wp_region_lit ?_
                            refine wl hs (y_assign hs rfl) rfl ?_; intro a hs
                            refine wpList_nil ?_
                            refine x_nt ?_
                            refine wp_ret ?_
                            have hm : some true = some r := hm
                            obtain rfl := Option.some.inj hm
                            refine x_ret1 rfl hs rfl ⟨_, rfl, ?_⟩
                            exact ⟨rfl, hM.none_⟩

end Go.Proofs.Ytaagklbiebogfaa
