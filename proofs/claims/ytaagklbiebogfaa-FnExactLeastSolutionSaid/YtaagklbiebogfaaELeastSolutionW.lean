/- The code of this unit computes what its mirrors say. Written by program (wip/gen). -/
import Derived.Test.YtaagklbiebogfaaFacts
import Derived.Test.YtaagklbiebogfaaELeastSolutionM
import Derived.Test.YtaagklbiebogfaaNumW
import Derived.Test.YtaagklbiebogfaaLinW
import Derived.Test.YtaagklbiebogfaaHlsW
namespace Go.Proofs.Ytaagklbiebogfaa
open Go.RowKit
set_option linter.unusedVariables false

set_option maxHeartbeats 4000000 in
theorem laws_FnExactLeastSolution_any (v_p0 : Value) (p0 : List (List Int)) (v_p1 : Value) (p1 : List Int) (W : World) (hr_p0 : RdM W v_p0 p0) (hr_p1 : RdI W v_p1 p1) {r : Bool} (hm : laws_FnExactLeastSolution_m p0 p1 = some r) : Calls Try.prog 10 [v_p0, v_p1].toArray W fun e w => ∃ v, e = .returned v ∧ v = .bool r ∧ Mem W w [] := by
  refine x_enter Try.func10 rfl Try.ntmps10 rfl ?_
  intro a hs
  have hM := Mem.start W
  unfold laws_FnExactLeastSolution_m at hm
  refine wp_seq ?_
  refine wp_region_lit ?_
  refine wl hs (y_assign hs rfl) rfl ?_; intro a hs
  refine wpList_nil ?_
  refine x_nt ?_
  refine wp_seq ?_
  refine wp_seq ?_
  refine wp_region_lit ?_
  refine wl hs (y_move hs rfl) rfl ?_; intro a hs
  refine wl hs (y_len hu_I hs rfl (RdI.below hr_p1 hM.bel)) rfl ?_; intro a hs
  refine wl hs (y_gtr hs rfl rfl) rfl ?_; intro a hs
  refine wpList_nil ?_
  refine x_nt ?_
  refine x_cond hs rfl (fun hb => ?_) (fun hb => ?_)
  · replace hm := condT hb hm
    refine wp_seq ?_
    refine wp_region_lit ?_
    refine wl hs (y_assign hs rfl) rfl ?_; intro a hs
    refine wpList_nil ?_
    refine x_nt ?_
    refine wp_ret ?_
    refine x_rt ?_
    have hm : some true = some r := hm
    obtain rfl := Option.some.inj hm
    refine x_ret1 rfl hs rfl ⟨_, rfl, ?_⟩
    exact ⟨rfl, hM⟩
  · replace hm := condF hb hm
    refine wp_skip ?_
    refine x_nt ?_
    refine wp_seq ?_
    refine wp_region_lit ?_
    refine wl hs (y_assign hs rfl) rfl ?_; intro a hs
    refine wpList_nil ?_
    refine x_nt ?_
    refine wp_seq ?_
    refine wp_region_lit ?_
    refine wl hs (y_move hs rfl) rfl ?_; intro a hs
    refine wl hs (y_move hs rfl) rfl ?_; intro a hs
    obtain ⟨y1, h2, hm⟩ := bindE hm
    refine wcall is_15 hs rfl rfl (laws_szIntSS_any v_p0 p0 1048576 _ (RdM.below hr_p0 hM.bel) h2) ?_; rintro a _ w hs ⟨rfl, hX⟩
    have hM : Mem W w [] := hM.call hX
    refine wl hs (y_assign hs rfl) rfl ?_; intro a hs
    refine wpList_nil ?_
    refine x_nt ?_
    refine wp_seq ?_
    refine wp_seq ?_
    refine wp_region_lit ?_
    refine wl hs (y_move hs rfl) rfl ?_; intro a hs
    refine wl hs (y_lss hs rfl rfl) rfl ?_; intro a hs
    refine wpList_nil ?_
    refine x_nt ?_
    refine x_cond hs rfl (fun hb => ?_) (fun hb => ?_)
    · replace hm := condT hb hm
      refine wp_seq ?_
      refine wp_region_lit ?_
      refine wl hs (y_assign hs rfl) rfl ?_; intro a hs
      refine wpList_nil ?_
      refine x_nt ?_
      refine wp_ret ?_
      refine x_rt ?_
      have hm : some true = some r := hm
      obtain rfl := Option.some.inj hm
      refine x_ret1 rfl hs rfl ⟨_, rfl, ?_⟩
      exact ⟨rfl, hM⟩
    · replace hm := condF hb hm
      refine wp_skip ?_
      refine x_nt ?_
      refine wp_seq ?_
      refine wp_region_lit ?_
      refine wl hs (y_move hs rfl) rfl ?_; intro a hs
      obtain ⟨y3, h4, hm⟩ := bindE hm
      refine wcall is_17 hs rfl rfl (laws_toIntSS_any v_p0 p0 _ (RdM.below hr_p0 hM.bel) h4) ?_; rintro a v5 w hs ⟨vs7, hX⟩
      have hM : Mem W w [aMat 24 3 v5 vs7 y3] := hM.call hX
      refine wl hs (y_move hs rfl) rfl ?_; intro a hs
      obtain ⟨y8, h9, hm⟩ := bindE hm
      refine wcall is_25 hs rfl rfl (laws_toIntS_any v_p1 p1 _ (RdI.below hr_p1 hM.bel) h9) ?_; rintro a v10 w hs hX
      have hM : Mem W w [aInts 3 v10 y8, aMat 24 3 v5 vs7 y3] := hM.call hX
      obtain ⟨y12, h13, hm⟩ := bindE hm
      refine wcall is_38 hs rfl rfl (spec_LeastSolution_any v5 y3 v10 y8 _ (hM.rdM 1 rfl) (hM.rdI 0 rfl) h13) ?_; rintro a _ w hs ⟨v16, rfl, hX⟩
      have hM : Mem W w [aInts 3 v16 y12.1, aInts 3 v10 y8, aMat 24 3 v5 vs7 y3] := hM.call hX
      refine wl hs (y_move hs rfl) rfl ?_; intro a hs
      refine wl hs (y_extract hs rfl rfl) rfl ?_; intro a hs
      refine wl hs (y_extract hs rfl rfl) rfl ?_; intro a hs
      refine wl hs (y_assign hs rfl) rfl ?_; intro a hs
      refine wl hs (y_assign hs rfl) rfl ?_; intro a hs
      refine wpList_nil ?_
      refine x_nt ?_
      refine wp_seq ?_
      refine wp_region_lit ?_
      refine wl hs (y_move hs rfl) rfl ?_; intro a hs
      obtain ⟨y17, h18, hm⟩ := bindE hm
      refine wcall is_17 hs rfl rfl (laws_toIntSS_any v_p0 p0 _ (RdM.below hr_p0 hM.bel) h18) ?_; rintro a v19 w hs ⟨vs21, hX⟩
      have hM : Mem W w [aMat 24 3 v19 vs21 y17, aInts 3 v16 y12.1, aInts 3 v10 y8, aMat 24 3 v5 vs7 y3] := hM.call hX
      refine wl hs (y_assign hs rfl) rfl ?_; intro a hs
      refine wpList_nil ?_
      refine x_nt ?_
      refine wp_seq ?_
      refine wp_region_lit ?_
      refine wl hs (y_move hs rfl) rfl ?_; intro a hs
      obtain ⟨y22, h23, hm⟩ := bindE hm
      refine wcall is_25 hs rfl rfl (laws_toIntS_any v_p1 p1 _ (RdI.below hr_p1 hM.bel) h23) ?_; rintro a v24 w hs hX
      have hM : Mem W w [aInts 3 v24 y22, aMat 24 3 v19 vs21 y17, aInts 3 v16 y12.1, aInts 3 v10 y8, aMat 24 3 v5 vs7 y3] := hM.call hX
      refine wl hs (y_assign hs rfl) rfl ?_; intro a hs
      refine wpList_nil ?_
      refine x_nt ?_
      refine wp_seq ?_
      refine wp_region_lit ?_
      refine wl hs (y_move hs rfl) rfl ?_; intro a hs
      refine wl hs (y_move hs rfl) rfl ?_; intro a hs
      obtain ⟨y26, h27, hm⟩ := bindE hm
      refine wcall is_39 hs rfl rfl (impl_LeastSolution_any v19 y17 v24 y22 _ (hM.rdM 1 rfl) (hM.rdI 0 rfl) h27) ?_; rintro a _ w hs ⟨v30, rfl, hX⟩
      have hM : Mem W w [aInts 3 v30 y26.1, aInts 3 v24 y22, aMat 24 3 v19 vs21 y17, aInts 3 v16 y12.1, aInts 3 v10 y8, aMat 24 3 v5 vs7 y3] := hM.call hX
      refine wl hs (y_move hs rfl) rfl ?_; intro a hs
      refine wl hs (y_extract hs rfl rfl) rfl ?_; intro a hs
      refine wl hs (y_extract hs rfl rfl) rfl ?_; intro a hs
      refine wl hs (y_assign hs rfl) rfl ?_; intro a hs
      refine wl hs (y_assign hs rfl) rfl ?_; intro a hs
      refine wpList_nil ?_
      refine x_nt ?_
      refine wp_seq ?_
      refine wp_seq ?_
      refine wp_region_lit ?_
      refine wl hs (y_move hs rfl) rfl ?_; intro a hs
      refine wl hs (y_move hs rfl) rfl ?_; intro a hs
      obtain ⟨y31, h32, hm⟩ := bindE hm
      refine wcall is_19 hs rfl rfl (laws_eqIntS_any v30 y26.1 v16 y12.1 _ (hM.rdI 0 rfl) (hM.rdI 3 rfl) h32) ?_; rintro a _ w hs ⟨rfl, hX⟩
      have hM : Mem W w [aInts 3 v30 y26.1, aInts 3 v24 y22, aMat 24 3 v19 vs21 y17, aInts 3 v16 y12.1, aInts 3 v10 y8, aMat 24 3 v5 vs7 y3] := hM.call hX
      refine wl hs (y_not hs rfl) rfl ?_; intro a hs
      refine wl hs (y_move hs rfl) rfl ?_; intro a hs
      obtain ⟨b33, hb34, hm⟩ := bindE hm
      refine wlguard (N := 117) (L' := [(51, .bool b33), (0, v_p0), (1, v_p1), (6, v16), (7, .bool y12.2), (8, v19), (9, v24), (10, v30), (11, .bool y26.2)]) (fun w => Mem W w [aInts 3 v30 y26.1, aInts 3 v24 y22, aMat 24 3 v19 vs21 y17, aInts 3 v16 y12.1, aInts 3 v10 y8, aMat 24 3 v5 vs7 y3]) 4 ?_ ?_
      · intro K; rcases Bool.eq_false_or_eq_true (!y31) with hg35 | hg35
        · have hm := condT hg35 hb34
          refine wls hs rfl hg35 rfl ?_; intro a hs
          refine wls hs rfl hg35 rfl ?_; intro a hs
          refine wls hs rfl hg35 rfl ?_; intro a hs
          have hm : some true = some b33 := hm
          cases Option.some.inj hm
          refine wl hs (y_pickT hs rfl hg35 rfl) rfl ?_; intro a hs
          exact K _ _ (hs.sub ⟨rfl, rfl, rfl, rfl, rfl, rfl, rfl, rfl, rfl, trivial⟩) hM
        · have hm := condF hg35 hb34
          refine wlg hs rfl hg35 (y_move hs rfl) rfl ?_; intro a hs
          refine wlg hs rfl hg35 (y_move hs rfl) rfl ?_; intro a hs
          refine wlg hs rfl hg35 (y_neqB hu_bool hs rfl rfl) rfl ?_; intro a hs
          have hm : some (y26.2 != y12.2) = some b33 := hm
          cases Option.some.inj hm
          refine wl hs (y_pickF hs rfl hg35 rfl) rfl ?_; intro a hs
          exact K _ _ (hs.sub ⟨rfl, rfl, rfl, rfl, rfl, rfl, rfl, rfl, rfl, trivial⟩) hM
      intro a w hs hM
      simp only [List.drop_succ_cons, List.drop_zero]
      refine wpList_nil ?_
      refine x_nt ?_
      refine x_cond hs rfl (fun hb => ?_) (fun hb => ?_)
      · replace hm := condT hb hm
        refine wp_seq ?_
        refine wp_region_lit ?_
        refine wl hs (y_assign hs rfl) rfl ?_; intro a hs
        refine wpList_nil ?_
        refine x_nt ?_
        refine wp_ret ?_
        refine x_rt ?_
        have hm : some false = some r := hm
        obtain rfl := Option.some.inj hm
        refine x_ret1 rfl hs rfl ⟨_, rfl, ?_⟩
        exact ⟨rfl, hM.none_⟩
      · replace hm := condF hb hm
        refine wp_skip ?_
        refine x_nt ?_
        refine wp_seq ?_
        refine wp_seq ?_
        refine wp_region_lit ?_
        refine wl hs (y_move hs rfl) rfl ?_; intro a hs
        refine wl hs (y_move hs rfl) rfl ?_; intro a hs
        obtain ⟨y36, h37, hm⟩ := bindE hm
        refine wcall is_17 hs rfl rfl (laws_toIntSS_any v_p0 p0 _ (RdM.below hr_p0 hM.bel) h37) ?_; rintro a v38 w hs ⟨vs40, hX⟩
        have hM : Mem W w [aMat 24 3 v38 vs40 y36, aInts 3 v30 y26.1, aInts 3 v24 y22, aMat 24 3 v19 vs21 y17, aInts 3 v16 y12.1, aInts 3 v10 y8, aMat 24 3 v5 vs7 y3] := hM.call hX
        obtain ⟨y41, h42, hm⟩ := bindE hm
        refine wcall is_20 hs rfl rfl (laws_eqIntSS_any v19 y17 v38 y36 _ (hM.rdM 3 rfl) (hM.rdM 0 rfl) h42) ?_; rintro a _ w hs ⟨rfl, hX⟩
        have hM : Mem W w [aMat 24 3 v38 vs40 y36, aInts 3 v30 y26.1, aInts 3 v24 y22, aMat 24 3 v19 vs21 y17, aInts 3 v16 y12.1, aInts 3 v10 y8, aMat 24 3 v5 vs7 y3] := hM.call hX
        refine wl hs (y_not hs rfl) rfl ?_; intro a hs
        refine wpList_nil ?_
        refine x_nt ?_
        refine x_cond hs rfl (fun hb => ?_) (fun hb => ?_)
        · replace hm := condT hb hm
          refine wp_seq ?_
          refine wp_region_lit ?_
          refine wl hs (y_assign hs rfl) rfl ?_; intro a hs
          refine wpList_nil ?_
          refine x_nt ?_
          refine wp_ret ?_
          refine x_rt ?_
          have hm : some false = some r := hm
          obtain rfl := Option.some.inj hm
          refine x_ret1 rfl hs rfl ⟨_, rfl, ?_⟩
          exact ⟨rfl, hM.none_⟩
        · replace hm := condF hb hm
          refine wp_skip ?_
          refine x_nt ?_
          refine wp_seq ?_
          refine wp_seq ?_
          refine wp_region_lit ?_
          refine wl hs (y_move hs rfl) rfl ?_; intro a hs
          refine wl hs (y_move hs rfl) rfl ?_; intro a hs
          obtain ⟨y43, h44, hm⟩ := bindE hm
          refine wcall is_25 hs rfl rfl (laws_toIntS_any v_p1 p1 _ (RdI.below hr_p1 hM.bel) h44) ?_; rintro a v45 w hs hX
          have hM : Mem W w [aInts 3 v45 y43, aMat 24 3 v38 vs40 y36, aInts 3 v30 y26.1, aInts 3 v24 y22, aMat 24 3 v19 vs21 y17, aInts 3 v16 y12.1, aInts 3 v10 y8, aMat 24 3 v5 vs7 y3] := hM.call hX
          obtain ⟨y47, h48, hm⟩ := bindE hm
          refine wcall is_19 hs rfl rfl (laws_eqIntS_any v24 y22 v45 y43 _ (hM.rdI 3 rfl) (hM.rdI 0 rfl) h48) ?_; rintro a _ w hs ⟨rfl, hX⟩
          have hM : Mem W w [aInts 3 v45 y43, aMat 24 3 v38 vs40 y36, aInts 3 v30 y26.1, aInts 3 v24 y22, aMat 24 3 v19 vs21 y17, aInts 3 v16 y12.1, aInts 3 v10 y8, aMat 24 3 v5 vs7 y3] := hM.call hX
          refine wl hs (y_not hs rfl) rfl ?_; intro a hs
          refine wpList_nil ?_
          refine x_nt ?_
          refine x_cond hs rfl (fun hb => ?_) (fun hb => ?_)
          · replace hm := condT hb hm
            refine wp_seq ?_
            refine wp_region_lit ?_
            refine wl hs (y_assign hs rfl) rfl ?_; intro a hs
            refine wpList_nil ?_
            refine x_nt ?_
            refine wp_ret ?_
            refine x_rt ?_
            have hm : some false = some r := hm
            obtain rfl := Option.some.inj hm
            refine x_ret1 rfl hs rfl ⟨_, rfl, ?_⟩
            exact ⟨rfl, hM.none_⟩
          · replace hm := condF hb hm
            refine wp_skip ?_
            refine x_nt ?_
            refine wp_seq ?_
            refine wp_region_lit ?_
            refine wl hs (y_assign hs rfl) rfl ?_; intro a hs
            refine wpList_nil ?_
            refine x_nt ?_
            refine wp_seq ?_
            refine wp_region_lit ?_
            refine wl hs (y_move hs rfl) rfl ?_; intro a hs
            refine wl hs (y_move hs rfl) rfl ?_; intro a hs
            obtain ⟨y49, h50, hm⟩ := bindE hm
            have hM : Mem W w [aMat 24 3 v19 vs21 y17, aInts 3 v45 y43, aMat 24 3 v38 vs40 y36, aInts 3 v30 y26.1, aInts 3 v24 y22, aInts 3 v16 y12.1, aInts 3 v10 y8, aMat 24 3 v5 vs7 y3] := ((((((((hM.front 7 rfl).front 7 rfl).front 7 rfl).front 6 rfl).front 6 rfl).front 6 rfl).front 6 rfl).front 7 rfl)
            refine wcall is_21 hs rfl rfl (laws_markIntSS_any v19 y17 _ 1 _ _ _  hM h50) ?_; rintro a _ w hs ⟨vs51, rfl, hM⟩
            have hM : Mem W w [aMat 24 3 v19 vs51 y49.2, aInts 3 v45 y43, aMat 24 3 v38 vs40 y36, aInts 3 v30 y26.1, aInts 3 v24 y22, aInts 3 v16 y12.1, aInts 3 v10 y8, aMat 24 3 v5 vs7 y3] := hM
            refine wl hs (y_assign hs rfl) rfl ?_; intro a hs
            refine wpList_nil ?_
            refine x_nt ?_
            refine wp_seq ?_
            refine wp_region_lit ?_
            refine wl hs (y_move hs rfl) rfl ?_; intro a hs
            refine wl hs (y_move hs rfl) rfl ?_; intro a hs
            obtain ⟨y52, h53, hm⟩ := bindE hm
            have hM : Mem W w [aInts 3 v24 y22, aMat 24 3 v19 vs51 y49.2, aInts 3 v45 y43, aMat 24 3 v38 vs40 y36, aInts 3 v30 y26.1, aInts 3 v16 y12.1, aInts 3 v10 y8, aMat 24 3 v5 vs7 y3] := ((((((((hM.front 7 rfl).front 7 rfl).front 7 rfl).front 6 rfl).front 6 rfl).front 6 rfl).front 6 rfl).front 7 rfl)
            refine wcall is_22 hs rfl rfl (laws_markIntS_any v24 y22 y49.1 _ _ _  hM h53) ?_; rintro a _ w hs ⟨rfl, hM⟩
            have hM : Mem W w [aInts 3 v24 y52.2, aMat 24 3 v19 vs51 y49.2, aInts 3 v45 y43, aMat 24 3 v38 vs40 y36, aInts 3 v30 y26.1, aInts 3 v16 y12.1, aInts 3 v10 y8, aMat 24 3 v5 vs7 y3] := hM
            refine wl hs (y_assign hs rfl) rfl ?_; intro a hs
            refine wpList_nil ?_
            refine x_nt ?_
            refine wp_seq ?_
            refine wp_seq ?_
            refine wp_region_lit ?_
            refine wl hs (y_move hs rfl) rfl ?_; intro a hs
            refine wl hs (y_lss hs rfl rfl) rfl ?_; intro a hs
            refine wl hs (y_move hs rfl) rfl ?_; intro a hs
            obtain ⟨b54, hb55, hm⟩ := bindE hm
            refine wlguard (N := 117) (L' := [(75, .bool b54), (0, v_p0), (1, v_p1), (6, v16), (7, .bool y12.2), (10, v30), (11, .bool y26.2)]) (fun w => Mem W w [aInts 3 v24 y52.2, aMat 24 3 v19 vs51 y49.2, aInts 3 v45 y43, aMat 24 3 v38 vs40 y36, aInts 3 v30 y26.1, aInts 3 v16 y12.1, aInts 3 v10 y8, aMat 24 3 v5 vs7 y3]) 5 ?_ ?_
            · intro K; rcases Bool.eq_false_or_eq_true (decide (y52.1 < 0)) with hg56 | hg56
              · have hm := condT hg56 hb55
                refine wls hs rfl hg56 rfl ?_; intro a hs
                refine wls hs rfl hg56 rfl ?_; intro a hs
                refine wls hs rfl hg56 rfl ?_; intro a hs
                refine wls hs rfl hg56 rfl ?_; intro a hs
                have hm : some true = some b54 := hm
                cases Option.some.inj hm
                refine wl hs (y_pickT hs rfl hg56 rfl) rfl ?_; intro a hs
                exact K _ _ (hs.sub ⟨rfl, rfl, rfl, rfl, rfl, rfl, rfl, trivial⟩) hM
              · have hm := condF hg56 hb55
                refine wlg hs rfl hg56 (y_move hs rfl) rfl ?_; intro a hs
                refine wlg hs rfl hg56 (y_move hs rfl) rfl ?_; intro a hs
                obtain ⟨y57, h58, hm⟩ := bindE hm
                refine wcallg is_19 hs rfl hg56 rfl rfl (laws_eqIntS_any v30 y26.1 v16 y12.1 _ (hM.rdI 4 rfl) (hM.rdI 5 rfl) h58) ?_; rintro a _ w hs ⟨rfl, hX⟩
                have hM : Mem W w [aInts 3 v24 y52.2, aMat 24 3 v19 vs51 y49.2, aInts 3 v45 y43, aMat 24 3 v38 vs40 y36, aInts 3 v30 y26.1, aInts 3 v16 y12.1, aInts 3 v10 y8, aMat 24 3 v5 vs7 y3] := hM.call hX
                refine wlg hs rfl hg56 (y_not hs rfl) rfl ?_; intro a hs
                have hm : some (!y57) = some b54 := hm
                cases Option.some.inj hm
                refine wl hs (y_pickF hs rfl hg56 rfl) rfl ?_; intro a hs
                exact K _ _ (hs.sub ⟨rfl, rfl, rfl, rfl, rfl, rfl, rfl, trivial⟩) hM
            intro a w hs hM
            simp only [List.drop_succ_cons, List.drop_zero]
            refine wl hs (y_move hs rfl) rfl ?_; intro a hs
            obtain ⟨b59, hb60, hm⟩ := bindE hm
            refine wlguard (N := 117) (L' := [(80, .bool b59), (0, v_p0), (1, v_p1), (6, v16), (7, .bool y12.2), (10, v30)]) (fun w => Mem W w [aInts 3 v24 y52.2, aMat 24 3 v19 vs51 y49.2, aInts 3 v45 y43, aMat 24 3 v38 vs40 y36, aInts 3 v30 y26.1, aInts 3 v16 y12.1, aInts 3 v10 y8, aMat 24 3 v5 vs7 y3]) 4 ?_ ?_
            · intro K; rcases Bool.eq_false_or_eq_true b54 with hg61 | hg61
              · have hm := condT hg61 hb60
                refine wls hs rfl hg61 rfl ?_; intro a hs
                refine wls hs rfl hg61 rfl ?_; intro a hs
                refine wls hs rfl hg61 rfl ?_; intro a hs
                have hm : some true = some b59 := hm
                cases Option.some.inj hm
                refine wl hs (y_pickT hs rfl hg61 rfl) rfl ?_; intro a hs
                exact K _ _ (hs.sub ⟨rfl, rfl, rfl, rfl, rfl, rfl, trivial⟩) hM
              · have hm := condF hg61 hb60
                refine wlg hs rfl hg61 (y_move hs rfl) rfl ?_; intro a hs
                refine wlg hs rfl hg61 (y_move hs rfl) rfl ?_; intro a hs
                refine wlg hs rfl hg61 (y_neqB hu_bool hs rfl rfl) rfl ?_; intro a hs
                have hm : some (y26.2 != y12.2) = some b59 := hm
                cases Option.some.inj hm
                refine wl hs (y_pickF hs rfl hg61 rfl) rfl ?_; intro a hs
                exact K _ _ (hs.sub ⟨rfl, rfl, rfl, rfl, rfl, rfl, trivial⟩) hM
            intro a w hs hM
            simp only [List.drop_succ_cons, List.drop_zero]
            refine wpList_nil ?_
            refine x_nt ?_
            refine x_cond hs rfl (fun hb => ?_) (fun hb => ?_)
            · replace hm := condT hb hm
              refine wp_seq ?_
              refine wp_region_lit ?_
              refine wl hs (y_assign hs rfl) rfl ?_; intro a hs
              refine wpList_nil ?_
              refine x_nt ?_
              refine wp_ret ?_
              refine x_rt ?_
              have hm : some false = some r := hm
              obtain rfl := Option.some.inj hm
              refine x_ret1 rfl hs rfl ⟨_, rfl, ?_⟩
              exact ⟨rfl, hM.none_⟩
            · replace hm := condF hb hm
              refine wp_skip ?_
              refine x_nt ?_
              refine wp_seq ?_
              refine wp_region_lit ?_
              refine wl hs (y_assign hs rfl) rfl ?_; intro a hs
              refine wpList_nil ?_
              refine x_nt ?_
              refine wp_seq ?_
              refine wp_region_lit ?_
              refine wl hs (y_move hs rfl) rfl ?_; intro a hs
              refine wl hs (y_move hs rfl) rfl ?_; intro a hs
              obtain ⟨y62, h63, hm⟩ := bindE hm
              have hM : Mem W w [aInts 3 v30 y26.1, aInts 3 v24 y52.2, aMat 24 3 v19 vs51 y49.2, aInts 3 v45 y43, aMat 24 3 v38 vs40 y36, aInts 3 v16 y12.1, aInts 3 v10 y8, aMat 24 3 v5 vs7 y3] := ((((((((hM.front 7 rfl).front 7 rfl).front 7 rfl).front 6 rfl).front 6 rfl).front 6 rfl).front 6 rfl).front 7 rfl)
              refine wcall is_22 hs rfl rfl (laws_markIntS_any v30 y26.1 1 _ _ _  hM h63) ?_; rintro a _ w hs ⟨rfl, hM⟩
              have hM : Mem W w [aInts 3 v30 y62.2, aInts 3 v24 y52.2, aMat 24 3 v19 vs51 y49.2, aInts 3 v45 y43, aMat 24 3 v38 vs40 y36, aInts 3 v16 y12.1, aInts 3 v10 y8, aMat 24 3 v5 vs7 y3] := hM
              refine wl hs (y_assign hs rfl) rfl ?_; intro a hs
              refine wpList_nil ?_
              refine x_nt ?_
              refine wp_seq ?_
              refine wp_region_lit ?_
              refine wl hs (y_assign hs rfl) rfl ?_; intro a hs
              refine wpList_nil ?_
              refine x_nt ?_
              refine wp_seq ?_
              refine wp_region_lit ?_
              refine wl hs (y_move hs rfl) rfl ?_; intro a hs
              refine wl hs (y_move hs rfl) rfl ?_; intro a hs
              obtain ⟨y64, h65, hm⟩ := bindE hm
              refine wcall is_23 hs rfl rfl (laws_heldIntS_any v30 y62.2 1 _ (hM.rdI 0 rfl) h65) ?_; rintro a _ w hs ⟨rfl, hX⟩
              have hM : Mem W w [aInts 3 v30 y62.2, aInts 3 v24 y52.2, aMat 24 3 v19 vs51 y49.2, aInts 3 v45 y43, aMat 24 3 v38 vs40 y36, aInts 3 v16 y12.1, aInts 3 v10 y8, aMat 24 3 v5 vs7 y3] := hM.call hX
              refine wl hs (y_assign hs rfl) rfl ?_; intro a hs
              refine wpList_nil ?_
              refine x_nt ?_
              refine wp_seq ?_
              refine wp_seq ?_
              refine wp_region_lit ?_
              refine wl hs (y_move hs rfl) rfl ?_; intro a hs
              refine wl hs (y_lss hs rfl rfl) rfl ?_; intro a hs
              refine wpList_nil ?_
              refine x_nt ?_
              refine x_cond hs rfl (fun hb => ?_) (fun hb => ?_)
              · replace hm := condT hb hm
                refine wp_seq ?_
                refine wp_region_lit ?_
                refine wl hs (y_assign hs rfl) rfl ?_; intro a hs
                refine wpList_nil ?_
                refine x_nt ?_
                refine wp_ret ?_
                refine x_rt ?_
                have hm : some false = some r := hm
                obtain rfl := Option.some.inj hm
                refine x_ret1 rfl hs rfl ⟨_, rfl, ?_⟩
                exact ⟨rfl, hM.none_⟩
              · replace hm := condF hb hm
                refine wp_skip ?_
                refine x_nt ?_
                refine wp_seq ?_
                refine wp_seq ?_
                refine wp_region_lit ?_
                refine wl hs (y_move hs rfl) rfl ?_; intro a hs
                refine wl hs (y_move hs rfl) rfl ?_; intro a hs
                refine wl hs (y_neq hs rfl rfl) rfl ?_; intro a hs
                refine wpList_nil ?_
                refine x_nt ?_
                refine x_cond hs rfl (fun hb => ?_) (fun hb => ?_)
                · replace hm := condT hb hm
                  refine wp_seq ?_
                  refine wp_region_lit ?_
                  refine wl hs (y_assign hs rfl) rfl ?_; intro a hs
                  refine wpList_nil ?_
                  refine x_nt ?_
                  refine wp_ret ?_
                  refine x_rt ?_
                  have hm : some false = some r := hm
                  obtain rfl := Option.some.inj hm
                  refine x_ret1 rfl hs rfl ⟨_, rfl, ?_⟩
                  exact ⟨rfl, hM.none_⟩
                · replace hm := condF hb hm
                  refine wp_skip ?_
                  refine x_nt ?_
                  refine wp_seq ?_
                  refine wp_region_lit ?_
                  refine wl hs (y_move hs rfl) rfl ?_; intro a hs
                  obtain ⟨y66, h67, hm⟩ := bindE hm
                  refine wcall is_17 hs rfl rfl (laws_toIntSS_any v_p0 p0 _ (RdM.below hr_p0 hM.bel) h67) ?_; rintro a v68 w hs ⟨vs70, hX⟩
                  have hM : Mem W w [aMat 24 3 v68 vs70 y66, aInts 3 v30 y62.2, aInts 3 v24 y52.2, aMat 24 3 v19 vs51 y49.2, aInts 3 v45 y43, aMat 24 3 v38 vs40 y36, aInts 3 v16 y12.1, aInts 3 v10 y8, aMat 24 3 v5 vs7 y3] := hM.call hX
                  refine wl hs (y_move hs rfl) rfl ?_; intro a hs
                  obtain ⟨y71, h72, hm⟩ := bindE hm
                  refine wcall is_25 hs rfl rfl (laws_toIntS_any v_p1 p1 _ (RdI.below hr_p1 hM.bel) h72) ?_; rintro a v73 w hs hX
                  have hM : Mem W w [aInts 3 v73 y71, aMat 24 3 v68 vs70 y66, aInts 3 v30 y62.2, aInts 3 v24 y52.2, aMat 24 3 v19 vs51 y49.2, aInts 3 v45 y43, aMat 24 3 v38 vs40 y36, aInts 3 v16 y12.1, aInts 3 v10 y8, aMat 24 3 v5 vs7 y3] := hM.call hX
                  obtain ⟨y75, h76, hm⟩ := bindE hm
                  refine wcall is_39 hs rfl rfl (impl_LeastSolution_any v68 y66 v73 y71 _ (hM.rdM 1 rfl) (hM.rdI 0 rfl) h76) ?_; rintro a _ w hs ⟨v79, rfl, hX⟩
                  have hM : Mem W w [aInts 3 v79 y75.1, aInts 3 v73 y71, aMat 24 3 v68 vs70 y66, aInts 3 v30 y62.2, aInts 3 v24 y52.2, aMat 24 3 v19 vs51 y49.2, aInts 3 v45 y43, aMat 24 3 v38 vs40 y36, aInts 3 v16 y12.1, aInts 3 v10 y8, aMat 24 3 v5 vs7 y3] := hM.call hX
                  refine wl hs (y_move hs rfl) rfl ?_; intro a hs
                  refine wl hs (y_extract hs rfl rfl) rfl ?_; intro a hs
                  refine wl hs (y_extract hs rfl rfl) rfl ?_; intro a hs
                  refine wl hs (y_assign hs rfl) rfl ?_; intro a hs
                  refine wl hs (y_assign hs rfl) rfl ?_; intro a hs
                  refine wpList_nil ?_
                  refine x_nt ?_
                  refine wp_seq ?_
                  refine wp_seq ?_
                  refine wp_region_lit ?_
                  refine wl hs (y_move hs rfl) rfl ?_; intro a hs
                  refine wl hs (y_move hs rfl) rfl ?_; intro a hs
                  obtain ⟨y80, h81, hm⟩ := bindE hm
                  refine wcall is_19 hs rfl rfl (laws_eqIntS_any v79 y75.1 v16 y12.1 _ (hM.rdI 0 rfl) (hM.rdI 8 rfl) h81) ?_; rintro a _ w hs ⟨rfl, hX⟩
                  have hM : Mem W w [aInts 3 v79 y75.1, aInts 3 v73 y71, aMat 24 3 v68 vs70 y66, aInts 3 v30 y62.2, aInts 3 v24 y52.2, aMat 24 3 v19 vs51 y49.2, aInts 3 v45 y43, aMat 24 3 v38 vs40 y36, aInts 3 v16 y12.1, aInts 3 v10 y8, aMat 24 3 v5 vs7 y3] := hM.call hX
                  refine wl hs (y_not hs rfl) rfl ?_; intro a hs
                  refine wl hs (y_move hs rfl) rfl ?_; intro a hs
                  obtain ⟨b82, hb83, hm⟩ := bindE hm
                  refine wlguard (N := 117) (L' := [(108, .bool b82), (10, v30), (13, .int .i64 y62.1)]) (fun w => Mem W w [aInts 3 v79 y75.1, aInts 3 v73 y71, aMat 24 3 v68 vs70 y66, aInts 3 v30 y62.2, aInts 3 v24 y52.2, aMat 24 3 v19 vs51 y49.2, aInts 3 v45 y43, aMat 24 3 v38 vs40 y36, aInts 3 v16 y12.1, aInts 3 v10 y8, aMat 24 3 v5 vs7 y3]) 4 ?_ ?_
                  · intro K; rcases Bool.eq_false_or_eq_true (!y80) with hg84 | hg84
                    · have hm := condT hg84 hb83
                      refine wls hs rfl hg84 rfl ?_; intro a hs
                      refine wls hs rfl hg84 rfl ?_; intro a hs
                      refine wls hs rfl hg84 rfl ?_; intro a hs
                      have hm : some true = some b82 := hm
                      cases Option.some.inj hm
                      refine wl hs (y_pickT hs rfl hg84 rfl) rfl ?_; intro a hs
                      exact K _ _ (hs.sub ⟨rfl, rfl, rfl, trivial⟩) hM
                    · have hm := condF hg84 hb83
                      refine wlg hs rfl hg84 (y_move hs rfl) rfl ?_; intro a hs
                      refine wlg hs rfl hg84 (y_move hs rfl) rfl ?_; intro a hs
                      refine wlg hs rfl hg84 (y_neqB hu_bool hs rfl rfl) rfl ?_; intro a hs
                      have hm : some (y75.2 != y12.2) = some b82 := hm
                      cases Option.some.inj hm
                      refine wl hs (y_pickF hs rfl hg84 rfl) rfl ?_; intro a hs
                      exact K _ _ (hs.sub ⟨rfl, rfl, rfl, trivial⟩) hM
                  intro a w hs hM
                  simp only [List.drop_succ_cons, List.drop_zero]
                  refine wpList_nil ?_
                  refine x_nt ?_
                  refine x_cond hs rfl (fun hb => ?_) (fun hb => ?_)
                  · replace hm := condT hb hm
                    refine wp_seq ?_
                    refine wp_region_lit ?_
                    refine wl hs (y_assign hs rfl) rfl ?_; intro a hs
                    refine wpList_nil ?_
                    refine x_nt ?_
                    refine wp_ret ?_
                    refine x_rt ?_
                    have hm : some false = some r := hm
                    obtain rfl := Option.some.inj hm
                    refine x_ret1 rfl hs rfl ⟨_, rfl, ?_⟩
                    exact ⟨rfl, hM.none_⟩
                  · replace hm := condF hb hm
                    refine wp_skip ?_
                    refine x_nt ?_
                    refine wp_seq ?_
                    refine wp_region_lit ?_
                    refine wl hs (y_assign hs rfl) rfl ?_; intro a hs
                    refine wpList_nil ?_
                    refine x_nt ?_
                    refine wp_seq ?_
                    refine wp_region_lit ?_
                    refine wl hs (y_move hs rfl) rfl ?_; intro a hs
                    refine wl hs (y_move hs rfl) rfl ?_; intro a hs
                    obtain ⟨y85, h86, hm⟩ := bindE hm
                    refine wcall is_23 hs rfl rfl (laws_heldIntS_any v30 y62.2 1 _ (hM.rdI 3 rfl) h86) ?_; rintro a _ w hs ⟨rfl, hX⟩
                    have hM : Mem W w [aInts 3 v79 y75.1, aInts 3 v73 y71, aMat 24 3 v68 vs70 y66, aInts 3 v30 y62.2, aInts 3 v24 y52.2, aMat 24 3 v19 vs51 y49.2, aInts 3 v45 y43, aMat 24 3 v38 vs40 y36, aInts 3 v16 y12.1, aInts 3 v10 y8, aMat 24 3 v5 vs7 y3] := hM.call hX
                    refine wl hs (y_assign hs rfl) rfl ?_; intro a hs
                    refine wpList_nil ?_
                    refine x_nt ?_
                    refine wp_seq ?_
                    refine wp_seq ?_
                    refine wp_region_lit ?_
                    refine wl hs (y_move hs rfl) rfl ?_; intro a hs
                    refine wl hs (y_lss hs rfl rfl) rfl ?_; intro a hs
                    refine wpList_nil ?_
                    refine x_nt ?_
                    refine x_cond hs rfl (fun hb => ?_) (fun hb => ?_)
                    · replace hm := condT hb hm
                      refine wp_seq ?_
                      refine wp_region_lit ?_
                      refine wl hs (y_assign hs rfl) rfl ?_; intro a hs
                      refine wpList_nil ?_
                      refine x_nt ?_
                      refine wp_ret ?_
                      refine x_rt ?_
                      have hm : some false = some r := hm
                      obtain rfl := Option.some.inj hm
                      refine x_ret1 rfl hs rfl ⟨_, rfl, ?_⟩
                      exact ⟨rfl, hM.none_⟩
                    · replace hm := condF hb hm
                      refine wp_skip ?_
                      refine x_nt ?_
                      refine wp_seq ?_
                      refine wp_seq ?_
                      refine wp_region_lit ?_
                      refine wl hs (y_move hs rfl) rfl ?_; intro a hs
                      refine wl hs (y_move hs rfl) rfl ?_; intro a hs
                      refine wl hs (y_neq hs rfl rfl) rfl ?_; intro a hs
                      refine wpList_nil ?_
                      refine x_nt ?_
                      refine x_cond hs rfl (fun hb => ?_) (fun hb => ?_)
                      · replace hm := condT hb hm
                        refine wp_seq ?_
                        refine wp_region_lit ?_
                        refine wl hs (y_assign hs rfl) rfl ?_; intro a hs
                        refine wpList_nil ?_
                        refine x_nt ?_
                        refine wp_ret ?_
                        refine x_rt ?_
                        have hm : some false = some r := hm
                        obtain rfl := Option.some.inj hm
                        refine x_ret1 rfl hs rfl ⟨_, rfl, ?_⟩
                        exact ⟨rfl, hM.none_⟩
                      · replace hm := condF hb hm
                        refine wp_skip ?_
                        refine x_nt ?_
                        refine wp_seq ?_
                        refine wp_region_lit ?_
                        refine wl hs (y_assign hs rfl) rfl ?_; intro a hs
                        refine wpList_nil ?_
                        refine x_nt ?_
                        refine wp_ret ?_
                        have hm : some true = some r := hm
                        obtain rfl := Option.some.inj hm
                        refine x_ret1 rfl hs rfl ⟨_, rfl, ?_⟩
                        exact ⟨rfl, hM.none_⟩

end Go.Proofs.Ytaagklbiebogfaa
