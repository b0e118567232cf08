/- The code of this unit computes what its mirrors say. Written by program (wip/gen). -/
import Derived.Test.YtjicdfplhenohaaFacts
import Derived.Test.YtjicdfplhenohaaEIsProvedWayM
import Derived.Test.YtjicdfplhenohaaNumW
import Derived.Test.YtjicdfplhenohaaWy3W
namespace Go.Proofs.Ytjicdfplhenohaa
open Go.RowKit
set_option linter.unusedVariables false

theorem laws_FnExactIsProvedWay_any (v_p0 : Value) (p0 : List (List Int)) (v_p1 : Value) (p1 : List Int) (v_p2 : Value) (p2 : List Int) (W : World) (hr_p0 : RdM W v_p0 p0) (hr_p1 : RdI W v_p1 p1) (hr_p2 : RdI W v_p2 p2) {r : Bool} (hm : laws_FnExactIsProvedWay_m p0 p1 p2 = some r) : Calls Try.prog 10 [v_p0, v_p1, v_p2].toArray W fun e w => ∃ v, e = .returned v ∧ v = .bool r ∧ Mem W w [] := by
  refine x_enter Try.func10 rfl Try.ntmps10 rfl ?_
  intro a hs
  have hM := Mem.start W
  unfold laws_FnExactIsProvedWay_m at hm
  refine wp_seq ?_
  refine wp_region_lit ?_
  refine wl hs (y_assign hs rfl) rfl ?_; intro a hs
  refine wpList_nil ?_
  refine x_nt ?_
  refine wp_seq ?_
  refine wp_seq ?_
  refine wp_region_lit ?_
  refine wl hs (y_move hs rfl) rfl ?_; intro a hs
  refine wl hs (y_len hu_I hs rfl (RdI.below hr_p1 hM.bel)) rfl ?_; intro a hs
  refine wl hs (y_gtr hs rfl rfl) rfl ?_; intro a hs
  refine wpList_nil ?_
  refine x_nt ?_
  refine x_cond hs rfl (fun hb => ?_) (fun hb => ?_)
  · replace hm := condT hb hm
    refine wp_seq ?_
    refine wp_region_lit ?_
    refine wl hs (y_assign hs rfl) rfl ?_; intro a hs
    refine wpList_nil ?_
    refine x_nt ?_
    refine wp_ret ?_
    refine x_rt ?_
    have hm : some true = some r := hm
    obtain rfl := Option.some.inj hm
    refine x_ret1 rfl hs rfl ⟨_, rfl, ?_⟩
    exact ⟨rfl, hM⟩
  · replace hm := condF hb hm
    refine wp_skip ?_
    refine x_nt ?_
    refine wp_seq ?_
    refine wp_seq ?_
    refine wp_region_lit ?_
    refine wl hs (y_move hs rfl) rfl ?_; intro a hs
    refine wl hs (y_len hu_I hs rfl (RdI.below hr_p2 hM.bel)) rfl ?_; intro a hs
    refine wl hs (y_gtr hs rfl rfl) rfl ?_; intro a hs
    refine wpList_nil ?_
    refine x_nt ?_
    refine x_cond hs rfl (fun hb => ?_) (fun hb => ?_)
    · replace hm := condT hb hm
      refine wp_seq ?_
      refine wp_region_lit ?_
      refine wl hs (y_assign hs rfl) rfl ?_; intro a hs
      refine wpList_nil ?_
      refine x_nt ?_
      refine wp_ret ?_
      refine x_rt ?_
      have hm : some true = some r := hm
      obtain rfl := Option.some.inj hm
      refine x_ret1 rfl hs rfl ⟨_, rfl, ?_⟩
      exact ⟨rfl, hM⟩
    · replace hm := condF hb hm
      refine wp_skip ?_
      refine x_nt ?_
      refine wp_seq ?_
      refine wp_region_lit ?_
      refine wl hs (y_assign hs rfl) rfl ?_; intro a hs
      refine wpList_nil ?_
      refine x_nt ?_
      refine wp_seq ?_
      refine wp_region_lit ?_
      refine wl hs (y_move hs rfl) rfl ?_; intro a hs
      refine wl hs (y_move hs rfl) rfl ?_; intro a hs
      obtain ⟨y1, h2, hm⟩ := bindE hm
      refine wcall is_15 hs rfl rfl (laws_szIntSS_any v_p0 p0 1048576 _ (RdM.below hr_p0 hM.bel) h2) ?_; rintro a _ w hs ⟨rfl, hX⟩
      have hM : Mem W w [] := hM.call hX
      refine wl hs (y_assign hs rfl) rfl ?_; intro a hs
      refine wpList_nil ?_
      refine x_nt ?_
      refine wp_seq ?_
      refine wp_seq ?_
      refine wp_region_lit ?_
      refine wl hs (y_move hs rfl) rfl ?_; intro a hs
      refine wl hs (y_lss hs rfl rfl) rfl ?_; intro a hs
      refine wpList_nil ?_
      refine x_nt ?_
      refine x_cond hs rfl (fun hb => ?_) (fun hb => ?_)
      · replace hm := condT hb hm
        refine wp_seq ?_
        refine wp_region_lit ?_
        refine wl hs (y_assign hs rfl) rfl ?_; intro a hs
        refine wpList_nil ?_
        refine x_nt ?_
        refine wp_ret ?_
        refine x_rt ?_
        have hm : some true = some r := hm
        obtain rfl := Option.some.inj hm
        refine x_ret1 rfl hs rfl ⟨_, rfl, ?_⟩
        exact ⟨rfl, hM⟩
      · replace hm := condF hb hm
        refine wp_skip ?_
        refine x_nt ?_
        refine wp_seq ?_
        refine wp_region_lit ?_
        refine wl hs (y_move hs rfl) rfl ?_; intro a hs
        obtain ⟨y3, h4, hm⟩ := bindE hm
        refine wcall is_17 hs rfl rfl (laws_toIntSS_any v_p0 p0 _ (RdM.below hr_p0 hM.bel) h4) ?_; rintro a v5 w hs ⟨vs7, hX⟩
        have hM : Mem W w [aMat 28 3 v5 vs7 y3] := hM.call hX
        refine wl hs (y_move hs rfl) rfl ?_; intro a hs
        obtain ⟨y8, h9, hm⟩ := bindE hm
        refine wcall is_23 hs rfl rfl (laws_toIntS_any v_p1 p1 _ (RdI.below hr_p1 hM.bel) h9) ?_; rintro a v10 w hs hX
        have hM : Mem W w [aInts 3 v10 y8, aMat 28 3 v5 vs7 y3] := hM.call hX
        refine wl hs (y_move hs rfl) rfl ?_; intro a hs
        obtain ⟨y12, h13, hm⟩ := bindE hm
        refine wcall is_23 hs rfl rfl (laws_toIntS_any v_p2 p2 _ (RdI.below hr_p2 hM.bel) h13) ?_; rintro a v14 w hs hX
        have hM : Mem W w [aInts 3 v14 y12, aInts 3 v10 y8, aMat 28 3 v5 vs7 y3] := hM.call hX
        obtain ⟨y16, h17, hm⟩ := bindE hm
        refine wcall is_38 hs rfl rfl (spec_IsProvedWay_any v5 y3 v10 y8 v14 y12 _ (hM.rdM 2 rfl) (hM.rdI 1 rfl) (hM.rdI 0 rfl) h17) ?_; rintro a _ w hs ⟨rfl, hX⟩
        have hM : Mem W w [aInts 3 v14 y12, aInts 3 v10 y8, aMat 28 3 v5 vs7 y3] := hM.call hX
        refine wl hs (y_move hs rfl) rfl ?_; intro a hs
        refine wl hs (y_extract hs rfl rfl) rfl ?_; intro a hs
        refine wl hs (y_extract hs rfl rfl) rfl ?_; intro a hs
        refine wl hs (y_assign hs rfl) rfl ?_; intro a hs
        refine wl hs (y_assign hs rfl) rfl ?_; intro a hs
        refine wpList_nil ?_
        refine x_nt ?_
        refine wp_seq ?_
        refine wp_region_lit ?_
        refine wl hs (y_move hs rfl) rfl ?_; intro a hs
        obtain ⟨y18, h19, hm⟩ := bindE hm
        refine wcall is_17 hs rfl rfl (laws_toIntSS_any v_p0 p0 _ (RdM.below hr_p0 hM.bel) h19) ?_; rintro a v20 w hs ⟨vs22, hX⟩
        have hM : Mem W w [aMat 28 3 v20 vs22 y18, aInts 3 v14 y12, aInts 3 v10 y8, aMat 28 3 v5 vs7 y3] := hM.call hX
        refine wl hs (y_assign hs rfl) rfl ?_; intro a hs
        refine wpList_nil ?_
        refine x_nt ?_
        refine wp_seq ?_
        refine wp_region_lit ?_
        refine wl hs (y_move hs rfl) rfl ?_; intro a hs
        obtain ⟨y23, h24, hm⟩ := bindE hm
        refine wcall is_23 hs rfl rfl (laws_toIntS_any v_p1 p1 _ (RdI.below hr_p1 hM.bel) h24) ?_; rintro a v25 w hs hX
        have hM : Mem W w [aInts 3 v25 y23, aMat 28 3 v20 vs22 y18, aInts 3 v14 y12, aInts 3 v10 y8, aMat 28 3 v5 vs7 y3] := hM.call hX
        refine wl hs (y_assign hs rfl) rfl ?_; intro a hs
        refine wpList_nil ?_
        refine x_nt ?_
        refine wp_seq ?_
        refine wp_region_lit ?_
        refine wl hs (y_move hs rfl) rfl ?_; intro a hs
        obtain ⟨y27, h28, hm⟩ := bindE hm
        refine wcall is_23 hs rfl rfl (laws_toIntS_any v_p2 p2 _ (RdI.below hr_p2 hM.bel) h28) ?_; rintro a v29 w hs hX
        have hM : Mem W w [aInts 3 v29 y27, aInts 3 v25 y23, aMat 28 3 v20 vs22 y18, aInts 3 v14 y12, aInts 3 v10 y8, aMat 28 3 v5 vs7 y3] := hM.call hX
        refine wl hs (y_assign hs rfl) rfl ?_; intro a hs
        refine wpList_nil ?_
        refine x_nt ?_
        refine wp_seq ?_
        refine wp_region_lit ?_
        refine wl hs (y_move hs rfl) rfl ?_; intro a hs
        refine wl hs (y_move hs rfl) rfl ?_; intro a hs
        refine wl hs (y_move hs rfl) rfl ?_; intro a hs
        obtain ⟨y31, h32, hm⟩ := bindE hm
        refine wcall is_39 hs rfl rfl (impl_IsProvedWay_any v20 y18 v25 y23 v29 y27 _ (hM.rdM 2 rfl) (hM.rdI 1 rfl) (hM.rdI 0 rfl) h32) ?_; rintro a _ w hs ⟨rfl, hX⟩
        have hM : Mem W w [aInts 3 v29 y27, aInts 3 v25 y23, aMat 28 3 v20 vs22 y18, aInts 3 v14 y12, aInts 3 v10 y8, aMat 28 3 v5 vs7 y3] := hM.call hX
        refine wl hs (y_move hs rfl) rfl ?_; intro a hs
        refine wl hs (y_extract hs rfl rfl) rfl ?_; intro a hs
        refine wl hs (y_extract hs rfl rfl) rfl ?_; intro a hs
        refine wl hs (y_assign hs rfl) rfl ?_; intro a hs
        refine wl hs (y_assign hs rfl) rfl ?_; intro a hs
        refine wpList_nil ?_
        refine x_nt ?_
        refine wp_seq ?_
        refine wp_seq ?_
        refine wp_region_lit ?_
        refine wl hs (y_move hs rfl) rfl ?_; intro a hs
        refine wl hs (y_move hs rfl) rfl ?_; intro a hs
        refine wl hs (y_neqB hu_bool hs rfl rfl) rfl ?_; intro a hs
        refine wl hs (y_move hs rfl) rfl ?_; intro a hs
        obtain ⟨b33, hb34, hm⟩ := bindE hm
        refine wlguard (N := 72) (L' := [(56, .bool b33), (0, v_p0), (1, v_p1), (2, v_p2), (10, v20), (11, v25), (12, v29)]) (fun w => Mem W w [aInts 3 v29 y27, aInts 3 v25 y23, aMat 28 3 v20 vs22 y18, aInts 3 v14 y12, aInts 3 v10 y8, aMat 28 3 v5 vs7 y3]) 4 ?_ ?_
        · intro K; rcases Bool.eq_false_or_eq_true (y31.1 != y16.1) with hg35 | hg35
          · have hm := condT hg35 hb34
            refine wls hs rfl hg35 rfl ?_; intro a hs
            refine wls hs rfl hg35 rfl ?_; intro a hs
            refine wls hs rfl hg35 rfl ?_; intro a hs
            have hm : some true = some b33 := hm
            cases Option.some.inj hm
            refine wl hs (y_pickT hs rfl hg35 rfl) rfl ?_; intro a hs
            exact K _ _ (hs.sub ⟨rfl, rfl, rfl, rfl, rfl, rfl, rfl, trivial⟩) hM
          · have hm := condF hg35 hb34
            refine wlg hs rfl hg35 (y_move hs rfl) rfl ?_; intro a hs
            refine wlg hs rfl hg35 (y_move hs rfl) rfl ?_; intro a hs
            refine wlg hs rfl hg35 (y_neqB hu_bool hs rfl rfl) rfl ?_; intro a hs
            have hm : some (y31.2 != y16.2) = some b33 := hm
            cases Option.some.inj hm
            refine wl hs (y_pickF hs rfl hg35 rfl) rfl ?_; intro a hs
            exact K _ _ (hs.sub ⟨rfl, rfl, rfl, rfl, rfl, rfl, rfl, trivial⟩) hM
        intro a w hs hM
        simp only [List.drop_succ_cons, List.drop_zero]
        refine wpList_nil ?_
        refine x_nt ?_
        refine x_cond hs rfl (fun hb => ?_) (fun hb => ?_)
        · replace hm := condT hb hm
          refine wp_seq ?_
          refine wp_region_lit ?_
          refine wl hs (y_assign hs rfl) rfl ?_; intro a hs
          refine wpList_nil ?_
          refine x_nt ?_
          refine wp_ret ?_
          refine x_rt ?_
          have hm : some false = some r := hm
          obtain rfl := Option.some.inj hm
          refine x_ret1 rfl hs rfl ⟨_, rfl, ?_⟩
          exact ⟨rfl, hM.none_⟩
        · replace hm := condF hb hm
          refine wp_skip ?_
          refine x_nt ?_
          refine wp_seq ?_
          refine wp_seq ?_
          refine wp_region_lit ?_
          refine wl hs (y_move hs rfl) rfl ?_; intro a hs
          refine wl hs (y_move hs rfl) rfl ?_; intro a hs
          obtain ⟨y36, h37, hm⟩ := bindE hm
          refine wcall is_17 hs rfl rfl (laws_toIntSS_any v_p0 p0 _ (RdM.below hr_p0 hM.bel) h37) ?_; rintro a v38 w hs ⟨vs40, hX⟩
          have hM : Mem W w [aMat 28 3 v38 vs40 y36, aInts 3 v29 y27, aInts 3 v25 y23, aMat 28 3 v20 vs22 y18, aInts 3 v14 y12, aInts 3 v10 y8, aMat 28 3 v5 vs7 y3] := hM.call hX
          obtain ⟨y41, h42, hm⟩ := bindE hm
          refine wcall is_19 hs rfl rfl (laws_eqIntSS_any v20 y18 v38 y36 _ (hM.rdM 3 rfl) (hM.rdM 0 rfl) h42) ?_; rintro a _ w hs ⟨rfl, hX⟩
          have hM : Mem W w [aMat 28 3 v38 vs40 y36, aInts 3 v29 y27, aInts 3 v25 y23, aMat 28 3 v20 vs22 y18, aInts 3 v14 y12, aInts 3 v10 y8, aMat 28 3 v5 vs7 y3] := hM.call hX
          refine wl hs (y_not hs rfl) rfl ?_; intro a hs
          refine wpList_nil ?_
          refine x_nt ?_
          refine x_cond hs rfl (fun hb => ?_) (fun hb => ?_)
          · replace hm := condT hb hm
            refine wp_seq ?_
            refine wp_region_lit ?_
            refine wl hs (y_assign hs rfl) rfl ?_; intro a hs
            refine wpList_nil ?_
            refine x_nt ?_
            refine wp_ret ?_
            refine x_rt ?_
            have hm : some false = some r := hm
            obtain rfl := Option.some.inj hm
            refine x_ret1 rfl hs rfl ⟨_, rfl, ?_⟩
            exact ⟨rfl, hM.none_⟩
          · replace hm := condF hb hm
            refine wp_skip ?_
            refine x_nt ?_
            refine wp_seq ?_
            refine wp_seq ?_
            refine wp_region_lit ?_
            refine wl hs (y_move hs rfl) rfl ?_; intro a hs
            refine wl hs (y_move hs rfl) rfl ?_; intro a hs
            obtain ⟨y43, h44, hm⟩ := bindE hm
            refine wcall is_23 hs rfl rfl (laws_toIntS_any v_p1 p1 _ (RdI.below hr_p1 hM.bel) h44) ?_; rintro a v45 w hs hX
            have hM : Mem W w [aInts 3 v45 y43, aMat 28 3 v38 vs40 y36, aInts 3 v29 y27, aInts 3 v25 y23, aMat 28 3 v20 vs22 y18, aInts 3 v14 y12, aInts 3 v10 y8, aMat 28 3 v5 vs7 y3] := hM.call hX
            obtain ⟨y47, h48, hm⟩ := bindE hm
            refine wcall is_25 hs rfl rfl (laws_eqIntS_any v25 y23 v45 y43 _ (hM.rdI 3 rfl) (hM.rdI 0 rfl) h48) ?_; rintro a _ w hs ⟨rfl, hX⟩
            have hM : Mem W w [aInts 3 v45 y43, aMat 28 3 v38 vs40 y36, aInts 3 v29 y27, aInts 3 v25 y23, aMat 28 3 v20 vs22 y18, aInts 3 v14 y12, aInts 3 v10 y8, aMat 28 3 v5 vs7 y3] := hM.call hX
            refine wl hs (y_not hs rfl) rfl ?_; intro a hs
            refine wpList_nil ?_
            refine x_nt ?_
            refine x_cond hs rfl (fun hb => ?_) (fun hb => ?_)
            · replace hm := condT hb hm
              refine wp_seq ?_
              refine wp_region_lit ?_
              refine wl hs (y_assign hs rfl) rfl ?_; intro a hs
              refine wpList_nil ?_
              refine x_nt ?_
              refine wp_ret ?_
              refine x_rt ?_
              have hm : some false = some r := hm
              obtain rfl := Option.some.inj hm
              refine x_ret1 rfl hs rfl ⟨_, rfl, ?_⟩
              exact ⟨rfl, hM.none_⟩
            · replace hm := condF hb hm
              refine wp_skip ?_
              refine x_nt ?_
              refine wp_seq ?_
              refine wp_seq ?_
              refine wp_region_lit ?_
              refine wl hs (y_move hs rfl) rfl ?_; intro a hs
              refine wl hs (y_move hs rfl) rfl ?_; intro a hs
              obtain ⟨y49, h50, hm⟩ := bindE hm
              refine wcall is_23 hs rfl rfl (laws_toIntS_any v_p2 p2 _ (RdI.below hr_p2 hM.bel) h50) ?_; rintro a v51 w hs hX
              have hM : Mem W w [aInts 3 v51 y49, aInts 3 v45 y43, aMat 28 3 v38 vs40 y36, aInts 3 v29 y27, aInts 3 v25 y23, aMat 28 3 v20 vs22 y18, aInts 3 v14 y12, aInts 3 v10 y8, aMat 28 3 v5 vs7 y3] := hM.call hX
              obtain ⟨y53, h54, hm⟩ := bindE hm
              refine wcall is_25 hs rfl rfl (laws_eqIntS_any v29 y27 v51 y49 _ (hM.rdI 3 rfl) (hM.rdI 0 rfl) h54) ?_; rintro a _ w hs ⟨rfl, hX⟩
              have hM : Mem W w [aInts 3 v51 y49, aInts 3 v45 y43, aMat 28 3 v38 vs40 y36, aInts 3 v29 y27, aInts 3 v25 y23, aMat 28 3 v20 vs22 y18, aInts 3 v14 y12, aInts 3 v10 y8, aMat 28 3 v5 vs7 y3] := hM.call hX
              refine wl hs (y_not hs rfl) rfl ?_; intro a hs
              refine wpList_nil ?_
              refine x_nt ?_
              refine x_cond hs rfl (fun hb => ?_) (fun hb => ?_)
              · replace hm := condT hb hm
                refine wp_seq ?_
                refine wp_region_lit ?_
                refine wl hs (y_assign hs rfl) rfl ?_; intro a hs
                refine wpList_nil ?_
                refine x_nt ?_
                refine wp_ret ?_
                refine x_rt ?_
                have hm : some false = some r := hm
                obtain rfl := Option.some.inj hm
                refine x_ret1 rfl hs rfl ⟨_, rfl, ?_⟩
                exact ⟨rfl, hM.none_⟩
              · replace hm := condF hb hm
                refine wp_skip ?_
                refine x_nt ?_
                refine wp_seq ?_
                refine wp_region_lit ?_
                refine wl hs (y_assign hs rfl) rfl ?_; intro a hs
                refine wpList_nil ?_
                refine x_nt ?_
                refine wp_ret ?_
                have hm : some true = some r := hm
                obtain rfl := Option.some.inj hm
                refine x_ret1 rfl hs rfl ⟨_, rfl, ?_⟩
                exact ⟨rfl, hM.none_⟩

end Go.Proofs.Ytjicdfplhenohaa
