/- The code of this unit computes what its mirrors say. Written by program (wip/gen). -/
import Derived.Test.YtaagklbiebogfaaFacts
import Derived.Test.YtaagklbiebogfaaEFactorBoundsM
import Derived.Test.YtaagklbiebogfaaNumW
import Derived.Test.YtaagklbiebogfaaCliW
namespace Go.Proofs.Ytaagklbiebogfaa
open Go.RowKit
set_option linter.unusedVariables false

set_option maxHeartbeats 4000000 in
theorem laws_FnExactFactorBounds_any (v_p0 : Value) (p0 : List (List Int)) (W : World) (hr_p0 : RdM W v_p0 p0) {r : Bool} (hm : laws_FnExactFactorBounds_m p0 = some r) : Calls Try.prog 9 [v_p0].toArray W fun e w => ∃ v, e = .returned v ∧ v = .bool r ∧ Mem W w [] := by
  refine x_enter Try.func9 rfl Try.ntmps9 rfl ?_
  intro a hs
  have hM := Mem.start W
  unfold laws_FnExactFactorBounds_m at hm
  refine wp_seq ?_
  refine wp_region_lit ?_
  refine wl hs (y_assign hs rfl) rfl ?_; intro a hs
  refine wpList_nil ?_
  refine x_nt ?_
  refine wp_seq ?_
  refine wp_region_lit ?_
  refine wl hs (y_assign hs rfl) rfl ?_; intro a hs
  refine wpList_nil ?_
  refine x_nt ?_
  refine wp_seq ?_
  refine wp_region_lit ?_
  refine wl hs (y_move hs rfl) rfl ?_; intro a hs
  refine wl hs (y_move hs rfl) rfl ?_; intro a hs
  obtain ⟨y1, h2, hm⟩ := bindE hm
  refine wcall is_15 hs rfl rfl (laws_szIntSS_any v_p0 p0 1048576 _ (RdM.below hr_p0 hM.bel) h2) ?_; rintro a _ w hs ⟨rfl, hX⟩
  have hM : Mem W w [] := hM.call hX
  refine wl hs (y_assign hs rfl) rfl ?_; intro a hs
  refine wpList_nil ?_
  refine x_nt ?_
  refine wp_seq ?_
  refine wp_seq ?_
  refine wp_region_lit ?_
  refine wl hs (y_move hs rfl) rfl ?_; intro a hs
  refine wl hs (y_lss hs rfl rfl) rfl ?_; intro a hs
  refine wpList_nil ?_
  refine x_nt ?_
  refine x_cond hs rfl (fun hb => ?_) (fun hb => ?_)
  · replace hm := condT hb hm
    refine wp_seq ?_
    refine wp_region_lit ?_
    refine wl hs (y_assign hs rfl) rfl ?_; intro a hs
    refine wpList_nil ?_
    refine x_nt ?_
    refine wp_ret ?_
    refine x_rt ?_
    have hm : some true = some r := hm
    obtain rfl := Option.some.inj hm
    refine x_ret1 rfl hs rfl ⟨_, rfl, ?_⟩
    exact ⟨rfl, hM⟩
  · replace hm := condF hb hm
    refine wp_skip ?_
    refine x_nt ?_
    refine wp_seq ?_
    refine wp_region_lit ?_
    refine wl hs (y_move hs rfl) rfl ?_; intro a hs
    obtain ⟨y3, h4, hm⟩ := bindE hm
    refine wcall is_17 hs rfl rfl (laws_toIntSS_any v_p0 p0 _ (RdM.below hr_p0 hM.bel) h4) ?_; rintro a v5 w hs ⟨vs7, hX⟩
    have hM : Mem W w [aMat 24 3 v5 vs7 y3] := hM.call hX
    obtain ⟨y8, h9, hm⟩ := bindE hm
    refine wcall is_36 hs rfl rfl (spec_FactorBounds_any v5 y3 _ (hM.rdM 0 rfl) h9) ?_; rintro a _ w hs ⟨rfl, hX⟩
    have hM : Mem W w [aMat 24 3 v5 vs7 y3] := hM.call hX
    refine wl hs (y_move hs rfl) rfl ?_; intro a hs
    refine wl hs (y_extract hs rfl rfl) rfl ?_; intro a hs
    refine wl hs (y_extract hs rfl rfl) rfl ?_; intro a hs
    refine wl hs (y_extract hs rfl rfl) rfl ?_; intro a hs
    refine wl hs (y_assign hs rfl) rfl ?_; intro a hs
    refine wl hs (y_assign hs rfl) rfl ?_; intro a hs
    refine wl hs (y_assign hs rfl) rfl ?_; intro a hs
    refine wpList_nil ?_
    refine x_nt ?_
    refine wp_seq ?_
    refine wp_region_lit ?_
    refine wl hs (y_move hs rfl) rfl ?_; intro a hs
    obtain ⟨y10, h11, hm⟩ := bindE hm
    refine wcall is_17 hs rfl rfl (laws_toIntSS_any v_p0 p0 _ (RdM.below hr_p0 hM.bel) h11) ?_; rintro a v12 w hs ⟨vs14, hX⟩
    have hM : Mem W w [aMat 24 3 v12 vs14 y10, aMat 24 3 v5 vs7 y3] := hM.call hX
    refine wl hs (y_assign hs rfl) rfl ?_; intro a hs
    refine wpList_nil ?_
    refine x_nt ?_
    refine wp_seq ?_
    refine wp_region_lit ?_
    refine wl hs (y_move hs rfl) rfl ?_; intro a hs
    obtain ⟨y15, h16, hm⟩ := bindE hm
    refine wcall is_37 hs rfl rfl (impl_FactorBounds_any v12 y10 _ (hM.rdM 0 rfl) h16) ?_; rintro a _ w hs ⟨rfl, hX⟩
    have hM : Mem W w [aMat 24 3 v12 vs14 y10, aMat 24 3 v5 vs7 y3] := hM.call hX
    refine wl hs (y_move hs rfl) rfl ?_; intro a hs
    refine wl hs (y_extract hs rfl rfl) rfl ?_; intro a hs
    refine wl hs (y_extract hs rfl rfl) rfl ?_; intro a hs
    refine wl hs (y_extract hs rfl rfl) rfl ?_; intro a hs
    refine wl hs (y_assign hs rfl) rfl ?_; intro a hs
    refine wl hs (y_assign hs rfl) rfl ?_; intro a hs
    refine wl hs (y_assign hs rfl) rfl ?_; intro a hs
    refine wpList_nil ?_
    refine x_nt ?_
    refine wp_seq ?_
    refine wp_seq ?_
    refine wp_region_lit ?_
    refine wl hs (y_move hs rfl) rfl ?_; intro a hs
    refine wl hs (y_move hs rfl) rfl ?_; intro a hs
    refine wl hs (y_neq hs rfl rfl) rfl ?_; intro a hs
    refine wl hs (y_move hs rfl) rfl ?_; intro a hs
    obtain ⟨b17, hb18, hm⟩ := bindE hm
    refine wlguard (N := 49) (L' := [(38, .bool b17), (0, v_p0), (6, .bool y8.2.2), (7, v12), (10, .bool y15.2.2)]) (fun w => Mem W w [aMat 24 3 v12 vs14 y10, aMat 24 3 v5 vs7 y3]) 4 ?_ ?_
    · intro K; rcases Bool.eq_false_or_eq_true (y15.1 != y8.1) with hg19 | hg19
      · have hm := condT hg19 hb18
        refine wls hs rfl hg19 rfl ?_; intro a hs
        refine wls hs rfl hg19 rfl ?_; intro a hs
        refine wls hs rfl hg19 rfl ?_; intro a hs
        have hm : some true = some b17 := hm
        cases Option.some.inj hm
        refine wl hs (y_pickT hs rfl hg19 rfl) rfl ?_; intro a hs
        exact K _ _ (hs.sub ⟨rfl, rfl, rfl, rfl, rfl, trivial⟩) hM
      · have hm := condF hg19 hb18
        refine wlg hs rfl hg19 (y_move hs rfl) rfl ?_; intro a hs
        refine wlg hs rfl hg19 (y_move hs rfl) rfl ?_; intro a hs
        refine wlg hs rfl hg19 (y_neq hs rfl rfl) rfl ?_; intro a hs
        have hm : some (y15.2.1 != y8.2.1) = some b17 := hm
        cases Option.some.inj hm
        refine wl hs (y_pickF hs rfl hg19 rfl) rfl ?_; intro a hs
        exact K _ _ (hs.sub ⟨rfl, rfl, rfl, rfl, rfl, trivial⟩) hM
    intro a w hs hM
    simp only [List.drop_succ_cons, List.drop_zero]
    refine wl hs (y_move hs rfl) rfl ?_; intro a hs
    obtain ⟨b20, hb21, hm⟩ := bindE hm
    refine wlguard (N := 49) (L' := [(43, .bool b20), (0, v_p0), (7, v12)]) (fun w => Mem W w [aMat 24 3 v12 vs14 y10, aMat 24 3 v5 vs7 y3]) 4 ?_ ?_
    · intro K; rcases Bool.eq_false_or_eq_true b17 with hg22 | hg22
      · have hm := condT hg22 hb21
        refine wls hs rfl hg22 rfl ?_; intro a hs
        refine wls hs rfl hg22 rfl ?_; intro a hs
        refine wls hs rfl hg22 rfl ?_; intro a hs
        have hm : some true = some b20 := hm
        cases Option.some.inj hm
        refine wl hs (y_pickT hs rfl hg22 rfl) rfl ?_; intro a hs
        exact K _ _ (hs.sub ⟨rfl, rfl, rfl, trivial⟩) hM
      · have hm := condF hg22 hb21
        refine wlg hs rfl hg22 (y_move hs rfl) rfl ?_; intro a hs
        refine wlg hs rfl hg22 (y_move hs rfl) rfl ?_; intro a hs
        refine wlg hs rfl hg22 (y_neqB hu_bool hs rfl rfl) rfl ?_; intro a hs
        have hm : some (y15.2.2 != y8.2.2) = some b20 := hm
        cases Option.some.inj hm
        refine wl hs (y_pickF hs rfl hg22 rfl) rfl ?_; intro a hs
        exact K _ _ (hs.sub ⟨rfl, rfl, rfl, trivial⟩) hM
    intro a w hs hM
    simp only [List.drop_succ_cons, List.drop_zero]
    refine wpList_nil ?_
    refine x_nt ?_
    refine x_cond hs rfl (fun hb => ?_) (fun hb => ?_)
    · replace hm := condT hb hm
      refine wp_seq ?_
      refine wp_region_lit ?_
      refine wl hs (y_assign hs rfl) rfl ?_; intro a hs
      refine wpList_nil ?_
      refine x_nt ?_
      refine wp_ret ?_
      refine x_rt ?_
      have hm : some false = some r := hm
      obtain rfl := Option.some.inj hm
      refine x_ret1 rfl hs rfl ⟨_, rfl, ?_⟩
      exact ⟨rfl, hM.none_⟩
    · replace hm := condF hb hm
      refine wp_skip ?_
      refine x_nt ?_
      refine wp_seq ?_
      refine wp_seq ?_
      refine wp_region_lit ?_
      refine wl hs (y_move hs rfl) rfl ?_; intro a hs
      refine wl hs (y_move hs rfl) rfl ?_; intro a hs
      obtain ⟨y23, h24, hm⟩ := bindE hm
      refine wcall is_17 hs rfl rfl (laws_toIntSS_any v_p0 p0 _ (RdM.below hr_p0 hM.bel) h24) ?_; rintro a v25 w hs ⟨vs27, hX⟩
      have hM : Mem W w [aMat 24 3 v25 vs27 y23, aMat 24 3 v12 vs14 y10, aMat 24 3 v5 vs7 y3] := hM.call hX
      obtain ⟨y28, h29, hm⟩ := bindE hm
      refine wcall is_20 hs rfl rfl (laws_eqIntSS_any v12 y10 v25 y23 _ (hM.rdM 1 rfl) (hM.rdM 0 rfl) h29) ?_; rintro a _ w hs ⟨rfl, hX⟩
      have hM : Mem W w [aMat 24 3 v25 vs27 y23, aMat 24 3 v12 vs14 y10, aMat 24 3 v5 vs7 y3] := hM.call hX
      refine wl hs (y_not hs rfl) rfl ?_; intro a hs
      refine wpList_nil ?_
      refine x_nt ?_
      refine x_cond hs rfl (fun hb => ?_) (fun hb => ?_)
      · replace hm := condT hb hm
        refine wp_seq ?_
        refine wp_region_lit ?_
        refine wl hs (y_assign hs rfl) rfl ?_; intro a hs
        refine wpList_nil ?_
        refine x_nt ?_
        refine wp_ret ?_
        refine x_rt ?_
        have hm : some false = some r := hm
        obtain rfl := Option.some.inj hm
        refine x_ret1 rfl hs rfl ⟨_, rfl, ?_⟩
        exact ⟨rfl, hM.none_⟩
      · replace hm := condF hb hm
        refine wp_skip ?_
        refine x_nt ?_
        refine wp_seq ?_
        refine wp_region_lit ?_
        refine wl hs (y_assign hs rfl) rfl ?_; intro a hs
        refine wpList_nil ?_
        refine x_nt ?_
        refine wp_ret ?_
        have hm : some true = some r := hm
        obtain rfl := Option.some.inj hm
        refine x_ret1 rfl hs rfl ⟨_, rfl, ?_⟩
        exact ⟨rfl, hM.none_⟩

end Go.Proofs.Ytaagklbiebogfaa
