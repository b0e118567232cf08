/- The code of this unit computes what its mirrors say. Written by program (wip/gen). -/
import Derived.Test.YtcglmncmnlkpmaaDoorFacts
import Derived.Test.YtcglmncmnlkpmaaDoorEMatrixTextM
import Derived.Test.YtcglmncmnlkpmaaDoorNumW
import Derived.Test.YtcglmncmnlkpmaaDoorTxsW
import Derived.Test.YtcglmncmnlkpmaaDoorTxiW
namespace Go.Proofs.YtcglmncmnlkpmaaDoor
open Go.RowKit
set_option linter.unusedVariables false

set_option maxHeartbeats 4000000 in
theorem laws_FnExactMatrixText_any (v_p0 : Value) (p0 : List (List Int)) (W : World) (hT : TabOk W) (hr_p0 : RdM W v_p0 p0) {r : Bool} (hm : laws_FnExactMatrixText_m p0 = some r) : Calls Tryd.prog 3 [v_p0].toArray W fun e w => ∃ v, e = .returned v ∧ v = .bool r ∧ Mem W w [] := by
  refine x_enter Tryd.func3 rfl Tryd.ntmps3 rfl ?_
  intro a hs
  have hM := Mem.start W
  unfold laws_FnExactMatrixText_m at hm
  refine wp_seq ?_
  refine wp_region_lit ?_
  refine wl hs (y_assign hs rfl) rfl ?_; intro a hs
  refine wpList_nil ?_
  refine x_nt ?_
  refine wp_seq ?_
  refine wp_region_lit ?_
  refine wl hs (y_assign hs rfl) rfl ?_; intro a hs
  refine wpList_nil ?_
  refine x_nt ?_
  refine wp_seq ?_
  refine wp_region_lit ?_
  refine wl hs (y_move hs rfl) rfl ?_; intro a hs
  refine wl hs (y_move hs rfl) rfl ?_; intro a hs
  obtain ⟨y1, h2, hm⟩ := bindE hm
  refine wcall is_5 hs rfl rfl (laws_szIntSS_any v_p0 p0 1048576 _ (RdM.below hr_p0 hM.bel) h2) ?_; rintro a _ w hs ⟨rfl, hX⟩
  have hM : Mem W w [] := hM.call hX
  refine wl hs (y_assign hs rfl) rfl ?_; intro a hs
  refine wpList_nil ?_
  refine x_nt ?_
  refine wp_seq ?_
  refine wp_seq ?_
  refine wp_region_lit ?_
  refine wl hs (y_move hs rfl) rfl ?_; intro a hs
  refine wl hs (y_lss hs rfl rfl) rfl ?_; intro a hs
  refine wpList_nil ?_
  refine x_nt ?_
  refine x_cond hs rfl (fun hb => ?_) (fun hb => ?_)
  · replace hm := condT hb hm
    refine wp_seq ?_
    refine wp_region_lit ?_
    refine wl hs (y_assign hs rfl) rfl ?_; intro a hs
    refine wpList_nil ?_
    refine x_nt ?_
    refine wp_ret ?_
    refine x_rt ?_
    have hm : some true = some r := hm
    obtain rfl := Option.some.inj hm
    refine x_ret1 rfl hs rfl ⟨_, rfl, ?_⟩
    exact ⟨rfl, hM⟩
  · replace hm := condF hb hm
    refine wp_skip ?_
    refine x_nt ?_
    refine wp_seq ?_
    refine wp_region_lit ?_
    refine wl hs (y_move hs rfl) rfl ?_; intro a hs
    obtain ⟨y3, h4, hm⟩ := bindE hm
    refine wcall is_7 hs rfl rfl (laws_toIntSS_any v_p0 p0 _ (RdM.below hr_p0 hM.bel) h4) ?_; rintro a v5 w hs ⟨vs7, hX⟩
    have hM : Mem W w [aMat 33 3 v5 vs7 y3] := hM.call hX
    obtain ⟨y8, h9, hm⟩ := bindE hm
    refine wcall is_6 hs rfl rfl (spec_MatrixText_any v5 y3 _ (hM.rdM 0 rfl) h9) ?_; rintro a _ w hs ⟨rfl, hX⟩
    have hM : Mem W w [aMat 33 3 v5 vs7 y3] := hM.call hX
    refine wl hs (y_move hs rfl) rfl ?_; intro a hs
    refine wl hs (y_extract hs rfl rfl) rfl ?_; intro a hs
    refine wl hs (y_extract hs rfl rfl) rfl ?_; intro a hs
    refine wl hs (y_assign hs rfl) rfl ?_; intro a hs
    refine wl hs (y_assign hs rfl) rfl ?_; intro a hs
    refine wpList_nil ?_
    refine x_nt ?_
    refine wp_seq ?_
    refine wp_region_lit ?_
    refine wl hs (y_move hs rfl) rfl ?_; intro a hs
    obtain ⟨y10, h11, hm⟩ := bindE hm
    refine wcall is_7 hs rfl rfl (laws_toIntSS_any v_p0 p0 _ (RdM.below hr_p0 hM.bel) h11) ?_; rintro a v12 w hs ⟨vs14, hX⟩
    have hM : Mem W w [aMat 33 3 v12 vs14 y10, aMat 33 3 v5 vs7 y3] := hM.call hX
    refine wl hs (y_assign hs rfl) rfl ?_; intro a hs
    refine wpList_nil ?_
    refine x_nt ?_
    refine wp_seq ?_
    refine wp_region_lit ?_
    refine wl hs (y_move hs rfl) rfl ?_; intro a hs
    obtain ⟨y15, h16, hm⟩ := bindE hm
    refine wcall is_8 hs rfl rfl (impl_MatrixText_any v12 y10 _ (hT.below hM.bel) (hM.rdM 0 rfl) h16) ?_; rintro a _ w hs ⟨rfl, hX⟩
    have hM : Mem W w [aMat 33 3 v12 vs14 y10, aMat 33 3 v5 vs7 y3] := hM.call hX
    refine wl hs (y_move hs rfl) rfl ?_; intro a hs
    refine wl hs (y_extract hs rfl rfl) rfl ?_; intro a hs
    refine wl hs (y_extract hs rfl rfl) rfl ?_; intro a hs
    refine wl hs (y_assign hs rfl) rfl ?_; intro a hs
    refine wl hs (y_assign hs rfl) rfl ?_; intro a hs
    refine wpList_nil ?_
    refine x_nt ?_
    refine wp_seq ?_
    refine wp_seq ?_
    refine wp_region_lit ?_
    refine wl hs (y_move hs rfl) rfl ?_; intro a hs
    refine wl hs (y_move hs rfl) rfl ?_; intro a hs
    refine wl hs (y_neqT hs rfl rfl) rfl ?_; intro a hs
    refine wl hs (y_move hs rfl) rfl ?_; intro a hs
    obtain ⟨b17, hb18, hm⟩ := bindE hm
    refine wlguard (N := 40) (L' := [(34, .bool b17), (0, v_p0), (6, v12)]) (fun w => Mem W w [aMat 33 3 v12 vs14 y10, aMat 33 3 v5 vs7 y3]) 4 ?_ ?_
    · intro K; rcases Bool.eq_false_or_eq_true (y15.1 != y8.1) with hg19 | hg19
      · have hm := condT hg19 hb18
        refine wls hs rfl hg19 rfl ?_; intro a hs
        refine wls hs rfl hg19 rfl ?_; intro a hs
        refine wls hs rfl hg19 rfl ?_; intro a hs
        have hm : some true = some b17 := hm
        cases Option.some.inj hm
        refine wl hs (y_pickT hs rfl hg19 rfl) rfl ?_; intro a hs
        exact K _ _ (hs.sub ⟨rfl, rfl, rfl, trivial⟩) hM
      · have hm := condF hg19 hb18
        refine wlg hs rfl hg19 (y_move hs rfl) rfl ?_; intro a hs
        refine wlg hs rfl hg19 (y_move hs rfl) rfl ?_; intro a hs
        refine wlg hs rfl hg19 (y_neqB hu_bool hs rfl rfl) rfl ?_; intro a hs
        have hm : some (y15.2 != y8.2) = some b17 := hm
        cases Option.some.inj hm
        refine wl hs (y_pickF hs rfl hg19 rfl) rfl ?_; intro a hs
        exact K _ _ (hs.sub ⟨rfl, rfl, rfl, trivial⟩) hM
    intro a w hs hM
    simp only [List.drop_succ_cons, List.drop_zero]
    refine wpList_nil ?_
    refine x_nt ?_
    refine x_cond hs rfl (fun hb => ?_) (fun hb => ?_)
    · replace hm := condT hb hm
      refine wp_seq ?_
      refine wp_region_lit ?_
      refine wl hs (y_assign hs rfl) rfl ?_; intro a hs
      refine wpList_nil ?_
      refine x_nt ?_
      refine wp_ret ?_
      refine x_rt ?_
      have hm : some false = some r := hm
      obtain rfl := Option.some.inj hm
      refine x_ret1 rfl hs rfl ⟨_, rfl, ?_⟩
      exact ⟨rfl, hM.none_⟩
    · replace hm := condF hb hm
      refine wp_skip ?_
      refine x_nt ?_
      refine wp_seq ?_
      refine wp_seq ?_
      refine wp_region_lit ?_
      refine wl hs (y_move hs rfl) rfl ?_; intro a hs
      refine wl hs (y_move hs rfl) rfl ?_; intro a hs
      obtain ⟨y20, h21, hm⟩ := bindE hm
      refine wcall is_7 hs rfl rfl (laws_toIntSS_any v_p0 p0 _ (RdM.below hr_p0 hM.bel) h21) ?_; rintro a v22 w hs ⟨vs24, hX⟩
      have hM : Mem W w [aMat 33 3 v22 vs24 y20, aMat 33 3 v12 vs14 y10, aMat 33 3 v5 vs7 y3] := hM.call hX
      obtain ⟨y25, h26, hm⟩ := bindE hm
      refine wcall is_9 hs rfl rfl (laws_eqIntSS_any v12 y10 v22 y20 _ (hM.rdM 1 rfl) (hM.rdM 0 rfl) h26) ?_; rintro a _ w hs ⟨rfl, hX⟩
      have hM : Mem W w [aMat 33 3 v22 vs24 y20, aMat 33 3 v12 vs14 y10, aMat 33 3 v5 vs7 y3] := hM.call hX
      refine wl hs (y_not hs rfl) rfl ?_; intro a hs
      refine wpList_nil ?_
      refine x_nt ?_
      refine x_cond hs rfl (fun hb => ?_) (fun hb => ?_)
      · replace hm := condT hb hm
        refine wp_seq ?_
        refine wp_region_lit ?_
        refine wl hs (y_assign hs rfl) rfl ?_; intro a hs
        refine wpList_nil ?_
        refine x_nt ?_
        refine wp_ret ?_
        refine x_rt ?_
        have hm : some false = some r := hm
        obtain rfl := Option.some.inj hm
        refine x_ret1 rfl hs rfl ⟨_, rfl, ?_⟩
        exact ⟨rfl, hM.none_⟩
      · replace hm := condF hb hm
        refine wp_skip ?_
        refine x_nt ?_
        refine wp_seq ?_
        refine wp_region_lit ?_
        refine wl hs (y_assign hs rfl) rfl ?_; intro a hs
        refine wpList_nil ?_
        refine x_nt ?_
        refine wp_ret ?_
        have hm : some true = some r := hm
        obtain rfl := Option.some.inj hm
        refine x_ret1 rfl hs rfl ⟨_, rfl, ?_⟩
        exact ⟨rfl, hM.none_⟩

end Go.Proofs.YtcglmncmnlkpmaaDoor
