/- The code of this unit computes what its mirrors say. Written by program (wip/gen). -/
import Derived.Test.YtjhaealoneennaaFacts
import Derived.Test.YtjhaealoneennaaEEigenvalueOfM
import Derived.Test.YtjhaealoneennaaNumW
import Derived.Test.YtjhaealoneennaaLfW
import Derived.Test.YtjhaealoneennaaEvoW
namespace Go.Proofs.Ytjhaealoneennaa
open Go.RowKit
set_option linter.unusedVariables false

set_option maxHeartbeats 4000000 in
theorem laws_FnExactEigenvalueOf_any (v_p0 : Value) (p0 : List (List Int)) (W : World) (hr_p0 : RdM W v_p0 p0) {r : Bool} (hm : laws_FnExactEigenvalueOf_m p0 = some r) : Calls Try.prog 12 [v_p0].toArray W fun e w => ∃ v, e = .returned v ∧ v = .bool r ∧ Mem W w [] := by
  refine x_enter Try.func12 rfl Try.ntmps12 rfl ?_
  intro a hs
  have hM := Mem.start W
  unfold laws_FnExactEigenvalueOf_m at hm
  refine wp_seq ?_
  refine wp_region_lit ?_
  refine wl hs (y_assign hs rfl) rfl ?_; intro a hs
  refine wpList_nil ?_
  refine x_nt ?_
  refine wp_seq ?_
  refine wp_region_lit ?_
  refine wl hs (y_assign hs rfl) rfl ?_; intro a hs
  refine wpList_nil ?_
  refine x_nt ?_
  refine wp_seq ?_
  refine wp_region_lit ?_
  refine wl hs (y_move hs rfl) rfl ?_; intro a hs
  refine wl hs (y_move hs rfl) rfl ?_; intro a hs
  obtain ⟨y1, h2, hm⟩ := bindE hm
  refine wcall is_14 hs rfl rfl (laws_szIntSS_any v_p0 p0 1048576 _ (RdM.below hr_p0 hM.bel) h2) ?_; rintro a _ w hs ⟨rfl, hX⟩
  have hM : Mem W w [] := hM.call hX
  refine wl hs (y_assign hs rfl) rfl ?_; intro a hs
  refine wpList_nil ?_
  refine x_nt ?_
  refine wp_seq ?_
  refine wp_seq ?_
  refine wp_region_lit ?_
  refine wl hs (y_move hs rfl) rfl ?_; intro a hs
  refine wl hs (y_lss hs rfl rfl) rfl ?_; intro a hs
  refine wpList_nil ?_
  refine x_nt ?_
  refine x_cond hs rfl (fun hb => ?_) (fun hb => ?_)
  · replace hm := condT hb hm
    refine wp_seq ?_
    refine wp_region_lit ?_
    refine wl hs (y_assign hs rfl) rfl ?_; intro a hs
    refine wpList_nil ?_
    refine x_nt ?_
    refine wp_ret ?_
    refine x_rt ?_
    have hm : some true = some r := hm
    obtain rfl := Option.some.inj hm
    refine x_ret1 rfl hs rfl ⟨_, rfl, ?_⟩
    exact ⟨rfl, hM⟩
  · replace hm := condF hb hm
    refine wp_skip ?_
    refine x_nt ?_
    refine wp_seq ?_
    refine wp_region_lit ?_
    refine wl hs (y_move hs rfl) rfl ?_; intro a hs
    obtain ⟨y3, h4, hm⟩ := bindE hm
    refine wcall is_16 hs rfl rfl (laws_toIntSS_any v_p0 p0 _ (RdM.below hr_p0 hM.bel) h4) ?_; rintro a v5 w hs ⟨vs7, hX⟩
    have hM : Mem W w [aMat 24 3 v5 vs7 y3] := hM.call hX
    obtain ⟨y8, h9, hm⟩ := bindE hm
    refine wcall is_41 hs rfl rfl (spec_EigenvalueOf_any v5 y3 _ (hM.rdM 0 rfl) h9) ?_; rintro a _ w hs ⟨rfl, hX⟩
    have hM : Mem W w [aMat 24 3 v5 vs7 y3] := hM.call hX
    refine wl hs (y_move hs rfl) rfl ?_; intro a hs
    refine wl hs (y_extract hs rfl rfl) rfl ?_; intro a hs
    refine wl hs (y_extract hs rfl rfl) rfl ?_; intro a hs
    refine wmem hs (x_allocS sT_40 hM) rfl ?_; rintro a _ w hs ⟨g11, rfl, hM⟩
    have hM : Mem W w [aBlk g11 40 [.int .i64 0, .int .i64 0], aMat 24 3 v5 vs7 y3] := hM
    refine wstore hs rfl rfl (x_storeS (cs := [.int .i64 0, .int .i64 0]) (us := [.int .i64 y8.1, .int .i64 y8.2.1]) sT_40 ⟨rfl, rfl, trivial⟩ rfl rfl (hM.front 0 rfl)) ?_; intro w hM
    have hM : Mem W w [aBlk g11 40 [.int .i64 y8.1, .int .i64 y8.2.1], aMat 24 3 v5 vs7 y3] := hM
    refine wl hs (y_assign hs rfl) rfl ?_; intro a hs
    refine wpList_nil ?_
    refine x_nt ?_
    refine wp_seq ?_
    refine wp_region_lit ?_
    refine wl hs (y_move hs rfl) rfl ?_; intro a hs
    obtain ⟨y12, h13, hm⟩ := bindE hm
    refine wcall is_16 hs rfl rfl (laws_toIntSS_any v_p0 p0 _ (RdM.below hr_p0 hM.bel) h13) ?_; rintro a v14 w hs ⟨vs16, hX⟩
    have hM : Mem W w [aMat 24 3 v14 vs16 y12, aBlk g11 40 [.int .i64 y8.1, .int .i64 y8.2.1], aMat 24 3 v5 vs7 y3] := hM.call hX
    refine wl hs (y_assign hs rfl) rfl ?_; intro a hs
    refine wpList_nil ?_
    refine x_nt ?_
    refine wp_seq ?_
    refine wp_region_lit ?_
    refine wl hs (y_move hs rfl) rfl ?_; intro a hs
    obtain ⟨y17, h18, hm⟩ := bindE hm
    refine wcall is_42 hs rfl rfl (impl_EigenvalueOf_any v14 y12 _ (hM.rdM 0 rfl) h18) ?_; rintro a _ w hs ⟨rfl, hX⟩
    have hM : Mem W w [aMat 24 3 v14 vs16 y12, aBlk g11 40 [.int .i64 y8.1, .int .i64 y8.2.1], aMat 24 3 v5 vs7 y3] := hM.call hX
    refine wl hs (y_move hs rfl) rfl ?_; intro a hs
    refine wl hs (y_extract hs rfl rfl) rfl ?_; intro a hs
    refine wl hs (y_extract hs rfl rfl) rfl ?_; intro a hs
    refine wmem hs (x_allocS sT_40 hM) rfl ?_; rintro a _ w hs ⟨g20, rfl, hM⟩
    have hM : Mem W w [aBlk g20 40 [.int .i64 0, .int .i64 0], aMat 24 3 v14 vs16 y12, aBlk g11 40 [.int .i64 y8.1, .int .i64 y8.2.1], aMat 24 3 v5 vs7 y3] := hM
    refine wstore hs rfl rfl (x_storeS (cs := [.int .i64 0, .int .i64 0]) (us := [.int .i64 y17.1, .int .i64 y17.2.1]) sT_40 ⟨rfl, rfl, trivial⟩ rfl rfl (hM.front 0 rfl)) ?_; intro w hM
    have hM : Mem W w [aBlk g20 40 [.int .i64 y17.1, .int .i64 y17.2.1], aMat 24 3 v14 vs16 y12, aBlk g11 40 [.int .i64 y8.1, .int .i64 y8.2.1], aMat 24 3 v5 vs7 y3] := hM
    refine wl hs (y_assign hs rfl) rfl ?_; intro a hs
    refine wpList_nil ?_
    refine x_nt ?_
    refine wp_seq ?_
    refine wp_seq ?_
    refine wp_region_lit ?_
    refine wl hs (y_loadS (cs := [.int .i64 y17.1, .int .i64 y17.2.1]) sT_40 hs rfl (hM.heapBlk 0 rfl) rfl) rfl ?_; intro a hs
    refine wl hs (y_loadS (cs := [.int .i64 y8.1, .int .i64 y8.2.1]) sT_40 hs rfl (hM.heapBlk 2 rfl) rfl) rfl ?_; intro a hs
    obtain ⟨y21, h22, hm⟩ := bindE hm
    refine wcall is_32 hs rfl rfl (laws_eqFrac_any y17.1 y17.2.1 y8.1 y8.2.1 _  h22) ?_; rintro a _ w hs ⟨rfl, hX⟩
    have hM : Mem W w [aBlk g20 40 [.int .i64 y17.1, .int .i64 y17.2.1], aMat 24 3 v14 vs16 y12, aBlk g11 40 [.int .i64 y8.1, .int .i64 y8.2.1], aMat 24 3 v5 vs7 y3] := hM.call hX
    refine wl hs (y_not hs rfl) rfl ?_; intro a hs
    refine wl hs (y_move hs rfl) rfl ?_; intro a hs
    obtain ⟨b23, hb24, hm⟩ := bindE hm
    refine wlguard (N := 41) (L' := [(35, .bool b23), (0, v_p0), (6, v14)]) (fun w => Mem W w [aBlk g20 40 [.int .i64 y17.1, .int .i64 y17.2.1], aMat 24 3 v14 vs16 y12, aBlk g11 40 [.int .i64 y8.1, .int .i64 y8.2.1], aMat 24 3 v5 vs7 y3]) 4 ?_ ?_
    · intro K; rcases Bool.eq_false_or_eq_true (!y21) with hg25 | hg25
      · have hm := condT hg25 hb24
        refine wls hs rfl hg25 rfl ?_; intro a hs
        refine wls hs rfl hg25 rfl ?_; intro a hs
        refine wls hs rfl hg25 rfl ?_; intro a hs
        have hm : some true = some b23 := hm
        cases Option.some.inj hm
        refine wl hs (y_pickT hs rfl hg25 rfl) rfl ?_; intro a hs
        exact K _ _ (hs.sub ⟨rfl, rfl, rfl, trivial⟩) hM
      · have hm := condF hg25 hb24
        refine wlg hs rfl hg25 (y_move hs rfl) rfl ?_; intro a hs
        refine wlg hs rfl hg25 (y_move hs rfl) rfl ?_; intro a hs
        refine wlg hs rfl hg25 (y_neqB hu_bool hs rfl rfl) rfl ?_; intro a hs
        have hm : some (y17.2.2 != y8.2.2) = some b23 := hm
        cases Option.some.inj hm
        refine wl hs (y_pickF hs rfl hg25 rfl) rfl ?_; intro a hs
        exact K _ _ (hs.sub ⟨rfl, rfl, rfl, trivial⟩) hM
    intro a w hs hM
    simp only [List.drop_succ_cons, List.drop_zero]
    refine wpList_nil ?_
    refine x_nt ?_
    refine x_cond hs rfl (fun hb => ?_) (fun hb => ?_)
    · replace hm := condT hb hm
      refine wp_seq ?_
      refine wp_region_lit ?_
      refine wl hs (y_assign hs rfl) rfl ?_; intro a hs
      refine wpList_nil ?_
      refine x_nt ?_
      refine wp_ret ?_
      refine x_rt ?_
      have hm : some false = some r := hm
      obtain rfl := Option.some.inj hm
      refine x_ret1 rfl hs rfl ⟨_, rfl, ?_⟩
      exact ⟨rfl, hM.none_⟩
    · replace hm := condF hb hm
      refine wp_skip ?_
      refine x_nt ?_
      refine wp_seq ?_
      refine wp_seq ?_
      refine wp_region_lit ?_
      refine wl hs (y_move hs rfl) rfl ?_; intro a hs
      refine wl hs (y_move hs rfl) rfl ?_; intro a hs
      obtain ⟨y26, h27, hm⟩ := bindE hm
      refine wcall is_16 hs rfl rfl (laws_toIntSS_any v_p0 p0 _ (RdM.below hr_p0 hM.bel) h27) ?_; rintro a v28 w hs ⟨vs30, hX⟩
      have hM : Mem W w [aMat 24 3 v28 vs30 y26, aBlk g20 40 [.int .i64 y17.1, .int .i64 y17.2.1], aMat 24 3 v14 vs16 y12, aBlk g11 40 [.int .i64 y8.1, .int .i64 y8.2.1], aMat 24 3 v5 vs7 y3] := hM.call hX
      obtain ⟨y31, h32, hm⟩ := bindE hm
      refine wcall is_19 hs rfl rfl (laws_eqIntSS_any v14 y12 v28 y26 _ (hM.rdM 2 rfl) (hM.rdM 0 rfl) h32) ?_; rintro a _ w hs ⟨rfl, hX⟩
      have hM : Mem W w [aMat 24 3 v28 vs30 y26, aBlk g20 40 [.int .i64 y17.1, .int .i64 y17.2.1], aMat 24 3 v14 vs16 y12, aBlk g11 40 [.int .i64 y8.1, .int .i64 y8.2.1], aMat 24 3 v5 vs7 y3] := hM.call hX
      refine wl hs (y_not hs rfl) rfl ?_; intro a hs
      refine wpList_nil ?_
      refine x_nt ?_
      refine x_cond hs rfl (fun hb => ?_) (fun hb => ?_)
      · replace hm := condT hb hm
        refine wp_seq ?_
        refine wp_region_lit ?_
        refine wl hs (y_assign hs rfl) rfl ?_; intro a hs
        refine wpList_nil ?_
        refine x_nt ?_
        refine wp_ret ?_
        refine x_rt ?_
        have hm : some false = some r := hm
        obtain rfl := Option.some.inj hm
        refine x_ret1 rfl hs rfl ⟨_, rfl, ?_⟩
        exact ⟨rfl, hM.none_⟩
      · replace hm := condF hb hm
        refine wp_skip ?_
        refine x_nt ?_
        refine wp_seq ?_
        refine wp_region_lit ?_
        refine wl hs (y_assign hs rfl) rfl ?_; intro a hs
        refine wpList_nil ?_
        refine x_nt ?_
        refine wp_ret ?_
        have hm : some true = some r := hm
        obtain rfl := Option.some.inj hm
        refine x_ret1 rfl hs rfl ⟨_, rfl, ?_⟩
        exact ⟨rfl, hM.none_⟩

end Go.Proofs.Ytjhaealoneennaa
