/- The code of this unit computes what its mirrors say. Written by program (wip/gen). -/
import Derived.Test.YtjhaealoneennaaFacts
import Derived.Test.YtjhaealoneennaaEvoM
import Derived.Test.YtjhaealoneennaaMatW
import Derived.Test.YtjhaealoneennaaWy4W
import Derived.Test.YtjhaealoneennaaEigW
import Derived.Test.YtjhaealoneennaaMncW
import Derived.Test.YtjhaealoneennaaMniW
namespace Go.Proofs.Ytjhaealoneennaa
open Go.RowKit
set_option linter.unusedVariables false

theorem spec_EigenvalueOf_any (v_p0 : Value) (p0 : List (List Int)) (W : World) (hr_p0 : RdM W v_p0 p0) {r : Int × Int × Bool} (hm : spec_EigenvalueOf_m p0 = some r) : Calls Try.prog 41 [v_p0].toArray W fun e w => ∃ v, e = .returned v ∧ v = .tuple #[.agg #[.int .i64 r.1, .int .i64 r.2.1], .bool r.2.2] ∧ Mem W w [] := by
  refine x_enter Try.func41 rfl Try.ntmps41 rfl ?_
  intro a hs
  have hM := Mem.start W
  unfold spec_EigenvalueOf_m at hm
  refine wp_seq ?_
  refine wp_region_lit ?_
  refine wmem hs (x_allocS sT_40 hM) rfl ?_; rintro a _ w hs ⟨g2, rfl, hM⟩
  have hM : Mem W w [aBlk g2 40 [.int .i64 0, .int .i64 0]] := hM
  refine wl hs (y_assign hs rfl) rfl ?_; intro a hs
  refine wpList_nil ?_
  refine x_nt ?_
  refine wp_seq ?_
  refine wp_seq ?_
  refine wp_region_lit ?_
  refine wl hs (y_move hs rfl) rfl ?_; intro a hs
  obtain ⟨y3, h4, hm⟩ := bindE hm
  refine wcall is_46 hs rfl rfl (spec_mxSquare_any v_p0 p0 _ (RdM.below hr_p0 hM.bel) h4) ?_; rintro a _ w hs ⟨rfl, hX⟩
  have hM : Mem W w [aBlk g2 40 [.int .i64 0, .int .i64 0]] := hM.call hX
  refine wl hs (y_not hs rfl) rfl ?_; intro a hs
  refine wl hs (y_move hs rfl) rfl ?_; intro a hs
  obtain ⟨b5, hb6, hm⟩ := bindE hm
  refine wlguard (N := 17) (L' := [(11, .bool b5), (0, v_p0), (2, .pointer (some ⟨g2, 0, none⟩))]) (fun w => Mem W w [aBlk g2 40 [.int .i64 0, .int .i64 0]]) 4 ?_ ?_
  · intro K; rcases Bool.eq_false_or_eq_true (!y3) with hg7 | hg7
    · have hm := condT hg7 hb6
      refine wls hs rfl hg7 rfl ?_; intro a hs
      refine wls hs rfl hg7 rfl ?_; intro a hs
      refine wls hs rfl hg7 rfl ?_; intro a hs
      have hm : some true = some b5 := hm
      cases Option.some.inj hm
      refine wl hs (y_pickT hs rfl hg7 rfl) rfl ?_; intro a hs
      exact K _ _ (hs.sub ⟨rfl, rfl, rfl, trivial⟩) hM
    · have hm := condF hg7 hb6
      refine wlg hs rfl hg7 (y_move hs rfl) rfl ?_; intro a hs
      obtain ⟨y8, h9, hm⟩ := bindE hm
      refine wcallg is_69 hs rfl hg7 rfl rfl (spec_mnConnected_any v_p0 p0 _ (RdM.below hr_p0 hM.bel) h9) ?_; rintro a _ w hs ⟨rfl, hX⟩
      have hM : Mem W w [aBlk g2 40 [.int .i64 0, .int .i64 0]] := hM.call hX
      refine wlg hs rfl hg7 (y_not hs rfl) rfl ?_; intro a hs
      have hm : some (!y8) = some b5 := hm
      cases Option.some.inj hm
      refine wl hs (y_pickF hs rfl hg7 rfl) rfl ?_; intro a hs
      exact K _ _ (hs.sub ⟨rfl, rfl, rfl, trivial⟩) hM
  intro a w hs hM
  simp only [List.drop_succ_cons, List.drop_zero]
  refine wpList_nil ?_
  refine x_nt ?_
  refine x_cond hs rfl (fun hb => ?_) (fun hb => ?_)
  · replace hm := condT hb hm
    refine wp_seq ?_
    refine wp_region_lit ?_
    refine wl hs (y_build (cs := [.int .i64 0, .int .i64 0]) sT_40 hs rfl trivial rfl) rfl ?_; intro a hs
    refine wstore hs rfl rfl (x_storeS (cs := [.int .i64 0, .int .i64 0]) (us := [.int .i64 0, .int .i64 0]) sT_40 ⟨rfl, rfl, trivial⟩ rfl rfl (hM.front 0 rfl)) ?_; intro w hM
    have hM : Mem W w [aBlk g2 40 [.int .i64 0, .int .i64 0]] := hM
    refine wl hs (y_assign hs rfl) rfl ?_; intro a hs
    refine wpList_nil ?_
    refine x_nt ?_
    refine wp_ret ?_
    refine x_rt ?_
    have hm : some (0, 0, false) = some r := hm
    obtain rfl := Option.some.inj hm
    refine x_retR (rs := [.cell 2 40, .tmp 3]) (vs := [.agg #[.int .i64 0, .int .i64 0], .bool false]) rfl hs ⟨⟨_, rfl, loadS (cs := [.int .i64 0, .int .i64 0]) sT_40 (hM.heapBlk 0 rfl) rfl⟩, rfl, trivial⟩ ⟨_, rfl, ?_⟩
    exact ⟨rfl, hM.none_⟩
  · replace hm := condF hb hm
    refine wp_skip ?_
    refine x_nt ?_
    refine wp_seq ?_
    refine wp_region_lit ?_
    refine wl hs (y_move hs rfl) rfl ?_; intro a hs
    obtain ⟨y10, h11, hm⟩ := bindE hm
    refine wcall is_33 hs rfl rfl (spec_LeastMean_any v_p0 p0 _ (RdM.below hr_p0 hM.bel) h11) ?_; rintro a _ w hs ⟨rfl, hX⟩
    have hM : Mem W w [aBlk g2 40 [.int .i64 0, .int .i64 0]] := hM.call hX
    refine wl hs (y_extract hs rfl rfl) rfl ?_; intro a hs
    refine wl hs (y_extract hs rfl rfl) rfl ?_; intro a hs
    refine wstore hs rfl rfl (x_storeS (cs := [.int .i64 0, .int .i64 0]) (us := [.int .i64 y10.1, .int .i64 y10.2.1]) sT_40 ⟨rfl, rfl, trivial⟩ rfl rfl (hM.front 0 rfl)) ?_; intro w hM
    have hM : Mem W w [aBlk g2 40 [.int .i64 y10.1, .int .i64 y10.2.1]] := hM
    refine wl hs (y_assign hs rfl) rfl ?_; intro a hs
    refine wpList_nil ?_
    refine x_nt ?_
    refine wp_ret ?_
    have hm : some (y10.1, y10.2.1, y10.2.2) = some r := hm
    obtain rfl := Option.some.inj hm
    refine x_retR (rs := [.cell 2 40, .tmp 3]) (vs := [.agg #[.int .i64 y10.1, .int .i64 y10.2.1], .bool y10.2.2]) rfl hs ⟨⟨_, rfl, loadS (cs := [.int .i64 y10.1, .int .i64 y10.2.1]) sT_40 (hM.heapBlk 0 rfl) rfl⟩, rfl, trivial⟩ ⟨_, rfl, ?_⟩
    exact ⟨rfl, hM.none_⟩

theorem impl_EigenvalueOf_any (v_p0 : Value) (p0 : List (List Int)) (W : World) (hr_p0 : RdM W v_p0 p0) {r : Int × Int × Bool} (hm : impl_EigenvalueOf_m p0 = some r) : Calls Try.prog 42 [v_p0].toArray W fun e w => ∃ v, e = .returned v ∧ v = .tuple #[.agg #[.int .i64 r.1, .int .i64 r.2.1], .bool r.2.2] ∧ Mem W w [] := by
  refine x_enter Try.func42 rfl Try.ntmps42 rfl ?_
  intro a hs
  have hM := Mem.start W
  unfold impl_EigenvalueOf_m at hm
  refine wp_seq ?_
  refine wp_region_lit ?_
  refine wmem hs (x_allocS sT_40 hM) rfl ?_; rintro a _ w hs ⟨g2, rfl, hM⟩
  have hM : Mem W w [aBlk g2 40 [.int .i64 0, .int .i64 0]] := hM
  refine wl hs (y_assign hs rfl) rfl ?_; intro a hs
  refine wpList_nil ?_
  refine x_nt ?_
  refine wp_seq ?_
  refine wp_seq ?_
  refine wp_region_lit ?_
  refine wl hs (y_move hs rfl) rfl ?_; intro a hs
  obtain ⟨y3, h4, hm⟩ := bindE hm
  refine wcall is_50 hs rfl rfl (impl_isSquare_any v_p0 p0 _ (RdM.below hr_p0 hM.bel) h4) ?_; rintro a _ w hs ⟨rfl, hX⟩
  have hM : Mem W w [aBlk g2 40 [.int .i64 0, .int .i64 0]] := hM.call hX
  refine wl hs (y_not hs rfl) rfl ?_; intro a hs
  refine wl hs (y_move hs rfl) rfl ?_; intro a hs
  obtain ⟨b5, hb6, hm⟩ := bindE hm
  refine wlguard (N := 17) (L' := [(11, .bool b5), (0, v_p0), (2, .pointer (some ⟨g2, 0, none⟩))]) (fun w => Mem W w [aBlk g2 40 [.int .i64 0, .int .i64 0]]) 4 ?_ ?_
  · intro K; rcases Bool.eq_false_or_eq_true (!y3) with hg7 | hg7
    · have hm := condT hg7 hb6
      refine wls hs rfl hg7 rfl ?_; intro a hs
      refine wls hs rfl hg7 rfl ?_; intro a hs
      refine wls hs rfl hg7 rfl ?_; intro a hs
      have hm : some true = some b5 := hm
      cases Option.some.inj hm
      refine wl hs (y_pickT hs rfl hg7 rfl) rfl ?_; intro a hs
      exact K _ _ (hs.sub ⟨rfl, rfl, rfl, trivial⟩) hM
    · have hm := condF hg7 hb6
      refine wlg hs rfl hg7 (y_move hs rfl) rfl ?_; intro a hs
      obtain ⟨y8, h9, hm⟩ := bindE hm
      refine wcallg is_70 hs rfl hg7 rfl rfl (impl_isStrong_any v_p0 p0 _ (RdM.below hr_p0 hM.bel) h9) ?_; rintro a _ w hs ⟨rfl, hX⟩
      have hM : Mem W w [aBlk g2 40 [.int .i64 0, .int .i64 0]] := hM.call hX
      refine wlg hs rfl hg7 (y_not hs rfl) rfl ?_; intro a hs
      have hm : some (!y8) = some b5 := hm
      cases Option.some.inj hm
      refine wl hs (y_pickF hs rfl hg7 rfl) rfl ?_; intro a hs
      exact K _ _ (hs.sub ⟨rfl, rfl, rfl, trivial⟩) hM
  intro a w hs hM
  simp only [List.drop_succ_cons, List.drop_zero]
  refine wpList_nil ?_
  refine x_nt ?_
  refine x_cond hs rfl (fun hb => ?_) (fun hb => ?_)
  · replace hm := condT hb hm
    refine wp_seq ?_
    refine wp_region_lit ?_
    refine wl hs (y_build (cs := [.int .i64 0, .int .i64 0]) sT_40 hs rfl trivial rfl) rfl ?_; intro a hs
    refine wstore hs rfl rfl (x_storeS (cs := [.int .i64 0, .int .i64 0]) (us := [.int .i64 0, .int .i64 0]) sT_40 ⟨rfl, rfl, trivial⟩ rfl rfl (hM.front 0 rfl)) ?_; intro w hM
    have hM : Mem W w [aBlk g2 40 [.int .i64 0, .int .i64 0]] := hM
    refine wl hs (y_assign hs rfl) rfl ?_; intro a hs
    refine wpList_nil ?_
    refine x_nt ?_
    refine wp_ret ?_
    refine x_rt ?_
    have hm : some (0, 0, false) = some r := hm
    obtain rfl := Option.some.inj hm
    refine x_retR (rs := [.cell 2 40, .tmp 3]) (vs := [.agg #[.int .i64 0, .int .i64 0], .bool false]) rfl hs ⟨⟨_, rfl, loadS (cs := [.int .i64 0, .int .i64 0]) sT_40 (hM.heapBlk 0 rfl) rfl⟩, rfl, trivial⟩ ⟨_, rfl, ?_⟩
    exact ⟨rfl, hM.none_⟩
  · replace hm := condF hb hm
    refine wp_skip ?_
    refine x_nt ?_
    refine wp_seq ?_
    refine wp_region_lit ?_
    refine wl hs (y_move hs rfl) rfl ?_; intro a hs
    obtain ⟨y10, h11, hm⟩ := bindE hm
    refine wcall is_34 hs rfl rfl (impl_LeastMean_any v_p0 p0 _ (RdM.below hr_p0 hM.bel) h11) ?_; rintro a _ w hs ⟨rfl, hX⟩
    have hM : Mem W w [aBlk g2 40 [.int .i64 0, .int .i64 0]] := hM.call hX
    refine wl hs (y_extract hs rfl rfl) rfl ?_; intro a hs
    refine wl hs (y_extract hs rfl rfl) rfl ?_; intro a hs
    refine wstore hs rfl rfl (x_storeS (cs := [.int .i64 0, .int .i64 0]) (us := [.int .i64 y10.1, .int .i64 y10.2.1]) sT_40 ⟨rfl, rfl, trivial⟩ rfl rfl (hM.front 0 rfl)) ?_; intro w hM
    have hM : Mem W w [aBlk g2 40 [.int .i64 y10.1, .int .i64 y10.2.1]] := hM
    refine wl hs (y_assign hs rfl) rfl ?_; intro a hs
    refine wpList_nil ?_
    refine x_nt ?_
    refine wp_ret ?_
    have hm : some (y10.1, y10.2.1, y10.2.2) = some r := hm
    obtain rfl := Option.some.inj hm
    refine x_retR (rs := [.cell 2 40, .tmp 3]) (vs := [.agg #[.int .i64 y10.1, .int .i64 y10.2.1], .bool y10.2.2]) rfl hs ⟨⟨_, rfl, loadS (cs := [.int .i64 y10.1, .int .i64 y10.2.1]) sT_40 (hM.heapBlk 0 rfl) rfl⟩, rfl, trivial⟩ ⟨_, rfl, ?_⟩
    exact ⟨rfl, hM.none_⟩

set_option maxHeartbeats 4000000 in
theorem spec_EigenvectorOf_any (v_p0 : Value) (p0 : List (List Int)) (W : World) (hr_p0 : RdM W v_p0 p0) {r : (List Int) × Bool} (hm : spec_EigenvectorOf_m p0 = some r) : Calls Try.prog 43 [v_p0].toArray W fun e w => ∃ v, e = .returned v ∧ ∃ v0, v = .tuple #[v0, .bool r.2] ∧ Mem W w [aInts 3 v0 r.1] := by
  refine x_enter Try.func43 rfl Try.ntmps43 rfl ?_
  intro a hs
  have hM := Mem.start W
  unfold spec_EigenvectorOf_m at hm
  refine wp_seq ?_
  refine wp_region_lit ?_
  refine wl hs (y_assign hs rfl) rfl ?_; intro a hs
  refine wl hs (y_assign hs rfl) rfl ?_; intro a hs
  refine wpList_nil ?_
  refine x_nt ?_
  refine wp_seq ?_
  refine wp_seq ?_
  refine wp_region_lit ?_
  refine wl hs (y_move hs rfl) rfl ?_; intro a hs
  obtain ⟨y1, h2, hm⟩ := bindE hm
  refine wcall is_46 hs rfl rfl (spec_mxSquare_any v_p0 p0 _ (RdM.below hr_p0 hM.bel) h2) ?_; rintro a _ w hs ⟨rfl, hX⟩
  have hM : Mem W w [] := hM.call hX
  refine wl hs (y_not hs rfl) rfl ?_; intro a hs
  refine wl hs (y_move hs rfl) rfl ?_; intro a hs
  obtain ⟨b3, hb4, hm⟩ := bindE hm
  refine wlguard (N := 54) (L' := [(14, .bool b3), (0, v_p0)]) (fun w => Mem W w []) 4 ?_ ?_
  · intro K; rcases Bool.eq_false_or_eq_true (!y1) with hg5 | hg5
    · have hm := condT hg5 hb4
      refine wls hs rfl hg5 rfl ?_; intro a hs
      refine wls hs rfl hg5 rfl ?_; intro a hs
      refine wls hs rfl hg5 rfl ?_; intro a hs
      have hm : some true = some b3 := hm
      cases Option.some.inj hm
      refine wl hs (y_pickT hs rfl hg5 rfl) rfl ?_; intro a hs
      exact K _ _ (hs.sub ⟨rfl, rfl, trivial⟩) hM
    · have hm := condF hg5 hb4
      refine wlg hs rfl hg5 (y_move hs rfl) rfl ?_; intro a hs
      obtain ⟨y6, h7, hm⟩ := bindE hm
      refine wcallg is_69 hs rfl hg5 rfl rfl (spec_mnConnected_any v_p0 p0 _ (RdM.below hr_p0 hM.bel) h7) ?_; rintro a _ w hs ⟨rfl, hX⟩
      have hM : Mem W w [] := hM.call hX
      refine wlg hs rfl hg5 (y_not hs rfl) rfl ?_; intro a hs
      have hm : some (!y6) = some b3 := hm
      cases Option.some.inj hm
      refine wl hs (y_pickF hs rfl hg5 rfl) rfl ?_; intro a hs
      exact K _ _ (hs.sub ⟨rfl, rfl, trivial⟩) hM
  intro a w hs hM
  simp only [List.drop_succ_cons, List.drop_zero]
  refine wl hs (y_move hs rfl) rfl ?_; intro a hs
  obtain ⟨b8, hb9, hm⟩ := bindE hm
  refine wlguard (N := 54) (L' := [(20, .bool b8), (0, v_p0)]) (fun w => Mem W w []) 5 ?_ ?_
  · intro K; rcases Bool.eq_false_or_eq_true b3 with hg10 | hg10
    · have hm := condT hg10 hb9
      refine wls hs rfl hg10 rfl ?_; intro a hs
      refine wls hs rfl hg10 rfl ?_; intro a hs
      refine wls hs rfl hg10 rfl ?_; intro a hs
      refine wls hs rfl hg10 rfl ?_; intro a hs
      have hm : some true = some b8 := hm
      cases Option.some.inj hm
      refine wl hs (y_pickT hs rfl hg10 rfl) rfl ?_; intro a hs
      exact K _ _ (hs.sub ⟨rfl, rfl, trivial⟩) hM
    · have hm := condF hg10 hb9
      refine wlg hs rfl hg10 (y_move hs rfl) rfl ?_; intro a hs
      obtain ⟨y11, h12, hm⟩ := bindE hm
      refine wcallg is_77 hs rfl hg10 rfl rfl (spec_mnLeast_any v_p0 p0 _ (RdM.below hr_p0 hM.bel) h12) ?_; rintro a v13 w hs hX
      have hM : Mem W w [aInts 3 v13 y11] := hM.call hX
      refine wlg hs rfl hg10 (y_len hu_I hs rfl (hM.rdI 0 rfl)) rfl ?_; intro a hs
      refine wlg hs rfl hg10 (y_eql hs rfl rfl) rfl ?_; intro a hs
      have hm : some ((y11.length : Int) == 0) = some b8 := hm
      cases Option.some.inj hm
      refine wl hs (y_pickF hs rfl hg10 rfl) rfl ?_; intro a hs
      exact K _ _ (hs.sub ⟨rfl, rfl, trivial⟩) hM.none_
  intro a w hs hM
  simp only [List.drop_succ_cons, List.drop_zero]
  refine wpList_nil ?_
  refine x_nt ?_
  refine x_cond hs rfl (fun hb => ?_) (fun hb => ?_)
  · replace hm := condT hb hm
    refine wp_seq ?_
    refine wp_region_lit ?_
    refine wl hs (y_assign hs rfl) rfl ?_; intro a hs
    refine wl hs (y_assign hs rfl) rfl ?_; intro a hs
    refine wpList_nil ?_
    refine x_nt ?_
    refine wp_ret ?_
    refine x_rt ?_
    have hm : some ([], false) = some r := hm
    obtain rfl := Option.some.inj hm
    refine x_ret2 rfl hs rfl rfl ⟨_, rfl, ?_⟩
    have hM := hM.nilI 3
    exact ⟨_, rfl, hM⟩
  · replace hm := condF hb hm
    refine wp_skip ?_
    refine x_nt ?_
    refine wp_seq ?_
    refine wp_region_lit ?_
    refine wl hs (y_move hs rfl) rfl ?_; intro a hs
    refine wl hs (y_move hs rfl) rfl ?_; intro a hs
    obtain ⟨y16, h17, hm⟩ := bindE hm
    refine wcall is_77 hs rfl rfl (spec_mnLeast_any v_p0 p0 _ (RdM.below hr_p0 hM.bel) h17) ?_; rintro a v18 w hs hX
    have hM : Mem W w [aInts 3 v18 y16] := hM.call hX
    obtain ⟨y20, h21, hm⟩ := bindE hm
    refine wcall is_73 hs rfl rfl (spec_mnMean_any v_p0 p0 v18 y16 _ (RdM.below hr_p0 hM.bel) (hM.rdI 0 rfl) h21) ?_; rintro a _ w hs ⟨rfl, hX⟩
    have hM : Mem W w [aInts 3 v18 y16] := hM.call hX
    refine wmem hs (x_allocS sT_40 hM) rfl ?_; rintro a _ w hs ⟨g23, rfl, hM⟩
    have hM : Mem W w [aBlk g23 40 [.int .i64 0, .int .i64 0], aInts 3 v18 y16] := hM
    refine wstore hs rfl rfl (x_storeS (cs := [.int .i64 0, .int .i64 0]) (us := [.int .i64 y20.1, .int .i64 y20.2]) sT_40 ⟨rfl, rfl, trivial⟩ rfl rfl (hM.front 0 rfl)) ?_; intro w hM
    have hM : Mem W w [aBlk g23 40 [.int .i64 y20.1, .int .i64 y20.2], aInts 3 v18 y16] := hM
    refine wpList_nil ?_
    refine x_nt ?_
    refine wp_seq ?_
    refine wp_seq ?_
    refine wp_region_lit ?_
    refine wl hs (y_fieldAddr sT_40 hs rfl rfl) rfl ?_; intro a hs
    refine wl hs (y_load sc_int hs rfl (hM.cellBlk 0 rfl 1 rfl)) rfl ?_; intro a hs
    refine wl hs (y_neq hs rfl rfl) rfl ?_; intro a hs
    refine wpList_nil ?_
    refine x_nt ?_
    refine x_cond hs rfl (fun hb => ?_) (fun hb => ?_)
    · replace hm := condT hb hm
      refine wp_seq ?_
      refine wp_region_lit ?_
      refine wl hs (y_assign hs rfl) rfl ?_; intro a hs
      refine wl hs (y_assign hs rfl) rfl ?_; intro a hs
      refine wpList_nil ?_
      refine x_nt ?_
      refine wp_ret ?_
      refine x_rt ?_
      have hm : some ([], false) = some r := hm
      obtain rfl := Option.some.inj hm
      refine x_ret2 rfl hs rfl rfl ⟨_, rfl, ?_⟩
      have hM := hM.nilI 3
      exact ⟨_, rfl, (hM.keep_ 1)⟩
    · replace hm := condF hb hm
      refine wp_skip ?_
      refine x_nt ?_
      refine wp_seq ?_
      refine wp_region_lit ?_
      refine wl hs (y_assign hs rfl) rfl ?_; intro a hs
      have hM := hM.nilI 3
      refine wpList_nil ?_
      refine x_nt ?_
      refine wp_seq ?_
      refine wp_seq ?_
      refine wp_region_lit ?_
      refine wl hs (y_move hs rfl) rfl ?_; intro a hs
      refine wl hs (y_len hu_M hs rfl (RdM.below hr_p0 hM.bel)) rfl ?_; intro a hs
      refine wl hs (y_move hs rfl) rfl ?_; intro a hs
      refine wpList_nil ?_
      refine x_nt ?_
      obtain ⟨s31, hm, hk32⟩ := bindE hm
      refine x_mid (fun a w => ∃ (v29 : Value), ∃ (l30 : List Int), l30 = s31 ∧ Fr a 54 [(0, v_p0), (4, .pointer (some ⟨g23, 0, none⟩)), (5, v29)] ∧ Mem W w [aInts 3 v29 l30, aBlk g23 40 [.int .i64 y20.1, .int .i64 y20.2]]) ?_ ?_
      · refine wp_block ?_
        refine x_loop (fun k a w => ∃ (q33 : List (List Int)) (j26 : Nat) (v27 : Value) (l28 : List Int) , k = q33.length ∧ Fr a 54 [(0, v_p0), (4, .pointer (some ⟨g23, 0, none⟩)), (5, v27), (29, .int .i64 (p0.length : Int)), (30, .int .i64 (j26 : Int))] ∧ Mem W w [aInts 3 v27 l28, aBlk g23 40 [.int .i64 y20.1, .int .i64 y20.2]] ∧ spec_EigenvectorOf_l1 p0 q33 j26 l28 = some s31 ∧ List.drop j26 p0 = q33) _ ⟨p0, 0, (.slice none 0 0), [], rfl, hs.sub ⟨rfl, rfl, rfl, rfl, rfl, trivial⟩, (hM.keep_ 2), hm, rfl⟩ ?_
        rintro k a w ⟨q33, j26, v27, l28, rfl, hs, hM, hm, hj⟩
        rcases q33 with _ | ⟨x34, q33⟩
        · rewrite [spec_EigenvectorOf_l1] at hm
          refine wp_seq ?_
          refine wp_region_lit ?_
          refine wl hs (y_lss hs rfl rfl) rfl ?_; intro a hs
          refine wpList_nil ?_
          refine x_nt ?_
          refine wp_seq ?_
          refine x_condF hs rfl (drop_f hj) ?_
          refine wp_exit ?_
          refine x_et ?_
          refine x_et ?_
          refine x_eb ?_
          have hm : some l28 = some s31 := hm
          exact ⟨v27, l28, Option.some.inj hm, hs.sub ⟨rfl, rfl, rfl, trivial⟩, hM⟩
        · rewrite [spec_EigenvectorOf_l1] at hm
          have hx35 := drop_idx hj
          have hjs := ck_succ hj (RdS.len (RdM.below hr_p0 hM.bel))
          refine wp_seq ?_
          refine wp_region_lit ?_
          refine wl hs (y_lss hs rfl rfl) rfl ?_; intro a hs
          refine wpList_nil ?_
          refine x_nt ?_
          refine wp_seq ?_
          refine x_condT hs rfl (drop_t hj) ?_
          refine wp_skip ?_
          refine x_nt ?_
          refine wp_seq ?_
          refine wp_block ?_
          refine wp_seq ?_
          refine wp_region_lit ?_
          refine wl hs (y_move hs rfl) rfl ?_; intro a hs
          refine wl hs (y_assign hs rfl) rfl ?_; intro a hs
          refine wpList_nil ?_
          refine x_nt ?_
          refine wp_seq ?_
          refine wp_region_lit ?_
          refine wl hs (y_move hs rfl) rfl ?_; intro a hs
          refine wl hs (y_move hs rfl) rfl ?_; intro a hs
          obtain ⟨y36, h37, hm⟩ := bindE hm
          refine wcall is_85 hs rfl rfl (spec_mnCritical_any v_p0 p0 _ (RdM.below hr_p0 hM.bel) h37) ?_; rintro a v38 w hs hX
          have hM : Mem W w [aInts 3 v38 y36, aInts 3 v27 l28, aBlk g23 40 [.int .i64 y20.1, .int .i64 y20.2]] := hM.call hX
          obtain ⟨x40, hx41, hm⟩ := bindE hm
          have he42 := RdI.at_ (hM.rdI 0 rfl) hx41
          refine wl hs (y_index ht_I hs rfl rfl he42) rfl ?_; intro a hs
          refine wl hs (y_load sc_int hs rfl he42.cell) rfl ?_; intro a hs
          refine wl hs (y_eql hs rfl rfl) rfl ?_; intro a hs
          refine wpList_nil ?_
          refine x_nt ?_
          refine x_cond hs rfl (fun hb => ?_) (fun hb => ?_)
          · replace hm := condT hb hm
            refine wp_region_lit ?_
            refine wl hs (y_move hs rfl) rfl ?_; intro a hs
            obtain ⟨l43, h44, hm⟩ := bindE hm
            refine wappI hu_I he_int hs (hM.front 1 rfl) rfl rfl h44 rfl rfl rfl ?_; intro a v45 w u46 hs hM
            have hM : Mem W w [aInts 3 v45 l43, aInts 3 v38 y36, aBlk g23 40 [.int .i64 y20.1, .int .i64 y20.2]] := hM
            refine wl hs (y_assign hs rfl) rfl ?_; intro a hs
            refine wpList_nil ?_
            refine x_nb ?_
            refine x_nt ?_
            refine wp_region_lit ?_
            refine wl hs (y_add hs rfl rfl hjs) rfl ?_; intro a hs
            refine wl hs (y_move hs rfl) rfl ?_; intro a hs
            refine wpList_nil ?_
            exact ⟨_, by simp, q33, j26 + 1, v45, l43, rfl, hs.sub ⟨rfl, rfl, rfl, rfl, rfl, trivial⟩, (hM.front 1 rfl).drop, hm, drop_next hj⟩
          · replace hm := condF hb hm
            refine wp_region_lit ?_
            refine wl hs (y_move hs rfl) rfl ?_; intro a hs
            obtain ⟨l47, h48, hm⟩ := bindE hm
            refine wappI hu_I he_int hs (hM.front 1 rfl) rfl rfl h48 rfl rfl rfl ?_; intro a v49 w u50 hs hM
            have hM : Mem W w [aInts 3 v49 l47, aInts 3 v38 y36, aBlk g23 40 [.int .i64 y20.1, .int .i64 y20.2]] := hM
            refine wl hs (y_assign hs rfl) rfl ?_; intro a hs
            refine wpList_nil ?_
            refine x_nb ?_
            refine x_nt ?_
            refine wp_region_lit ?_
            refine wl hs (y_add hs rfl rfl hjs) rfl ?_; intro a hs
            refine wl hs (y_move hs rfl) rfl ?_; intro a hs
            refine wpList_nil ?_
            exact ⟨_, by simp, q33, j26 + 1, v49, l47, rfl, hs.sub ⟨rfl, rfl, rfl, rfl, rfl, trivial⟩, (hM.front 1 rfl).drop, hm, drop_next hj⟩
      rintro a w ⟨v29, l30, rfl, hs, hM⟩
      have hm := hk32
      refine x_nt ?_
      refine wp_seq ?_
      refine wp_region_lit ?_
      refine wl hs (y_move hs rfl) rfl ?_; intro a hs
      refine wl hs (y_fieldAddr sT_40 hs rfl rfl) rfl ?_; intro a hs
      refine wl hs (y_load sc_int hs rfl (hM.cellBlk 1 rfl 0 rfl)) rfl ?_; intro a hs
      refine wl hs (y_move hs rfl) rfl ?_; intro a hs
      obtain ⟨y51, h52, hm⟩ := bindE hm
      refine wcall is_82 hs rfl rfl (spec_mnWays_any v_p0 p0 y20.1 v29 l30 _ (RdM.below hr_p0 hM.bel) (hM.rdI 0 rfl) h52) ?_; rintro a v53 w hs hX
      have hM : Mem W w [aInts 3 v53 y51, aInts 3 v29 l30, aBlk g23 40 [.int .i64 y20.1, .int .i64 y20.2]] := hM.call hX
      obtain ⟨y55, h56, hm⟩ := bindE hm
      refine wcall is_81 hs rfl rfl (spec_mnIf_any v53 y51 _ (hM.rdI 0 rfl) h56) ?_; rintro a _ w hs ⟨rfl, hX⟩
      have hM : Mem W w [aInts 3 v53 y51, aInts 3 v29 l30, aBlk g23 40 [.int .i64 y20.1, .int .i64 y20.2]] := hM.call hX
      have hM : Mem W w [aInts 3 (cond y55.1 v53 (.slice none 0 0)) (cond y55.1 y51 []), aInts 3 v29 l30, aBlk g23 40 [.int .i64 y20.1, .int .i64 y20.2]] := (hM).condI y55.1
      refine wl hs (y_extract hs rfl rfl) rfl ?_; intro a hs
      refine wl hs (y_extract hs rfl rfl) rfl ?_; intro a hs
      refine wl hs (y_assign hs rfl) rfl ?_; intro a hs
      refine wl hs (y_assign hs rfl) rfl ?_; intro a hs
      refine wpList_nil ?_
      refine x_nt ?_
      refine wp_ret ?_
      have hm : some ((cond y55.1 y51 []), y55.2) = some r := hm
      obtain rfl := Option.some.inj hm
      refine x_ret2 rfl hs rfl rfl ⟨_, rfl, ?_⟩
      exact ⟨_, rfl, (hM.keep_ 1)⟩

set_option maxHeartbeats 4000000 in
theorem impl_EigenvectorOf_any (v_p0 : Value) (p0 : List (List Int)) (W : World) (hr_p0 : RdM W v_p0 p0) {r : (List Int) × Bool} (hm : impl_EigenvectorOf_m p0 = some r) : Calls Try.prog 44 [v_p0].toArray W fun e w => ∃ v, e = .returned v ∧ ∃ v0, v = .tuple #[v0, .bool r.2] ∧ Mem W w [aInts 3 v0 r.1] := by
  refine x_enter Try.func44 rfl Try.ntmps44 rfl ?_
  intro a hs
  have hM := Mem.start W
  unfold impl_EigenvectorOf_m at hm
  refine wp_seq ?_
  refine wp_region_lit ?_
  refine wl hs (y_assign hs rfl) rfl ?_; intro a hs
  refine wl hs (y_assign hs rfl) rfl ?_; intro a hs
  refine wpList_nil ?_
  refine x_nt ?_
  refine wp_seq ?_
  refine wp_seq ?_
  refine wp_region_lit ?_
  refine wl hs (y_move hs rfl) rfl ?_; intro a hs
  obtain ⟨y1, h2, hm⟩ := bindE hm
  refine wcall is_50 hs rfl rfl (impl_isSquare_any v_p0 p0 _ (RdM.below hr_p0 hM.bel) h2) ?_; rintro a _ w hs ⟨rfl, hX⟩
  have hM : Mem W w [] := hM.call hX
  refine wl hs (y_not hs rfl) rfl ?_; intro a hs
  refine wl hs (y_move hs rfl) rfl ?_; intro a hs
  obtain ⟨b3, hb4, hm⟩ := bindE hm
  refine wlguard (N := 51) (L' := [(17, .bool b3), (0, v_p0)]) (fun w => Mem W w []) 4 ?_ ?_
  · intro K; rcases Bool.eq_false_or_eq_true (!y1) with hg5 | hg5
    · have hm := condT hg5 hb4
      refine wls hs rfl hg5 rfl ?_; intro a hs
      refine wls hs rfl hg5 rfl ?_; intro a hs
      refine wls hs rfl hg5 rfl ?_; intro a hs
      have hm : some true = some b3 := hm
      cases Option.some.inj hm
      refine wl hs (y_pickT hs rfl hg5 rfl) rfl ?_; intro a hs
      exact K _ _ (hs.sub ⟨rfl, rfl, trivial⟩) hM
    · have hm := condF hg5 hb4
      refine wlg hs rfl hg5 (y_move hs rfl) rfl ?_; intro a hs
      obtain ⟨y6, h7, hm⟩ := bindE hm
      refine wcallg is_70 hs rfl hg5 rfl rfl (impl_isStrong_any v_p0 p0 _ (RdM.below hr_p0 hM.bel) h7) ?_; rintro a _ w hs ⟨rfl, hX⟩
      have hM : Mem W w [] := hM.call hX
      refine wlg hs rfl hg5 (y_not hs rfl) rfl ?_; intro a hs
      have hm : some (!y6) = some b3 := hm
      cases Option.some.inj hm
      refine wl hs (y_pickF hs rfl hg5 rfl) rfl ?_; intro a hs
      exact K _ _ (hs.sub ⟨rfl, rfl, trivial⟩) hM
  intro a w hs hM
  simp only [List.drop_succ_cons, List.drop_zero]
  refine wpList_nil ?_
  refine x_nt ?_
  refine x_cond hs rfl (fun hb => ?_) (fun hb => ?_)
  · replace hm := condT hb hm
    refine wp_seq ?_
    refine wp_region_lit ?_
    refine wl hs (y_assign hs rfl) rfl ?_; intro a hs
    refine wl hs (y_assign hs rfl) rfl ?_; intro a hs
    refine wpList_nil ?_
    refine x_nt ?_
    refine wp_ret ?_
    refine x_rt ?_
    have hm : some ([], false) = some r := hm
    obtain rfl := Option.some.inj hm
    refine x_ret2 rfl hs rfl rfl ⟨_, rfl, ?_⟩
    have hM := hM.nilI 3
    exact ⟨_, rfl, hM⟩
  · replace hm := condF hb hm
    refine wp_skip ?_
    refine x_nt ?_
    refine wp_seq ?_
    refine wp_region_lit ?_
    refine wl hs (y_move hs rfl) rfl ?_; intro a hs
    obtain ⟨y9, h10, hm⟩ := bindE hm
    refine wcall is_78 hs rfl rfl (impl_leastMean_any v_p0 p0 _ (RdM.below hr_p0 hM.bel) h10) ?_; rintro a _ w hs ⟨v13, v15, rfl, hX⟩
    have hM : Mem W w [aInts 3 v13 y9.2.2.1, aBools 4 v15 y9.2.2.2.1] := hM.call hX
    refine wl hs (y_move hs rfl) rfl ?_; intro a hs
    refine wl hs (y_extract hs rfl rfl) rfl ?_; intro a hs
    refine wl hs (y_extract hs rfl rfl) rfl ?_; intro a hs
    refine wl hs (y_extract hs rfl rfl) rfl ?_; intro a hs
    refine wl hs (y_extract hs rfl rfl) rfl ?_; intro a hs
    refine wmem hs (x_allocS sT_40 hM) rfl ?_; rintro a _ w hs ⟨g17, rfl, hM⟩
    have hM : Mem W w [aBlk g17 40 [.int .i64 0, .int .i64 0], aInts 3 v13 y9.2.2.1, aBools 4 v15 y9.2.2.2.1] := hM
    refine wstore hs rfl rfl (x_storeS (cs := [.int .i64 0, .int .i64 0]) (us := [.int .i64 y9.1, .int .i64 y9.2.1]) sT_40 ⟨rfl, rfl, trivial⟩ rfl rfl (hM.front 0 rfl)) ?_; intro w hM
    have hM : Mem W w [aBlk g17 40 [.int .i64 y9.1, .int .i64 y9.2.1], aInts 3 v13 y9.2.2.1, aBools 4 v15 y9.2.2.2.1] := hM
    refine wl hs (y_assign hs rfl) rfl ?_; intro a hs
    refine wl hs (y_assign hs rfl) rfl ?_; intro a hs
    refine wl hs (y_assign hs rfl) rfl ?_; intro a hs
    refine wpList_nil ?_
    refine x_nt ?_
    refine wp_seq ?_
    refine wp_seq ?_
    refine wp_region_lit ?_
    refine wl hs (y_move hs rfl) rfl ?_; intro a hs
    refine wl hs (y_not hs rfl) rfl ?_; intro a hs
    refine wl hs (y_move hs rfl) rfl ?_; intro a hs
    obtain ⟨b18, hb19, hm⟩ := bindE hm
    refine wlguard (N := 51) (L' := [(31, .bool b18), (0, v_p0), (4, .pointer (some ⟨g17, 0, none⟩)), (6, v15)]) (fun w => Mem W w [aBlk g17 40 [.int .i64 y9.1, .int .i64 y9.2.1], aInts 3 v13 y9.2.2.1, aBools 4 v15 y9.2.2.2.1]) 4 ?_ ?_
    · intro K; rcases Bool.eq_false_or_eq_true (!y9.2.2.2.2) with hg20 | hg20
      · have hm := condT hg20 hb19
        refine wls hs rfl hg20 rfl ?_; intro a hs
        refine wls hs rfl hg20 rfl ?_; intro a hs
        refine wls hs rfl hg20 rfl ?_; intro a hs
        have hm : some true = some b18 := hm
        cases Option.some.inj hm
        refine wl hs (y_pickT hs rfl hg20 rfl) rfl ?_; intro a hs
        exact K _ _ (hs.sub ⟨rfl, rfl, rfl, rfl, trivial⟩) hM
      · have hm := condF hg20 hb19
        refine wlg hs rfl hg20 (y_fieldAddr sT_40 hs rfl rfl) rfl ?_; intro a hs
        refine wlg hs rfl hg20 (y_load sc_int hs rfl (hM.cellBlk 0 rfl 1 rfl)) rfl ?_; intro a hs
        refine wlg hs rfl hg20 (y_neq hs rfl rfl) rfl ?_; intro a hs
        have hm : some (y9.2.1 != 1) = some b18 := hm
        cases Option.some.inj hm
        refine wl hs (y_pickF hs rfl hg20 rfl) rfl ?_; intro a hs
        exact K _ _ (hs.sub ⟨rfl, rfl, rfl, rfl, trivial⟩) hM
    intro a w hs hM
    simp only [List.drop_succ_cons, List.drop_zero]
    refine wpList_nil ?_
    refine x_nt ?_
    refine x_cond hs rfl (fun hb => ?_) (fun hb => ?_)
    · replace hm := condT hb hm
      refine wp_seq ?_
      refine wp_region_lit ?_
      refine wl hs (y_assign hs rfl) rfl ?_; intro a hs
      refine wl hs (y_assign hs rfl) rfl ?_; intro a hs
      refine wpList_nil ?_
      refine x_nt ?_
      refine wp_ret ?_
      refine x_rt ?_
      have hm : some ([], false) = some r := hm
      obtain rfl := Option.some.inj hm
      refine x_ret2 rfl hs rfl rfl ⟨_, rfl, ?_⟩
      have hM := hM.nilI 3
      exact ⟨_, rfl, (hM.keep_ 1)⟩
    · replace hm := condF hb hm
      refine wp_skip ?_
      refine x_nt ?_
      refine wp_seq ?_
      refine wp_region_lit ?_
      refine wl hs (y_move hs rfl) rfl ?_; intro a hs
      refine wl hs (y_fieldAddr sT_40 hs rfl rfl) rfl ?_; intro a hs
      refine wl hs (y_load sc_int hs rfl (hM.cellBlk 0 rfl 0 rfl)) rfl ?_; intro a hs
      obtain ⟨y22, h23, hm⟩ := bindE hm
      refine wcall is_84 hs rfl rfl (impl_shorter_any v_p0 p0 y9.1 _ (RdM.below hr_p0 hM.bel) h23) ?_; rintro a v24 w hs ⟨vs26, hX⟩
      have hM : Mem W w [aMat 24 3 v24 vs26 y22, aBlk g17 40 [.int .i64 y9.1, .int .i64 y9.2.1], aInts 3 v13 y9.2.2.1, aBools 4 v15 y9.2.2.2.1] := hM.call hX
      obtain ⟨y27, h28, hm⟩ := bindE hm
      refine wcall is_51 hs rfl rfl (impl_wayCosts_any v24 y22 _ (hM.rdM 0 rfl) h28) ?_; rintro a _ w hs ⟨v31, vs32, rfl, hX⟩
      have hM : Mem W w [aMat 24 3 v31 vs32 y27.1, aMat 24 3 v24 vs26 y22, aBlk g17 40 [.int .i64 y9.1, .int .i64 y9.2.1], aInts 3 v13 y9.2.2.1, aBools 4 v15 y9.2.2.2.1] := hM.call hX
      refine wl hs (y_move hs rfl) rfl ?_; intro a hs
      refine wl hs (y_extract hs rfl rfl) rfl ?_; intro a hs
      refine wl hs (y_extract hs rfl rfl) rfl ?_; intro a hs
      refine wl hs (y_assign hs rfl) rfl ?_; intro a hs
      refine wl hs (y_assign hs rfl) rfl ?_; intro a hs
      refine wpList_nil ?_
      refine x_nt ?_
      refine wp_seq ?_
      refine wp_region_lit ?_
      refine wl hs (y_move hs rfl) rfl ?_; intro a hs
      obtain ⟨y33, h34, hm⟩ := bindE hm
      refine wcall is_52 hs rfl rfl (impl_transposed_any v31 y27.1 _ (hM.rdM 0 rfl) h34) ?_; rintro a v35 w hs ⟨vs37, hX⟩
      have hM : Mem W w [aMat 24 3 v35 vs37 y33, aMat 24 3 v31 vs32 y27.1, aMat 24 3 v24 vs26 y22, aBlk g17 40 [.int .i64 y9.1, .int .i64 y9.2.1], aInts 3 v13 y9.2.2.1, aBools 4 v15 y9.2.2.2.1] := hM.call hX
      refine wl hs (y_move hs rfl) rfl ?_; intro a hs
      obtain ⟨y38, h39, hm⟩ := bindE hm
      refine wcall is_86 hs rfl rfl (impl_markedOf_any v15 y9.2.2.2.1 _ (hM.rdB 5 rfl) h39) ?_; rintro a v40 w hs hX
      have hM : Mem W w [aInts 3 v40 y38, aMat 24 3 v35 vs37 y33, aMat 24 3 v31 vs32 y27.1, aMat 24 3 v24 vs26 y22, aBlk g17 40 [.int .i64 y9.1, .int .i64 y9.2.1], aInts 3 v13 y9.2.2.1, aBools 4 v15 y9.2.2.2.1] := hM.call hX
      obtain ⟨x42, hx43, hm⟩ := bindE hm
      have he44 := RdI.at_ (hM.rdI 0 rfl) hx43
      refine wl hs (y_index ht_I hs rfl rfl he44) rfl ?_; intro a hs
      refine wl hs (y_load sc_int hs rfl he44.cell) rfl ?_; intro a hs
      obtain ⟨x45, hx46, hm⟩ := bindE hm
      obtain ⟨u48, hv49, he47⟩ := hM.atM 1 rfl hx46
      refine wl hs (y_index ht_M hs rfl rfl he47) rfl ?_; intro a hs
      refine wl hs (y_load sc_I hs rfl he47.cell) rfl ?_; intro a hs
      obtain ⟨y50, h51, hm⟩ := bindE hm
      refine wcall is_54 hs rfl rfl (impl_toldList_any u48 x45 _ (hM.rdRow 1 rfl rfl hv49 (idx_spec hx46).2.2) h51) ?_; rintro a _ w hs ⟨rfl, hX⟩
      have hM : Mem W w [aInts 3 v40 y38, aMat 24 3 v35 vs37 y33, aMat 24 3 v31 vs32 y27.1, aMat 24 3 v24 vs26 y22, aBlk g17 40 [.int .i64 y9.1, .int .i64 y9.2.1], aInts 3 v13 y9.2.2.1, aBools 4 v15 y9.2.2.2.1] := hM.call hX
      have hM : Mem W w [aInts 3 u48 x45, aInts 3 v40 y38, aMat 24 3 v31 vs32 y27.1, aMat 24 3 v24 vs26 y22, aBlk g17 40 [.int .i64 y9.1, .int .i64 y9.2.1], aInts 3 v13 y9.2.2.1, aBools 4 v15 y9.2.2.2.1] := (hM.front 1 rfl).rowOut (RowOf.row hv49 ((idx_spec hx46).2.2))
      have hM : Mem W w [aInts 3 (cond y50.1 u48 (.slice none 0 0)) (cond y50.1 x45 []), aInts 3 v40 y38, aMat 24 3 v31 vs32 y27.1, aMat 24 3 v24 vs26 y22, aBlk g17 40 [.int .i64 y9.1, .int .i64 y9.2.1], aInts 3 v13 y9.2.2.1, aBools 4 v15 y9.2.2.2.1] := (hM).condI y50.1
      refine wl hs (y_extract hs rfl rfl) rfl ?_; intro a hs
      refine wl hs (y_extract hs rfl rfl) rfl ?_; intro a hs
      refine wl hs (y_assign hs rfl) rfl ?_; intro a hs
      refine wl hs (y_assign hs rfl) rfl ?_; intro a hs
      refine wpList_nil ?_
      refine x_nt ?_
      refine wp_ret ?_
      have hm : some ((cond y50.1 x45 []), y50.2) = some r := hm
      obtain rfl := Option.some.inj hm
      refine x_ret2 rfl hs rfl rfl ⟨_, rfl, ?_⟩
      exact ⟨_, rfl, (hM.keep_ 1)⟩

end Go.Proofs.Ytjhaealoneennaa
