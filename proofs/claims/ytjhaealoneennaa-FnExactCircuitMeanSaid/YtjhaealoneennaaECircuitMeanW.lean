/- The code of this unit computes what its mirrors say. Written by program (wip/gen). -/
import Derived.Test.YtjhaealoneennaaFacts
import Derived.Test.YtjhaealoneennaaECircuitMeanM
import Derived.Test.YtjhaealoneennaaNumW
import Derived.Test.YtjhaealoneennaaLfW
import Derived.Test.YtjhaealoneennaaMncW
import Derived.Test.YtjhaealoneennaaMniW
namespace Go.Proofs.Ytjhaealoneennaa
open Go.RowKit
set_option linter.unusedVariables false

set_option maxHeartbeats 4000000 in
theorem laws_FnExactCircuitMean_any (v_p0 : Value) (p0 : List (List Int)) (v_p1 : Value) (p1 : List Int) (W : World) (hr_p0 : RdM W v_p0 p0) (hr_p1 : RdI W v_p1 p1) {r : Bool} (hm : laws_FnExactCircuitMean_m p0 p1 = some r) : Calls Try.prog 7 [v_p0, v_p1].toArray W fun e w => ∃ v, e = .returned v ∧ v = .bool r ∧ Mem W w [] := by
  refine x_enter Try.func7 rfl Try.ntmps7 rfl ?_
  intro a hs
  have hM := Mem.start W
  unfold laws_FnExactCircuitMean_m at hm
  refine wp_seq ?_
  refine wp_region_lit ?_
  refine wl hs (y_assign hs rfl) rfl ?_; intro a hs
  refine wpList_nil ?_
  refine x_nt ?_
  refine wp_seq ?_
  refine wp_seq ?_
  refine wp_region_lit ?_
  refine wl hs (y_move hs rfl) rfl ?_; intro a hs
  refine wl hs (y_len hu_I hs rfl (RdI.below hr_p1 hM.bel)) rfl ?_; intro a hs
  refine wl hs (y_gtr hs rfl rfl) rfl ?_; intro a hs
  refine wpList_nil ?_
  refine x_nt ?_
  refine x_cond hs rfl (fun hb => ?_) (fun hb => ?_)
  · replace hm := condT hb hm
    refine wp_seq ?_
    refine wp_region_lit ?_
    refine wl hs (y_assign hs rfl) rfl ?_; intro a hs
    refine wpList_nil ?_
    refine x_nt ?_
    refine wp_ret ?_
    refine x_rt ?_
    have hm : some true = some r := hm
    obtain rfl := Option.some.inj hm
    refine x_ret1 rfl hs rfl ⟨_, rfl, ?_⟩
    exact ⟨rfl, hM⟩
  · replace hm := condF hb hm
    refine wp_skip ?_
    refine x_nt ?_
    refine wp_seq ?_
    refine wp_region_lit ?_
    refine wl hs (y_assign hs rfl) rfl ?_; intro a hs
    refine wpList_nil ?_
    refine x_nt ?_
    refine wp_seq ?_
    refine wp_region_lit ?_
    refine wl hs (y_move hs rfl) rfl ?_; intro a hs
    refine wl hs (y_move hs rfl) rfl ?_; intro a hs
    obtain ⟨y1, h2, hm⟩ := bindE hm
    refine wcall is_14 hs rfl rfl (laws_szIntSS_any v_p0 p0 1048576 _ (RdM.below hr_p0 hM.bel) h2) ?_; rintro a _ w hs ⟨rfl, hX⟩
    have hM : Mem W w [] := hM.call hX
    refine wl hs (y_assign hs rfl) rfl ?_; intro a hs
    refine wpList_nil ?_
    refine x_nt ?_
    refine wp_seq ?_
    refine wp_seq ?_
    refine wp_region_lit ?_
    refine wl hs (y_move hs rfl) rfl ?_; intro a hs
    refine wl hs (y_lss hs rfl rfl) rfl ?_; intro a hs
    refine wpList_nil ?_
    refine x_nt ?_
    refine x_cond hs rfl (fun hb => ?_) (fun hb => ?_)
    · replace hm := condT hb hm
      refine wp_seq ?_
      refine wp_region_lit ?_
      refine wl hs (y_assign hs rfl) rfl ?_; intro a hs
      refine wpList_nil ?_
      refine x_nt ?_
      refine wp_ret ?_
      refine x_rt ?_
      have hm : some true = some r := hm
      obtain rfl := Option.some.inj hm
      refine x_ret1 rfl hs rfl ⟨_, rfl, ?_⟩
      exact ⟨rfl, hM⟩
    · replace hm := condF hb hm
      refine wp_skip ?_
      refine x_nt ?_
      refine wp_seq ?_
      refine wp_region_lit ?_
      refine wl hs (y_move hs rfl) rfl ?_; intro a hs
      obtain ⟨y3, h4, hm⟩ := bindE hm
      refine wcall is_16 hs rfl rfl (laws_toIntSS_any v_p0 p0 _ (RdM.below hr_p0 hM.bel) h4) ?_; rintro a v5 w hs ⟨vs7, hX⟩
      have hM : Mem W w [aMat 24 3 v5 vs7 y3] := hM.call hX
      refine wl hs (y_move hs rfl) rfl ?_; intro a hs
      obtain ⟨y8, h9, hm⟩ := bindE hm
      refine wcall is_26 hs rfl rfl (laws_toIntS_any v_p1 p1 _ (RdI.below hr_p1 hM.bel) h9) ?_; rintro a v10 w hs hX
      have hM : Mem W w [aInts 3 v10 y8, aMat 24 3 v5 vs7 y3] := hM.call hX
      obtain ⟨y12, h13, hm⟩ := bindE hm
      refine wcall is_30 hs rfl rfl (spec_CircuitMean_any v5 y3 v10 y8 _ (hM.rdM 1 rfl) (hM.rdI 0 rfl) h13) ?_; rintro a _ w hs ⟨rfl, hX⟩
      have hM : Mem W w [aInts 3 v10 y8, aMat 24 3 v5 vs7 y3] := hM.call hX
      refine wl hs (y_move hs rfl) rfl ?_; intro a hs
      refine wl hs (y_extract hs rfl rfl) rfl ?_; intro a hs
      refine wl hs (y_extract hs rfl rfl) rfl ?_; intro a hs
      refine wmem hs (x_allocS sT_40 hM) rfl ?_; rintro a _ w hs ⟨g15, rfl, hM⟩
      have hM : Mem W w [aBlk g15 40 [.int .i64 0, .int .i64 0], aInts 3 v10 y8, aMat 24 3 v5 vs7 y3] := hM
      refine wstore hs rfl rfl (x_storeS (cs := [.int .i64 0, .int .i64 0]) (us := [.int .i64 y12.1, .int .i64 y12.2.1]) sT_40 ⟨rfl, rfl, trivial⟩ rfl rfl (hM.front 0 rfl)) ?_; intro w hM
      have hM : Mem W w [aBlk g15 40 [.int .i64 y12.1, .int .i64 y12.2.1], aInts 3 v10 y8, aMat 24 3 v5 vs7 y3] := hM
      refine wl hs (y_assign hs rfl) rfl ?_; intro a hs
      refine wpList_nil ?_
      refine x_nt ?_
      refine wp_seq ?_
      refine wp_region_lit ?_
      refine wl hs (y_move hs rfl) rfl ?_; intro a hs
      obtain ⟨y16, h17, hm⟩ := bindE hm
      refine wcall is_16 hs rfl rfl (laws_toIntSS_any v_p0 p0 _ (RdM.below hr_p0 hM.bel) h17) ?_; rintro a v18 w hs ⟨vs20, hX⟩
      have hM : Mem W w [aMat 24 3 v18 vs20 y16, aBlk g15 40 [.int .i64 y12.1, .int .i64 y12.2.1], aInts 3 v10 y8, aMat 24 3 v5 vs7 y3] := hM.call hX
      refine wl hs (y_assign hs rfl) rfl ?_; intro a hs
      refine wpList_nil ?_
      refine x_nt ?_
      refine wp_seq ?_
      refine wp_region_lit ?_
      refine wl hs (y_move hs rfl) rfl ?_; intro a hs
      obtain ⟨y21, h22, hm⟩ := bindE hm
      refine wcall is_26 hs rfl rfl (laws_toIntS_any v_p1 p1 _ (RdI.below hr_p1 hM.bel) h22) ?_; rintro a v23 w hs hX
      have hM : Mem W w [aInts 3 v23 y21, aMat 24 3 v18 vs20 y16, aBlk g15 40 [.int .i64 y12.1, .int .i64 y12.2.1], aInts 3 v10 y8, aMat 24 3 v5 vs7 y3] := hM.call hX
      refine wl hs (y_assign hs rfl) rfl ?_; intro a hs
      refine wpList_nil ?_
      refine x_nt ?_
      refine wp_seq ?_
      refine wp_region_lit ?_
      refine wl hs (y_move hs rfl) rfl ?_; intro a hs
      refine wl hs (y_move hs rfl) rfl ?_; intro a hs
      obtain ⟨y25, h26, hm⟩ := bindE hm
      refine wcall is_31 hs rfl rfl (impl_CircuitMean_any v18 y16 v23 y21 _ (hM.rdM 1 rfl) (hM.rdI 0 rfl) h26) ?_; rintro a _ w hs ⟨rfl, hX⟩
      have hM : Mem W w [aInts 3 v23 y21, aMat 24 3 v18 vs20 y16, aBlk g15 40 [.int .i64 y12.1, .int .i64 y12.2.1], aInts 3 v10 y8, aMat 24 3 v5 vs7 y3] := hM.call hX
      refine wl hs (y_move hs rfl) rfl ?_; intro a hs
      refine wl hs (y_extract hs rfl rfl) rfl ?_; intro a hs
      refine wl hs (y_extract hs rfl rfl) rfl ?_; intro a hs
      refine wmem hs (x_allocS sT_40 hM) rfl ?_; rintro a _ w hs ⟨g28, rfl, hM⟩
      have hM : Mem W w [aBlk g28 40 [.int .i64 0, .int .i64 0], aInts 3 v23 y21, aMat 24 3 v18 vs20 y16, aBlk g15 40 [.int .i64 y12.1, .int .i64 y12.2.1], aInts 3 v10 y8, aMat 24 3 v5 vs7 y3] := hM
      refine wstore hs rfl rfl (x_storeS (cs := [.int .i64 0, .int .i64 0]) (us := [.int .i64 y25.1, .int .i64 y25.2.1]) sT_40 ⟨rfl, rfl, trivial⟩ rfl rfl (hM.front 0 rfl)) ?_; intro w hM
      have hM : Mem W w [aBlk g28 40 [.int .i64 y25.1, .int .i64 y25.2.1], aInts 3 v23 y21, aMat 24 3 v18 vs20 y16, aBlk g15 40 [.int .i64 y12.1, .int .i64 y12.2.1], aInts 3 v10 y8, aMat 24 3 v5 vs7 y3] := hM
      refine wl hs (y_assign hs rfl) rfl ?_; intro a hs
      refine wpList_nil ?_
      refine x_nt ?_
      refine wp_seq ?_
      refine wp_seq ?_
      refine wp_region_lit ?_
      refine wl hs (y_loadS (cs := [.int .i64 y25.1, .int .i64 y25.2.1]) sT_40 hs rfl (hM.heapBlk 0 rfl) rfl) rfl ?_; intro a hs
      refine wl hs (y_loadS (cs := [.int .i64 y12.1, .int .i64 y12.2.1]) sT_40 hs rfl (hM.heapBlk 3 rfl) rfl) rfl ?_; intro a hs
      obtain ⟨y29, h30, hm⟩ := bindE hm
      refine wcall is_32 hs rfl rfl (laws_eqFrac_any y25.1 y25.2.1 y12.1 y12.2.1 _  h30) ?_; rintro a _ w hs ⟨rfl, hX⟩
      have hM : Mem W w [aBlk g28 40 [.int .i64 y25.1, .int .i64 y25.2.1], aInts 3 v23 y21, aMat 24 3 v18 vs20 y16, aBlk g15 40 [.int .i64 y12.1, .int .i64 y12.2.1], aInts 3 v10 y8, aMat 24 3 v5 vs7 y3] := hM.call hX
      refine wl hs (y_not hs rfl) rfl ?_; intro a hs
      refine wl hs (y_move hs rfl) rfl ?_; intro a hs
      obtain ⟨b31, hb32, hm⟩ := bindE hm
      refine wlguard (N := 57) (L' := [(46, .bool b31), (0, v_p0), (1, v_p1), (8, v18), (9, v23)]) (fun w => Mem W w [aBlk g28 40 [.int .i64 y25.1, .int .i64 y25.2.1], aInts 3 v23 y21, aMat 24 3 v18 vs20 y16, aBlk g15 40 [.int .i64 y12.1, .int .i64 y12.2.1], aInts 3 v10 y8, aMat 24 3 v5 vs7 y3]) 4 ?_ ?_
      · intro K; rcases Bool.eq_false_or_eq_true (!y29) with hg33 | hg33
        · have hm := condT hg33 hb32
          refine wls hs rfl hg33 rfl ?_; intro a hs
          refine wls hs rfl hg33 rfl ?_; intro a hs
          refine wls hs rfl hg33 rfl ?_; intro a hs
          have hm : some true = some b31 := hm
          cases Option.some.inj hm
          refine wl hs (y_pickT hs rfl hg33 rfl) rfl ?_; intro a hs
          exact K _ _ (hs.sub ⟨rfl, rfl, rfl, rfl, rfl, trivial⟩) hM
        · have hm := condF hg33 hb32
          refine wlg hs rfl hg33 (y_move hs rfl) rfl ?_; intro a hs
          refine wlg hs rfl hg33 (y_move hs rfl) rfl ?_; intro a hs
          refine wlg hs rfl hg33 (y_neqB hu_bool hs rfl rfl) rfl ?_; intro a hs
          have hm : some (y25.2.2 != y12.2.2) = some b31 := hm
          cases Option.some.inj hm
          refine wl hs (y_pickF hs rfl hg33 rfl) rfl ?_; intro a hs
          exact K _ _ (hs.sub ⟨rfl, rfl, rfl, rfl, rfl, trivial⟩) hM
      intro a w hs hM
      simp only [List.drop_succ_cons, List.drop_zero]
      refine wpList_nil ?_
      refine x_nt ?_
      refine x_cond hs rfl (fun hb => ?_) (fun hb => ?_)
      · replace hm := condT hb hm
        refine wp_seq ?_
        refine wp_region_lit ?_
        refine wl hs (y_assign hs rfl) rfl ?_; intro a hs
        refine wpList_nil ?_
        refine x_nt ?_
        refine wp_ret ?_
        refine x_rt ?_
        have hm : some false = some r := hm
        obtain rfl := Option.some.inj hm
        refine x_ret1 rfl hs rfl ⟨_, rfl, ?_⟩
        exact ⟨rfl, hM.none_⟩
      · replace hm := condF hb hm
        refine wp_skip ?_
        refine x_nt ?_
        refine wp_seq ?_
        refine wp_seq ?_
        refine wp_region_lit ?_
        refine wl hs (y_move hs rfl) rfl ?_; intro a hs
        refine wl hs (y_move hs rfl) rfl ?_; intro a hs
        obtain ⟨y34, h35, hm⟩ := bindE hm
        refine wcall is_16 hs rfl rfl (laws_toIntSS_any v_p0 p0 _ (RdM.below hr_p0 hM.bel) h35) ?_; rintro a v36 w hs ⟨vs38, hX⟩
        have hM : Mem W w [aMat 24 3 v36 vs38 y34, aBlk g28 40 [.int .i64 y25.1, .int .i64 y25.2.1], aInts 3 v23 y21, aMat 24 3 v18 vs20 y16, aBlk g15 40 [.int .i64 y12.1, .int .i64 y12.2.1], aInts 3 v10 y8, aMat 24 3 v5 vs7 y3] := hM.call hX
        obtain ⟨y39, h40, hm⟩ := bindE hm
        refine wcall is_19 hs rfl rfl (laws_eqIntSS_any v18 y16 v36 y34 _ (hM.rdM 3 rfl) (hM.rdM 0 rfl) h40) ?_; rintro a _ w hs ⟨rfl, hX⟩
        have hM : Mem W w [aMat 24 3 v36 vs38 y34, aBlk g28 40 [.int .i64 y25.1, .int .i64 y25.2.1], aInts 3 v23 y21, aMat 24 3 v18 vs20 y16, aBlk g15 40 [.int .i64 y12.1, .int .i64 y12.2.1], aInts 3 v10 y8, aMat 24 3 v5 vs7 y3] := hM.call hX
        refine wl hs (y_not hs rfl) rfl ?_; intro a hs
        refine wpList_nil ?_
        refine x_nt ?_
        refine x_cond hs rfl (fun hb => ?_) (fun hb => ?_)
        · replace hm := condT hb hm
          refine wp_seq ?_
          refine wp_region_lit ?_
          refine wl hs (y_assign hs rfl) rfl ?_; intro a hs
          refine wpList_nil ?_
          refine x_nt ?_
          refine wp_ret ?_
          refine x_rt ?_
          have hm : some false = some r := hm
          obtain rfl := Option.some.inj hm
          refine x_ret1 rfl hs rfl ⟨_, rfl, ?_⟩
          exact ⟨rfl, hM.none_⟩
        · replace hm := condF hb hm
          refine wp_skip ?_
          refine x_nt ?_
          refine wp_seq ?_
          refine wp_seq ?_
          refine wp_region_lit ?_
          refine wl hs (y_move hs rfl) rfl ?_; intro a hs
          refine wl hs (y_move hs rfl) rfl ?_; intro a hs
          obtain ⟨y41, h42, hm⟩ := bindE hm
          refine wcall is_26 hs rfl rfl (laws_toIntS_any v_p1 p1 _ (RdI.below hr_p1 hM.bel) h42) ?_; rintro a v43 w hs hX
          have hM : Mem W w [aInts 3 v43 y41, aMat 24 3 v36 vs38 y34, aBlk g28 40 [.int .i64 y25.1, .int .i64 y25.2.1], aInts 3 v23 y21, aMat 24 3 v18 vs20 y16, aBlk g15 40 [.int .i64 y12.1, .int .i64 y12.2.1], aInts 3 v10 y8, aMat 24 3 v5 vs7 y3] := hM.call hX
          obtain ⟨y45, h46, hm⟩ := bindE hm
          refine wcall is_18 hs rfl rfl (laws_eqIntS_any v23 y21 v43 y41 _ (hM.rdI 3 rfl) (hM.rdI 0 rfl) h46) ?_; rintro a _ w hs ⟨rfl, hX⟩
          have hM : Mem W w [aInts 3 v43 y41, aMat 24 3 v36 vs38 y34, aBlk g28 40 [.int .i64 y25.1, .int .i64 y25.2.1], aInts 3 v23 y21, aMat 24 3 v18 vs20 y16, aBlk g15 40 [.int .i64 y12.1, .int .i64 y12.2.1], aInts 3 v10 y8, aMat 24 3 v5 vs7 y3] := hM.call hX
          refine wl hs (y_not hs rfl) rfl ?_; intro a hs
          refine wpList_nil ?_
          refine x_nt ?_
          refine x_cond hs rfl (fun hb => ?_) (fun hb => ?_)
          · replace hm := condT hb hm
            refine wp_seq ?_
            refine wp_region_lit ?_
            refine wl hs (y_assign hs rfl) rfl ?_; intro a hs
            refine wpList_nil ?_
            refine x_nt ?_
            refine wp_ret ?_
            refine x_rt ?_
            have hm : some false = some r := hm
            obtain rfl := Option.some.inj hm
            refine x_ret1 rfl hs rfl ⟨_, rfl, ?_⟩
            exact ⟨rfl, hM.none_⟩
          · replace hm := condF hb hm
            refine wp_skip ?_
            refine x_nt ?_
            refine wp_seq ?_
            refine wp_region_lit ?_
            refine wl hs (y_assign hs rfl) rfl ?_; intro a hs
            refine wpList_nil ?_
            refine x_nt ?_
            refine wp_ret ?_
            have hm : some true = some r := hm
            obtain rfl := Option.some.inj hm
            refine x_ret1 rfl hs rfl ⟨_, rfl, ?_⟩
            exact ⟨rfl, hM.none_⟩

end Go.Proofs.Ytjhaealoneennaa
