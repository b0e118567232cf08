/- The code of this unit computes what its mirrors say. Written by program (wip/gen). -/
import Derived.Test.YtjhaealoneennaaFacts
import Derived.Test.YtjhaealoneennaaMncM
import Derived.Test.YtjhaealoneennaaNumW
import Derived.Test.YtjhaealoneennaaMatW
import Derived.Test.YtjhaealoneennaaEigW
import Derived.Test.YtjhaealoneennaaFracW
import Derived.Test.YtjhaealoneennaaMnbW
namespace Go.Proofs.Ytjhaealoneennaa
open Go.RowKit
set_option linter.unusedVariables false

theorem spec_mnMean_any (v_p0 : Value) (p0 : List (List Int)) (v_p1 : Value) (p1 : List Int) (W : World) (hr_p0 : RdM W v_p0 p0) (hr_p1 : RdI W v_p1 p1) {r : Int × Int} (hm : spec_mnMean_m p0 p1 = some r) : Calls Try.prog 73 [v_p0, v_p1].toArray W fun e w => ∃ v, e = .returned v ∧ v = .agg #[.int .i64 r.1, .int .i64 r.2] ∧ Mem W w [] := by
  refine x_enter Try.func73 rfl Try.ntmps73 rfl ?_
  intro a hs
  have hM := Mem.start W
  unfold spec_mnMean_m at hm
  refine wp_seq ?_
  refine wp_region_lit ?_
  refine wmem hs (x_allocS sT_40 hM) rfl ?_; rintro a _ w hs ⟨g2, rfl, hM⟩
  have hM : Mem W w [aBlk g2 40 [.int .i64 0, .int .i64 0]] := hM
  refine wpList_nil ?_
  refine x_nt ?_
  refine wp_seq ?_
  refine wp_region_lit ?_
  refine wl hs (y_assign hs rfl) rfl ?_; intro a hs
  refine wpList_nil ?_
  refine x_nt ?_
  refine wp_seq ?_
  refine wp_seq ?_
  refine wp_region_lit ?_
  refine wl hs (y_move hs rfl) rfl ?_; intro a hs
  refine wl hs (y_len hu_I hs rfl (RdI.below hr_p1 hM.bel)) rfl ?_; intro a hs
  refine wl hs (y_move hs rfl) rfl ?_; intro a hs
  refine wpList_nil ?_
  refine x_nt ?_
  obtain ⟨s6, hm, hk7⟩ := bindE hm
  refine x_mid (fun a w => ∃ (n5 : Int), n5 = s6 ∧ Fr a 42 [(1, v_p1), (4, .pointer (some ⟨g2, 0, none⟩)), (5, .int .i64 n5)] ∧ Mem W w [aBlk g2 40 [.int .i64 0, .int .i64 0]]) ?_ ?_
  · refine wp_block ?_
    refine x_loop (fun k a w => ∃ (q8 : List Int) (j3 : Nat) (n4 : Int) , k = q8.length ∧ Fr a 42 [(0, v_p0), (1, v_p1), (4, .pointer (some ⟨g2, 0, none⟩)), (5, .int .i64 n4), (10, v_p1), (11, .int .i64 (p1.length : Int)), (12, .int .i64 (j3 : Int))] ∧ Mem W w [aBlk g2 40 [.int .i64 0, .int .i64 0]] ∧ spec_mnMean_l1 p0 p1 q8 j3 n4 = some s6 ∧ List.drop j3 p1 = q8) _ ⟨p1, 0, 0, rfl, hs.sub ⟨rfl, rfl, rfl, rfl, rfl, rfl, rfl, trivial⟩, hM, hm, rfl⟩ ?_
    rintro k a w ⟨q8, j3, n4, rfl, hs, hM, hm, hj3⟩
    rcases q8 with _ | ⟨x9, q8⟩
    · rewrite [spec_mnMean_l1] at hm
      refine wp_seq ?_
      refine wp_region_lit ?_
      refine wl hs (y_lss hs rfl rfl) rfl ?_; intro a hs
      refine wpList_nil ?_
      refine x_nt ?_
      refine wp_seq ?_
      refine x_condF hs rfl (drop_f hj3) ?_
      refine wp_exit ?_
      refine x_et ?_
      refine x_et ?_
      refine x_eb ?_
      have hm : some n4 = some s6 := hm
      exact ⟨n4, Option.some.inj hm, hs.sub ⟨rfl, rfl, rfl, trivial⟩, hM⟩
    · rewrite [spec_mnMean_l1] at hm
      have hx10 := drop_idx hj3
      have hsj3 := ck_succ hj3 (RdS.len (RdI.below hr_p1 hM.bel))
      refine wp_seq ?_
      refine wp_region_lit ?_
      refine wl hs (y_lss hs rfl rfl) rfl ?_; intro a hs
      refine wpList_nil ?_
      refine x_nt ?_
      refine wp_seq ?_
      refine x_condT hs rfl (drop_t hj3) ?_
      refine wp_skip ?_
      refine x_nt ?_
      refine wp_seq ?_
      refine wp_block ?_
      refine wp_seq ?_
      refine wp_region_lit ?_
      refine wl hs (y_move hs rfl) rfl ?_; intro a hs
      have he11 := RdI.at_ (RdI.below hr_p1 hM.bel) hx10
      refine wl hs (y_index ht_I hs rfl rfl he11) rfl ?_; intro a hs
      refine wl hs (y_load sc_int hs rfl he11.cell) rfl ?_; intro a hs
      refine wl hs (y_assign hs rfl) rfl ?_; intro a hs
      refine wl hs (y_assign hs rfl) rfl ?_; intro a hs
      refine wpList_nil ?_
      refine x_nt ?_
      refine x_regq hmix (by kernel_rfl) ?_
      refine wq hs (fun w1 hw1 => y_move hs rfl) rfl ?_; intro a hs
      refine wq hs (fun w1 hw1 => y_move hs rfl) rfl ?_; intro a hs
      refine wq hs (fun w1 hw1 => y_move hs rfl) rfl ?_; intro a hs
      obtain ⟨x12, hx13, hm⟩ := bindE hm
      obtain ⟨u15, he14, hr16⟩ := RdM.at_ hr_p0 hx13
      replace he14 := he14.below hM.bel
      refine wq hs (fun w1 hw1 => y_index ht_M hs rfl rfl (he14.below hw1)) rfl ?_; intro a hs
      refine wq hs (fun w1 hw1 => y_load sc_I hs rfl (he14.below hw1).cell) rfl ?_; intro a hs
      refine wq hs (fun w1 hw1 => y_move hs rfl) rfl ?_; intro a hs
      refine wq hs (fun w1 hw1 => y_move hs rfl) rfl ?_; intro a hs
      obtain ⟨n17, h18, hm⟩ := bindE hm
      refine wq hs (fun w1 hw1 => y_add hs rfl rfl h18) rfl ?_; intro a hs
      refine wq hs (fun w1 hw1 => y_move hs rfl) rfl ?_; intro a hs
      refine wq hs (fun w1 hw1 => y_len hu_I hs rfl (RdI.below hr_p1 (hM.quiet hw1).bel)) rfl ?_; intro a hs
      obtain ⟨n19, h20, hm⟩ := bindE hm
      refine wq hs (fun w1 hw1 => y_rem hs rfl rfl h20) rfl ?_; intro a hs
      obtain ⟨x21, hx22, hm⟩ := bindE hm
      have he23 := RdI.at_ (RdI.below hr_p1 hM.bel) hx22
      refine wq hs (fun w1 hw1 => y_index ht_I hs rfl rfl (he23.below hw1)) rfl ?_; intro a hs
      refine wq hs (fun w1 hw1 => y_load sc_int hs rfl (he23.below hw1).cell) rfl ?_; intro a hs
      obtain ⟨x24, hx25, hm⟩ := bindE hm
      have he26 := RdI.at_ (RdI.below hr16 hM.bel) hx25
      refine wq hs (fun w1 hw1 => y_index ht_I hs rfl rfl (he26.below hw1)) rfl ?_; intro a hs
      refine wq hs (fun w1 hw1 => y_load sc_int hs rfl (he26.below hw1).cell) rfl ?_; intro a hs
      obtain ⟨n27, h28, hm⟩ := bindE hm
      refine wq hs (fun w1 hw1 => y_add hs rfl rfl h28) rfl ?_; intro a hs
      refine wq hs (fun w1 hw1 => y_assign hs rfl) rfl ?_; intro a hs
      refine wpQuiet_nil ?_
      intro w hw
      replace hM := hM.quiet hw
      refine x_nb ?_
      refine x_nt ?_
      refine wp_region_lit ?_
      refine wl hs (y_add hs rfl rfl hsj3) rfl ?_; intro a hs
      refine wl hs (y_move hs rfl) rfl ?_; intro a hs
      refine wpList_nil ?_
      exact ⟨_, by simp, q8, j3 + 1, n27, rfl, hs.sub ⟨rfl, rfl, rfl, rfl, rfl, rfl, rfl, trivial⟩, hM, hm, drop_next hj3⟩
  rintro a w ⟨n5, rfl, hs, hM⟩
  have hm := hk7
  refine x_nt ?_
  refine wp_seq ?_
  refine wp_region_lit ?_
  refine wl hs (y_move hs rfl) rfl ?_; intro a hs
  refine wl hs (y_move hs rfl) rfl ?_; intro a hs
  refine wl hs (y_len hu_I hs rfl (RdI.below hr_p1 hM.bel)) rfl ?_; intro a hs
  obtain ⟨y29, h30, hm⟩ := bindE hm
  refine wcall is_105 hs rfl rfl (spec_frMake_any n5 (p1.length : Int) _  h30) ?_; rintro a _ w hs ⟨rfl, hX⟩
  have hM : Mem W w [aBlk g2 40 [.int .i64 0, .int .i64 0]] := hM.call hX
  refine wl hs (y_move hs rfl) rfl ?_; intro a hs
  refine wl hs (y_extract hs rfl rfl) rfl ?_; intro a hs
  refine wl hs (y_extract hs rfl rfl) rfl ?_; intro a hs
  refine wmem hs (x_allocS sT_40 hM) rfl ?_; rintro a _ w hs ⟨g32, rfl, hM⟩
  have hM : Mem W w [aBlk g32 40 [.int .i64 0, .int .i64 0], aBlk g2 40 [.int .i64 0, .int .i64 0]] := hM
  refine wstore hs rfl rfl (x_storeS (cs := [.int .i64 0, .int .i64 0]) (us := [.int .i64 y29.1, .int .i64 y29.2.1]) sT_40 ⟨rfl, rfl, trivial⟩ rfl rfl (hM.front 0 rfl)) ?_; intro w hM
  have hM : Mem W w [aBlk g32 40 [.int .i64 y29.1, .int .i64 y29.2.1], aBlk g2 40 [.int .i64 0, .int .i64 0]] := hM
  refine wl hs (y_assign hs rfl) rfl ?_; intro a hs
  refine wpList_nil ?_
  refine x_nt ?_
  refine wp_seq ?_
  refine wp_region_lit ?_
  refine wl hs (y_loadS (cs := [.int .i64 y29.1, .int .i64 y29.2.1]) sT_40 hs rfl (hM.heapBlk 0 rfl) rfl) rfl ?_; intro a hs
  refine wstore hs rfl rfl (x_storeS (cs := [.int .i64 0, .int .i64 0]) (us := [.int .i64 y29.1, .int .i64 y29.2.1]) sT_40 ⟨rfl, rfl, trivial⟩ rfl rfl (hM.front 1 rfl)) ?_; intro w hM
  have hM : Mem W w [aBlk g2 40 [.int .i64 y29.1, .int .i64 y29.2.1], aBlk g32 40 [.int .i64 y29.1, .int .i64 y29.2.1]] := hM
  refine wpList_nil ?_
  refine x_nt ?_
  refine wp_ret ?_
  have hm : some (y29.1, y29.2.1) = some r := hm
  obtain rfl := Option.some.inj hm
  refine x_retR (rs := [.cell 4 40]) (vs := [.agg #[.int .i64 y29.1, .int .i64 y29.2.1]]) rfl hs ⟨⟨_, rfl, loadS (cs := [.int .i64 y29.1, .int .i64 y29.2.1]) sT_40 (hM.heapBlk 0 rfl) rfl⟩, trivial⟩ ⟨_, rfl, ?_⟩
  exact ⟨rfl, hM.none_⟩

theorem spec_mnLeast_any (v_p0 : Value) (p0 : List (List Int)) (W : World) (hr_p0 : RdM W v_p0 p0) {r : List Int} (hm : spec_mnLeast_m p0 = some r) : Calls Try.prog 77 [v_p0].toArray W fun e w => ∃ v, e = .returned v ∧ Mem W w [aInts 3 v r] := by
  refine x_enter Try.func77 rfl Try.ntmps77 rfl ?_
  intro a hs
  have hM := Mem.start W
  unfold spec_mnLeast_m at hm
  refine wp_seq ?_
  refine wp_region_lit ?_
  refine wl hs (y_assign hs rfl) rfl ?_; intro a hs
  refine wpList_nil ?_
  refine x_nt ?_
  refine wp_seq ?_
  refine wp_region_lit ?_
  refine wl hs (y_assign hs rfl) rfl ?_; intro a hs
  have hM := hM.nilI 3
  refine wpList_nil ?_
  refine x_nt ?_
  refine wp_seq ?_
  refine wp_seq ?_
  refine wp_region_lit ?_
  refine wl hs (y_move hs rfl) rfl ?_; intro a hs
  obtain ⟨y2, h3, hm⟩ := bindE hm
  refine wcall is_71 hs rfl rfl (spec_mnCircuits_any v_p0 p0 _ (RdM.below hr_p0 hM.bel) h3) ?_; rintro a v4 w hs ⟨vs6, hX⟩
  have hM : Mem W w [aMat 24 3 v4 vs6 y2, aInts 3 (.slice none 0 0) ([])] := hM.call hX
  refine wl hs (y_len hu_M hs rfl (hM.rdM 0 rfl)) rfl ?_; intro a hs
  refine wl hs (y_move hs rfl) rfl ?_; intro a hs
  refine wpList_nil ?_
  refine x_nt ?_
  obtain ⟨s14, hm, hk15⟩ := bindE hm
  refine x_mid (fun a w => ∃ (v11 : Value), ∃ (l12 : List Int), (RowOf vs6 y2 v11 l12) ∧ l12 = s14 ∧ Fr a 29 [(3, v11)] ∧ Mem W w [aMat 24 3 v4 vs6 y2]) ?_ ?_
  · refine wp_block ?_
    refine x_loop (fun k a w => ∃ (q16 : List (List Int)) (j7 : Nat) (v8 : Value) (l9 : List Int) , k = q16.length ∧ (RowOf vs6 y2 v8 l9) ∧ Fr a 29 [(0, v_p0), (3, v8), (7, v4), (8, .int .i64 (y2.length : Int)), (9, .int .i64 (j7 : Int))] ∧ Mem W w [aMat 24 3 v4 vs6 y2] ∧ spec_mnLeast_l1 p0 q16 j7 l9 = some s14 ∧ List.drop j7 y2 = q16) _ ⟨y2, 0, (.slice none 0 0), [], rfl, RowOf.nil_, hs.sub ⟨rfl, rfl, rfl, rfl, rfl, trivial⟩, (hM.keep_ 1), hm, rfl⟩ ?_
    rintro k a w ⟨q16, j7, v8, l9, rfl, hP10, hs, hM, hm, hj7⟩
    rcases q16 with _ | ⟨x17, q16⟩
    · rewrite [spec_mnLeast_l1] at hm
      refine wp_seq ?_
      refine wp_region_lit ?_
      refine wl hs (y_lss hs rfl rfl) rfl ?_; intro a hs
      refine wpList_nil ?_
      refine x_nt ?_
      refine wp_seq ?_
      refine x_condF hs rfl (drop_f hj7) ?_
      refine wp_exit ?_
      refine x_et ?_
      refine x_et ?_
      refine x_eb ?_
      have hm : some l9 = some s14 := hm
      exact ⟨v8, l9, hP10, Option.some.inj hm, hs.sub ⟨rfl, trivial⟩, hM⟩
    · rewrite [spec_mnLeast_l1] at hm
      have hx18 := drop_idx hj7
      have hsj7 := ck_succ hj7 (RdS.len (hM.rdM 0 rfl))
      refine wp_seq ?_
      refine wp_region_lit ?_
      refine wl hs (y_lss hs rfl rfl) rfl ?_; intro a hs
      refine wpList_nil ?_
      refine x_nt ?_
      refine wp_seq ?_
      refine x_condT hs rfl (drop_t hj7) ?_
      refine wp_skip ?_
      refine x_nt ?_
      refine wp_seq ?_
      refine wp_block ?_
      refine wp_seq ?_
      refine wp_region_lit ?_
      obtain ⟨u20, hv21, he19⟩ := hM.atM 0 rfl hx18
      refine wl hs (y_index ht_M hs rfl rfl he19) rfl ?_; intro a hs
      refine wl hs (y_load sc_I hs rfl he19.cell) rfl ?_; intro a hs
      refine wl hs (y_assign hs rfl) rfl ?_; intro a hs
      refine wpList_nil ?_
      refine x_nt ?_
      refine wp_seq ?_
      refine wp_region_lit ?_
      refine wl hs (y_move hs rfl) rfl ?_; intro a hs
      refine wl hs (y_len hu_I hs rfl (hM.rdP 0 rfl hP10)) rfl ?_; intro a hs
      refine wl hs (y_eql hs rfl rfl) rfl ?_; intro a hs
      refine wl hs (y_move hs rfl) rfl ?_; intro a hs
      obtain ⟨b22, hb23, hm⟩ := bindE hm
      refine wlguard (N := 29) (L' := [(25, .bool b22), (0, v_p0), (3, v8), (5, u20), (7, v4), (8, .int .i64 (y2.length : Int)), (9, .int .i64 (j7 : Int))]) (fun w => Mem W w [aMat 24 3 v4 vs6 y2]) 9 ?_ ?_
      · intro K; rcases Bool.eq_false_or_eq_true ((l9.length : Int) == 0) with hg24 | hg24
        · have hm := condT hg24 hb23
          refine wls hs rfl hg24 rfl ?_; intro a hs
          refine wls hs rfl hg24 rfl ?_; intro a hs
          refine wls hs rfl hg24 rfl ?_; intro a hs
          refine wls hs rfl hg24 rfl ?_; intro a hs
          refine wls hs rfl hg24 rfl ?_; intro a hs
          refine wls hs rfl hg24 rfl ?_; intro a hs
          refine wls hs rfl hg24 rfl ?_; intro a hs
          refine wls hs rfl hg24 rfl ?_; intro a hs
          have hm : some true = some b22 := hm
          cases Option.some.inj hm
          refine wl hs (y_pickT hs rfl hg24 rfl) rfl ?_; intro a hs
          exact K _ _ (hs.sub ⟨rfl, rfl, rfl, rfl, rfl, rfl, rfl, trivial⟩) hM
        · have hm := condF hg24 hb23
          refine wlg hs rfl hg24 (y_move hs rfl) rfl ?_; intro a hs
          refine wlg hs rfl hg24 (y_move hs rfl) rfl ?_; intro a hs
          obtain ⟨y25, h26, hm⟩ := bindE hm
          refine wcallg is_73 hs rfl hg24 rfl rfl (spec_mnMean_any v_p0 p0 u20 x17 _ (RdM.below hr_p0 hM.bel) (hM.rdRow 0 rfl rfl hv21 (idx_spec hx18).2.2) h26) ?_; rintro a _ w hs ⟨rfl, hX⟩
          have hM : Mem W w [aMat 24 3 v4 vs6 y2] := hM.call hX
          refine wlg hs rfl hg24 (y_move hs rfl) rfl ?_; intro a hs
          refine wlg hs rfl hg24 (y_move hs rfl) rfl ?_; intro a hs
          obtain ⟨y27, h28, hm⟩ := bindE hm
          refine wcallg is_73 hs rfl hg24 rfl rfl (spec_mnMean_any v_p0 p0 v8 l9 _ (RdM.below hr_p0 hM.bel) (hM.rdP 0 rfl hP10) h28) ?_; rintro a _ w hs ⟨rfl, hX⟩
          have hM : Mem W w [aMat 24 3 v4 vs6 y2] := hM.call hX
          obtain ⟨y29, h30, hm⟩ := bindE hm
          refine wcallg is_79 hs rfl hg24 rfl rfl (spec_frCmp_any y25.1 y25.2 y27.1 y27.2 _  h30) ?_; rintro a _ w hs ⟨rfl, hX⟩
          have hM : Mem W w [aMat 24 3 v4 vs6 y2] := hM.call hX
          refine wlg hs rfl hg24 (y_lss hs rfl rfl) rfl ?_; intro a hs
          have hm : some (decide (y29 < 0)) = some b22 := hm
          cases Option.some.inj hm
          refine wl hs (y_pickF hs rfl hg24 rfl) rfl ?_; intro a hs
          exact K _ _ (hs.sub ⟨rfl, rfl, rfl, rfl, rfl, rfl, rfl, trivial⟩) hM
      intro a w hs hM
      simp only [List.drop_succ_cons, List.drop_zero]
      refine wpList_nil ?_
      refine x_nt ?_
      refine x_cond hs rfl (fun hb => ?_) (fun hb => ?_)
      · replace hm := condT hb hm
        refine wp_region_lit ?_
        refine wl hs (y_move hs rfl) rfl ?_; intro a hs
        refine wl hs (y_assign hs rfl) rfl ?_; intro a hs
        refine wpList_nil ?_
        refine x_nb ?_
        refine x_nt ?_
        refine wp_region_lit ?_
        refine wl hs (y_add hs rfl rfl hsj7) rfl ?_; intro a hs
        refine wl hs (y_move hs rfl) rfl ?_; intro a hs
        refine wpList_nil ?_
        exact ⟨_, by simp, q16, j7 + 1, u20, x17, rfl, (RowOf.row hv21 ((idx_spec hx18).2.2)), hs.sub ⟨rfl, rfl, rfl, rfl, rfl, trivial⟩, hM, hm, drop_next hj7⟩
      · replace hm := condF hb hm
        refine wp_skip ?_
        refine x_nb ?_
        refine x_nt ?_
        refine wp_region_lit ?_
        refine wl hs (y_add hs rfl rfl hsj7) rfl ?_; intro a hs
        refine wl hs (y_move hs rfl) rfl ?_; intro a hs
        refine wpList_nil ?_
        exact ⟨_, by simp, q16, j7 + 1, v8, l9, rfl, hP10, hs.sub ⟨rfl, rfl, rfl, rfl, rfl, trivial⟩, hM, hm, drop_next hj7⟩
  rintro a w ⟨v11, l12, hP13, rfl, hs, hM⟩
  have hm := hk15
  refine x_nt ?_
  refine wp_seq ?_
  refine wp_region_lit ?_
  refine wl hs (y_move hs rfl) rfl ?_; intro a hs
  refine wl hs (y_assign hs rfl) rfl ?_; intro a hs
  refine wpList_nil ?_
  refine x_nt ?_
  refine wp_ret ?_
  have hm : some l12 = some r := hm
  obtain rfl := Option.some.inj hm
  refine x_ret1 rfl hs rfl ⟨_, rfl, ?_⟩
  have hM : Mem W w [aInts 3 v11 l12] := (hM).rowOut hP13
  exact hM

theorem spec_LeastMean_any (v_p0 : Value) (p0 : List (List Int)) (W : World) (hr_p0 : RdM W v_p0 p0) {r : Int × Int × Bool} (hm : spec_LeastMean_m p0 = some r) : Calls Try.prog 33 [v_p0].toArray W fun e w => ∃ v, e = .returned v ∧ v = .tuple #[.agg #[.int .i64 r.1, .int .i64 r.2.1], .bool r.2.2] ∧ Mem W w [] := by
  refine x_enter Try.func33 rfl Try.ntmps33 rfl ?_
  intro a hs
  have hM := Mem.start W
  unfold spec_LeastMean_m at hm
  refine wp_seq ?_
  refine wp_region_lit ?_
  refine wmem hs (x_allocS sT_40 hM) rfl ?_; rintro a _ w hs ⟨g2, rfl, hM⟩
  have hM : Mem W w [aBlk g2 40 [.int .i64 0, .int .i64 0]] := hM
  refine wl hs (y_assign hs rfl) rfl ?_; intro a hs
  refine wpList_nil ?_
  refine x_nt ?_
  refine wp_seq ?_
  refine wp_seq ?_
  refine wp_region_lit ?_
  refine wl hs (y_move hs rfl) rfl ?_; intro a hs
  obtain ⟨y3, h4, hm⟩ := bindE hm
  refine wcall is_46 hs rfl rfl (spec_mxSquare_any v_p0 p0 _ (RdM.below hr_p0 hM.bel) h4) ?_; rintro a _ w hs ⟨rfl, hX⟩
  have hM : Mem W w [aBlk g2 40 [.int .i64 0, .int .i64 0]] := hM.call hX
  refine wl hs (y_not hs rfl) rfl ?_; intro a hs
  refine wl hs (y_move hs rfl) rfl ?_; intro a hs
  obtain ⟨b5, hb6, hm⟩ := bindE hm
  refine wlguard (N := 18) (L' := [(12, .bool b5), (0, v_p0), (2, .pointer (some ⟨g2, 0, none⟩))]) (fun w => Mem W w [aBlk g2 40 [.int .i64 0, .int .i64 0]]) 5 ?_ ?_
  · intro K; rcases Bool.eq_false_or_eq_true (!y3) with hg7 | hg7
    · have hm := condT hg7 hb6
      refine wls hs rfl hg7 rfl ?_; intro a hs
      refine wls hs rfl hg7 rfl ?_; intro a hs
      refine wls hs rfl hg7 rfl ?_; intro a hs
      refine wls hs rfl hg7 rfl ?_; intro a hs
      have hm : some true = some b5 := hm
      cases Option.some.inj hm
      refine wl hs (y_pickT hs rfl hg7 rfl) rfl ?_; intro a hs
      exact K _ _ (hs.sub ⟨rfl, rfl, rfl, trivial⟩) hM
    · have hm := condF hg7 hb6
      refine wlg hs rfl hg7 (y_move hs rfl) rfl ?_; intro a hs
      obtain ⟨y8, h9, hm⟩ := bindE hm
      refine wcallg is_77 hs rfl hg7 rfl rfl (spec_mnLeast_any v_p0 p0 _ (RdM.below hr_p0 hM.bel) h9) ?_; rintro a v10 w hs hX
      have hM : Mem W w [aInts 3 v10 y8, aBlk g2 40 [.int .i64 0, .int .i64 0]] := hM.call hX
      refine wlg hs rfl hg7 (y_len hu_I hs rfl (hM.rdI 0 rfl)) rfl ?_; intro a hs
      refine wlg hs rfl hg7 (y_eql hs rfl rfl) rfl ?_; intro a hs
      have hm : some ((y8.length : Int) == 0) = some b5 := hm
      cases Option.some.inj hm
      refine wl hs (y_pickF hs rfl hg7 rfl) rfl ?_; intro a hs
      exact K _ _ (hs.sub ⟨rfl, rfl, rfl, trivial⟩) hM.drop
  intro a w hs hM
  simp only [List.drop_succ_cons, List.drop_zero]
  refine wpList_nil ?_
  refine x_nt ?_
  refine x_cond hs rfl (fun hb => ?_) (fun hb => ?_)
  · replace hm := condT hb hm
    refine wp_seq ?_
    refine wp_region_lit ?_
    refine wl hs (y_build (cs := [.int .i64 0, .int .i64 0]) sT_40 hs rfl trivial rfl) rfl ?_; intro a hs
    refine wstore hs rfl rfl (x_storeS (cs := [.int .i64 0, .int .i64 0]) (us := [.int .i64 0, .int .i64 0]) sT_40 ⟨rfl, rfl, trivial⟩ rfl rfl (hM.front 0 rfl)) ?_; intro w hM
    have hM : Mem W w [aBlk g2 40 [.int .i64 0, .int .i64 0]] := hM
    refine wl hs (y_assign hs rfl) rfl ?_; intro a hs
    refine wpList_nil ?_
    refine x_nt ?_
    refine wp_ret ?_
    refine x_rt ?_
    have hm : some (0, 0, false) = some r := hm
    obtain rfl := Option.some.inj hm
    refine x_retR (rs := [.cell 2 40, .tmp 3]) (vs := [.agg #[.int .i64 0, .int .i64 0], .bool false]) rfl hs ⟨⟨_, rfl, loadS (cs := [.int .i64 0, .int .i64 0]) sT_40 (hM.heapBlk 0 rfl) rfl⟩, rfl, trivial⟩ ⟨_, rfl, ?_⟩
    exact ⟨rfl, hM.none_⟩
  · replace hm := condF hb hm
    refine wp_skip ?_
    refine x_nt ?_
    refine wp_seq ?_
    refine wp_region_lit ?_
    refine wl hs (y_move hs rfl) rfl ?_; intro a hs
    refine wl hs (y_move hs rfl) rfl ?_; intro a hs
    obtain ⟨y12, h13, hm⟩ := bindE hm
    refine wcall is_77 hs rfl rfl (spec_mnLeast_any v_p0 p0 _ (RdM.below hr_p0 hM.bel) h13) ?_; rintro a v14 w hs hX
    have hM : Mem W w [aInts 3 v14 y12, aBlk g2 40 [.int .i64 0, .int .i64 0]] := hM.call hX
    obtain ⟨y16, h17, hm⟩ := bindE hm
    refine wcall is_73 hs rfl rfl (spec_mnMean_any v_p0 p0 v14 y12 _ (RdM.below hr_p0 hM.bel) (hM.rdI 0 rfl) h17) ?_; rintro a _ w hs ⟨rfl, hX⟩
    have hM : Mem W w [aInts 3 v14 y12, aBlk g2 40 [.int .i64 0, .int .i64 0]] := hM.call hX
    refine wstore hs rfl rfl (x_storeS (cs := [.int .i64 0, .int .i64 0]) (us := [.int .i64 y16.1, .int .i64 y16.2]) sT_40 ⟨rfl, rfl, trivial⟩ rfl rfl (hM.front 1 rfl)) ?_; intro w hM
    have hM : Mem W w [aBlk g2 40 [.int .i64 y16.1, .int .i64 y16.2], aInts 3 v14 y12] := hM
    refine wl hs (y_assign hs rfl) rfl ?_; intro a hs
    refine wpList_nil ?_
    refine x_nt ?_
    refine wp_ret ?_
    have hm : some (y16.1, y16.2, true) = some r := hm
    obtain rfl := Option.some.inj hm
    refine x_retR (rs := [.cell 2 40, .tmp 3]) (vs := [.agg #[.int .i64 y16.1, .int .i64 y16.2], .bool true]) rfl hs ⟨⟨_, rfl, loadS (cs := [.int .i64 y16.1, .int .i64 y16.2]) sT_40 (hM.heapBlk 0 rfl) rfl⟩, rfl, trivial⟩ ⟨_, rfl, ?_⟩
    exact ⟨rfl, hM.none_⟩

theorem spec_LeastCircuit_any (v_p0 : Value) (p0 : List (List Int)) (W : World) (hr_p0 : RdM W v_p0 p0) {r : (List Int) × Bool} (hm : spec_LeastCircuit_m p0 = some r) : Calls Try.prog 35 [v_p0].toArray W fun e w => ∃ v, e = .returned v ∧ ∃ v0, v = .tuple #[v0, .bool r.2] ∧ Mem W w [aInts 3 v0 r.1] := by
  refine x_enter Try.func35 rfl Try.ntmps35 rfl ?_
  intro a hs
  have hM := Mem.start W
  unfold spec_LeastCircuit_m at hm
  refine wp_seq ?_
  refine wp_region_lit ?_
  refine wl hs (y_assign hs rfl) rfl ?_; intro a hs
  refine wl hs (y_assign hs rfl) rfl ?_; intro a hs
  refine wpList_nil ?_
  refine x_nt ?_
  refine wp_seq ?_
  refine wp_seq ?_
  refine wp_region_lit ?_
  refine wl hs (y_move hs rfl) rfl ?_; intro a hs
  obtain ⟨y1, h2, hm⟩ := bindE hm
  refine wcall is_46 hs rfl rfl (spec_mxSquare_any v_p0 p0 _ (RdM.below hr_p0 hM.bel) h2) ?_; rintro a _ w hs ⟨rfl, hX⟩
  have hM : Mem W w [] := hM.call hX
  refine wl hs (y_not hs rfl) rfl ?_; intro a hs
  refine wl hs (y_move hs rfl) rfl ?_; intro a hs
  obtain ⟨b3, hb4, hm⟩ := bindE hm
  refine wlguard (N := 15) (L' := [(12, .bool b3), (0, v_p0)]) (fun w => Mem W w []) 5 ?_ ?_
  · intro K; rcases Bool.eq_false_or_eq_true (!y1) with hg5 | hg5
    · have hm := condT hg5 hb4
      refine wls hs rfl hg5 rfl ?_; intro a hs
      refine wls hs rfl hg5 rfl ?_; intro a hs
      refine wls hs rfl hg5 rfl ?_; intro a hs
      refine wls hs rfl hg5 rfl ?_; intro a hs
      have hm : some true = some b3 := hm
      cases Option.some.inj hm
      refine wl hs (y_pickT hs rfl hg5 rfl) rfl ?_; intro a hs
      exact K _ _ (hs.sub ⟨rfl, rfl, trivial⟩) hM
    · have hm := condF hg5 hb4
      refine wlg hs rfl hg5 (y_move hs rfl) rfl ?_; intro a hs
      obtain ⟨y6, h7, hm⟩ := bindE hm
      refine wcallg is_77 hs rfl hg5 rfl rfl (spec_mnLeast_any v_p0 p0 _ (RdM.below hr_p0 hM.bel) h7) ?_; rintro a v8 w hs hX
      have hM : Mem W w [aInts 3 v8 y6] := hM.call hX
      refine wlg hs rfl hg5 (y_len hu_I hs rfl (hM.rdI 0 rfl)) rfl ?_; intro a hs
      refine wlg hs rfl hg5 (y_eql hs rfl rfl) rfl ?_; intro a hs
      have hm : some ((y6.length : Int) == 0) = some b3 := hm
      cases Option.some.inj hm
      refine wl hs (y_pickF hs rfl hg5 rfl) rfl ?_; intro a hs
      exact K _ _ (hs.sub ⟨rfl, rfl, trivial⟩) hM.none_
  intro a w hs hM
  simp only [List.drop_succ_cons, List.drop_zero]
  refine wpList_nil ?_
  refine x_nt ?_
  refine x_cond hs rfl (fun hb => ?_) (fun hb => ?_)
  · replace hm := condT hb hm
    refine wp_seq ?_
    refine wp_region_lit ?_
    refine wl hs (y_assign hs rfl) rfl ?_; intro a hs
    refine wl hs (y_assign hs rfl) rfl ?_; intro a hs
    refine wpList_nil ?_
    refine x_nt ?_
    refine wp_ret ?_
    refine x_rt ?_
    have hm : some ([], false) = some r := hm
    obtain rfl := Option.some.inj hm
    refine x_ret2 rfl hs rfl rfl ⟨_, rfl, ?_⟩
    have hM := hM.nilI 3
    exact ⟨_, rfl, hM⟩
  · replace hm := condF hb hm
    refine wp_skip ?_
    refine x_nt ?_
    refine wp_seq ?_
    refine wp_region_lit ?_
    refine wl hs (y_move hs rfl) rfl ?_; intro a hs
    obtain ⟨y11, h12, hm⟩ := bindE hm
    refine wcall is_77 hs rfl rfl (spec_mnLeast_any v_p0 p0 _ (RdM.below hr_p0 hM.bel) h12) ?_; rintro a v13 w hs hX
    have hM : Mem W w [aInts 3 v13 y11] := hM.call hX
    refine wl hs (y_assign hs rfl) rfl ?_; intro a hs
    refine wl hs (y_assign hs rfl) rfl ?_; intro a hs
    refine wpList_nil ?_
    refine x_nt ?_
    refine wp_ret ?_
    have hm : some (y11, true) = some r := hm
    obtain rfl := Option.some.inj hm
    refine x_ret2 rfl hs rfl rfl ⟨_, rfl, ?_⟩
    exact ⟨_, rfl, hM⟩

set_option maxHeartbeats 4000000 in
theorem spec_mnCritical_any (v_p0 : Value) (p0 : List (List Int)) (W : World) (hr_p0 : RdM W v_p0 p0) {r : List Int} (hm : spec_mnCritical_m p0 = some r) : Calls Try.prog 85 [v_p0].toArray W fun e w => ∃ v, e = .returned v ∧ Mem W w [aInts 3 v r] := by
  refine x_enter Try.func85 rfl Try.ntmps85 rfl ?_
  intro a hs
  have hM := Mem.start W
  unfold spec_mnCritical_m at hm
  refine wp_seq ?_
  refine wp_region_lit ?_
  refine wl hs (y_assign hs rfl) rfl ?_; intro a hs
  refine wpList_nil ?_
  refine x_nt ?_
  refine wp_seq ?_
  refine wp_region_lit ?_
  refine wl hs (y_assign hs rfl) rfl ?_; intro a hs
  have hM := hM.nilI 3
  refine wpList_nil ?_
  refine x_nt ?_
  refine wp_seq ?_
  refine wp_region_lit ?_
  refine wl hs (y_move hs rfl) rfl ?_; intro a hs
  obtain ⟨y2, h3, hm⟩ := bindE hm
  refine wcall is_77 hs rfl rfl (spec_mnLeast_any v_p0 p0 _ (RdM.below hr_p0 hM.bel) h3) ?_; rintro a v4 w hs hX
  have hM : Mem W w [aInts 3 v4 y2, aInts 3 (.slice none 0 0) ([])] := hM.call hX
  refine wl hs (y_assign hs rfl) rfl ?_; intro a hs
  refine wpList_nil ?_
  refine x_nt ?_
  refine wp_seq ?_
  refine wp_seq ?_
  refine wp_region_lit ?_
  refine wl hs (y_move hs rfl) rfl ?_; intro a hs
  obtain ⟨y6, h7, hm⟩ := bindE hm
  refine wcall is_71 hs rfl rfl (spec_mnCircuits_any v_p0 p0 _ (RdM.below hr_p0 hM.bel) h7) ?_; rintro a v8 w hs ⟨vs10, hX⟩
  have hM : Mem W w [aMat 24 3 v8 vs10 y6, aInts 3 v4 y2, aInts 3 (.slice none 0 0) ([])] := hM.call hX
  refine wl hs (y_len hu_M hs rfl (hM.rdM 0 rfl)) rfl ?_; intro a hs
  refine wl hs (y_move hs rfl) rfl ?_; intro a hs
  refine wpList_nil ?_
  refine x_nt ?_
  obtain ⟨s16, hm, hk17⟩ := bindE hm
  refine x_mid (fun a w => ∃ (v14 : Value), ∃ (l15 : List Int), l15 = s16 ∧ Fr a 37 [(3, v14)] ∧ Mem W w [aInts 3 v14 l15]) ?_ ?_
  · refine wp_block ?_
    refine x_loop (fun k a w => ∃ (q18 : List (List Int)) (j11 : Nat) (v12 : Value) (l13 : List Int) , k = q18.length ∧ Fr a 37 [(0, v_p0), (3, v12), (4, v4), (12, v8), (13, .int .i64 (y6.length : Int)), (14, .int .i64 (j11 : Int))] ∧ Mem W w [aMat 24 3 v8 vs10 y6, aInts 3 v4 y2, aInts 3 v12 l13] ∧ spec_mnCritical_l1 p0 y2 q18 j11 l13 = some s16 ∧ List.drop j11 y6 = q18) _ ⟨y6, 0, (.slice none 0 0), [], rfl, hs.sub ⟨rfl, rfl, rfl, rfl, rfl, rfl, trivial⟩, hM, hm, rfl⟩ ?_
    rintro k a w ⟨q18, j11, v12, l13, rfl, hs, hM, hm, hj11⟩
    rcases q18 with _ | ⟨x19, q18⟩
    · rewrite [spec_mnCritical_l1] at hm
      refine wp_seq ?_
      refine wp_region_lit ?_
      refine wl hs (y_lss hs rfl rfl) rfl ?_; intro a hs
      refine wpList_nil ?_
      refine x_nt ?_
      refine wp_seq ?_
      refine x_condF hs rfl (drop_f hj11) ?_
      refine wp_exit ?_
      refine x_et ?_
      refine x_et ?_
      refine x_eb ?_
      have hm : some l13 = some s16 := hm
      exact ⟨v12, l13, Option.some.inj hm, hs.sub ⟨rfl, trivial⟩, hM.drop.drop⟩
    · rewrite [spec_mnCritical_l1] at hm
      have hx20 := drop_idx hj11
      have hsj11 := ck_succ hj11 (RdS.len (hM.rdM 0 rfl))
      refine wp_seq ?_
      refine wp_region_lit ?_
      refine wl hs (y_lss hs rfl rfl) rfl ?_; intro a hs
      refine wpList_nil ?_
      refine x_nt ?_
      refine wp_seq ?_
      refine x_condT hs rfl (drop_t hj11) ?_
      refine wp_skip ?_
      refine x_nt ?_
      refine wp_seq ?_
      refine wp_block ?_
      refine wp_seq ?_
      refine wp_region_lit ?_
      obtain ⟨u22, hv23, he21⟩ := hM.atM 0 rfl hx20
      refine wl hs (y_index ht_M hs rfl rfl he21) rfl ?_; intro a hs
      refine wl hs (y_load sc_I hs rfl he21.cell) rfl ?_; intro a hs
      refine wl hs (y_assign hs rfl) rfl ?_; intro a hs
      refine wpList_nil ?_
      refine x_nt ?_
      refine wp_seq ?_
      refine wp_region_lit ?_
      refine wl hs (y_move hs rfl) rfl ?_; intro a hs
      refine wl hs (y_move hs rfl) rfl ?_; intro a hs
      obtain ⟨y24, h25, hm⟩ := bindE hm
      refine wcall is_73 hs rfl rfl (spec_mnMean_any v_p0 p0 u22 x19 _ (RdM.below hr_p0 hM.bel) (hM.rdRow 0 rfl rfl hv23 (idx_spec hx20).2.2) h25) ?_; rintro a _ w hs ⟨rfl, hX⟩
      have hM : Mem W w [aMat 24 3 v8 vs10 y6, aInts 3 v4 y2, aInts 3 v12 l13] := hM.call hX
      refine wl hs (y_move hs rfl) rfl ?_; intro a hs
      refine wl hs (y_move hs rfl) rfl ?_; intro a hs
      obtain ⟨y26, h27, hm⟩ := bindE hm
      refine wcall is_73 hs rfl rfl (spec_mnMean_any v_p0 p0 v4 y2 _ (RdM.below hr_p0 hM.bel) (hM.rdI 1 rfl) h27) ?_; rintro a _ w hs ⟨rfl, hX⟩
      have hM : Mem W w [aMat 24 3 v8 vs10 y6, aInts 3 v4 y2, aInts 3 v12 l13] := hM.call hX
      refine wl hs (y_eqlS2 eqS_40 hs rfl rfl) rfl ?_; intro a hs
      refine wpList_nil ?_
      refine x_nt ?_
      refine x_cond hs rfl (fun hb => ?_) (fun hb => ?_)
      · replace hm := condT hb hm
        refine wp_seq ?_
        refine wp_region_lit ?_
        refine wl hs (y_move hs rfl) rfl ?_; intro a hs
        refine wl hs (y_len hu_I hs rfl (hM.rdRow 0 rfl rfl hv23 (idx_spec hx20).2.2)) rfl ?_; intro a hs
        refine wl hs (y_move hs rfl) rfl ?_; intro a hs
        refine wpList_nil ?_
        refine x_nt ?_
        obtain ⟨s33, hm, hk34⟩ := bindE hm
        refine x_mid (fun a w => ∃ (v31 : Value), ∃ (l32 : List Int), l32 = s33 ∧ Fr a 37 [(0, v_p0), (3, v31), (4, v4), (12, v8), (13, .int .i64 (y6.length : Int)), (14, .int .i64 (j11 : Int))] ∧ Mem W w [aMat 24 3 v8 vs10 y6, aInts 3 v4 y2, aInts 3 v31 l32]) ?_ ?_
        · refine wp_block ?_
          refine x_loop (fun k a w => ∃ (q35 : List Int) (j28 : Nat) (v29 : Value) (l30 : List Int) , k = q35.length ∧ Fr a 37 [(0, v_p0), (3, v29), (4, v4), (12, v8), (13, .int .i64 (y6.length : Int)), (14, .int .i64 (j11 : Int)), (25, u22), (26, .int .i64 (x19.length : Int)), (27, .int .i64 (j28 : Int))] ∧ Mem W w [aMat 24 3 v8 vs10 y6, aInts 3 v4 y2, aInts 3 v29 l30] ∧ spec_mnCritical_l2 q35 j28 l30 = some s33 ∧ List.drop j28 x19 = q35) _ ⟨x19, 0, v12, l13, rfl, hs.sub ⟨rfl, rfl, rfl, rfl, rfl, rfl, rfl, rfl, rfl, trivial⟩, hM, hm, rfl⟩ ?_
          rintro k a w ⟨q35, j28, v29, l30, rfl, hs, hM, hm, hj28⟩
          rcases q35 with _ | ⟨x36, q35⟩
          · rewrite [spec_mnCritical_l2] at hm
            refine wp_seq ?_
            refine wp_region_lit ?_
            refine wl hs (y_lss hs rfl rfl) rfl ?_; intro a hs
            refine wpList_nil ?_
            refine x_nt ?_
            refine wp_seq ?_
            refine x_condF hs rfl (drop_f hj28) ?_
            refine wp_exit ?_
            refine x_et ?_
            refine x_et ?_
            refine x_eb ?_
            have hm : some l30 = some s33 := hm
            exact ⟨v29, l30, Option.some.inj hm, hs.sub ⟨rfl, rfl, rfl, rfl, rfl, rfl, trivial⟩, hM⟩
          · rewrite [spec_mnCritical_l2] at hm
            have hx37 := drop_idx hj28
            have hsj28 := ck_succ hj28 (RdS.len (hM.rdRow 0 rfl rfl hv23 (idx_spec hx20).2.2))
            refine wp_seq ?_
            refine wp_region_lit ?_
            refine wl hs (y_lss hs rfl rfl) rfl ?_; intro a hs
            refine wpList_nil ?_
            refine x_nt ?_
            refine wp_seq ?_
            refine x_condT hs rfl (drop_t hj28) ?_
            refine wp_skip ?_
            refine x_nt ?_
            refine wp_seq ?_
            refine wp_block ?_
            refine wp_seq ?_
            refine wp_region_lit ?_
            have he38 := RdI.at_ (hM.rdRow 0 rfl rfl hv23 (idx_spec hx20).2.2) hx37
            refine wl hs (y_index ht_I hs rfl rfl he38) rfl ?_; intro a hs
            refine wl hs (y_load sc_int hs rfl he38.cell) rfl ?_; intro a hs
            refine wl hs (y_assign hs rfl) rfl ?_; intro a hs
            refine wpList_nil ?_
            refine x_nt ?_
            refine wp_region_lit ?_
            refine wl hs (y_move hs rfl) rfl ?_; intro a hs
            refine wl hs (y_move hs rfl) rfl ?_; intro a hs
            obtain ⟨y39, h40, hm⟩ := bindE hm
            refine wcall is_115 hs rfl rfl (spec_l1Put_any v29 l30 x36 _ _ _  (((hM.front 1 rfl).front 1 rfl).front 2 rfl) h40) ?_; rintro a v41 w hs hM
            have hM : Mem W w [aInts 3 v41 y39, aMat 24 3 v8 vs10 y6, aInts 3 v4 y2] := hM
            refine wl hs (y_assign hs rfl) rfl ?_; intro a hs
            refine wpList_nil ?_
            refine x_nb ?_
            refine x_nt ?_
            refine wp_region_lit ?_
            refine wl hs (y_add hs rfl rfl hsj28) rfl ?_; intro a hs
            refine wl hs (y_move hs rfl) rfl ?_; intro a hs
            refine wpList_nil ?_
            exact ⟨_, by simp, q35, j28 + 1, v41, y39, rfl, hs.sub ⟨rfl, rfl, rfl, rfl, rfl, rfl, rfl, rfl, rfl, trivial⟩, ((hM.front 2 rfl).front 2 rfl), hm, drop_next hj28⟩
        rintro a w ⟨v31, l32, rfl, hs, hM⟩
        have hm := hk34
        refine x_nb ?_
        refine x_nt ?_
        refine wp_region_lit ?_
        refine wl hs (y_add hs rfl rfl hsj11) rfl ?_; intro a hs
        refine wl hs (y_move hs rfl) rfl ?_; intro a hs
        refine wpList_nil ?_
        exact ⟨_, by simp, q18, j11 + 1, v31, l32, rfl, hs.sub ⟨rfl, rfl, rfl, rfl, rfl, rfl, trivial⟩, hM, hm, drop_next hj11⟩
      · replace hm := condF hb hm
        refine wp_skip ?_
        refine x_nb ?_
        refine x_nt ?_
        refine wp_region_lit ?_
        refine wl hs (y_add hs rfl rfl hsj11) rfl ?_; intro a hs
        refine wl hs (y_move hs rfl) rfl ?_; intro a hs
        refine wpList_nil ?_
        exact ⟨_, by simp, q18, j11 + 1, v12, l13, rfl, hs.sub ⟨rfl, rfl, rfl, rfl, rfl, rfl, trivial⟩, hM, hm, drop_next hj11⟩
  rintro a w ⟨v14, l15, rfl, hs, hM⟩
  have hm := hk17
  refine x_nt ?_
  refine wp_seq ?_
  refine wp_region_lit ?_
  refine wl hs (y_move hs rfl) rfl ?_; intro a hs
  refine wl hs (y_assign hs rfl) rfl ?_; intro a hs
  refine wpList_nil ?_
  refine x_nt ?_
  refine wp_ret ?_
  have hm : some l15 = some r := hm
  obtain rfl := Option.some.inj hm
  refine x_ret1 rfl hs rfl ⟨_, rfl, ?_⟩
  exact hM

theorem spec_CriticalNodes_any (v_p0 : Value) (p0 : List (List Int)) (W : World) (hr_p0 : RdM W v_p0 p0) {r : (List Int) × Bool} (hm : spec_CriticalNodes_m p0 = some r) : Calls Try.prog 39 [v_p0].toArray W fun e w => ∃ v, e = .returned v ∧ ∃ v0, v = .tuple #[v0, .bool r.2] ∧ Mem W w [aInts 3 v0 r.1] := by
  refine x_enter Try.func39 rfl Try.ntmps39 rfl ?_
  intro a hs
  have hM := Mem.start W
  unfold spec_CriticalNodes_m at hm
  refine wp_seq ?_
  refine wp_region_lit ?_
  refine wl hs (y_assign hs rfl) rfl ?_; intro a hs
  refine wl hs (y_assign hs rfl) rfl ?_; intro a hs
  refine wpList_nil ?_
  refine x_nt ?_
  refine wp_seq ?_
  refine wp_seq ?_
  refine wp_region_lit ?_
  refine wl hs (y_move hs rfl) rfl ?_; intro a hs
  obtain ⟨y1, h2, hm⟩ := bindE hm
  refine wcall is_46 hs rfl rfl (spec_mxSquare_any v_p0 p0 _ (RdM.below hr_p0 hM.bel) h2) ?_; rintro a _ w hs ⟨rfl, hX⟩
  have hM : Mem W w [] := hM.call hX
  refine wl hs (y_not hs rfl) rfl ?_; intro a hs
  refine wpList_nil ?_
  refine x_nt ?_
  refine x_cond hs rfl (fun hb => ?_) (fun hb => ?_)
  · replace hm := condT hb hm
    refine wp_seq ?_
    refine wp_region_lit ?_
    refine wl hs (y_assign hs rfl) rfl ?_; intro a hs
    refine wl hs (y_assign hs rfl) rfl ?_; intro a hs
    refine wpList_nil ?_
    refine x_nt ?_
    refine wp_ret ?_
    refine x_rt ?_
    have hm : some ([], false) = some r := hm
    obtain rfl := Option.some.inj hm
    refine x_ret2 rfl hs rfl rfl ⟨_, rfl, ?_⟩
    have hM := hM.nilI 3
    exact ⟨_, rfl, hM⟩
  · replace hm := condF hb hm
    refine wp_skip ?_
    refine x_nt ?_
    refine wp_seq ?_
    refine wp_region_lit ?_
    refine wl hs (y_move hs rfl) rfl ?_; intro a hs
    obtain ⟨y4, h5, hm⟩ := bindE hm
    refine wcall is_85 hs rfl rfl (spec_mnCritical_any v_p0 p0 _ (RdM.below hr_p0 hM.bel) h5) ?_; rintro a v6 w hs hX
    have hM : Mem W w [aInts 3 v6 y4] := hM.call hX
    refine wl hs (y_assign hs rfl) rfl ?_; intro a hs
    refine wl hs (y_assign hs rfl) rfl ?_; intro a hs
    refine wpList_nil ?_
    refine x_nt ?_
    refine wp_ret ?_
    have hm : some (y4, true) = some r := hm
    obtain rfl := Option.some.inj hm
    refine x_ret2 rfl hs rfl rfl ⟨_, rfl, ?_⟩
    exact ⟨_, rfl, hM⟩

set_option maxHeartbeats 4000000 in
theorem spec_CircuitMean_any (v_p0 : Value) (p0 : List (List Int)) (v_p1 : Value) (p1 : List Int) (W : World) (hr_p0 : RdM W v_p0 p0) (hr_p1 : RdI W v_p1 p1) {r : Int × Int × Bool} (hm : spec_CircuitMean_m p0 p1 = some r) : Calls Try.prog 30 [v_p0, v_p1].toArray W fun e w => ∃ v, e = .returned v ∧ v = .tuple #[.agg #[.int .i64 r.1, .int .i64 r.2.1], .bool r.2.2] ∧ Mem W w [] := by
  refine x_enter Try.func30 rfl Try.ntmps30 rfl ?_
  intro a hs
  have hM := Mem.start W
  unfold spec_CircuitMean_m at hm
  refine wp_seq ?_
  refine wp_region_lit ?_
  refine wmem hs (x_allocS sT_40 hM) rfl ?_; rintro a _ w hs ⟨g2, rfl, hM⟩
  have hM : Mem W w [aBlk g2 40 [.int .i64 0, .int .i64 0]] := hM
  refine wl hs (y_assign hs rfl) rfl ?_; intro a hs
  refine wpList_nil ?_
  refine x_nt ?_
  refine wp_seq ?_
  refine wp_seq ?_
  refine wp_region_lit ?_
  refine wl hs (y_move hs rfl) rfl ?_; intro a hs
  obtain ⟨y3, h4, hm⟩ := bindE hm
  refine wcall is_46 hs rfl rfl (spec_mxSquare_any v_p0 p0 _ (RdM.below hr_p0 hM.bel) h4) ?_; rintro a _ w hs ⟨rfl, hX⟩
  have hM : Mem W w [aBlk g2 40 [.int .i64 0, .int .i64 0]] := hM.call hX
  refine wl hs (y_not hs rfl) rfl ?_; intro a hs
  refine wpList_nil ?_
  refine x_nt ?_
  refine x_cond hs rfl (fun hb => ?_) (fun hb => ?_)
  · replace hm := condT hb hm
    refine wp_seq ?_
    refine wp_region_lit ?_
    refine wl hs (y_build (cs := [.int .i64 0, .int .i64 0]) sT_40 hs rfl trivial rfl) rfl ?_; intro a hs
    refine wstore hs rfl rfl (x_storeS (cs := [.int .i64 0, .int .i64 0]) (us := [.int .i64 0, .int .i64 0]) sT_40 ⟨rfl, rfl, trivial⟩ rfl rfl (hM.front 0 rfl)) ?_; intro w hM
    have hM : Mem W w [aBlk g2 40 [.int .i64 0, .int .i64 0]] := hM
    refine wl hs (y_assign hs rfl) rfl ?_; intro a hs
    refine wpList_nil ?_
    refine x_nt ?_
    refine wp_ret ?_
    refine x_rt ?_
    have hm : some (0, 0, false) = some r := hm
    obtain rfl := Option.some.inj hm
    refine x_retR (rs := [.cell 4 40, .tmp 5]) (vs := [.agg #[.int .i64 0, .int .i64 0], .bool false]) rfl hs ⟨⟨_, rfl, loadS (cs := [.int .i64 0, .int .i64 0]) sT_40 (hM.heapBlk 0 rfl) rfl⟩, rfl, trivial⟩ ⟨_, rfl, ?_⟩
    exact ⟨rfl, hM.none_⟩
  · replace hm := condF hb hm
    refine wp_skip ?_
    refine x_nt ?_
    refine wp_seq ?_
    refine wp_seq ?_
    refine wp_region_lit ?_
    refine wl hs (y_move hs rfl) rfl ?_; intro a hs
    obtain ⟨y5, h6, hm⟩ := bindE hm
    refine wcall is_71 hs rfl rfl (spec_mnCircuits_any v_p0 p0 _ (RdM.below hr_p0 hM.bel) h6) ?_; rintro a v7 w hs ⟨vs9, hX⟩
    have hM : Mem W w [aMat 24 3 v7 vs9 y5, aBlk g2 40 [.int .i64 0, .int .i64 0]] := hM.call hX
    refine wl hs (y_len hu_M hs rfl (hM.rdM 0 rfl)) rfl ?_; intro a hs
    refine wl hs (y_move hs rfl) rfl ?_; intro a hs
    refine wpList_nil ?_
    refine x_nt ?_
    obtain ⟨s11, hm, hk12⟩ := bindE hm
    refine x_mid (fun a w => Sum.inr () = s11 ∧ Fr a 27 [(4, .pointer (some ⟨g2, 0, none⟩))] ∧ Mem W w [aBlk g2 40 [.int .i64 0, .int .i64 0]]) ?_ ?_
    · refine wp_block ?_
      refine x_loop (fun k a w => ∃ (q13 : List (List Int)) (j10 : Nat) , k = q13.length ∧ Fr a 27 [(0, v_p0), (1, v_p1), (4, .pointer (some ⟨g2, 0, none⟩)), (13, v7), (14, .int .i64 (y5.length : Int)), (15, .int .i64 (j10 : Int))] ∧ Mem W w [aMat 24 3 v7 vs9 y5, aBlk g2 40 [.int .i64 0, .int .i64 0]] ∧ spec_CircuitMean_l1 p0 p1 q13 j10 = some s11 ∧ List.drop j10 y5 = q13) _ ⟨y5, 0, rfl, hs.sub ⟨rfl, rfl, rfl, rfl, rfl, rfl, trivial⟩, hM, hm, rfl⟩ ?_
      rintro k a w ⟨q13, j10, rfl, hs, hM, hm, hj10⟩
      rcases q13 with _ | ⟨x14, q13⟩
      · rewrite [spec_CircuitMean_l1] at hm
        refine wp_seq ?_
        refine wp_region_lit ?_
        refine wl hs (y_lss hs rfl rfl) rfl ?_; intro a hs
        refine wpList_nil ?_
        refine x_nt ?_
        refine wp_seq ?_
        refine x_condF hs rfl (drop_f hj10) ?_
        refine wp_exit ?_
        refine x_et ?_
        refine x_et ?_
        refine x_eb ?_
        have hm : some (Sum.inr ()) = some s11 := hm
        exact ⟨Option.some.inj hm, hs.sub ⟨rfl, trivial⟩, hM.drop⟩
      · rewrite [spec_CircuitMean_l1] at hm
        have hx15 := drop_idx hj10
        have hsj10 := ck_succ hj10 (RdS.len (hM.rdM 0 rfl))
        refine wp_seq ?_
        refine wp_region_lit ?_
        refine wl hs (y_lss hs rfl rfl) rfl ?_; intro a hs
        refine wpList_nil ?_
        refine x_nt ?_
        refine wp_seq ?_
        refine x_condT hs rfl (drop_t hj10) ?_
        refine wp_skip ?_
        refine x_nt ?_
        refine wp_seq ?_
        refine wp_block ?_
        refine wp_seq ?_
        refine wp_region_lit ?_
        obtain ⟨u17, hv18, he16⟩ := hM.atM 0 rfl hx15
        refine wl hs (y_index ht_M hs rfl rfl he16) rfl ?_; intro a hs
        refine wl hs (y_load sc_I hs rfl he16.cell) rfl ?_; intro a hs
        refine wl hs (y_assign hs rfl) rfl ?_; intro a hs
        refine wpList_nil ?_
        refine x_nt ?_
        refine wp_seq ?_
        refine wp_region_lit ?_
        refine wl hs (y_move hs rfl) rfl ?_; intro a hs
        refine wl hs (y_move hs rfl) rfl ?_; intro a hs
        obtain ⟨y19, h20, hm⟩ := bindE hm
        refine wcall is_72 hs rfl rfl (spec_l1Same_any u17 x14 v_p1 p1 _ (hM.rdRow 0 rfl rfl hv18 (idx_spec hx15).2.2) (RdI.below hr_p1 hM.bel) h20) ?_; rintro a _ w hs ⟨rfl, hX⟩
        have hM : Mem W w [aMat 24 3 v7 vs9 y5, aBlk g2 40 [.int .i64 0, .int .i64 0]] := hM.call hX
        refine wpList_nil ?_
        refine x_nt ?_
        refine x_cond hs rfl (fun hb => ?_) (fun hb => ?_)
        · replace hm := condT hb hm
          refine wp_seq ?_
          refine wp_region_lit ?_
          refine wl hs (y_move hs rfl) rfl ?_; intro a hs
          refine wl hs (y_move hs rfl) rfl ?_; intro a hs
          obtain ⟨y21, h22, hm⟩ := bindE hm
          refine wcall is_73 hs rfl rfl (spec_mnMean_any v_p0 p0 u17 x14 _ (RdM.below hr_p0 hM.bel) (hM.rdRow 0 rfl rfl hv18 (idx_spec hx15).2.2) h22) ?_; rintro a _ w hs ⟨rfl, hX⟩
          have hM : Mem W w [aMat 24 3 v7 vs9 y5, aBlk g2 40 [.int .i64 0, .int .i64 0]] := hM.call hX
          refine wstore hs rfl rfl (x_storeS (cs := [.int .i64 0, .int .i64 0]) (us := [.int .i64 y21.1, .int .i64 y21.2]) sT_40 ⟨rfl, rfl, trivial⟩ rfl rfl (hM.front 1 rfl)) ?_; intro w hM
          have hM : Mem W w [aBlk g2 40 [.int .i64 y21.1, .int .i64 y21.2], aMat 24 3 v7 vs9 y5] := hM
          refine wl hs (y_assign hs rfl) rfl ?_; intro a hs
          refine wpList_nil ?_
          refine x_nt ?_
          refine wp_ret ?_
          refine x_rb ?_
          refine x_rt ?_
          refine x_rt ?_
          refine x_rb ?_
          refine x_rt ?_
          refine x_rt ?_
          have hm : some (Sum.inl (y21.1, y21.2, true)) = some s11 := hm
          cases Option.some.inj hm
          have hm := hk12
          have hm : some (y21.1, y21.2, true) = some r := hm
          obtain rfl := Option.some.inj hm
          refine x_retR (rs := [.cell 4 40, .tmp 5]) (vs := [.agg #[.int .i64 y21.1, .int .i64 y21.2], .bool true]) rfl hs ⟨⟨_, rfl, loadS (cs := [.int .i64 y21.1, .int .i64 y21.2]) sT_40 (hM.heapBlk 0 rfl) rfl⟩, rfl, trivial⟩ ⟨_, rfl, ?_⟩
          exact ⟨rfl, hM.none_⟩
        · replace hm := condF hb hm
          refine wp_skip ?_
          refine x_nb ?_
          refine x_nt ?_
          refine wp_region_lit ?_
          refine wl hs (y_add hs rfl rfl hsj10) rfl ?_; intro a hs
          refine wl hs (y_move hs rfl) rfl ?_; intro a hs
          refine wpList_nil ?_
          exact ⟨_, by simp, q13, j10 + 1, rfl, hs.sub ⟨rfl, rfl, rfl, rfl, rfl, rfl, trivial⟩, hM, hm, drop_next hj10⟩
    rintro a w ⟨rfl, hs, hM⟩
    have hm := hk12
    refine x_nt ?_
    refine wp_seq ?_
    refine wp_region_lit ?_
    refine wl hs (y_build (cs := [.int .i64 0, .int .i64 0]) sT_40 hs rfl trivial rfl) rfl ?_; intro a hs
    refine wstore hs rfl rfl (x_storeS (cs := [.int .i64 0, .int .i64 0]) (us := [.int .i64 0, .int .i64 0]) sT_40 ⟨rfl, rfl, trivial⟩ rfl rfl (hM.front 0 rfl)) ?_; intro w hM
    have hM : Mem W w [aBlk g2 40 [.int .i64 0, .int .i64 0]] := hM
    refine wl hs (y_assign hs rfl) rfl ?_; intro a hs
    refine wpList_nil ?_
    refine x_nt ?_
    refine wp_ret ?_
    have hm : some (0, 0, false) = some r := hm
    obtain rfl := Option.some.inj hm
    refine x_retR (rs := [.cell 4 40, .tmp 5]) (vs := [.agg #[.int .i64 0, .int .i64 0], .bool false]) rfl hs ⟨⟨_, rfl, loadS (cs := [.int .i64 0, .int .i64 0]) sT_40 (hM.heapBlk 0 rfl) rfl⟩, rfl, trivial⟩ ⟨_, rfl, ?_⟩
    exact ⟨rfl, hM.none_⟩

end Go.Proofs.Ytjhaealoneennaa
