/- The code of this unit computes what its mirrors say. Written by program (wip/gen). -/
import Derived.Test.YtnnhbkhlipekeaaFacts
import Derived.Test.YtnnhbkhlipekeaaAspM
import Derived.Test.YtnnhbkhlipekeaaMatW
import Derived.Test.YtnnhbkhlipekeaaAsnW
namespace Go.Proofs.Ytnnhbkhlipekeaa
open Go.RowKit
set_option linter.unusedVariables false

set_option maxHeartbeats 4000000 in
theorem impl_rowPrices_any (v_p0 : Value) (p0 : List (List Int)) (v_p1 : Value) (p1 : List Int) (W : World) (hr_p0 : RdM W v_p0 p0) (hr_p1 : RdI W v_p1 p1) {r : List Int} (hm : impl_rowPrices_m p0 p1 = some r) : Calls Try.prog 78 [v_p0, v_p1].toArray W fun e w => ∃ v, e = .returned v ∧ Mem W w [aInts 3 v r] := by
  refine x_enter Try.func78 rfl Try.ntmps78 rfl ?_
  intro a hs
  have hM := Mem.start W
  unfold impl_rowPrices_m at hm
  refine wp_seq ?_
  refine wp_region_lit ?_
  refine wl hs (y_assign hs rfl) rfl ?_; intro a hs
  refine wpList_nil ?_
  refine x_nt ?_
  refine wp_seq ?_
  refine wp_region_lit ?_
  refine wl hs (y_move hs rfl) rfl ?_; intro a hs
  refine wl hs (y_len hu_M hs rfl (RdM.below hr_p0 hM.bel)) rfl ?_; intro a hs
  obtain ⟨_, h3, hm⟩ := bindE hm
  refine wmem hs (x_makeI hu_I he_int hs rfl hM h3) rfl ?_; intro a v2 w hs hM
  have hM : Mem W w [aInts 3 v2 (List.replicate ((p0.length : Int)).toNat (0 : Int))] := hM
  refine wl hs (y_assign hs rfl) rfl ?_; intro a hs
  refine wpList_nil ?_
  refine x_nt ?_
  refine wp_seq ?_
  refine wp_seq ?_
  refine wp_region_lit ?_
  refine wl hs (y_move hs rfl) rfl ?_; intro a hs
  refine wl hs (y_len hu_M hs rfl (RdM.below hr_p0 hM.bel)) rfl ?_; intro a hs
  refine wl hs (y_move hs rfl) rfl ?_; intro a hs
  refine wpList_nil ?_
  refine x_nt ?_
  obtain ⟨s7, hm, hk8⟩ := bindE hm
  refine x_mid (fun a w => ∃ (l6 : List Int), l6 = s7 ∧ Fr a 68 [(5, v2)] ∧ Mem W w [aInts 3 v2 l6]) ?_ ?_
  · refine wp_block ?_
    refine x_loop (fun k a w => ∃ (q9 : List (List Int)) (j4 : Nat) (l5 : List Int) , k = q9.length ∧ Fr a 68 [(0, v_p0), (1, v_p1), (5, v2), (13, .int .i64 (p0.length : Int)), (14, .int .i64 (j4 : Int))] ∧ Mem W w [aInts 3 v2 l5] ∧ impl_rowPrices_l1 p0 p1 q9 j4 l5 = some s7 ∧ List.drop j4 p0 = q9) _ ⟨p0, 0, (List.replicate ((p0.length : Int)).toNat (0 : Int)), rfl, hs.sub ⟨rfl, rfl, rfl, rfl, rfl, trivial⟩, hM, hm, rfl⟩ ?_
    rintro k a w ⟨q9, j4, l5, rfl, hs, hM, hm, hj⟩
    rcases q9 with _ | ⟨x10, q9⟩
    · rewrite [impl_rowPrices_l1] at hm
      refine wp_seq ?_
      refine wp_region_lit ?_
      refine wl hs (y_lss hs rfl rfl) rfl ?_; intro a hs
      refine wpList_nil ?_
      refine x_nt ?_
      refine wp_seq ?_
      refine x_condF hs rfl (drop_f hj) ?_
      refine wp_exit ?_
      refine x_et ?_
      refine x_et ?_
      refine x_eb ?_
      have hm : some l5 = some s7 := hm
      exact ⟨l5, Option.some.inj hm, hs.sub ⟨rfl, trivial⟩, hM⟩
    · rewrite [impl_rowPrices_l1] at hm
      have hx11 := drop_idx hj
      have hjs := ck_succ hj (RdS.len (RdM.below hr_p0 hM.bel))
      refine wp_seq ?_
      refine wp_region_lit ?_
      refine wl hs (y_lss hs rfl rfl) rfl ?_; intro a hs
      refine wpList_nil ?_
      refine x_nt ?_
      refine wp_seq ?_
      refine x_condT hs rfl (drop_t hj) ?_
      refine wp_skip ?_
      refine x_nt ?_
      refine wp_seq ?_
      refine wp_block ?_
      refine wp_seq ?_
      refine wp_region_lit ?_
      refine wl hs (y_move hs rfl) rfl ?_; intro a hs
      refine wl hs (y_len hu_I hs rfl (RdI.below hr_p1 hM.bel)) rfl ?_; intro a hs
      refine wl hs (y_move hs rfl) rfl ?_; intro a hs
      refine wpList_nil ?_
      refine x_nt ?_
      obtain ⟨s15, hm, hk16⟩ := bindE hm
      refine x_mid (fun a w => ∃ (l14 : List Int), l14 = s15 ∧ Fr a 68 [(0, v_p0), (1, v_p1), (5, v2), (13, .int .i64 (p0.length : Int)), (14, .int .i64 (j4 : Int))] ∧ Mem W w [aInts 3 v2 l14]) ?_ ?_
      · refine wp_block ?_
        refine x_loop (fun k a w => ∃ (q17 : List Int) (j12 : Nat) (l13 : List Int) , k = q17.length ∧ Fr a 68 [(0, v_p0), (1, v_p1), (5, v2), (13, .int .i64 (p0.length : Int)), (14, .int .i64 (j4 : Int)), (16, v_p1), (17, .int .i64 (p1.length : Int)), (18, .int .i64 (j12 : Int))] ∧ Mem W w [aInts 3 v2 l13] ∧ impl_rowPrices_l2 p0 q17 j12 l13 = some s15 ∧ List.drop j12 p1 = q17) _ ⟨p1, 0, l5, rfl, hs.sub ⟨rfl, rfl, rfl, rfl, rfl, rfl, rfl, rfl, trivial⟩, hM, hm, rfl⟩ ?_
        rintro k a w ⟨q17, j12, l13, rfl, hs, hM, hm, hj⟩
        rcases q17 with _ | ⟨x18, q17⟩
        · rewrite [impl_rowPrices_l2] at hm
          refine wp_seq ?_
          refine wp_region_lit ?_
          refine wl hs (y_lss hs rfl rfl) rfl ?_; intro a hs
          refine wpList_nil ?_
          refine x_nt ?_
          refine wp_seq ?_
          refine x_condF hs rfl (drop_f hj) ?_
          refine wp_exit ?_
          refine x_et ?_
          refine x_et ?_
          refine x_eb ?_
          have hm : some l13 = some s15 := hm
          exact ⟨l13, Option.some.inj hm, hs.sub ⟨rfl, rfl, rfl, rfl, rfl, trivial⟩, hM⟩
        · rewrite [impl_rowPrices_l2] at hm
          have hx19 := drop_idx hj
          have hjs := ck_succ hj (RdS.len (RdI.below hr_p1 hM.bel))
          refine wp_seq ?_
          refine wp_region_lit ?_
          refine wl hs (y_lss hs rfl rfl) rfl ?_; intro a hs
          refine wpList_nil ?_
          refine x_nt ?_
          refine wp_seq ?_
          refine x_condT hs rfl (drop_t hj) ?_
          refine wp_skip ?_
          refine x_nt ?_
          refine wp_seq ?_
          refine wp_block ?_
          refine wp_seq ?_
          refine wp_region_lit ?_
          refine wl hs (y_move hs rfl) rfl ?_; intro a hs
          have he20 := RdI.at_ (RdI.below hr_p1 hM.bel) hx19
          refine wl hs (y_index ht_I hs rfl rfl he20) rfl ?_; intro a hs
          refine wl hs (y_load sc_int hs rfl he20.cell) rfl ?_; intro a hs
          refine wl hs (y_assign hs rfl) rfl ?_; intro a hs
          refine wl hs (y_assign hs rfl) rfl ?_; intro a hs
          refine wpList_nil ?_
          refine x_nt ?_
          refine wp_seq ?_
          refine wp_region_lit ?_
          refine wl hs (y_move hs rfl) rfl ?_; intro a hs
          refine wl hs (y_len hu_M hs rfl (RdM.below hr_p0 hM.bel)) rfl ?_; intro a hs
          refine wl hs (y_move hs rfl) rfl ?_; intro a hs
          refine wpList_nil ?_
          refine x_nt ?_
          obtain ⟨s24, hm, hk25⟩ := bindE hm
          refine x_mid (fun a w => ∃ (l23 : List Int), l23 = s24 ∧ Fr a 68 [(0, v_p0), (1, v_p1), (5, v2), (13, .int .i64 (p0.length : Int)), (14, .int .i64 (j4 : Int)), (16, v_p1), (17, .int .i64 (p1.length : Int)), (18, .int .i64 (j12 : Int))] ∧ Mem W w [aInts 3 v2 l23]) ?_ ?_
          · refine wp_block ?_
            refine x_loop (fun k a w => ∃ (q26 : List (List Int)) (j21 : Nat) (l22 : List Int) , k = q26.length ∧ Fr a 68 [(0, v_p0), (1, v_p1), (5, v2), (6, .int .i64 (j12 : Int)), (7, .int .i64 x18), (13, .int .i64 (p0.length : Int)), (14, .int .i64 (j4 : Int)), (16, v_p1), (17, .int .i64 (p1.length : Int)), (18, .int .i64 (j12 : Int)), (24, .int .i64 (p0.length : Int)), (25, .int .i64 (j21 : Int))] ∧ Mem W w [aInts 3 v2 l22] ∧ impl_rowPrices_l3 p0 j12 x18 q26 j21 l22 = some s24 ∧ List.drop j21 p0 = q26) _ ⟨p0, 0, l13, rfl, hs.sub ⟨rfl, rfl, rfl, rfl, rfl, rfl, rfl, rfl, rfl, rfl, rfl, rfl, trivial⟩, hM, hm, rfl⟩ ?_
            rintro k a w ⟨q26, j21, l22, rfl, hs, hM, hm, hj⟩
            rcases q26 with _ | ⟨x27, q26⟩
            · rewrite [impl_rowPrices_l3] at hm
              refine wp_seq ?_
              refine wp_region_lit ?_
              refine wl hs (y_lss hs rfl rfl) rfl ?_; intro a hs
              refine wpList_nil ?_
              refine x_nt ?_
              refine wp_seq ?_
              refine x_condF hs rfl (drop_f hj) ?_
              refine wp_exit ?_
              refine x_et ?_
              refine x_et ?_
              refine x_eb ?_
              have hm : some l22 = some s24 := hm
              exact ⟨l22, Option.some.inj hm, hs.sub ⟨rfl, rfl, rfl, rfl, rfl, rfl, rfl, rfl, trivial⟩, hM⟩
            · rewrite [impl_rowPrices_l3] at hm
              have hx28 := drop_idx hj
              have hjs := ck_succ hj (RdS.len (RdM.below hr_p0 hM.bel))
              refine wp_seq ?_
              refine wp_region_lit ?_
              refine wl hs (y_lss hs rfl rfl) rfl ?_; intro a hs
              refine wpList_nil ?_
              refine x_nt ?_
              refine wp_seq ?_
              refine x_condT hs rfl (drop_t hj) ?_
              refine wp_skip ?_
              refine x_nt ?_
              refine wp_seq ?_
              refine wp_block ?_
              refine wp_seq ?_
              refine wp_region_lit ?_
              refine wl hs (y_move hs rfl) rfl ?_; intro a hs
              refine wl hs (y_assign hs rfl) rfl ?_; intro a hs
              refine wpList_nil ?_
              refine x_nt ?_
              refine wp_seq ?_
              refine wp_region_lit ?_
              refine wl hs (y_move hs rfl) rfl ?_; intro a hs
              refine wl hs (y_move hs rfl) rfl ?_; intro a hs
              obtain ⟨u30, he29, hr31⟩ := RdM.at_ hr_p0 hx28
              replace he29 := he29.below hM.bel
              refine wl hs (y_index ht_M hs rfl rfl he29) rfl ?_; intro a hs
              refine wl hs (y_load sc_I hs rfl he29.cell) rfl ?_; intro a hs
              refine wl hs (y_move hs rfl) rfl ?_; intro a hs
              obtain ⟨x32, hx33, hm⟩ := bindE hm
              have he34 := RdI.at_ (RdI.below hr31 hM.bel) hx33
              refine wl hs (y_index ht_I hs rfl rfl he34) rfl ?_; intro a hs
              refine wl hs (y_load sc_int hs rfl he34.cell) rfl ?_; intro a hs
              refine wl hs (y_neq hs rfl rfl) rfl ?_; intro a hs
              refine wpList_nil ?_
              refine x_nt ?_
              refine x_cond hs rfl (fun hb => ?_) (fun hb => ?_)
              · replace hm := condT hb hm
                refine wc_start hmix [0, 1, 2, 3, 4, 5, 6, 7, 8, 9, 10, 11, 12, 13, 14, 15, 16, 17, 18, 19, 20, 21, 22, 23, 24, 25, 26, 27] (fun w => Mem W w [aInts 3 v2 l22]) (by rfl) ?_
                refine wc (i := 0) (fuel := 28) rfl (by kernel_rfl) (fun w w2 hS hE => hS.quiet hE) hM hs (fun w1 hS => y_move hs rfl) rfl ?_; intro a hs
                refine wc (i := 1) (fuel := 27) rfl (by kernel_rfl) (fun w w2 hS hE => hS.quiet hE) hM hs (fun w1 hS => y_move hs rfl) rfl ?_; intro a hs
                refine wc (i := 2) (fuel := 26) rfl (by kernel_rfl) (fun w w2 hS hE => hS.quiet hE) hM hs (fun w1 hS => y_move hs rfl) rfl ?_; intro a hs
                refine wc (i := 3) (fuel := 25) rfl (by kernel_rfl) (fun w w2 hS hE => hS.quiet hE) hM hs (fun w1 hS => y_move hs rfl) rfl ?_; intro a hs
                obtain ⟨x35, hx36, hm⟩ := bindE hm
                have he37 := fun (w1 : World) (hS : Mem W w1 [aInts 3 v2 l22]) => RdI.at_ (hS.rdI 0 rfl) hx36
                refine wc (i := 4) (fuel := 24) rfl (by kernel_rfl) (fun w w2 hS hE => hS.quiet hE) hM hs (fun w1 hS => y_index ht_I hs rfl rfl (he37 w1 hS)) rfl ?_; intro a hs
                refine wc (i := 5) (fuel := 23) rfl (by kernel_rfl) (fun w w2 hS hE => hS.quiet hE) hM hs (fun w1 hS => y_load sc_int hs rfl (he37 w1 hS).cell) rfl ?_; intro a hs
                refine wc (i := 6) (fuel := 22) rfl (by kernel_rfl) (fun w w2 hS hE => hS.quiet hE) hM hs (fun w1 hS => y_move hs rfl) rfl ?_; intro a hs
                refine wc (i := 7) (fuel := 21) rfl (by kernel_rfl) (fun w w2 hS hE => hS.quiet hE) hM hs (fun w1 hS => y_move hs rfl) rfl ?_; intro a hs
                obtain ⟨x38, hx39, hm⟩ := bindE hm
                have he40 := fun (w1 : World) (hS : Mem W w1 [aInts 3 v2 l22]) => RdI.at_ (hS.rdI 0 rfl) hx39
                refine wc (i := 8) (fuel := 20) rfl (by kernel_rfl) (fun w w2 hS hE => hS.quiet hE) hM hs (fun w1 hS => y_index ht_I hs rfl rfl (he40 w1 hS)) rfl ?_; intro a hs
                refine wc (i := 9) (fuel := 19) rfl (by kernel_rfl) (fun w w2 hS hE => hS.quiet hE) hM hs (fun w1 hS => y_load sc_int hs rfl (he40 w1 hS).cell) rfl ?_; intro a hs
                refine wc (i := 10) (fuel := 18) rfl (by kernel_rfl) (fun w w2 hS hE => hS.quiet hE) hM hs (fun w1 hS => y_move hs rfl) rfl ?_; intro a hs
                refine wc (i := 11) (fuel := 17) rfl (by kernel_rfl) (fun w w2 hS hE => hS.quiet hE) hM hs (fun w1 hS => y_move hs rfl) rfl ?_; intro a hs
                obtain ⟨u42, he41, hr43⟩ := RdM.at_ hr_p0 hx28
                have he44 := fun (w1 : World) (hS : Mem W w1 [aInts 3 v2 l22]) => he41.below hS.bel
                refine wc (i := 12) (fuel := 16) rfl (by kernel_rfl) (fun w w2 hS hE => hS.quiet hE) hM hs (fun w1 hS => y_index ht_M hs rfl rfl (he44 w1 hS)) rfl ?_; intro a hs
                refine wc (i := 13) (fuel := 15) rfl (by kernel_rfl) (fun w w2 hS hE => hS.quiet hE) hM hs (fun w1 hS => y_load sc_I hs rfl (he44 w1 hS).cell) rfl ?_; intro a hs
                refine wc (i := 14) (fuel := 14) rfl (by kernel_rfl) (fun w w2 hS hE => hS.quiet hE) hM hs (fun w1 hS => y_move hs rfl) rfl ?_; intro a hs
                have he45 := fun (w1 : World) (hS : Mem W w1 [aInts 3 v2 l22]) => RdI.at_ (RdI.below hr43 hS.bel) hx33
                refine wc (i := 15) (fuel := 13) rfl (by kernel_rfl) (fun w w2 hS hE => hS.quiet hE) hM hs (fun w1 hS => y_index ht_I hs rfl rfl (he45 w1 hS)) rfl ?_; intro a hs
                refine wc (i := 16) (fuel := 12) rfl (by kernel_rfl) (fun w w2 hS hE => hS.quiet hE) hM hs (fun w1 hS => y_load sc_int hs rfl (he45 w1 hS).cell) rfl ?_; intro a hs
                obtain ⟨n46, h47, hm⟩ := bindE hm
                refine wc (i := 17) (fuel := 11) rfl (by kernel_rfl) (fun w w2 hS hE => hS.quiet hE) hM hs (fun w1 hS => y_add hs rfl rfl h47) rfl ?_; intro a hs
                refine wc (i := 18) (fuel := 10) rfl (by kernel_rfl) (fun w w2 hS hE => hS.quiet hE) hM hs (fun w1 hS => y_move hs rfl) rfl ?_; intro a hs
                refine wc (i := 19) (fuel := 9) rfl (by kernel_rfl) (fun w w2 hS hE => hS.quiet hE) hM hs (fun w1 hS => y_move hs rfl) rfl ?_; intro a hs
                obtain ⟨x48, hx49, hm⟩ := bindE hm
                obtain ⟨u51, he50, hr52⟩ := RdM.at_ hr_p0 hx49
                have he53 := fun (w1 : World) (hS : Mem W w1 [aInts 3 v2 l22]) => he50.below hS.bel
                refine wc (i := 20) (fuel := 8) rfl (by kernel_rfl) (fun w w2 hS hE => hS.quiet hE) hM hs (fun w1 hS => y_index ht_M hs rfl rfl (he53 w1 hS)) rfl ?_; intro a hs
                refine wc (i := 21) (fuel := 7) rfl (by kernel_rfl) (fun w w2 hS hE => hS.quiet hE) hM hs (fun w1 hS => y_load sc_I hs rfl (he53 w1 hS).cell) rfl ?_; intro a hs
                refine wc (i := 22) (fuel := 6) rfl (by kernel_rfl) (fun w w2 hS hE => hS.quiet hE) hM hs (fun w1 hS => y_move hs rfl) rfl ?_; intro a hs
                obtain ⟨x54, hx55, hm⟩ := bindE hm
                have he56 := fun (w1 : World) (hS : Mem W w1 [aInts 3 v2 l22]) => RdI.at_ (RdI.below hr52 hS.bel) hx55
                refine wc (i := 23) (fuel := 5) rfl (by kernel_rfl) (fun w w2 hS hE => hS.quiet hE) hM hs (fun w1 hS => y_index ht_I hs rfl rfl (he56 w1 hS)) rfl ?_; intro a hs
                refine wc (i := 24) (fuel := 4) rfl (by kernel_rfl) (fun w w2 hS hE => hS.quiet hE) hM hs (fun w1 hS => y_load sc_int hs rfl (he56 w1 hS).cell) rfl ?_; intro a hs
                obtain ⟨n57, h58, hm⟩ := bindE hm
                refine wc (i := 25) (fuel := 3) rfl (by kernel_rfl) (fun w w2 hS hE => hS.quiet hE) hM hs (fun w1 hS => y_sub hs rfl rfl h58) rfl ?_; intro a hs
                refine wc (i := 26) (fuel := 2) rfl (by kernel_rfl) (fun w w2 hS hE => hS.quiet hE) hM hs (fun w1 hS => y_min hs rfl rfl) rfl ?_; intro a hs
                have he59 := fun (w1 : World) (hS : Mem W w1 [aInts 3 v2 l22]) => RdI.at_ (hS.rdI 0 rfl) hx36
                refine wc (i := 27) (fuel := 1) rfl (by kernel_rfl) (fun w w2 hS hE => hS.quiet hE) hM hs (fun w1 hS => y_index ht_I hs rfl rfl (he59 w1 hS)) rfl ?_; intro a hs
                refine wc_one (fuel := 0) 28 rfl (by kernel_rfl) ?_
                intro w hw
                replace hM := hM.quiet hw
                obtain ⟨l60, h61, hm⟩ := bindE hm
                refine wstore hs rfl rfl (x_storeI he_int (hM.front 0 rfl) h61) ?_; intro w hM
                have hM : Mem W w [aInts 3 v2 l60] := hM
                refine on_nil ?_
                refine wc_done (by kernel_rfl) ?_
                intro w hw
                replace hM := hM.quiet hw
                refine x_nb ?_
                refine x_nt ?_
                refine wp_region_lit ?_
                refine wl hs (y_add hs rfl rfl hjs) rfl ?_; intro a hs
                refine wl hs (y_move hs rfl) rfl ?_; intro a hs
                refine wpList_nil ?_
                exact ⟨_, by simp, q26, j21 + 1, l60, rfl, hs.sub ⟨rfl, rfl, rfl, rfl, rfl, rfl, rfl, rfl, rfl, rfl, rfl, rfl, trivial⟩, hM, hm, drop_next hj⟩
              · replace hm := condF hb hm
                refine wp_skip ?_
                refine x_nb ?_
                refine x_nt ?_
                refine wp_region_lit ?_
                refine wl hs (y_add hs rfl rfl hjs) rfl ?_; intro a hs
                refine wl hs (y_move hs rfl) rfl ?_; intro a hs
                refine wpList_nil ?_
                exact ⟨_, by simp, q26, j21 + 1, l22, rfl, hs.sub ⟨rfl, rfl, rfl, rfl, rfl, rfl, rfl, rfl, rfl, rfl, rfl, rfl, trivial⟩, hM, hm, drop_next hj⟩
          rintro a w ⟨l23, rfl, hs, hM⟩
          have hm := hk25
          refine x_nb ?_
          refine x_nt ?_
          refine wp_region_lit ?_
          refine wl hs (y_add hs rfl rfl hjs) rfl ?_; intro a hs
          refine wl hs (y_move hs rfl) rfl ?_; intro a hs
          refine wpList_nil ?_
          exact ⟨_, by simp, q17, j12 + 1, l23, rfl, hs.sub ⟨rfl, rfl, rfl, rfl, rfl, rfl, rfl, rfl, trivial⟩, hM, hm, drop_next hj⟩
      rintro a w ⟨l14, rfl, hs, hM⟩
      have hm := hk16
      refine x_nb ?_
      refine x_nt ?_
      refine wp_region_lit ?_
      refine wl hs (y_add hs rfl rfl hjs) rfl ?_; intro a hs
      refine wl hs (y_move hs rfl) rfl ?_; intro a hs
      refine wpList_nil ?_
      exact ⟨_, by simp, q9, j4 + 1, l14, rfl, hs.sub ⟨rfl, rfl, rfl, rfl, rfl, trivial⟩, hM, hm, drop_next hj⟩
  rintro a w ⟨l6, rfl, hs, hM⟩
  have hm := hk8
  refine x_nt ?_
  refine wp_seq ?_
  refine wp_region_lit ?_
  refine wl hs (y_move hs rfl) rfl ?_; intro a hs
  refine wl hs (y_assign hs rfl) rfl ?_; intro a hs
  refine wpList_nil ?_
  refine x_nt ?_
  refine wp_ret ?_
  have hm : some l6 = some r := hm
  obtain rfl := Option.some.inj hm
  refine x_ret1 rfl hs rfl ⟨_, rfl, ?_⟩
  exact hM

theorem impl_RowPrices_any (v_p0 : Value) (p0 : List (List Int)) (W : World) (hr_p0 : RdM W v_p0 p0) {r : (List Int) × Bool} (hm : impl_RowPrices_m p0 = some r) : Calls Try.prog 39 [v_p0].toArray W fun e w => ∃ v, e = .returned v ∧ ∃ v0, v = .tuple #[v0, .bool r.2] ∧ Mem W w [aInts 3 v0 r.1] := by
  refine x_enter Try.func39 rfl Try.ntmps39 rfl ?_
  intro a hs
  have hM := Mem.start W
  unfold impl_RowPrices_m at hm
  refine wp_seq ?_
  refine wp_region_lit ?_
  refine wl hs (y_assign hs rfl) rfl ?_; intro a hs
  refine wl hs (y_assign hs rfl) rfl ?_; intro a hs
  refine wpList_nil ?_
  refine x_nt ?_
  refine wp_seq ?_
  refine wp_region_lit ?_
  refine wl hs (y_move hs rfl) rfl ?_; intro a hs
  obtain ⟨y1, h2, hm⟩ := bindE hm
  refine wcall is_58 hs rfl rfl (impl_bestAsked_any v_p0 p0 _ (RdM.below hr_p0 hM.bel) h2) ?_; rintro a _ w hs ⟨v5, rfl, hX⟩
  have hM : Mem W w [aInts 3 v5 y1.2.1] := hM.call hX
  refine wl hs (y_move hs rfl) rfl ?_; intro a hs
  refine wl hs (y_extract hs rfl rfl) rfl ?_; intro a hs
  refine wl hs (y_extract hs rfl rfl) rfl ?_; intro a hs
  refine wmem hs (x_allocS sT_55 hM) rfl ?_; rintro a _ w hs ⟨g7, rfl, hM⟩
  have hM : Mem W w [aBlk g7 55 [.int .i64 0, .slice none 0 0], aInts 3 v5 y1.2.1] := hM
  refine wstore hs rfl rfl (x_storeS (cs := [.int .i64 0, .slice none 0 0]) (us := [.int .i64 y1.1, v5]) sT_55 ⟨rfl, (Mem.one (hM.front 1 rfl)), trivial⟩ rfl rfl (hM.front 0 rfl)) ?_; intro w hM
  have hM : Mem W w [aBlk g7 55 [.int .i64 y1.1, v5], aInts 3 v5 y1.2.1] := hM
  refine wl hs (y_assign hs rfl) rfl ?_; intro a hs
  refine wpList_nil ?_
  refine x_nt ?_
  refine wp_seq ?_
  refine wp_seq ?_
  refine wp_region_lit ?_
  refine wl hs (y_move hs rfl) rfl ?_; intro a hs
  refine wl hs (y_not hs rfl) rfl ?_; intro a hs
  refine wpList_nil ?_
  refine x_nt ?_
  refine x_cond hs rfl (fun hb => ?_) (fun hb => ?_)
  · replace hm := condT hb hm
    refine wp_seq ?_
    refine wp_region_lit ?_
    refine wl hs (y_assign hs rfl) rfl ?_; intro a hs
    refine wl hs (y_assign hs rfl) rfl ?_; intro a hs
    refine wpList_nil ?_
    refine x_nt ?_
    refine wp_ret ?_
    refine x_rt ?_
    have hm : some ([], false) = some r := hm
    obtain rfl := Option.some.inj hm
    refine x_ret2 rfl hs rfl rfl ⟨_, rfl, ?_⟩
    have hM := hM.nilI 3
    exact ⟨_, rfl, (hM.keep_ 1)⟩
  · replace hm := condF hb hm
    refine wp_skip ?_
    refine x_nt ?_
    refine wp_seq ?_
    refine wp_region_lit ?_
    refine wl hs (y_move hs rfl) rfl ?_; intro a hs
    refine wl hs (y_fieldAddr sT_55 hs rfl rfl) rfl ?_; intro a hs
    refine wl hs (y_load sc_I hs rfl (hM.cellBlk 0 rfl 1 rfl)) rfl ?_; intro a hs
    obtain ⟨y9, h10, hm⟩ := bindE hm
    refine wcall is_78 hs rfl rfl (impl_rowPrices_any v_p0 p0 v5 y1.2.1 _ (RdM.below hr_p0 hM.bel) (hM.rdI 1 rfl) h10) ?_; rintro a v11 w hs hX
    have hM : Mem W w [aInts 3 v11 y9, aBlk g7 55 [.int .i64 y1.1, v5], aInts 3 v5 y1.2.1] := hM.call hX
    obtain ⟨y13, h14, hm⟩ := bindE hm
    refine wcall is_77 hs rfl rfl (impl_toldList_any v11 y9 _ (hM.rdI 0 rfl) h14) ?_; rintro a _ w hs ⟨rfl, hX⟩
    have hM : Mem W w [aInts 3 v11 y9, aBlk g7 55 [.int .i64 y1.1, v5], aInts 3 v5 y1.2.1] := hM.call hX
    have hM : Mem W w [aInts 3 (cond y13.1 v11 (.slice none 0 0)) (cond y13.1 y9 []), aBlk g7 55 [.int .i64 y1.1, v5], aInts 3 v5 y1.2.1] := (hM).condI y13.1
    refine wl hs (y_extract hs rfl rfl) rfl ?_; intro a hs
    refine wl hs (y_extract hs rfl rfl) rfl ?_; intro a hs
    refine wl hs (y_assign hs rfl) rfl ?_; intro a hs
    refine wl hs (y_assign hs rfl) rfl ?_; intro a hs
    refine wpList_nil ?_
    refine x_nt ?_
    refine wp_ret ?_
    have hm : some ((cond y13.1 y9 []), y13.2) = some r := hm
    obtain rfl := Option.some.inj hm
    refine x_ret2 rfl hs rfl rfl ⟨_, rfl, ?_⟩
    exact ⟨_, rfl, (hM.keep_ 1)⟩

set_option maxHeartbeats 4000000 in
theorem impl_ColumnPrices_any (v_p0 : Value) (p0 : List (List Int)) (W : World) (hr_p0 : RdM W v_p0 p0) {r : (List Int) × Bool} (hm : impl_ColumnPrices_m p0 = some r) : Calls Try.prog 41 [v_p0].toArray W fun e w => ∃ v, e = .returned v ∧ ∃ v0, v = .tuple #[v0, .bool r.2] ∧ Mem W w [aInts 3 v0 r.1] := by
  refine x_enter Try.func41 rfl Try.ntmps41 rfl ?_
  intro a hs
  have hM := Mem.start W
  unfold impl_ColumnPrices_m at hm
  refine wp_seq ?_
  refine wp_region_lit ?_
  refine wl hs (y_assign hs rfl) rfl ?_; intro a hs
  refine wl hs (y_assign hs rfl) rfl ?_; intro a hs
  refine wpList_nil ?_
  refine x_nt ?_
  refine wp_seq ?_
  refine wp_region_lit ?_
  refine wl hs (y_move hs rfl) rfl ?_; intro a hs
  obtain ⟨y1, h2, hm⟩ := bindE hm
  refine wcall is_58 hs rfl rfl (impl_bestAsked_any v_p0 p0 _ (RdM.below hr_p0 hM.bel) h2) ?_; rintro a _ w hs ⟨v5, rfl, hX⟩
  have hM : Mem W w [aInts 3 v5 y1.2.1] := hM.call hX
  refine wl hs (y_move hs rfl) rfl ?_; intro a hs
  refine wl hs (y_extract hs rfl rfl) rfl ?_; intro a hs
  refine wl hs (y_extract hs rfl rfl) rfl ?_; intro a hs
  refine wmem hs (x_allocS sT_55 hM) rfl ?_; rintro a _ w hs ⟨g7, rfl, hM⟩
  have hM : Mem W w [aBlk g7 55 [.int .i64 0, .slice none 0 0], aInts 3 v5 y1.2.1] := hM
  refine wstore hs rfl rfl (x_storeS (cs := [.int .i64 0, .slice none 0 0]) (us := [.int .i64 y1.1, v5]) sT_55 ⟨rfl, (Mem.one (hM.front 1 rfl)), trivial⟩ rfl rfl (hM.front 0 rfl)) ?_; intro w hM
  have hM : Mem W w [aBlk g7 55 [.int .i64 y1.1, v5], aInts 3 v5 y1.2.1] := hM
  refine wl hs (y_assign hs rfl) rfl ?_; intro a hs
  refine wpList_nil ?_
  refine x_nt ?_
  refine wp_seq ?_
  refine wp_seq ?_
  refine wp_region_lit ?_
  refine wl hs (y_move hs rfl) rfl ?_; intro a hs
  refine wl hs (y_not hs rfl) rfl ?_; intro a hs
  refine wpList_nil ?_
  refine x_nt ?_
  refine x_cond hs rfl (fun hb => ?_) (fun hb => ?_)
  · replace hm := condT hb hm
    refine wp_seq ?_
    refine wp_region_lit ?_
    refine wl hs (y_assign hs rfl) rfl ?_; intro a hs
    refine wl hs (y_assign hs rfl) rfl ?_; intro a hs
    refine wpList_nil ?_
    refine x_nt ?_
    refine wp_ret ?_
    refine x_rt ?_
    have hm : some ([], false) = some r := hm
    obtain rfl := Option.some.inj hm
    refine x_ret2 rfl hs rfl rfl ⟨_, rfl, ?_⟩
    have hM := hM.nilI 3
    exact ⟨_, rfl, (hM.keep_ 1)⟩
  · replace hm := condF hb hm
    refine wp_skip ?_
    refine x_nt ?_
    refine wp_seq ?_
    refine wp_region_lit ?_
    refine wl hs (y_move hs rfl) rfl ?_; intro a hs
    refine wl hs (y_len hu_M hs rfl (RdM.below hr_p0 hM.bel)) rfl ?_; intro a hs
    obtain ⟨_, h11, hm⟩ := bindE hm
    refine wmem hs (x_makeI hu_I he_int hs rfl hM h11) rfl ?_; intro a v10 w hs hM
    have hM : Mem W w [aInts 3 v10 (List.replicate ((p0.length : Int)).toNat (0 : Int)), aBlk g7 55 [.int .i64 y1.1, v5], aInts 3 v5 y1.2.1] := hM
    refine wl hs (y_assign hs rfl) rfl ?_; intro a hs
    refine wpList_nil ?_
    refine x_nt ?_
    refine wp_seq ?_
    refine wp_seq ?_
    refine wp_region_lit ?_
    refine wl hs (y_move hs rfl) rfl ?_; intro a hs
    refine wl hs (y_fieldAddr sT_55 hs rfl rfl) rfl ?_; intro a hs
    refine wl hs (y_load sc_I hs rfl (hM.cellBlk 1 rfl 1 rfl)) rfl ?_; intro a hs
    obtain ⟨y12, h13, hm⟩ := bindE hm
    refine wcall is_78 hs rfl rfl (impl_rowPrices_any v_p0 p0 v5 y1.2.1 _ (RdM.below hr_p0 hM.bel) (hM.rdI 2 rfl) h13) ?_; rintro a v14 w hs hX
    have hM : Mem W w [aInts 3 v14 y12, aInts 3 v10 (List.replicate ((p0.length : Int)).toNat (0 : Int)), aBlk g7 55 [.int .i64 y1.1, v5], aInts 3 v5 y1.2.1] := hM.call hX
    refine wl hs (y_len hu_I hs rfl (hM.rdI 0 rfl)) rfl ?_; intro a hs
    refine wl hs (y_move hs rfl) rfl ?_; intro a hs
    refine wpList_nil ?_
    refine x_nt ?_
    obtain ⟨s19, hm, hk20⟩ := bindE hm
    refine x_mid (fun a w => ∃ (l18 : List Int), l18 = s19 ∧ Fr a 52 [(6, v10)] ∧ Mem W w [aInts 3 v10 l18]) ?_ ?_
    · refine wp_block ?_
      refine x_loop (fun k a w => ∃ (q21 : List Int) (j16 : Nat) (l17 : List Int) , k = q21.length ∧ Fr a 52 [(0, v_p0), (4, .pointer (some ⟨g7, 0, none⟩)), (6, v10), (23, v14), (24, .int .i64 (y12.length : Int)), (25, .int .i64 (j16 : Int))] ∧ Mem W w [aInts 3 v14 y12, aInts 3 v10 l17, aBlk g7 55 [.int .i64 y1.1, v5], aInts 3 v5 y1.2.1] ∧ impl_ColumnPrices_l1 p0 y1 q21 j16 l17 = some s19 ∧ List.drop j16 y12 = q21) _ ⟨y12, 0, (List.replicate ((p0.length : Int)).toNat (0 : Int)), rfl, hs.sub ⟨rfl, rfl, rfl, rfl, rfl, rfl, trivial⟩, hM, hm, rfl⟩ ?_
      rintro k a w ⟨q21, j16, l17, rfl, hs, hM, hm, hj⟩
      rcases q21 with _ | ⟨x22, q21⟩
      · rewrite [impl_ColumnPrices_l1] at hm
        refine wp_seq ?_
        refine wp_region_lit ?_
        refine wl hs (y_lss hs rfl rfl) rfl ?_; intro a hs
        refine wpList_nil ?_
        refine x_nt ?_
        refine wp_seq ?_
        refine x_condF hs rfl (drop_f hj) ?_
        refine wp_exit ?_
        refine x_et ?_
        refine x_et ?_
        refine x_eb ?_
        have hm : some l17 = some s19 := hm
        exact ⟨l17, Option.some.inj hm, hs.sub ⟨rfl, trivial⟩, ((hM.drop.front 1 rfl).drop.front 1 rfl).drop⟩
      · rewrite [impl_ColumnPrices_l1] at hm
        have hx23 := drop_idx hj
        have hjs := ck_succ hj (RdS.len (hM.rdI 0 rfl))
        refine wp_seq ?_
        refine wp_region_lit ?_
        refine wl hs (y_lss hs rfl rfl) rfl ?_; intro a hs
        refine wpList_nil ?_
        refine x_nt ?_
        refine wp_seq ?_
        refine x_condT hs rfl (drop_t hj) ?_
        refine wp_skip ?_
        refine x_nt ?_
        refine wp_seq ?_
        refine wp_block ?_
        refine wp_seq ?_
        refine wp_region_lit ?_
        refine wl hs (y_move hs rfl) rfl ?_; intro a hs
        have he24 := RdI.at_ (hM.rdI 0 rfl) hx23
        refine wl hs (y_index ht_I hs rfl rfl he24) rfl ?_; intro a hs
        refine wl hs (y_load sc_int hs rfl he24.cell) rfl ?_; intro a hs
        refine wl hs (y_assign hs rfl) rfl ?_; intro a hs
        refine wl hs (y_assign hs rfl) rfl ?_; intro a hs
        refine wpList_nil ?_
        refine x_nt ?_
        refine wp_seq ?_
        refine wp_region_lit ?_
        refine wl hs (y_fieldAddr sT_55 hs rfl rfl) rfl ?_; intro a hs
        refine wl hs (y_load sc_I hs rfl (hM.cellBlk 2 rfl 1 rfl)) rfl ?_; intro a hs
        refine wl hs (y_move hs rfl) rfl ?_; intro a hs
        obtain ⟨x25, hx26, hm⟩ := bindE hm
        have he27 := RdI.at_ (hM.rdI 3 rfl) hx26
        refine wl hs (y_index ht_I hs rfl rfl he27) rfl ?_; intro a hs
        refine wl hs (y_load sc_int hs rfl he27.cell) rfl ?_; intro a hs
        refine wl hs (y_assign hs rfl) rfl ?_; intro a hs
        refine wpList_nil ?_
        refine x_nt ?_
        refine wp_region_lit ?_
        refine wl hs (y_move hs rfl) rfl ?_; intro a hs
        refine wl hs (y_move hs rfl) rfl ?_; intro a hs
        refine wl hs (y_move hs rfl) rfl ?_; intro a hs
        refine wl hs (y_move hs rfl) rfl ?_; intro a hs
        obtain ⟨x28, hx29, hm⟩ := bindE hm
        obtain ⟨u31, he30, hr32⟩ := RdM.at_ hr_p0 hx29
        replace he30 := he30.below hM.bel
        refine wl hs (y_index ht_M hs rfl rfl he30) rfl ?_; intro a hs
        refine wl hs (y_load sc_I hs rfl he30.cell) rfl ?_; intro a hs
        refine wl hs (y_move hs rfl) rfl ?_; intro a hs
        obtain ⟨x33, hx34, hm⟩ := bindE hm
        have he35 := RdI.at_ (RdI.below hr32 hM.bel) hx34
        refine wl hs (y_index ht_I hs rfl rfl he35) rfl ?_; intro a hs
        refine wl hs (y_load sc_int hs rfl he35.cell) rfl ?_; intro a hs
        refine wl hs (y_move hs rfl) rfl ?_; intro a hs
        obtain ⟨n36, h37, hm⟩ := bindE hm
        refine wl hs (y_sub hs rfl rfl h37) rfl ?_; intro a hs
        obtain ⟨x38, hx39, hm⟩ := bindE hm
        have he40 := RdI.at_ (hM.rdI 1 rfl) hx39
        refine wl hs (y_index ht_I hs rfl rfl he40) rfl ?_; intro a hs
        obtain ⟨l41, h42, hm⟩ := bindE hm
        refine wstore hs rfl rfl (x_storeI he_int (hM.front 1 rfl) h42) ?_; intro w hM
        have hM : Mem W w [aInts 3 v10 l41, aInts 3 v14 y12, aBlk g7 55 [.int .i64 y1.1, v5], aInts 3 v5 y1.2.1] := hM
        refine wpList_nil ?_
        refine x_nb ?_
        refine x_nt ?_
        refine wp_region_lit ?_
        refine wl hs (y_add hs rfl rfl hjs) rfl ?_; intro a hs
        refine wl hs (y_move hs rfl) rfl ?_; intro a hs
        refine wpList_nil ?_
        exact ⟨_, by simp, q21, j16 + 1, l41, rfl, hs.sub ⟨rfl, rfl, rfl, rfl, rfl, rfl, trivial⟩, ((((hM.front 3 rfl).front 3 rfl).front 2 rfl).front 3 rfl), hm, drop_next hj⟩
    rintro a w ⟨l18, rfl, hs, hM⟩
    have hm := hk20
    refine x_nt ?_
    refine wp_seq ?_
    refine wp_region_lit ?_
    refine wl hs (y_move hs rfl) rfl ?_; intro a hs
    obtain ⟨y43, h44, hm⟩ := bindE hm
    refine wcall is_77 hs rfl rfl (impl_toldList_any v10 l18 _ (hM.rdI 0 rfl) h44) ?_; rintro a _ w hs ⟨rfl, hX⟩
    have hM : Mem W w [aInts 3 v10 l18] := hM.call hX
    have hM : Mem W w [aInts 3 (cond y43.1 v10 (.slice none 0 0)) (cond y43.1 l18 [])] := (hM).condI y43.1
    refine wl hs (y_extract hs rfl rfl) rfl ?_; intro a hs
    refine wl hs (y_extract hs rfl rfl) rfl ?_; intro a hs
    refine wl hs (y_assign hs rfl) rfl ?_; intro a hs
    refine wl hs (y_assign hs rfl) rfl ?_; intro a hs
    refine wpList_nil ?_
    refine x_nt ?_
    refine wp_ret ?_
    have hm : some ((cond y43.1 l18 []), y43.2) = some r := hm
    obtain rfl := Option.some.inj hm
    refine x_ret2 rfl hs rfl rfl ⟨_, rfl, ?_⟩
    exact ⟨_, rfl, hM⟩

end Go.Proofs.Ytnnhbkhlipekeaa
