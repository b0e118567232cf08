/- The code of this unit computes what its mirrors say. Written by program (wip/gen). -/
import Derived.Test.YtcglmncmnlkpmaaDoorFacts
import Derived.Test.YtcglmncmnlkpmaaDoorTxsM
import Derived.Test.YtcglmncmnlkpmaaDoorMatW
namespace Go.Proofs.YtcglmncmnlkpmaaDoor
open Go.RowKit
set_option linter.unusedVariables false

theorem spec_l1Num_rec : ∀ (k : Nat) (p0 : Int) (W : World)  {r : List UInt8} (hm : spec_l1Num_r k p0 = some r), Calls Tryd.prog 54 [.int .i64 p0].toArray W fun e w => ∃ v, e = .returned v ∧ v = .string ⟨r.toArray⟩ ∧ Mem W w [] := by
  intro k
  induction k with
  | zero => intro p0 W r hm; have hm : none = some r := hm; cases hm
  | succ k ih =>
  intro p0 W r hm
  have hm : spec_l1Num_b (spec_l1Num_r k) p0 = some r := hm
  generalize spec_l1Num_r k = rec at hm ih
  refine x_enter Tryd.func54 rfl Tryd.ntmps54 rfl ?_
  intro a hs
  have hM := Mem.start W
  unfold spec_l1Num_b at hm
  refine wp_seq ?_
  refine wp_region_lit ?_
  refine wl hs (y_assign hs rfl) rfl ?_; intro a hs
  refine wpList_nil ?_
  refine x_nt ?_
  refine wp_seq ?_
  refine wp_seq ?_
  refine wp_region_lit ?_
  refine wl hs (y_move hs rfl) rfl ?_; intro a hs
  refine wl hs (y_lss hs rfl rfl) rfl ?_; intro a hs
  refine wpList_nil ?_
  refine x_nt ?_
  refine x_cond hs rfl (fun hb => ?_) (fun hb => ?_)
  · replace hm := condT hb hm
    refine wp_seq ?_
    refine wp_region_lit ?_
    refine wl hs (y_move hs rfl) rfl ?_; intro a hs
    obtain ⟨n1, h2, hm⟩ := bindE hm
    refine wl hs (y_add hs rfl rfl h2) rfl ?_; intro a hs
    obtain ⟨n3, h4, hm⟩ := bindE hm
    refine wl hs (y_byte hu_u8 hi_int hs rfl h4) rfl ?_; intro a hs
    refine wmem hs (x_new1U hu_U he_u8 hs rfl hM) rfl ?_; intro a v6 w hs hM
    have hM : Mem W w [aBytes 5 v6 ([n3])] := hM
    refine wl hs (y_strU hu_U hu_u8 hu_str hs rfl (hM.rdU 0 rfl)) rfl ?_; intro a hs
    refine wl hs (y_assign hs rfl) rfl ?_; intro a hs
    refine wpList_nil ?_
    refine x_nt ?_
    refine wp_ret ?_
    refine x_rt ?_
    have hm : some (([n3]).map byteOf) = some r := hm
    obtain rfl := Option.some.inj hm
    refine x_ret1 rfl hs rfl ⟨_, rfl, ?_⟩
    exact ⟨rfl, hM.none_⟩
  · replace hm := condF hb hm
    refine wp_skip ?_
    refine x_nt ?_
    refine wp_seq ?_
    refine wc_start hmix [0, 1, 2, 3, 4, 5, 6] (fun w => Mem W w []) (by rfl) ?_
    refine wc (i := 0) (fuel := 10) rfl (by kernel_rfl) (fun w w2 hS hE => hS.quiet hE) hM hs (fun w1 hS => y_move hs rfl) rfl ?_; intro a hs
    obtain ⟨n7, h8, hm⟩ := bindE hm
    refine wc (i := 1) (fuel := 9) rfl (by kernel_rfl) (fun w w2 hS hE => hS.quiet hE) hM hs (fun w1 hS => y_quo hs rfl rfl h8) rfl ?_; intro a hs
    obtain ⟨y9, h10, hm⟩ := bindE hm
    refine ccall (i := 2) (fuel := 8) rfl (by kernel_rfl) (fun w w2 hS hE => hS.quiet hE) hM (v := .string ⟨y9.toArray⟩) is_54 hs rfl rfl (fun w1 hS => cx_of (ih n7 w1  h10)) ?_; intro a hs
    refine wc (i := 3) (fuel := 7) rfl (by kernel_rfl) (fun w w2 hS hE => hS.quiet hE) hM hs (fun w1 hS => y_move hs rfl) rfl ?_; intro a hs
    obtain ⟨n11, h12, hm⟩ := bindE hm
    refine wc (i := 4) (fuel := 6) rfl (by kernel_rfl) (fun w w2 hS hE => hS.quiet hE) hM hs (fun w1 hS => y_rem hs rfl rfl h12) rfl ?_; intro a hs
    obtain ⟨n13, h14, hm⟩ := bindE hm
    refine wc (i := 5) (fuel := 5) rfl (by kernel_rfl) (fun w w2 hS hE => hS.quiet hE) hM hs (fun w1 hS => y_add hs rfl rfl h14) rfl ?_; intro a hs
    obtain ⟨n15, h16, hm⟩ := bindE hm
    refine wc (i := 6) (fuel := 4) rfl (by kernel_rfl) (fun w w2 hS hE => hS.quiet hE) hM hs (fun w1 hS => y_byte hu_u8 hi_int hs rfl h16) rfl ?_; intro a hs
    refine wc_oneS (fuel := 3) 7 rfl (by kernel_rfl) ?_
    intro w hw
    replace hM := hM.quiet hw
    refine wmem hs (x_new1U hu_U he_u8 hs rfl hM) rfl ?_; intro a v18 w hs hM
    have hM : Mem W w [aBytes 5 v18 ([n15])] := hM
    refine on_nil ⟨hM.none_, ?_⟩
    refine wc_oneS (fuel := 2) 8 rfl (by kernel_rfl) ?_
    intro w hw
    replace hM := hM.quiet hw
    refine wl hs (y_strU hu_U hu_u8 hu_str hs rfl (hM.rdU 0 rfl)) rfl ?_; intro a hs
    refine on_nil ⟨hM.none_, ?_⟩
    refine wc_one (fuel := 1) 9 rfl (by kernel_rfl) ?_
    intro w hw
    replace hM := hM.quiet hw
    obtain ⟨t19, h20, hm⟩ := bindE hm
    refine wl hs (y_addT hs rfl rfl h20) rfl ?_; intro a hs
    refine on_nil ?_
    refine wc_one (fuel := 0) 10 rfl (by kernel_rfl) ?_
    intro w hw
    replace hM := hM.quiet hw
    refine wl hs (y_assign hs rfl) rfl ?_; intro a hs
    refine on_nil ?_
    refine wc_done (by kernel_rfl) ?_
    intro w hw
    replace hM := hM.quiet hw
    refine x_nt ?_
    refine wp_ret ?_
    have hm : some t19 = some r := hm
    obtain rfl := Option.some.inj hm
    refine x_ret1 rfl hs rfl ⟨_, rfl, ?_⟩
    exact ⟨rfl, hM.none_⟩
theorem spec_l1Num_any (p0 : Int) (W : World)  {r : List UInt8} (hm : spec_l1Num_m p0 = some r) : Calls Tryd.prog 54 [.int .i64 p0].toArray W fun e w => ∃ v, e = .returned v ∧ v = .string ⟨r.toArray⟩ ∧ Mem W w [] := spec_l1Num_rec 64 p0 W hm

theorem spec_l1Int_any (p0 : Int) (W : World)  {r : List UInt8} (hm : spec_l1Int_m p0 = some r) : Calls Tryd.prog 43 [.int .i64 p0].toArray W fun e w => ∃ v, e = .returned v ∧ v = .string ⟨r.toArray⟩ ∧ Mem W w [] := by
  refine x_enter Tryd.func43 rfl Tryd.ntmps43 rfl ?_
  intro a hs
  have hM := Mem.start W
  unfold spec_l1Int_m at hm
  refine wp_seq ?_
  refine wp_region_lit ?_
  refine wl hs (y_assign hs rfl) rfl ?_; intro a hs
  refine wpList_nil ?_
  refine x_nt ?_
  refine wp_seq ?_
  refine wp_seq ?_
  refine wp_region_lit ?_
  refine wl hs (y_move hs rfl) rfl ?_; intro a hs
  refine wl hs (y_lss hs rfl rfl) rfl ?_; intro a hs
  refine wpList_nil ?_
  refine x_nt ?_
  refine x_cond hs rfl (fun hb => ?_) (fun hb => ?_)
  · replace hm := condT hb hm
    refine wp_seq ?_
    refine wp_region_lit ?_
    refine wl hs (y_move hs rfl) rfl ?_; intro a hs
    obtain ⟨n1, h2, hm⟩ := bindE hm
    refine wl hs (y_neg hs rfl h2) rfl ?_; intro a hs
    obtain ⟨y3, h4, hm⟩ := bindE hm
    refine wcall is_54 hs rfl rfl (spec_l1Num_any n1 _  h4) ?_; rintro a _ w hs ⟨rfl, hX⟩
    have hM : Mem W w [] := hM.call hX
    obtain ⟨t5, h6, hm⟩ := bindE hm
    refine wl hs (y_addT hs rfl rfl h6) rfl ?_; intro a hs
    refine wl hs (y_assign hs rfl) rfl ?_; intro a hs
    refine wpList_nil ?_
    refine x_nt ?_
    refine wp_ret ?_
    refine x_rt ?_
    have hm : some t5 = some r := hm
    obtain rfl := Option.some.inj hm
    refine x_ret1 rfl hs rfl ⟨_, rfl, ?_⟩
    exact ⟨rfl, hM⟩
  · replace hm := condF hb hm
    refine wp_skip ?_
    refine x_nt ?_
    refine wp_seq ?_
    refine wp_region_lit ?_
    refine wl hs (y_move hs rfl) rfl ?_; intro a hs
    obtain ⟨y7, h8, hm⟩ := bindE hm
    refine wcall is_54 hs rfl rfl (spec_l1Num_any p0 _  h8) ?_; rintro a _ w hs ⟨rfl, hX⟩
    have hM : Mem W w [] := hM.call hX
    refine wl hs (y_assign hs rfl) rfl ?_; intro a hs
    refine wpList_nil ?_
    refine x_nt ?_
    refine wp_ret ?_
    have hm : some y7 = some r := hm
    obtain rfl := Option.some.inj hm
    refine x_ret1 rfl hs rfl ⟨_, rfl, ?_⟩
    exact ⟨rfl, hM⟩

theorem spec_nuText_any (p0 : Int) (W : World)  {r : List UInt8} (hm : spec_nuText_m p0 = some r) : Calls Tryd.prog 30 [.int .i64 p0].toArray W fun e w => ∃ v, e = .returned v ∧ v = .string ⟨r.toArray⟩ ∧ Mem W w [] := by
  refine x_enter Tryd.func30 rfl Tryd.ntmps30 rfl ?_
  intro a hs
  have hM := Mem.start W
  unfold spec_nuText_m at hm
  refine wp_seq ?_
  refine wp_region_lit ?_
  refine wl hs (y_assign hs rfl) rfl ?_; intro a hs
  refine wpList_nil ?_
  refine x_nt ?_
  refine wp_seq ?_
  refine wp_seq ?_
  refine wp_region_lit ?_
  refine wl hs (y_move hs rfl) rfl ?_; intro a hs
  refine wl hs (y_eql hs rfl rfl) rfl ?_; intro a hs
  refine wpList_nil ?_
  refine x_nt ?_
  refine x_cond hs rfl (fun hb => ?_) (fun hb => ?_)
  · replace hm := condT hb hm
    refine wp_seq ?_
    refine wp_region_lit ?_
    refine wl hs (y_assign hs rfl) rfl ?_; intro a hs
    refine wpList_nil ?_
    refine x_nt ?_
    refine wp_ret ?_
    refine x_rt ?_
    have hm : some ([105, 110, 102] : List UInt8) = some r := hm
    obtain rfl := Option.some.inj hm
    refine x_ret1 rfl hs rfl ⟨_, rfl, ?_⟩
    exact ⟨rfl, hM⟩
  · replace hm := condF hb hm
    refine wp_skip ?_
    refine x_nt ?_
    refine wp_seq ?_
    refine wp_region_lit ?_
    refine wl hs (y_move hs rfl) rfl ?_; intro a hs
    obtain ⟨y1, h2, hm⟩ := bindE hm
    refine wcall is_43 hs rfl rfl (spec_l1Int_any p0 _  h2) ?_; rintro a _ w hs ⟨rfl, hX⟩
    have hM : Mem W w [] := hM.call hX
    refine wl hs (y_assign hs rfl) rfl ?_; intro a hs
    refine wpList_nil ?_
    refine x_nt ?_
    refine wp_ret ?_
    have hm : some y1 = some r := hm
    obtain rfl := Option.some.inj hm
    refine x_ret1 rfl hs rfl ⟨_, rfl, ?_⟩
    exact ⟨rfl, hM⟩

set_option maxHeartbeats 4000000 in
theorem spec_mxText_any (v_p0 : Value) (p0 : List (List Int)) (W : World) (hr_p0 : RdM W v_p0 p0) {r : List UInt8} (hm : spec_mxText_m p0 = some r) : Calls Tryd.prog 16 [v_p0].toArray W fun e w => ∃ v, e = .returned v ∧ v = .string ⟨r.toArray⟩ ∧ Mem W w [] := by
  refine x_enter Tryd.func16 rfl Tryd.ntmps16 rfl ?_
  intro a hs
  have hM := Mem.start W
  unfold spec_mxText_m at hm
  refine wp_seq ?_
  refine wp_region_lit ?_
  refine wl hs (y_assign hs rfl) rfl ?_; intro a hs
  refine wpList_nil ?_
  refine x_nt ?_
  refine wp_seq ?_
  refine wp_region_lit ?_
  refine wl hs (y_assign hs rfl) rfl ?_; intro a hs
  refine wpList_nil ?_
  refine x_nt ?_
  refine wp_seq ?_
  refine wp_seq ?_
  refine wp_region_lit ?_
  refine wl hs (y_move hs rfl) rfl ?_; intro a hs
  refine wl hs (y_len hu_M hs rfl (RdM.below hr_p0 hM.bel)) rfl ?_; intro a hs
  refine wl hs (y_move hs rfl) rfl ?_; intro a hs
  refine wpList_nil ?_
  refine x_nt ?_
  obtain ⟨s4, hm, hk5⟩ := bindE hm
  refine x_mid (fun a w => ∃ (t3 : List UInt8), t3 = s4 ∧ Fr a 34 [(3, .string ⟨t3.toArray⟩)] ∧ Mem W w []) ?_ ?_
  · refine wp_block ?_
    refine x_loop (fun k a w => ∃ (q6 : List (List Int)) (j1 : Nat) (t2 : List UInt8) , k = q6.length ∧ Fr a 34 [(3, .string ⟨t2.toArray⟩), (8, v_p0), (9, .int .i64 (p0.length : Int)), (10, .int .i64 (j1 : Int))] ∧ Mem W w [] ∧ spec_mxText_l1 q6 j1 t2 = some s4 ∧ List.drop j1 p0 = q6) _ ⟨p0, 0, ([] : List UInt8), rfl, hs.sub ⟨rfl, rfl, rfl, rfl, trivial⟩, hM, hm, rfl⟩ ?_
    rintro k a w ⟨q6, j1, t2, rfl, hs, hM, hm, hj1⟩
    rcases q6 with _ | ⟨x7, q6⟩
    · rewrite [spec_mxText_l1] at hm
      refine wp_seq ?_
      refine wp_region_lit ?_
      refine wl hs (y_lss hs rfl rfl) rfl ?_; intro a hs
      refine wpList_nil ?_
      refine x_nt ?_
      refine wp_seq ?_
      refine x_condF hs rfl (drop_f hj1) ?_
      refine wp_exit ?_
      refine x_et ?_
      refine x_et ?_
      refine x_eb ?_
      have hm : some t2 = some s4 := hm
      exact ⟨t2, Option.some.inj hm, hs.sub ⟨rfl, trivial⟩, hM⟩
    · rewrite [spec_mxText_l1] at hm
      have hx8 := drop_idx hj1
      have hsj1 := ck_succ hj1 (RdS.len (RdM.below hr_p0 hM.bel))
      refine wp_seq ?_
      refine wp_region_lit ?_
      refine wl hs (y_lss hs rfl rfl) rfl ?_; intro a hs
      refine wpList_nil ?_
      refine x_nt ?_
      refine wp_seq ?_
      refine x_condT hs rfl (drop_t hj1) ?_
      refine wp_skip ?_
      refine x_nt ?_
      refine wp_seq ?_
      refine wp_block ?_
      refine wp_seq ?_
      refine wp_region_lit ?_
      obtain ⟨u10, he9, hr11⟩ := RdM.at_ hr_p0 hx8
      replace he9 := he9.below hM.bel
      refine wl hs (y_index ht_M hs rfl rfl he9) rfl ?_; intro a hs
      refine wl hs (y_load sc_I hs rfl he9.cell) rfl ?_; intro a hs
      refine wl hs (y_assign hs rfl) rfl ?_; intro a hs
      refine wpList_nil ?_
      refine x_nt ?_
      refine wp_seq ?_
      refine wp_seq ?_
      refine wp_region_lit ?_
      refine wl hs (y_move hs rfl) rfl ?_; intro a hs
      refine wl hs (y_len hu_I hs rfl (RdI.below hr11 hM.bel)) rfl ?_; intro a hs
      refine wl hs (y_move hs rfl) rfl ?_; intro a hs
      refine wpList_nil ?_
      refine x_nt ?_
      obtain ⟨s15, hm, hk16⟩ := bindE hm
      refine x_mid (fun a w => ∃ (t14 : List UInt8), t14 = s15 ∧ Fr a 34 [(3, .string ⟨t14.toArray⟩), (8, v_p0), (9, .int .i64 (p0.length : Int)), (10, .int .i64 (j1 : Int))] ∧ Mem W w []) ?_ ?_
      · refine wp_block ?_
        refine x_loop (fun k a w => ∃ (q17 : List Int) (j12 : Nat) (t13 : List UInt8) , k = q17.length ∧ Fr a 34 [(3, .string ⟨t13.toArray⟩), (8, v_p0), (9, .int .i64 (p0.length : Int)), (10, .int .i64 (j1 : Int)), (14, u10), (15, .int .i64 (x7.length : Int)), (16, .int .i64 (j12 : Int))] ∧ Mem W w [] ∧ spec_mxText_l2 q17 j12 t13 = some s15 ∧ List.drop j12 x7 = q17) _ ⟨x7, 0, t2, rfl, hs.sub ⟨rfl, rfl, rfl, rfl, rfl, rfl, rfl, trivial⟩, hM, hm, rfl⟩ ?_
        rintro k a w ⟨q17, j12, t13, rfl, hs, hM, hm, hj12⟩
        rcases q17 with _ | ⟨x18, q17⟩
        · rewrite [spec_mxText_l2] at hm
          refine wp_seq ?_
          refine wp_region_lit ?_
          refine wl hs (y_lss hs rfl rfl) rfl ?_; intro a hs
          refine wpList_nil ?_
          refine x_nt ?_
          refine wp_seq ?_
          refine x_condF hs rfl (drop_f hj12) ?_
          refine wp_exit ?_
          refine x_et ?_
          refine x_et ?_
          refine x_eb ?_
          have hm : some t13 = some s15 := hm
          exact ⟨t13, Option.some.inj hm, hs.sub ⟨rfl, rfl, rfl, rfl, trivial⟩, hM⟩
        · rewrite [spec_mxText_l2] at hm
          have hx19 := drop_idx hj12
          have hsj12 := ck_succ hj12 (RdS.len (RdI.below hr11 hM.bel))
          refine wp_seq ?_
          refine wp_region_lit ?_
          refine wl hs (y_lss hs rfl rfl) rfl ?_; intro a hs
          refine wpList_nil ?_
          refine x_nt ?_
          refine wp_seq ?_
          refine x_condT hs rfl (drop_t hj12) ?_
          refine wp_skip ?_
          refine x_nt ?_
          refine wp_seq ?_
          refine wp_block ?_
          refine wp_seq ?_
          refine wp_region_lit ?_
          refine wl hs (y_move hs rfl) rfl ?_; intro a hs
          have he20 := RdI.at_ (RdI.below hr11 hM.bel) hx19
          refine wl hs (y_index ht_I hs rfl rfl he20) rfl ?_; intro a hs
          refine wl hs (y_load sc_int hs rfl he20.cell) rfl ?_; intro a hs
          refine wl hs (y_assign hs rfl) rfl ?_; intro a hs
          refine wl hs (y_assign hs rfl) rfl ?_; intro a hs
          refine wpList_nil ?_
          refine x_nt ?_
          refine wp_seq ?_
          refine wp_seq ?_
          refine wp_region_lit ?_
          refine wl hs (y_move hs rfl) rfl ?_; intro a hs
          refine wl hs (y_gtr hs rfl rfl) rfl ?_; intro a hs
          refine wpList_nil ?_
          refine x_nt ?_
          obtain ⟨s22, hm, hk23⟩ := bindE hm
          refine x_mid (fun a w => ∃ (t21 : List UInt8), t21 = s22 ∧ Fr a 34 [(3, .string ⟨t21.toArray⟩), (7, .int .i64 x18), (8, v_p0), (9, .int .i64 (p0.length : Int)), (10, .int .i64 (j1 : Int)), (14, u10), (15, .int .i64 (x7.length : Int)), (16, .int .i64 (j12 : Int))] ∧ Mem W w []) ?_ ?_
          · refine x_cond hs rfl (fun hb => ?_) (fun hb => ?_)
            · replace hm := condT hb hm
              refine wp_region_lit ?_
              refine wl hs (y_move hs rfl) rfl ?_; intro a hs
              obtain ⟨t24, h25, hm⟩ := bindE hm
              refine wl hs (y_addT hs rfl rfl h25) rfl ?_; intro a hs
              refine wl hs (y_assign hs rfl) rfl ?_; intro a hs
              refine wpList_nil ?_
              have hm : some t24 = some s22 := hm
              exact ⟨t24, Option.some.inj hm, hs.sub ⟨rfl, rfl, rfl, rfl, rfl, rfl, rfl, rfl, trivial⟩, hM⟩
            · replace hm := condF hb hm
              refine wp_skip ?_
              have hm : some t13 = some s22 := hm
              exact ⟨t13, Option.some.inj hm, hs.sub ⟨rfl, rfl, rfl, rfl, rfl, rfl, rfl, rfl, trivial⟩, hM⟩
          rintro a w ⟨t21, rfl, hs, hM⟩
          have hm := hk23
          refine x_nt ?_
          refine wp_region_lit ?_
          refine wl hs (y_move hs rfl) rfl ?_; intro a hs
          refine wl hs (y_move hs rfl) rfl ?_; intro a hs
          obtain ⟨y26, h27, hm⟩ := bindE hm
          refine wcall is_30 hs rfl rfl (spec_nuText_any x18 _  h27) ?_; rintro a _ w hs ⟨rfl, hX⟩
          have hM : Mem W w [] := hM.call hX
          obtain ⟨t28, h29, hm⟩ := bindE hm
          refine wl hs (y_addT hs rfl rfl h29) rfl ?_; intro a hs
          refine wl hs (y_assign hs rfl) rfl ?_; intro a hs
          refine wpList_nil ?_
          refine x_nb ?_
          refine x_nt ?_
          refine wp_region_lit ?_
          refine wl hs (y_add hs rfl rfl hsj12) rfl ?_; intro a hs
          refine wl hs (y_move hs rfl) rfl ?_; intro a hs
          refine wpList_nil ?_
          exact ⟨_, by simp, q17, j12 + 1, t28, rfl, hs.sub ⟨rfl, rfl, rfl, rfl, rfl, rfl, rfl, trivial⟩, hM, hm, drop_next hj12⟩
      rintro a w ⟨t14, rfl, hs, hM⟩
      have hm := hk16
      refine x_nt ?_
      refine wp_region_lit ?_
      refine wl hs (y_move hs rfl) rfl ?_; intro a hs
      obtain ⟨t30, h31, hm⟩ := bindE hm
      refine wl hs (y_addT hs rfl rfl h31) rfl ?_; intro a hs
      refine wl hs (y_assign hs rfl) rfl ?_; intro a hs
      refine wpList_nil ?_
      refine x_nb ?_
      refine x_nt ?_
      refine wp_region_lit ?_
      refine wl hs (y_add hs rfl rfl hsj1) rfl ?_; intro a hs
      refine wl hs (y_move hs rfl) rfl ?_; intro a hs
      refine wpList_nil ?_
      exact ⟨_, by simp, q6, j1 + 1, t30, rfl, hs.sub ⟨rfl, rfl, rfl, rfl, trivial⟩, hM, hm, drop_next hj1⟩
  rintro a w ⟨t3, rfl, hs, hM⟩
  have hm := hk5
  refine x_nt ?_
  refine wp_seq ?_
  refine wp_region_lit ?_
  refine wl hs (y_move hs rfl) rfl ?_; intro a hs
  refine wl hs (y_assign hs rfl) rfl ?_; intro a hs
  refine wpList_nil ?_
  refine x_nt ?_
  refine wp_ret ?_
  have hm : some t3 = some r := hm
  obtain rfl := Option.some.inj hm
  refine x_ret1 rfl hs rfl ⟨_, rfl, ?_⟩
  exact ⟨rfl, hM⟩

theorem spec_MatrixText_any (v_p0 : Value) (p0 : List (List Int)) (W : World) (hr_p0 : RdM W v_p0 p0) {r : (List UInt8) × Bool} (hm : spec_MatrixText_m p0 = some r) : Calls Tryd.prog 6 [v_p0].toArray W fun e w => ∃ v, e = .returned v ∧ v = .tuple #[.string ⟨r.1.toArray⟩, .bool r.2] ∧ Mem W w [] := by
  refine x_enter Tryd.func6 rfl Tryd.ntmps6 rfl ?_
  intro a hs
  have hM := Mem.start W
  unfold spec_MatrixText_m at hm
  refine wp_seq ?_
  refine wp_region_lit ?_
  refine wl hs (y_assign hs rfl) rfl ?_; intro a hs
  refine wl hs (y_assign hs rfl) rfl ?_; intro a hs
  refine wpList_nil ?_
  refine x_nt ?_
  refine wp_seq ?_
  refine wp_seq ?_
  refine wp_region_lit ?_
  refine wl hs (y_move hs rfl) rfl ?_; intro a hs
  obtain ⟨y1, h2, hm⟩ := bindE hm
  refine wcall is_15 hs rfl rfl (spec_mxGood_any v_p0 p0 _ (RdM.below hr_p0 hM.bel) h2) ?_; rintro a _ w hs ⟨rfl, hX⟩
  have hM : Mem W w [] := hM.call hX
  refine wl hs (y_not hs rfl) rfl ?_; intro a hs
  refine wpList_nil ?_
  refine x_nt ?_
  refine x_cond hs rfl (fun hb => ?_) (fun hb => ?_)
  · replace hm := condT hb hm
    refine wp_seq ?_
    refine wp_region_lit ?_
    refine wl hs (y_assign hs rfl) rfl ?_; intro a hs
    refine wl hs (y_assign hs rfl) rfl ?_; intro a hs
    refine wpList_nil ?_
    refine x_nt ?_
    refine wp_ret ?_
    refine x_rt ?_
    have hm : some (([] : List UInt8), false) = some r := hm
    obtain rfl := Option.some.inj hm
    refine x_ret2 rfl hs rfl rfl ⟨_, rfl, ?_⟩
    exact ⟨rfl, hM⟩
  · replace hm := condF hb hm
    refine wp_skip ?_
    refine x_nt ?_
    refine wp_seq ?_
    refine wp_region_lit ?_
    refine wl hs (y_move hs rfl) rfl ?_; intro a hs
    obtain ⟨y3, h4, hm⟩ := bindE hm
    refine wcall is_16 hs rfl rfl (spec_mxText_any v_p0 p0 _ (RdM.below hr_p0 hM.bel) h4) ?_; rintro a _ w hs ⟨rfl, hX⟩
    have hM : Mem W w [] := hM.call hX
    refine wl hs (y_assign hs rfl) rfl ?_; intro a hs
    refine wl hs (y_assign hs rfl) rfl ?_; intro a hs
    refine wpList_nil ?_
    refine x_nt ?_
    refine wp_ret ?_
    have hm : some (y3, true) = some r := hm
    obtain rfl := Option.some.inj hm
    refine x_ret2 rfl hs rfl rfl ⟨_, rfl, ?_⟩
    exact ⟨rfl, hM⟩

end Go.Proofs.YtcglmncmnlkpmaaDoor
