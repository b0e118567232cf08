/- The code of this unit computes what its mirrors say. Written by program (wip/gen). -/
import Derived.Test.YtaagklbiebogfaaFacts
import Derived.Test.YtaagklbiebogfaaClsM
import Derived.Test.YtaagklbiebogfaaMatW
namespace Go.Proofs.Ytaagklbiebogfaa
open Go.RowKit
set_option linter.unusedVariables false

set_option maxHeartbeats 4000000 in
theorem spec_rkAlike_any (v_p0 : Value) (p0 : List (List Int)) (p1 : Int) (p2 : Int) (W : World) (hr_p0 : RdM W v_p0 p0) {r : Bool} (hm : spec_rkAlike_m p0 p1 p2 = some r) : Calls Try.prog 107 [v_p0, .int .i64 p1, .int .i64 p2].toArray W fun e w => ∃ v, e = .returned v ∧ v = .bool r ∧ Mem W w [] := by
  refine x_enter Try.func107 rfl Try.ntmps107 rfl ?_
  intro a hs
  have hM := Mem.start W
  unfold spec_rkAlike_m at hm
  refine wp_seq ?_
  refine wp_region_lit ?_
  refine wl hs (y_assign hs rfl) rfl ?_; intro a hs
  refine wpList_nil ?_
  refine x_nt ?_
  refine wp_seq ?_
  refine wp_region_lit ?_
  refine wl hs (y_assign hs rfl) rfl ?_; intro a hs
  refine wl hs (y_assign hs rfl) rfl ?_; intro a hs
  refine wpList_nil ?_
  refine x_nt ?_
  refine wp_seq ?_
  refine wp_seq ?_
  refine wp_region_lit ?_
  refine wl hs (y_move hs rfl) rfl ?_; intro a hs
  refine wl hs (y_len hu_M hs rfl (RdM.below hr_p0 hM.bel)) rfl ?_; intro a hs
  refine wl hs (y_move hs rfl) rfl ?_; intro a hs
  refine wpList_nil ?_
  refine x_nt ?_
  obtain ⟨s4, hm, hk5⟩ := bindE hm
  refine x_mid (fun a w => Sum.inr () = s4 ∧ Fr a 49 [] ∧ Mem W w []) ?_ ?_
  · refine wp_block ?_
    refine x_loop (fun k a w => ∃ (q6 : List (List Int)) (j1 : Nat) (b2 : Bool) (n3 : Int) , k = q6.length ∧ Fr a 49 [(1, .int .i64 p1), (2, .int .i64 p2), (7, .bool b2), (8, .int .i64 n3), (13, v_p0), (14, .int .i64 (p0.length : Int)), (15, .int .i64 (j1 : Int))] ∧ Mem W w [] ∧ spec_rkAlike_l1 p1 p2 q6 j1 b2 n3 = some s4 ∧ List.drop j1 p0 = q6) _ ⟨p0, 0, false, 0, rfl, hs.sub ⟨rfl, rfl, rfl, rfl, rfl, rfl, rfl, trivial⟩, hM, hm, rfl⟩ ?_
    rintro k a w ⟨q6, j1, b2, n3, rfl, hs, hM, hm, hj1⟩
    rcases q6 with _ | ⟨x7, q6⟩
    · rewrite [spec_rkAlike_l1] at hm
      refine wp_seq ?_
      refine wp_region_lit ?_
      refine wl hs (y_lss hs rfl rfl) rfl ?_; intro a hs
      refine wpList_nil ?_
      refine x_nt ?_
      refine wp_seq ?_
      refine x_condF hs rfl (drop_f hj1) ?_
      refine wp_exit ?_
      refine x_et ?_
      refine x_et ?_
      refine x_eb ?_
      have hm : some (Sum.inr ()) = some s4 := hm
      exact ⟨Option.some.inj hm, hs.sub trivial, hM⟩
    · rewrite [spec_rkAlike_l1] at hm
      have hx8 := drop_idx hj1
      have hsj1 := ck_succ hj1 (RdS.len (RdM.below hr_p0 hM.bel))
      refine wp_seq ?_
      refine wp_region_lit ?_
      refine wl hs (y_lss hs rfl rfl) rfl ?_; intro a hs
      refine wpList_nil ?_
      refine x_nt ?_
      refine wp_seq ?_
      refine x_condT hs rfl (drop_t hj1) ?_
      refine wp_skip ?_
      refine x_nt ?_
      refine wp_seq ?_
      refine wp_block ?_
      refine wp_seq ?_
      refine wp_region_lit ?_
      obtain ⟨u10, he9, hr11⟩ := RdM.at_ hr_p0 hx8
      replace he9 := he9.below hM.bel
      refine wl hs (y_index ht_M hs rfl rfl he9) rfl ?_; intro a hs
      refine wl hs (y_load sc_I hs rfl he9.cell) rfl ?_; intro a hs
      refine wl hs (y_assign hs rfl) rfl ?_; intro a hs
      refine wpList_nil ?_
      refine x_nt ?_
      refine wp_seq ?_
      refine x_regq hmix (by kernel_rfl) ?_
      refine wq hs (fun w1 hw1 => y_move hs rfl) rfl ?_; intro a hs
      refine wq hs (fun w1 hw1 => y_move hs rfl) rfl ?_; intro a hs
      obtain ⟨x12, hx13, hm⟩ := bindE hm
      have he14 := RdI.at_ (RdI.below hr11 hM.bel) hx13
      refine wq hs (fun w1 hw1 => y_index ht_I hs rfl rfl (he14.below hw1)) rfl ?_; intro a hs
      refine wq hs (fun w1 hw1 => y_load sc_int hs rfl (he14.below hw1).cell) rfl ?_; intro a hs
      refine wq hs (fun w1 hw1 => y_move hs rfl) rfl ?_; intro a hs
      refine wq hs (fun w1 hw1 => y_move hs rfl) rfl ?_; intro a hs
      obtain ⟨x15, hx16, hm⟩ := bindE hm
      have he17 := RdI.at_ (RdI.below hr11 hM.bel) hx16
      refine wq hs (fun w1 hw1 => y_index ht_I hs rfl rfl (he17.below hw1)) rfl ?_; intro a hs
      refine wq hs (fun w1 hw1 => y_load sc_int hs rfl (he17.below hw1).cell) rfl ?_; intro a hs
      refine wq hs (fun w1 hw1 => y_assign hs rfl) rfl ?_; intro a hs
      refine wq hs (fun w1 hw1 => y_assign hs rfl) rfl ?_; intro a hs
      refine wpQuiet_nil ?_
      intro w hw
      replace hM := hM.quiet hw
      refine x_nt ?_
      refine wp_block ?_
      refine wp_seq ?_
      refine wp_region_lit ?_
      refine wl hs (y_move hs rfl) rfl ?_; intro a hs
      refine wl hs (y_eql hs rfl rfl) rfl ?_; intro a hs
      refine wl hs (y_move hs rfl) rfl ?_; intro a hs
      refine wl hs (y_eql hs rfl rfl) rfl ?_; intro a hs
      refine wl hs (y_neqB hu_bool hs rfl rfl) rfl ?_; intro a hs
      refine wl hs (y_assign hs rfl) rfl ?_; intro a hs
      refine wpList_nil ?_
      refine x_nt ?_
      refine x_cond hs rfl (fun hb => ?_) (fun hb => ?_)
      · replace hm := condT hb hm
        refine wp_seq ?_
        refine wp_region_lit ?_
        refine wl hs (y_assign hs rfl) rfl ?_; intro a hs
        refine wpList_nil ?_
        refine x_nt ?_
        refine wp_ret ?_
        refine x_rb ?_
        refine x_rb ?_
        refine x_rt ?_
        refine x_rt ?_
        refine x_rb ?_
        refine x_rt ?_
        refine x_rt ?_
        have hm : some (Sum.inl false) = some s4 := hm
        cases Option.some.inj hm
        have hm := hk5
        have hm : some false = some r := hm
        obtain rfl := Option.some.inj hm
        refine x_ret1 rfl hs rfl ⟨_, rfl, ?_⟩
        exact ⟨rfl, hM⟩
      · replace hm := condF hb hm
        refine wp_seq ?_
        refine wp_region_lit ?_
        refine wl hs (y_move hs rfl) rfl ?_; intro a hs
        refine wl hs (y_eql hs rfl rfl) rfl ?_; intro a hs
        refine wl hs (y_assign hs rfl) rfl ?_; intro a hs
        refine wpList_nil ?_
        refine x_nt ?_
        refine x_cond hs rfl (fun hb => ?_) (fun hb => ?_)
        · replace hm := condT hb hm
          refine wp_skip ?_
          refine x_nb ?_
          refine x_nb ?_
          refine x_nt ?_
          refine wp_region_lit ?_
          refine wl hs (y_add hs rfl rfl hsj1) rfl ?_; intro a hs
          refine wl hs (y_move hs rfl) rfl ?_; intro a hs
          refine wpList_nil ?_
          exact ⟨_, by simp, q6, j1 + 1, b2, n3, rfl, hs.sub ⟨rfl, rfl, rfl, rfl, rfl, rfl, rfl, trivial⟩, hM, hm, drop_next hj1⟩
        · replace hm := condF hb hm
          refine wp_seq ?_
          refine wp_region_lit ?_
          refine wl hs (y_move hs rfl) rfl ?_; intro a hs
          refine wl hs (y_not hs rfl) rfl ?_; intro a hs
          refine wl hs (y_assign hs rfl) rfl ?_; intro a hs
          refine wpList_nil ?_
          refine x_nt ?_
          refine x_cond hs rfl (fun hb => ?_) (fun hb => ?_)
          · replace hm := condT hb hm
            refine wp_seq ?_
            refine wp_region_lit ?_
            refine wl hs (y_assign hs rfl) rfl ?_; intro a hs
            refine wpList_nil ?_
            refine x_nt ?_
            refine wp_region_lit ?_
            refine wl hs (y_move hs rfl) rfl ?_; intro a hs
            refine wl hs (y_move hs rfl) rfl ?_; intro a hs
            obtain ⟨n18, h19, hm⟩ := bindE hm
            refine wl hs (y_sub hs rfl rfl h19) rfl ?_; intro a hs
            refine wl hs (y_assign hs rfl) rfl ?_; intro a hs
            refine wpList_nil ?_
            refine x_nb ?_
            refine x_nb ?_
            refine x_nt ?_
            refine wp_region_lit ?_
            refine wl hs (y_add hs rfl rfl hsj1) rfl ?_; intro a hs
            refine wl hs (y_move hs rfl) rfl ?_; intro a hs
            refine wpList_nil ?_
            exact ⟨_, by simp, q6, j1 + 1, true, n18, rfl, hs.sub ⟨rfl, rfl, rfl, rfl, rfl, rfl, rfl, trivial⟩, hM, hm, drop_next hj1⟩
          · replace hm := condF hb hm
            refine wp_seq ?_
            refine wp_region_lit ?_
            refine wl hs (y_move hs rfl) rfl ?_; intro a hs
            refine wl hs (y_move hs rfl) rfl ?_; intro a hs
            obtain ⟨n20, h21, hm⟩ := bindE hm
            refine wl hs (y_sub hs rfl rfl h21) rfl ?_; intro a hs
            refine wl hs (y_move hs rfl) rfl ?_; intro a hs
            refine wl hs (y_neq hs rfl rfl) rfl ?_; intro a hs
            refine wl hs (y_assign hs rfl) rfl ?_; intro a hs
            refine wpList_nil ?_
            refine x_nt ?_
            refine x_cond hs rfl (fun hb => ?_) (fun hb => ?_)
            · replace hm := condT hb hm
              refine wp_seq ?_
              refine wp_region_lit ?_
              refine wl hs (y_assign hs rfl) rfl ?_; intro a hs
              refine wpList_nil ?_
              refine x_nt ?_
              refine wp_ret ?_
              refine x_rb ?_
              refine x_rb ?_
              refine x_rt ?_
              refine x_rt ?_
              refine x_rb ?_
              refine x_rt ?_
              refine x_rt ?_
              have hm : some (Sum.inl false) = some s4 := hm
              cases Option.some.inj hm
              have hm := hk5
              have hm : some false = some r := hm
              obtain rfl := Option.some.inj hm
              refine x_ret1 rfl hs rfl ⟨_, rfl, ?_⟩
              exact ⟨rfl, hM⟩
            · replace hm := condF hb hm
              refine wp_skip ?_
              refine x_nb ?_
              refine x_nb ?_
              refine x_nt ?_
              refine wp_region_lit ?_
              refine wl hs (y_add hs rfl rfl hsj1) rfl ?_; intro a hs
              refine wl hs (y_move hs rfl) rfl ?_; intro a hs
              refine wpList_nil ?_
              exact ⟨_, by simp, q6, j1 + 1, b2, n3, rfl, hs.sub ⟨rfl, rfl, rfl, rfl, rfl, rfl, rfl, trivial⟩, hM, hm, drop_next hj1⟩
  rintro a w ⟨rfl, hs, hM⟩
  have hm := hk5
  refine x_nt ?_
  refine wp_seq ?_
  refine wp_region_lit ?_
  refine wl hs (y_assign hs rfl) rfl ?_; intro a hs
  refine wpList_nil ?_
  refine x_nt ?_
  refine wp_ret ?_
  have hm : some true = some r := hm
  obtain rfl := Option.some.inj hm
  refine x_ret1 rfl hs rfl ⟨_, rfl, ?_⟩
  exact ⟨rfl, hM⟩

set_option maxHeartbeats 4000000 in
theorem spec_rkClasses_any (v_p0 : Value) (p0 : List (List Int)) (W : World) (hr_p0 : RdM W v_p0 p0) {r : List (List Int)} (hm : spec_rkClasses_m p0 = some r) : Calls Try.prog 72 [v_p0].toArray W fun e w => ∃ v, e = .returned v ∧ ∃ vs0, Mem W w [aMat 24 3 v vs0 r] := by
  refine x_enter Try.func72 rfl Try.ntmps72 rfl ?_
  intro a hs
  have hM := Mem.start W
  unfold spec_rkClasses_m at hm
  refine wp_seq ?_
  refine wp_region_lit ?_
  refine wl hs (y_assign hs rfl) rfl ?_; intro a hs
  refine wpList_nil ?_
  refine x_nt ?_
  refine wp_seq ?_
  refine wp_region_lit ?_
  refine wl hs (y_assign hs rfl) rfl ?_; intro a hs
  have hM := hM.nilM 24 3
  refine wpList_nil ?_
  refine x_nt ?_
  refine wp_seq ?_
  refine wp_seq ?_
  refine wp_region_lit ?_
  refine wl hs (y_move hs rfl) rfl ?_; intro a hs
  obtain ⟨x2, hx3, hm⟩ := bindE hm
  obtain ⟨u5, he4, hr6⟩ := RdM.at_ hr_p0 hx3
  replace he4 := he4.below hM.bel
  refine wl hs (y_index ht_M hs rfl rfl he4) rfl ?_; intro a hs
  refine wl hs (y_load sc_I hs rfl he4.cell) rfl ?_; intro a hs
  refine wl hs (y_len hu_I hs rfl (RdI.below hr6 hM.bel)) rfl ?_; intro a hs
  refine wl hs (y_move hs rfl) rfl ?_; intro a hs
  refine wpList_nil ?_
  refine x_nt ?_
  obtain ⟨s14, hm, hk15⟩ := bindE hm
  refine x_mid (fun a w => ∃ (v11 : Value), ∃ (vs12 : List Value), ∃ (l13 : List (List Int)), l13 = s14 ∧ Fr a 52 [(3, v11)] ∧ Mem W w [aMat 24 3 v11 vs12 l13]) ?_ ?_
  · refine wp_block ?_
    refine x_loop (fun k a w => ∃ (q16 : List Int) (j7 : Nat) (v8 : Value) (vs9 : List Value) (l10 : List (List Int)) , k = q16.length ∧ Fr a 52 [(0, v_p0), (3, v8), (11, .int .i64 (x2.length : Int)), (12, .int .i64 (j7 : Int))] ∧ Mem W w [aMat 24 3 v8 vs9 l10] ∧ spec_rkClasses_l1 p0 q16 j7 l10 = some s14 ∧ List.drop j7 x2 = q16) _ ⟨x2, 0, (.slice none 0 0), [], [], rfl, hs.sub ⟨rfl, rfl, rfl, rfl, trivial⟩, hM, hm, rfl⟩ ?_
    rintro k a w ⟨q16, j7, v8, vs9, l10, rfl, hs, hM, hm, hj7⟩
    rcases q16 with _ | ⟨x17, q16⟩
    · rewrite [spec_rkClasses_l1] at hm
      refine wp_seq ?_
      refine wp_region_lit ?_
      refine wl hs (y_lss hs rfl rfl) rfl ?_; intro a hs
      refine wpList_nil ?_
      refine x_nt ?_
      refine wp_seq ?_
      refine x_condF hs rfl (drop_f hj7) ?_
      refine wp_exit ?_
      refine x_et ?_
      refine x_et ?_
      refine x_eb ?_
      have hm : some l10 = some s14 := hm
      exact ⟨v8, vs9, l10, Option.some.inj hm, hs.sub ⟨rfl, trivial⟩, hM⟩
    · rewrite [spec_rkClasses_l1] at hm
      have hx18 := drop_idx hj7
      have hsj7 := ck_succ hj7 (RdS.len (RdI.below hr6 hM.bel))
      refine wp_seq ?_
      refine wp_region_lit ?_
      refine wl hs (y_lss hs rfl rfl) rfl ?_; intro a hs
      refine wpList_nil ?_
      refine x_nt ?_
      refine wp_seq ?_
      refine x_condT hs rfl (drop_t hj7) ?_
      refine wp_skip ?_
      refine x_nt ?_
      refine wp_seq ?_
      refine wp_block ?_
      refine wp_seq ?_
      refine wp_region_lit ?_
      refine wl hs (y_move hs rfl) rfl ?_; intro a hs
      refine wl hs (y_assign hs rfl) rfl ?_; intro a hs
      refine wpList_nil ?_
      refine x_nt ?_
      refine wp_seq ?_
      refine wp_region_lit ?_
      refine wl hs (y_assign hs rfl) rfl ?_; intro a hs
      refine wpList_nil ?_
      refine x_nt ?_
      refine wp_seq ?_
      refine wp_seq ?_
      refine wp_region_lit ?_
      refine wl hs (y_move hs rfl) rfl ?_; intro a hs
      refine wl hs (y_len hu_M hs rfl (hM.rdM 0 rfl)) rfl ?_; intro a hs
      refine wl hs (y_move hs rfl) rfl ?_; intro a hs
      refine wpList_nil ?_
      refine x_nt ?_
      obtain ⟨s26, hm, hk27⟩ := bindE hm
      refine x_mid (fun a w => ∃ (vs23 : List Value), ∃ (l24 : List (List Int)), ∃ (b25 : Bool), (l24, b25) = s26 ∧ Fr a 52 [(0, v_p0), (3, v8), (4, .int .i64 (j7 : Int)), (5, .bool b25), (11, .int .i64 (x2.length : Int)), (12, .int .i64 (j7 : Int))] ∧ Mem W w [aMat 24 3 v8 vs23 l24]) ?_ ?_
      · refine wp_block ?_
        obtain ⟨nck, hnck, hm⟩ := bindE hm
        refine x_loop (fun k a w => ∃ (q28 : Nat) (j19 : Nat) (vs20 : List Value) (l21 : List (List Int)) (b22 : Bool) , q28 = k ∧ Fr a 52 [(0, v_p0), (3, v8), (4, .int .i64 (j7 : Int)), (5, .bool b22), (11, .int .i64 (x2.length : Int)), (12, .int .i64 (j7 : Int)), (15, v8), (16, .int .i64 (l10.length : Int)), (17, .int .i64 (j19 : Int))] ∧ Mem W w [aMat 24 3 v8 vs20 l21] ∧ spec_rkClasses_l2 p0 j7 q28 j19 l21 b22 = some s26 ∧ ((l10.length : Int) - (j19 : Int)).toNat = q28) _ ⟨((l10.length : Int) - (0 : Nat) : Int).toNat, 0, vs9, l10, false, rfl, hs.sub ⟨rfl, rfl, rfl, rfl, rfl, rfl, rfl, rfl, rfl, trivial⟩, hM, hm, rfl⟩ ?_
        rintro k a w ⟨q28, j19, vs20, l21, b22, rfl, hs, hM, hm, hj19⟩
        rcases q28 with _ | q28
        · rewrite [spec_rkClasses_l2] at hm
          refine wp_seq ?_
          refine wp_region_lit ?_
          refine wl hs (y_lss hs rfl rfl) rfl ?_; intro a hs
          refine wpList_nil ?_
          refine x_nt ?_
          refine wp_seq ?_
          refine x_condF hs rfl (cnt_f hj19) ?_
          refine wp_exit ?_
          refine x_et ?_
          refine x_et ?_
          refine x_eb ?_
          have hm : some (l21, b22) = some s26 := hm
          exact ⟨vs20, l21, b22, Option.some.inj hm, hs.sub ⟨rfl, rfl, rfl, rfl, rfl, rfl, trivial⟩, hM⟩
        · rewrite [spec_rkClasses_l2] at hm
          have hsj19 := cnt_succ hj19 hnck
          refine wp_seq ?_
          refine wp_region_lit ?_
          refine wl hs (y_lss hs rfl rfl) rfl ?_; intro a hs
          refine wpList_nil ?_
          refine x_nt ?_
          refine wp_seq ?_
          refine x_condT hs rfl (cnt_t hj19) ?_
          refine wp_skip ?_
          refine x_nt ?_
          refine wp_seq ?_
          refine wp_block ?_
          refine wp_seq ?_
          refine wp_region_lit ?_
          refine wl hs (y_move hs rfl) rfl ?_; intro a hs
          obtain ⟨x29, hx30, hm⟩ := bindE hm
          obtain ⟨u32, hv33, he31⟩ := hM.atM 0 rfl hx30
          refine wl hs (y_index ht_M hs rfl rfl he31) rfl ?_; intro a hs
          refine wl hs (y_load sc_I hs rfl he31.cell) rfl ?_; intro a hs
          refine wl hs (y_assign hs rfl) rfl ?_; intro a hs
          refine wl hs (y_assign hs rfl) rfl ?_; intro a hs
          refine wpList_nil ?_
          refine x_nt ?_
          refine wp_seq ?_
          refine wp_region_lit ?_
          refine wl hs (y_move hs rfl) rfl ?_; intro a hs
          refine wl hs (y_not hs rfl) rfl ?_; intro a hs
          refine wl hs (y_move hs rfl) rfl ?_; intro a hs
          obtain ⟨b34, hb35, hm⟩ := bindE hm
          refine wlguard (N := 52) (L' := [(31, .bool b34), (0, v_p0), (3, v8), (4, .int .i64 (j7 : Int)), (5, .bool b22), (6, .int .i64 (j19 : Int)), (11, .int .i64 (x2.length : Int)), (12, .int .i64 (j7 : Int)), (15, v8), (16, .int .i64 (l10.length : Int)), (17, .int .i64 (j19 : Int))]) (fun w => Mem W w [aMat 24 3 v8 vs20 l21]) 7 ?_ ?_
          · intro K; rcases Bool.eq_false_or_eq_true (!b22) with hg36 | hg36
            · have hm := condT hg36 hb35
              refine wlg hs rfl hg36 (y_move hs rfl) rfl ?_; intro a hs
              refine wlg hs rfl hg36 (y_move hs rfl) rfl ?_; intro a hs
              obtain ⟨x37, hx38, hm⟩ := bindE hm
              have he39 := RdI.at_ (hM.rdRow 0 rfl rfl hv33 (idx_spec hx30).2.2) hx38
              refine wlg hs rfl hg36 (y_index ht_I hs rfl rfl he39) rfl ?_; intro a hs
              refine wlg hs rfl hg36 (y_load sc_int hs rfl he39.cell) rfl ?_; intro a hs
              refine wlg hs rfl hg36 (y_move hs rfl) rfl ?_; intro a hs
              obtain ⟨y40, h41, hm⟩ := bindE hm
              refine wcallg is_107 hs rfl hg36 rfl rfl (spec_rkAlike_any v_p0 p0 x37 (j7 : Int) _ (RdM.below hr_p0 hM.bel) h41) ?_; rintro a _ w hs ⟨rfl, hX⟩
              have hM : Mem W w [aMat 24 3 v8 vs20 l21] := hM.call hX
              have hm : some y40 = some b34 := hm
              cases Option.some.inj hm
              refine wl hs (y_pickT hs rfl hg36 rfl) rfl ?_; intro a hs
              exact K _ _ (hs.sub ⟨rfl, rfl, rfl, rfl, rfl, rfl, rfl, rfl, rfl, rfl, rfl, trivial⟩) hM
            · have hm := condF hg36 hb35
              refine wls hs rfl hg36 rfl ?_; intro a hs
              refine wls hs rfl hg36 rfl ?_; intro a hs
              refine wls hs rfl hg36 rfl ?_; intro a hs
              refine wls hs rfl hg36 rfl ?_; intro a hs
              refine wls hs rfl hg36 rfl ?_; intro a hs
              refine wls hs rfl hg36 rfl ?_; intro a hs
              have hm : some false = some b34 := hm
              cases Option.some.inj hm
              refine wl hs (y_pickF hs rfl hg36 rfl) rfl ?_; intro a hs
              exact K _ _ (hs.sub ⟨rfl, rfl, rfl, rfl, rfl, rfl, rfl, rfl, rfl, rfl, rfl, trivial⟩) hM
          intro a w hs hM
          simp only [List.drop_succ_cons, List.drop_zero]
          refine wpList_nil ?_
          refine x_nt ?_
          refine x_cond hs rfl (fun hb => ?_) (fun hb => ?_)
          · replace hm := condT hb hm
            refine wp_seq ?_
            refine wp_region_lit ?_
            refine wl hs (y_move hs rfl) rfl ?_; intro a hs
            refine wl hs (y_move hs rfl) rfl ?_; intro a hs
            refine wl hs (y_move hs rfl) rfl ?_; intro a hs
            refine wl hs (y_move hs rfl) rfl ?_; intro a hs
            obtain ⟨u43, hv44, he42⟩ := hM.atM 0 rfl hx30
            refine wl hs (y_index ht_M hs rfl rfl he42) rfl ?_; intro a hs
            refine wl hs (y_load sc_I hs rfl he42.cell) rfl ?_; intro a hs
            refine wl hs (y_move hs rfl) rfl ?_; intro a hs
            have hM : Mem W w [aInts 3 u43 x29, aMatO 24 3 v8 vs20 l21 (setO (fun _ => false) ((j19 : Int)).toNat)] := (hM).take rfl hv44 ((idx_spec hx30).2.2)
            obtain ⟨l46, h47, hm⟩ := bindE hm
            refine wappI hu_I he_int hs hM rfl rfl h47 rfl rfl rfl ?_; intro a v48 w u49 hs hM
            have hM : Mem W w [aInts 3 v48 l46, aMatO 24 3 v8 vs20 l21 (setO (fun _ => false) ((j19 : Int)).toNat)] := hM
            obtain ⟨u51, hv52, he50⟩ := hM.atM 1 rfl hx30
            refine wl hs (y_index ht_M hs rfl rfl he50) rfl ?_; intro a hs
            obtain ⟨l53, h54, hm⟩ := bindE hm
            refine wstore hs rfl rfl (x_storeH (out := fun _ => false) he_I hM rfl h54) ?_; intro w hM
            have hM : Mem W w [aMat 24 3 v8 (vs20.set ((j19 : Int)).toNat v48) l53] := hM
            refine wpList_nil ?_
            refine x_nt ?_
            refine wp_region_lit ?_
            refine wl hs (y_assign hs rfl) rfl ?_; intro a hs
            refine wpList_nil ?_
            refine x_nb ?_
            refine x_nt ?_
            refine wp_region_lit ?_
            refine wl hs (y_add hs rfl rfl hsj19) rfl ?_; intro a hs
            refine wl hs (y_move hs rfl) rfl ?_; intro a hs
            refine wpList_nil ?_
            exact ⟨_, Nat.lt_succ_self _, q28, j19 + 1, (vs20.set ((j19 : Int)).toNat v48), l53, true, rfl, hs.sub ⟨rfl, rfl, rfl, rfl, rfl, rfl, rfl, rfl, rfl, trivial⟩, hM, hm, cnt_next hj19⟩
          · replace hm := condF hb hm
            refine wp_skip ?_
            refine x_nb ?_
            refine x_nt ?_
            refine wp_region_lit ?_
            refine wl hs (y_add hs rfl rfl hsj19) rfl ?_; intro a hs
            refine wl hs (y_move hs rfl) rfl ?_; intro a hs
            refine wpList_nil ?_
            exact ⟨_, Nat.lt_succ_self _, q28, j19 + 1, vs20, l21, b22, rfl, hs.sub ⟨rfl, rfl, rfl, rfl, rfl, rfl, rfl, rfl, rfl, trivial⟩, hM, hm, cnt_next hj19⟩
      rintro a w ⟨vs23, l24, b25, rfl, hs, hM⟩
      have hm := hk27
      refine x_nt ?_
      refine wp_seq ?_
      refine wp_region_lit ?_
      refine wl hs (y_move hs rfl) rfl ?_; intro a hs
      refine wl hs (y_not hs rfl) rfl ?_; intro a hs
      refine wpList_nil ?_
      refine x_nt ?_
      refine x_cond hs rfl (fun hb => ?_) (fun hb => ?_)
      · replace hm := condT hb hm
        refine wp_region_lit ?_
        refine wl hs (y_move hs rfl) rfl ?_; intro a hs
        refine wl hs (y_move hs rfl) rfl ?_; intro a hs
        refine wmem hs (x_new1I hu_I he_int hs rfl hM) rfl ?_; intro a v56 w hs hM
        have hM : Mem W w [aInts 3 v56 ([(j7 : Int)]), aMat 24 3 v8 vs23 l24] := hM
        obtain ⟨l57, h58, hm⟩ := bindE hm
        refine wappM hu_M he_I hs (hM.front 1 rfl) rfl rfl h58 rfl rfl rfl ?_; intro a v59 w u60 hs hM
        have hM : Mem W w [aMat 24 3 v59 (vs23 ++ [v56]) l57] := hM
        refine wl hs (y_assign hs rfl) rfl ?_; intro a hs
        refine wpList_nil ?_
        refine x_nb ?_
        refine x_nt ?_
        refine wp_region_lit ?_
        refine wl hs (y_add hs rfl rfl hsj7) rfl ?_; intro a hs
        refine wl hs (y_move hs rfl) rfl ?_; intro a hs
        refine wpList_nil ?_
        exact ⟨_, by simp, q16, j7 + 1, v59, (vs23 ++ [v56]), l57, rfl, hs.sub ⟨rfl, rfl, rfl, rfl, trivial⟩, hM, hm, drop_next hj7⟩
      · replace hm := condF hb hm
        refine wp_skip ?_
        refine x_nb ?_
        refine x_nt ?_
        refine wp_region_lit ?_
        refine wl hs (y_add hs rfl rfl hsj7) rfl ?_; intro a hs
        refine wl hs (y_move hs rfl) rfl ?_; intro a hs
        refine wpList_nil ?_
        exact ⟨_, by simp, q16, j7 + 1, v8, vs23, l24, rfl, hs.sub ⟨rfl, rfl, rfl, rfl, trivial⟩, hM, hm, drop_next hj7⟩
  rintro a w ⟨v11, vs12, l13, rfl, hs, hM⟩
  have hm := hk15
  refine x_nt ?_
  refine wp_seq ?_
  refine wp_region_lit ?_
  refine wl hs (y_move hs rfl) rfl ?_; intro a hs
  refine wl hs (y_assign hs rfl) rfl ?_; intro a hs
  refine wpList_nil ?_
  refine x_nt ?_
  refine wp_ret ?_
  have hm : some l13 = some r := hm
  obtain rfl := Option.some.inj hm
  refine x_ret1 rfl hs rfl ⟨_, rfl, ?_⟩
  exact ⟨_, hM⟩

theorem spec_ColumnClasses_any (v_p0 : Value) (p0 : List (List Int)) (W : World) (hr_p0 : RdM W v_p0 p0) {r : (List (List Int)) × Bool} (hm : spec_ColumnClasses_m p0 = some r) : Calls Try.prog 30 [v_p0].toArray W fun e w => ∃ v, e = .returned v ∧ ∃ v0, ∃ vs0, v = .tuple #[v0, .bool r.2] ∧ Mem W w [aMat 24 3 v0 vs0 r.1] := by
  refine x_enter Try.func30 rfl Try.ntmps30 rfl ?_
  intro a hs
  have hM := Mem.start W
  unfold spec_ColumnClasses_m at hm
  refine wp_seq ?_
  refine wp_region_lit ?_
  refine wl hs (y_assign hs rfl) rfl ?_; intro a hs
  refine wl hs (y_assign hs rfl) rfl ?_; intro a hs
  refine wpList_nil ?_
  refine x_nt ?_
  refine wp_seq ?_
  refine wp_seq ?_
  refine wp_region_lit ?_
  refine wl hs (y_move hs rfl) rfl ?_; intro a hs
  obtain ⟨y1, h2, hm⟩ := bindE hm
  refine wcall is_57 hs rfl rfl (spec_mxGood_any v_p0 p0 _ (RdM.below hr_p0 hM.bel) h2) ?_; rintro a _ w hs ⟨rfl, hX⟩
  have hM : Mem W w [] := hM.call hX
  refine wl hs (y_not hs rfl) rfl ?_; intro a hs
  refine wpList_nil ?_
  refine x_nt ?_
  refine x_cond hs rfl (fun hb => ?_) (fun hb => ?_)
  · replace hm := condT hb hm
    refine wp_seq ?_
    refine wp_region_lit ?_
    refine wl hs (y_assign hs rfl) rfl ?_; intro a hs
    refine wl hs (y_assign hs rfl) rfl ?_; intro a hs
    refine wpList_nil ?_
    refine x_nt ?_
    refine wp_ret ?_
    refine x_rt ?_
    have hm : some ([], false) = some r := hm
    obtain rfl := Option.some.inj hm
    refine x_ret2 rfl hs rfl rfl ⟨_, rfl, ?_⟩
    have hM := hM.nilM 24 3
    exact ⟨_, _, rfl, hM⟩
  · replace hm := condF hb hm
    refine wp_skip ?_
    refine x_nt ?_
    refine wp_seq ?_
    refine wp_region_lit ?_
    refine wl hs (y_move hs rfl) rfl ?_; intro a hs
    obtain ⟨y4, h5, hm⟩ := bindE hm
    refine wcall is_72 hs rfl rfl (spec_rkClasses_any v_p0 p0 _ (RdM.below hr_p0 hM.bel) h5) ?_; rintro a v6 w hs ⟨vs8, hX⟩
    have hM : Mem W w [aMat 24 3 v6 vs8 y4] := hM.call hX
    refine wl hs (y_assign hs rfl) rfl ?_; intro a hs
    refine wl hs (y_assign hs rfl) rfl ?_; intro a hs
    refine wpList_nil ?_
    refine x_nt ?_
    refine wp_ret ?_
    have hm : some (y4, true) = some r := hm
    obtain rfl := Option.some.inj hm
    refine x_ret2 rfl hs rfl rfl ⟨_, rfl, ?_⟩
    exact ⟨_, _, rfl, hM⟩

set_option maxHeartbeats 4000000 in
theorem impl_differByOne_any (v_p0 : Value) (p0 : List Int) (v_p1 : Value) (p1 : List Int) (W : World) (hr_p0 : RdI W v_p0 p0) (hr_p1 : RdI W v_p1 p1) {r : Bool} (hm : impl_differByOne_m p0 p1 = some r) : Calls Try.prog 108 [v_p0, v_p1].toArray W fun e w => ∃ v, e = .returned v ∧ v = .bool r ∧ Mem W w [] := by
  refine x_enter Try.func108 rfl Try.ntmps108 rfl ?_
  intro a hs
  have hM := Mem.start W
  unfold impl_differByOne_m at hm
  refine wp_seq ?_
  refine wp_region_lit ?_
  refine wl hs (y_assign hs rfl) rfl ?_; intro a hs
  refine wpList_nil ?_
  refine x_nt ?_
  refine wp_seq ?_
  refine wp_region_lit ?_
  refine wl hs (y_assign hs rfl) rfl ?_; intro a hs
  refine wl hs (y_assign hs rfl) rfl ?_; intro a hs
  refine wpList_nil ?_
  refine x_nt ?_
  refine wp_seq ?_
  refine wp_seq ?_
  refine wp_region_lit ?_
  refine wl hs (y_move hs rfl) rfl ?_; intro a hs
  refine wl hs (y_len hu_I hs rfl (RdI.below hr_p0 hM.bel)) rfl ?_; intro a hs
  refine wl hs (y_move hs rfl) rfl ?_; intro a hs
  refine wpList_nil ?_
  refine x_nt ?_
  obtain ⟨s4, hm, hk5⟩ := bindE hm
  refine x_mid (fun a w => Sum.inr () = s4 ∧ Fr a 54 [] ∧ Mem W w []) ?_ ?_
  · refine wp_block ?_
    refine x_loop (fun k a w => ∃ (q6 : List Int) (j1 : Nat) (n2 : Int) (b3 : Bool) , k = q6.length ∧ Fr a 54 [(1, v_p1), (5, .int .i64 n2), (6, .bool b3), (9, v_p0), (10, .int .i64 (p0.length : Int)), (11, .int .i64 (j1 : Int))] ∧ Mem W w [] ∧ impl_differByOne_l1 p1 q6 j1 n2 b3 = some s4 ∧ List.drop j1 p0 = q6) _ ⟨p0, 0, 0, false, rfl, hs.sub ⟨rfl, rfl, rfl, rfl, rfl, rfl, trivial⟩, hM, hm, rfl⟩ ?_
    rintro k a w ⟨q6, j1, n2, b3, rfl, hs, hM, hm, hj1⟩
    rcases q6 with _ | ⟨x7, q6⟩
    · rewrite [impl_differByOne_l1] at hm
      refine wp_seq ?_
      refine wp_region_lit ?_
      refine wl hs (y_lss hs rfl rfl) rfl ?_; intro a hs
      refine wpList_nil ?_
      refine x_nt ?_
      refine wp_seq ?_
      refine x_condF hs rfl (drop_f hj1) ?_
      refine wp_exit ?_
      refine x_et ?_
      refine x_et ?_
      refine x_eb ?_
      have hm : some (Sum.inr ()) = some s4 := hm
      exact ⟨Option.some.inj hm, hs.sub trivial, hM⟩
    · rewrite [impl_differByOne_l1] at hm
      have hx8 := drop_idx hj1
      have hsj1 := ck_succ hj1 (RdS.len (RdI.below hr_p0 hM.bel))
      refine wp_seq ?_
      refine wp_region_lit ?_
      refine wl hs (y_lss hs rfl rfl) rfl ?_; intro a hs
      refine wpList_nil ?_
      refine x_nt ?_
      refine wp_seq ?_
      refine x_condT hs rfl (drop_t hj1) ?_
      refine wp_skip ?_
      refine x_nt ?_
      refine wp_seq ?_
      refine wp_block ?_
      refine wp_seq ?_
      refine wp_region_lit ?_
      refine wl hs (y_move hs rfl) rfl ?_; intro a hs
      have he9 := RdI.at_ (RdI.below hr_p0 hM.bel) hx8
      refine wl hs (y_index ht_I hs rfl rfl he9) rfl ?_; intro a hs
      refine wl hs (y_load sc_int hs rfl he9.cell) rfl ?_; intro a hs
      refine wl hs (y_assign hs rfl) rfl ?_; intro a hs
      refine wl hs (y_assign hs rfl) rfl ?_; intro a hs
      refine wpList_nil ?_
      refine x_nt ?_
      refine wp_seq ?_
      refine wp_seq ?_
      refine wp_region_lit ?_
      refine wl hs (y_move hs rfl) rfl ?_; intro a hs
      refine wl hs (y_eql hs rfl rfl) rfl ?_; intro a hs
      refine wl hs (y_move hs rfl) rfl ?_; intro a hs
      obtain ⟨b10, hb11, hm⟩ := bindE hm
      refine wlguard (N := 54) (L' := [(24, .bool b10), (1, v_p1), (5, .int .i64 n2), (6, .bool b3), (7, .int .i64 (j1 : Int)), (8, .int .i64 x7), (9, v_p0), (10, .int .i64 (p0.length : Int)), (11, .int .i64 (j1 : Int))]) (fun w => Mem W w []) 6 ?_ ?_
      · intro K; rcases Bool.eq_false_or_eq_true (x7 == 1000000000) with hg12 | hg12
        · have hm := condT hg12 hb11
          refine wlg hs rfl hg12 (y_move hs rfl) rfl ?_; intro a hs
          refine wlg hs rfl hg12 (y_move hs rfl) rfl ?_; intro a hs
          obtain ⟨x13, hx14, hm⟩ := bindE hm
          have he15 := RdI.at_ (RdI.below hr_p1 hM.bel) hx14
          refine wlg hs rfl hg12 (y_index ht_I hs rfl rfl he15) rfl ?_; intro a hs
          refine wlg hs rfl hg12 (y_load sc_int hs rfl he15.cell) rfl ?_; intro a hs
          refine wlg hs rfl hg12 (y_eql hs rfl rfl) rfl ?_; intro a hs
          have hm : some (x13 == 1000000000) = some b10 := hm
          cases Option.some.inj hm
          refine wl hs (y_pickT hs rfl hg12 rfl) rfl ?_; intro a hs
          exact K _ _ (hs.sub ⟨rfl, rfl, rfl, rfl, rfl, rfl, rfl, rfl, rfl, trivial⟩) hM
        · have hm := condF hg12 hb11
          refine wls hs rfl hg12 rfl ?_; intro a hs
          refine wls hs rfl hg12 rfl ?_; intro a hs
          refine wls hs rfl hg12 rfl ?_; intro a hs
          refine wls hs rfl hg12 rfl ?_; intro a hs
          refine wls hs rfl hg12 rfl ?_; intro a hs
          have hm : some false = some b10 := hm
          cases Option.some.inj hm
          refine wl hs (y_pickF hs rfl hg12 rfl) rfl ?_; intro a hs
          exact K _ _ (hs.sub ⟨rfl, rfl, rfl, rfl, rfl, rfl, rfl, rfl, rfl, trivial⟩) hM
      intro a w hs hM
      simp only [List.drop_succ_cons, List.drop_zero]
      refine wpList_nil ?_
      refine x_nt ?_
      refine x_cond hs rfl (fun hb => ?_) (fun hb => ?_)
      · replace hm := condT hb hm
        refine wp_exit ?_
        refine x_et ?_
        refine x_eb ?_
        refine x_nt ?_
        refine wp_region_lit ?_
        refine wl hs (y_add hs rfl rfl hsj1) rfl ?_; intro a hs
        refine wl hs (y_move hs rfl) rfl ?_; intro a hs
        refine wpList_nil ?_
        exact ⟨_, by simp, q6, j1 + 1, n2, b3, rfl, hs.sub ⟨rfl, rfl, rfl, rfl, rfl, rfl, trivial⟩, hM, hm, drop_next hj1⟩
      · replace hm := condF hb hm
        refine wp_skip ?_
        refine x_nt ?_
        refine wp_seq ?_
        refine wp_seq ?_
        refine wp_region_lit ?_
        refine wl hs (y_move hs rfl) rfl ?_; intro a hs
        refine wl hs (y_eql hs rfl rfl) rfl ?_; intro a hs
        refine wl hs (y_move hs rfl) rfl ?_; intro a hs
        obtain ⟨b16, hb17, hm⟩ := bindE hm
        refine wlguard (N := 54) (L' := [(33, .bool b16), (1, v_p1), (5, .int .i64 n2), (6, .bool b3), (7, .int .i64 (j1 : Int)), (8, .int .i64 x7), (9, v_p0), (10, .int .i64 (p0.length : Int)), (11, .int .i64 (j1 : Int))]) (fun w => Mem W w []) 6 ?_ ?_
        · intro K; rcases Bool.eq_false_or_eq_true (x7 == 1000000000) with hg18 | hg18
          · have hm := condT hg18 hb17
            refine wls hs rfl hg18 rfl ?_; intro a hs
            refine wls hs rfl hg18 rfl ?_; intro a hs
            refine wls hs rfl hg18 rfl ?_; intro a hs
            refine wls hs rfl hg18 rfl ?_; intro a hs
            refine wls hs rfl hg18 rfl ?_; intro a hs
            have hm : some true = some b16 := hm
            cases Option.some.inj hm
            refine wl hs (y_pickT hs rfl hg18 rfl) rfl ?_; intro a hs
            exact K _ _ (hs.sub ⟨rfl, rfl, rfl, rfl, rfl, rfl, rfl, rfl, rfl, trivial⟩) hM
          · have hm := condF hg18 hb17
            refine wlg hs rfl hg18 (y_move hs rfl) rfl ?_; intro a hs
            refine wlg hs rfl hg18 (y_move hs rfl) rfl ?_; intro a hs
            obtain ⟨x19, hx20, hm⟩ := bindE hm
            have he21 := RdI.at_ (RdI.below hr_p1 hM.bel) hx20
            refine wlg hs rfl hg18 (y_index ht_I hs rfl rfl he21) rfl ?_; intro a hs
            refine wlg hs rfl hg18 (y_load sc_int hs rfl he21.cell) rfl ?_; intro a hs
            refine wlg hs rfl hg18 (y_eql hs rfl rfl) rfl ?_; intro a hs
            have hm : some (x19 == 1000000000) = some b16 := hm
            cases Option.some.inj hm
            refine wl hs (y_pickF hs rfl hg18 rfl) rfl ?_; intro a hs
            exact K _ _ (hs.sub ⟨rfl, rfl, rfl, rfl, rfl, rfl, rfl, rfl, rfl, trivial⟩) hM
        intro a w hs hM
        simp only [List.drop_succ_cons, List.drop_zero]
        refine wl hs (y_move hs rfl) rfl ?_; intro a hs
        obtain ⟨b22, hb23, hm⟩ := bindE hm
        refine wlguard (N := 54) (L' := [(46, .bool b22), (1, v_p1), (7, .int .i64 (j1 : Int)), (8, .int .i64 x7), (9, v_p0), (10, .int .i64 (p0.length : Int)), (11, .int .i64 (j1 : Int))]) (fun w => Mem W w []) 12 ?_ ?_
        · intro K; rcases Bool.eq_false_or_eq_true b16 with hg24 | hg24
          · have hm := condT hg24 hb23
            refine wls hs rfl hg24 rfl ?_; intro a hs
            refine wls hs rfl hg24 rfl ?_; intro a hs
            refine wlu hs rfl rfl ?_; intro a hs
            refine wlu hs rfl rfl ?_; intro a hs
            refine wlu hs rfl rfl ?_; intro a hs
            refine wlu hs rfl rfl ?_; intro a hs
            refine wlu hs rfl rfl ?_; intro a hs
            refine wlu hs rfl rfl ?_; intro a hs
            refine wlu hs rfl rfl ?_; intro a hs
            refine wlu hs rfl rfl ?_; intro a hs
            refine wls hs rfl hg24 rfl ?_; intro a hs
            have hm : some true = some b22 := hm
            cases Option.some.inj hm
            refine wl hs (y_pickT hs rfl hg24 rfl) rfl ?_; intro a hs
            exact K _ _ (hs.sub ⟨rfl, rfl, rfl, rfl, rfl, rfl, rfl, trivial⟩) hM
          · have hm := condF hg24 hb23
            refine wlg hs rfl hg24 (y_move hs rfl) rfl ?_; intro a hs
            refine wlg hs rfl hg24 (y_move hs rfl) rfl ?_; intro a hs
            obtain ⟨b25, hb26, hm⟩ := bindE hm
            refine wlguard (N := 54) (L' := [(45, .bool b25), (1, v_p1), (7, .int .i64 (j1 : Int)), (8, .int .i64 x7), (9, v_p0), (10, .int .i64 (p0.length : Int)), (11, .int .i64 (j1 : Int)), (34, .bool b16)]) (fun w => Mem W w []) 9 ?_ ?_
            · intro K; rcases Bool.eq_false_or_eq_true b3 with hg27 | hg27
              · have hm := condT hg27 hb26
                refine wlg hs rfl hg27 (y_move hs rfl) rfl ?_; intro a hs
                refine wlg hs rfl hg27 (y_move hs rfl) rfl ?_; intro a hs
                obtain ⟨x28, hx29, hm⟩ := bindE hm
                have he30 := RdI.at_ (RdI.below hr_p1 hM.bel) hx29
                refine wlg hs rfl hg27 (y_index ht_I hs rfl rfl he30) rfl ?_; intro a hs
                refine wlg hs rfl hg27 (y_load sc_int hs rfl he30.cell) rfl ?_; intro a hs
                refine wlg hs rfl hg27 (y_move hs rfl) rfl ?_; intro a hs
                obtain ⟨n31, h32, hm⟩ := bindE hm
                refine wlg hs rfl hg27 (y_sub hs rfl rfl h32) rfl ?_; intro a hs
                refine wlg hs rfl hg27 (y_move hs rfl) rfl ?_; intro a hs
                refine wlg hs rfl hg27 (y_neq hs rfl rfl) rfl ?_; intro a hs
                have hm : some (n31 != n2) = some b25 := hm
                cases Option.some.inj hm
                refine wlg hs rfl hg24 (y_pickT hs rfl hg27 rfl) rfl ?_; intro a hs
                exact K _ _ (hs.sub ⟨rfl, rfl, rfl, rfl, rfl, rfl, rfl, rfl, trivial⟩) hM
              · have hm := condF hg27 hb26
                refine wls hs rfl hg27 rfl ?_; intro a hs
                refine wls hs rfl hg27 rfl ?_; intro a hs
                refine wls hs rfl hg27 rfl ?_; intro a hs
                refine wls hs rfl hg27 rfl ?_; intro a hs
                refine wls hs rfl hg27 rfl ?_; intro a hs
                refine wls hs rfl hg27 rfl ?_; intro a hs
                refine wls hs rfl hg27 rfl ?_; intro a hs
                refine wls hs rfl hg27 rfl ?_; intro a hs
                have hm : some false = some b25 := hm
                cases Option.some.inj hm
                refine wlg hs rfl hg24 (y_pickF hs rfl hg27 rfl) rfl ?_; intro a hs
                exact K _ _ (hs.sub ⟨rfl, rfl, rfl, rfl, rfl, rfl, rfl, rfl, trivial⟩) hM
            intro a w hs hM
            simp only [List.drop_succ_cons, List.drop_zero]
            have hm : some b25 = some b22 := hm
            cases Option.some.inj hm
            refine wl hs (y_pickF hs rfl hg24 rfl) rfl ?_; intro a hs
            exact K _ _ (hs.sub ⟨rfl, rfl, rfl, rfl, rfl, rfl, rfl, trivial⟩) hM
        intro a w hs hM
        simp only [List.drop_succ_cons, List.drop_zero]
        refine wpList_nil ?_
        refine x_nt ?_
        refine x_cond hs rfl (fun hb => ?_) (fun hb => ?_)
        · replace hm := condT hb hm
          refine wp_seq ?_
          refine wp_region_lit ?_
          refine wl hs (y_assign hs rfl) rfl ?_; intro a hs
          refine wpList_nil ?_
          refine x_nt ?_
          refine wp_ret ?_
          refine x_rt ?_
          refine x_rb ?_
          refine x_rt ?_
          refine x_rt ?_
          refine x_rb ?_
          refine x_rt ?_
          refine x_rt ?_
          have hm : some (Sum.inl false) = some s4 := hm
          cases Option.some.inj hm
          have hm := hk5
          have hm : some false = some r := hm
          obtain rfl := Option.some.inj hm
          refine x_ret1 rfl hs rfl ⟨_, rfl, ?_⟩
          exact ⟨rfl, hM⟩
        · replace hm := condF hb hm
          refine wp_skip ?_
          refine x_nt ?_
          refine wp_region_lit ?_
          refine wl hs (y_move hs rfl) rfl ?_; intro a hs
          refine wl hs (y_move hs rfl) rfl ?_; intro a hs
          obtain ⟨x33, hx34, hm⟩ := bindE hm
          have he35 := RdI.at_ (RdI.below hr_p1 hM.bel) hx34
          refine wl hs (y_index ht_I hs rfl rfl he35) rfl ?_; intro a hs
          refine wl hs (y_load sc_int hs rfl he35.cell) rfl ?_; intro a hs
          refine wl hs (y_move hs rfl) rfl ?_; intro a hs
          obtain ⟨n36, h37, hm⟩ := bindE hm
          refine wl hs (y_sub hs rfl rfl h37) rfl ?_; intro a hs
          refine wl hs (y_assign hs rfl) rfl ?_; intro a hs
          refine wl hs (y_assign hs rfl) rfl ?_; intro a hs
          refine wpList_nil ?_
          refine x_nb ?_
          refine x_nt ?_
          refine wp_region_lit ?_
          refine wl hs (y_add hs rfl rfl hsj1) rfl ?_; intro a hs
          refine wl hs (y_move hs rfl) rfl ?_; intro a hs
          refine wpList_nil ?_
          exact ⟨_, by simp, q6, j1 + 1, n36, true, rfl, hs.sub ⟨rfl, rfl, rfl, rfl, rfl, rfl, trivial⟩, hM, hm, drop_next hj1⟩
  rintro a w ⟨rfl, hs, hM⟩
  have hm := hk5
  refine x_nt ?_
  refine wp_seq ?_
  refine wp_region_lit ?_
  refine wl hs (y_assign hs rfl) rfl ?_; intro a hs
  refine wpList_nil ?_
  refine x_nt ?_
  refine wp_ret ?_
  have hm : some true = some r := hm
  obtain rfl := Option.some.inj hm
  refine x_ret1 rfl hs rfl ⟨_, rfl, ?_⟩
  exact ⟨rfl, hM⟩

end Go.Proofs.Ytaagklbiebogfaa
