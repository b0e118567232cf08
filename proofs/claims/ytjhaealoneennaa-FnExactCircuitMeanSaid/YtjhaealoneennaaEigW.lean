/- The code of this unit computes what its mirrors say. Written by program (wip/gen). -/
import Derived.Test.YtjhaealoneennaaFacts
import Derived.Test.YtjhaealoneennaaEigM
import Derived.Test.YtjhaealoneennaaNumW
import Derived.Test.YtjhaealoneennaaMatW
import Derived.Test.YtjhaealoneennaaMn1W
import Derived.Test.YtjhaealoneennaaOwnW
import Derived.Test.YtjhaealoneennaaMx2W
import Derived.Test.YtjhaealoneennaaWy4W
namespace Go.Proofs.Ytjhaealoneennaa
open Go.RowKit
set_option linter.unusedVariables false

theorem slices_Index_int_int_any (v_p0 : Value) (p0 : List Int) (p1 : Int) (W : World) (hr_p0 : RdI W v_p0 p0) {r : Int} (hm : slices_Index_int_int_m p0 p1 = some r) : Calls Try.prog 124 [v_p0, .int .i64 p1].toArray W fun e w => ∃ v, e = .returned v ∧ v = .int .i64 r ∧ Mem W w [] := by
  refine x_enter Try.func124 rfl Try.ntmps124 rfl ?_
  intro a hs
  have hM := Mem.start W
  unfold slices_Index_int_int_m at hm
  refine wp_seq ?_
  refine wp_region_lit ?_
  refine wl hs (y_assign hs rfl) rfl ?_; intro a hs
  refine wpList_nil ?_
  refine x_nt ?_
  refine wp_seq ?_
  refine wp_seq ?_
  refine wp_region_lit ?_
  refine wl hs (y_move hs rfl) rfl ?_; intro a hs
  refine wl hs (y_len hu_I hs rfl (RdI.below hr_p0 hM.bel)) rfl ?_; intro a hs
  refine wl hs (y_move hs rfl) rfl ?_; intro a hs
  refine wpList_nil ?_
  refine x_nt ?_
  obtain ⟨s2, hm, hk3⟩ := bindE hm
  refine x_mid (fun a w => Sum.inr () = s2 ∧ Fr a 19 [] ∧ Mem W w []) ?_ ?_
  · refine wp_block ?_
    refine x_loop (fun k a w => ∃ (q4 : List Int) (j1 : Nat) , k = q4.length ∧ Fr a 19 [(0, v_p0), (1, .int .i64 p1), (7, .int .i64 (p0.length : Int)), (8, .int .i64 (j1 : Int))] ∧ Mem W w [] ∧ slices_Index_int_int_l1 p1 q4 j1 = some s2 ∧ List.drop j1 p0 = q4) _ ⟨p0, 0, rfl, hs.sub ⟨rfl, rfl, rfl, rfl, trivial⟩, hM, hm, rfl⟩ ?_
    rintro k a w ⟨q4, j1, rfl, hs, hM, hm, hj1⟩
    rcases q4 with _ | ⟨x5, q4⟩
    · rewrite [slices_Index_int_int_l1] at hm
      refine wp_seq ?_
      refine wp_region_lit ?_
      refine wl hs (y_lss hs rfl rfl) rfl ?_; intro a hs
      refine wpList_nil ?_
      refine x_nt ?_
      refine wp_seq ?_
      refine x_condF hs rfl (drop_f hj1) ?_
      refine wp_exit ?_
      refine x_et ?_
      refine x_et ?_
      refine x_eb ?_
      have hm : some (Sum.inr ()) = some s2 := hm
      exact ⟨Option.some.inj hm, hs.sub trivial, hM⟩
    · rewrite [slices_Index_int_int_l1] at hm
      have hx6 := drop_idx hj1
      have hsj1 := ck_succ hj1 (RdS.len (RdI.below hr_p0 hM.bel))
      refine wp_seq ?_
      refine wp_region_lit ?_
      refine wl hs (y_lss hs rfl rfl) rfl ?_; intro a hs
      refine wpList_nil ?_
      refine x_nt ?_
      refine wp_seq ?_
      refine x_condT hs rfl (drop_t hj1) ?_
      refine wp_skip ?_
      refine x_nt ?_
      refine wp_seq ?_
      refine wp_block ?_
      refine wp_seq ?_
      refine wp_region_lit ?_
      refine wl hs (y_move hs rfl) rfl ?_; intro a hs
      refine wl hs (y_assign hs rfl) rfl ?_; intro a hs
      refine wpList_nil ?_
      refine x_nt ?_
      refine wp_seq ?_
      refine wp_region_lit ?_
      refine wl hs (y_move hs rfl) rfl ?_; intro a hs
      refine wl hs (y_move hs rfl) rfl ?_; intro a hs
      refine wl hs (y_move hs rfl) rfl ?_; intro a hs
      have he7 := RdI.at_ (RdI.below hr_p0 hM.bel) hx6
      refine wl hs (y_index ht_I hs rfl rfl he7) rfl ?_; intro a hs
      refine wl hs (y_load sc_int hs rfl he7.cell) rfl ?_; intro a hs
      refine wl hs (y_eql hs rfl rfl) rfl ?_; intro a hs
      refine wpList_nil ?_
      refine x_nt ?_
      refine x_cond hs rfl (fun hb => ?_) (fun hb => ?_)
      · replace hm := condT hb hm
        refine wp_seq ?_
        refine wp_region_lit ?_
        refine wl hs (y_move hs rfl) rfl ?_; intro a hs
        refine wl hs (y_assign hs rfl) rfl ?_; intro a hs
        refine wpList_nil ?_
        refine x_nt ?_
        refine wp_ret ?_
        refine x_rb ?_
        refine x_rt ?_
        refine x_rt ?_
        refine x_rb ?_
        refine x_rt ?_
        refine x_rt ?_
        have hm : some (Sum.inl (j1 : Int)) = some s2 := hm
        cases Option.some.inj hm
        have hm := hk3
        have hm : some (j1 : Int) = some r := hm
        obtain rfl := Option.some.inj hm
        refine x_ret1 rfl hs rfl ⟨_, rfl, ?_⟩
        exact ⟨rfl, hM⟩
      · replace hm := condF hb hm
        refine wp_skip ?_
        refine x_nb ?_
        refine x_nt ?_
        refine wp_region_lit ?_
        refine wl hs (y_add hs rfl rfl hsj1) rfl ?_; intro a hs
        refine wl hs (y_move hs rfl) rfl ?_; intro a hs
        refine wpList_nil ?_
        exact ⟨_, by simp, q4, j1 + 1, rfl, hs.sub ⟨rfl, rfl, rfl, rfl, trivial⟩, hM, hm, drop_next hj1⟩
  rintro a w ⟨rfl, hs, hM⟩
  have hm := hk3
  refine x_nt ?_
  refine wp_seq ?_
  refine wp_region_lit ?_
  refine wl hs (y_assign hs rfl) rfl ?_; intro a hs
  refine wpList_nil ?_
  refine x_nt ?_
  refine wp_ret ?_
  have hm : some (-1) = some r := hm
  obtain rfl := Option.some.inj hm
  refine x_ret1 rfl hs rfl ⟨_, rfl, ?_⟩
  exact ⟨rfl, hM⟩

theorem slices_Contains_int_int_any (v_p0 : Value) (p0 : List Int) (p1 : Int) (W : World) (hr_p0 : RdI W v_p0 p0) {r : Bool} (hm : slices_Contains_int_int_m p0 p1 = some r) : Calls Try.prog 103 [v_p0, .int .i64 p1].toArray W fun e w => ∃ v, e = .returned v ∧ v = .bool r ∧ Mem W w [] := by
  refine x_enter Try.func103 rfl Try.ntmps103 rfl ?_
  intro a hs
  have hM := Mem.start W
  unfold slices_Contains_int_int_m at hm
  refine wp_seq ?_
  refine wp_region_lit ?_
  refine wl hs (y_assign hs rfl) rfl ?_; intro a hs
  refine wpList_nil ?_
  refine x_nt ?_
  refine wp_seq ?_
  refine wp_region_lit ?_
  refine wl hs (y_move hs rfl) rfl ?_; intro a hs
  refine wl hs (y_move hs rfl) rfl ?_; intro a hs
  obtain ⟨y1, h2, hm⟩ := bindE hm
  refine wcall is_124 hs rfl rfl (slices_Index_int_int_any v_p0 p0 p1 _ (RdI.below hr_p0 hM.bel) h2) ?_; rintro a _ w hs ⟨rfl, hX⟩
  have hM : Mem W w [] := hM.call hX
  refine wl hs (y_geq hs rfl rfl) rfl ?_; intro a hs
  refine wl hs (y_assign hs rfl) rfl ?_; intro a hs
  refine wpList_nil ?_
  refine x_nt ?_
  refine wp_ret ?_
  have hm : some (decide (y1 ≥ 0)) = some r := hm
  obtain rfl := Option.some.inj hm
  refine x_ret1 rfl hs rfl ⟨_, rfl, ?_⟩
  exact ⟨rfl, hM⟩

theorem slices_Equal_int_int_any (v_p0 : Value) (p0 : List Int) (v_p1 : Value) (p1 : List Int) (W : World) (hr_p0 : RdI W v_p0 p0) (hr_p1 : RdI W v_p1 p1) {r : Bool} (hm : slices_Equal_int_int_m p0 p1 = some r) : Calls Try.prog 66 [v_p0, v_p1].toArray W fun e w => ∃ v, e = .returned v ∧ v = .bool r ∧ Mem W w [] := by
  refine x_enter Try.func66 rfl Try.ntmps66 rfl ?_
  intro a hs
  have hM := Mem.start W
  unfold slices_Equal_int_int_m at hm
  refine wp_seq ?_
  refine wp_region_lit ?_
  refine wl hs (y_assign hs rfl) rfl ?_; intro a hs
  refine wpList_nil ?_
  refine x_nt ?_
  refine wp_seq ?_
  refine wp_seq ?_
  refine wp_region_lit ?_
  refine wl hs (y_move hs rfl) rfl ?_; intro a hs
  refine wl hs (y_len hu_I hs rfl (RdI.below hr_p0 hM.bel)) rfl ?_; intro a hs
  refine wl hs (y_move hs rfl) rfl ?_; intro a hs
  refine wl hs (y_len hu_I hs rfl (RdI.below hr_p1 hM.bel)) rfl ?_; intro a hs
  refine wl hs (y_neq hs rfl rfl) rfl ?_; intro a hs
  refine wpList_nil ?_
  refine x_nt ?_
  refine x_cond hs rfl (fun hb => ?_) (fun hb => ?_)
  · replace hm := condT hb hm
    refine wp_seq ?_
    refine wp_region_lit ?_
    refine wl hs (y_assign hs rfl) rfl ?_; intro a hs
    refine wpList_nil ?_
    refine x_nt ?_
    refine wp_ret ?_
    refine x_rt ?_
    have hm : some false = some r := hm
    obtain rfl := Option.some.inj hm
    refine x_ret1 rfl hs rfl ⟨_, rfl, ?_⟩
    exact ⟨rfl, hM⟩
  · replace hm := condF hb hm
    refine wp_skip ?_
    refine x_nt ?_
    refine wp_seq ?_
    refine wp_seq ?_
    refine wp_region_lit ?_
    refine wl hs (y_move hs rfl) rfl ?_; intro a hs
    refine wl hs (y_len hu_I hs rfl (RdI.below hr_p0 hM.bel)) rfl ?_; intro a hs
    refine wl hs (y_move hs rfl) rfl ?_; intro a hs
    refine wpList_nil ?_
    refine x_nt ?_
    obtain ⟨s2, hm, hk3⟩ := bindE hm
    refine x_mid (fun a w => Sum.inr () = s2 ∧ Fr a 26 [] ∧ Mem W w []) ?_ ?_
    · refine wp_block ?_
      refine x_loop (fun k a w => ∃ (q4 : List Int) (j1 : Nat) , k = q4.length ∧ Fr a 26 [(0, v_p0), (1, v_p1), (12, .int .i64 (p0.length : Int)), (13, .int .i64 (j1 : Int))] ∧ Mem W w [] ∧ slices_Equal_int_int_l1 p1 q4 j1 = some s2 ∧ List.drop j1 p0 = q4) _ ⟨p0, 0, rfl, hs.sub ⟨rfl, rfl, rfl, rfl, trivial⟩, hM, hm, rfl⟩ ?_
      rintro k a w ⟨q4, j1, rfl, hs, hM, hm, hj1⟩
      rcases q4 with _ | ⟨x5, q4⟩
      · rewrite [slices_Equal_int_int_l1] at hm
        refine wp_seq ?_
        refine wp_region_lit ?_
        refine wl hs (y_lss hs rfl rfl) rfl ?_; intro a hs
        refine wpList_nil ?_
        refine x_nt ?_
        refine wp_seq ?_
        refine x_condF hs rfl (drop_f hj1) ?_
        refine wp_exit ?_
        refine x_et ?_
        refine x_et ?_
        refine x_eb ?_
        have hm : some (Sum.inr ()) = some s2 := hm
        exact ⟨Option.some.inj hm, hs.sub trivial, hM⟩
      · rewrite [slices_Equal_int_int_l1] at hm
        have hx6 := drop_idx hj1
        have hsj1 := ck_succ hj1 (RdS.len (RdI.below hr_p0 hM.bel))
        refine wp_seq ?_
        refine wp_region_lit ?_
        refine wl hs (y_lss hs rfl rfl) rfl ?_; intro a hs
        refine wpList_nil ?_
        refine x_nt ?_
        refine wp_seq ?_
        refine x_condT hs rfl (drop_t hj1) ?_
        refine wp_skip ?_
        refine x_nt ?_
        refine wp_seq ?_
        refine wp_block ?_
        refine wp_seq ?_
        refine wp_region_lit ?_
        refine wl hs (y_move hs rfl) rfl ?_; intro a hs
        refine wl hs (y_assign hs rfl) rfl ?_; intro a hs
        refine wpList_nil ?_
        refine x_nt ?_
        refine wp_seq ?_
        refine x_regq hmix (by kernel_rfl) ?_
        refine wq hs (fun w1 hw1 => y_move hs rfl) rfl ?_; intro a hs
        refine wq hs (fun w1 hw1 => y_move hs rfl) rfl ?_; intro a hs
        have he7 := RdI.at_ (RdI.below hr_p0 hM.bel) hx6
        refine wq hs (fun w1 hw1 => y_index ht_I hs rfl rfl (he7.below hw1)) rfl ?_; intro a hs
        refine wq hs (fun w1 hw1 => y_load sc_int hs rfl (he7.below hw1).cell) rfl ?_; intro a hs
        refine wq hs (fun w1 hw1 => y_move hs rfl) rfl ?_; intro a hs
        refine wq hs (fun w1 hw1 => y_move hs rfl) rfl ?_; intro a hs
        obtain ⟨x8, hx9, hm⟩ := bindE hm
        have he10 := RdI.at_ (RdI.below hr_p1 hM.bel) hx9
        refine wq hs (fun w1 hw1 => y_index ht_I hs rfl rfl (he10.below hw1)) rfl ?_; intro a hs
        refine wq hs (fun w1 hw1 => y_load sc_int hs rfl (he10.below hw1).cell) rfl ?_; intro a hs
        refine wq hs (fun w1 hw1 => y_neq hs rfl rfl) rfl ?_; intro a hs
        refine wpQuiet_nil ?_
        intro w hw
        replace hM := hM.quiet hw
        refine x_nt ?_
        refine x_cond hs rfl (fun hb => ?_) (fun hb => ?_)
        · replace hm := condT hb hm
          refine wp_seq ?_
          refine wp_region_lit ?_
          refine wl hs (y_assign hs rfl) rfl ?_; intro a hs
          refine wpList_nil ?_
          refine x_nt ?_
          refine wp_ret ?_
          refine x_rb ?_
          refine x_rt ?_
          refine x_rt ?_
          refine x_rb ?_
          refine x_rt ?_
          refine x_rt ?_
          have hm : some (Sum.inl false) = some s2 := hm
          cases Option.some.inj hm
          have hm := hk3
          have hm : some false = some r := hm
          obtain rfl := Option.some.inj hm
          refine x_ret1 rfl hs rfl ⟨_, rfl, ?_⟩
          exact ⟨rfl, hM⟩
        · replace hm := condF hb hm
          refine wp_skip ?_
          refine x_nb ?_
          refine x_nt ?_
          refine wp_region_lit ?_
          refine wl hs (y_add hs rfl rfl hsj1) rfl ?_; intro a hs
          refine wl hs (y_move hs rfl) rfl ?_; intro a hs
          refine wpList_nil ?_
          exact ⟨_, by simp, q4, j1 + 1, rfl, hs.sub ⟨rfl, rfl, rfl, rfl, trivial⟩, hM, hm, drop_next hj1⟩
    rintro a w ⟨rfl, hs, hM⟩
    have hm := hk3
    refine x_nt ?_
    refine wp_seq ?_
    refine wp_region_lit ?_
    refine wl hs (y_assign hs rfl) rfl ?_; intro a hs
    refine wpList_nil ?_
    refine x_nt ?_
    refine wp_ret ?_
    have hm : some true = some r := hm
    obtain rfl := Option.some.inj hm
    refine x_ret1 rfl hs rfl ⟨_, rfl, ?_⟩
    exact ⟨rfl, hM⟩

set_option maxHeartbeats 4000000 in
theorem spec_IsEigenvector_any (v_p0 : Value) (p0 : List (List Int)) (p1 : Int) (v_p2 : Value) (p2 : List Int) (W : World) (hr_p0 : RdM W v_p0 p0) (hr_p2 : RdI W v_p2 p2) {r : Bool × Bool} (hm : spec_IsEigenvector_m p0 p1 p2 = some r) : Calls Try.prog 25 [v_p0, .int .i64 p1, v_p2].toArray W fun e w => ∃ v, e = .returned v ∧ v = .tuple #[.bool r.1, .bool r.2] ∧ Mem W w [] := by
  refine x_enter Try.func25 rfl Try.ntmps25 rfl ?_
  intro a hs
  have hM := Mem.start W
  unfold spec_IsEigenvector_m at hm
  refine wp_seq ?_
  refine wp_region_lit ?_
  refine wl hs (y_assign hs rfl) rfl ?_; intro a hs
  refine wl hs (y_assign hs rfl) rfl ?_; intro a hs
  refine wpList_nil ?_
  refine x_nt ?_
  refine wp_seq ?_
  refine wp_seq ?_
  refine wp_region_lit ?_
  refine wl hs (y_move hs rfl) rfl ?_; intro a hs
  refine wl hs (y_move hs rfl) rfl ?_; intro a hs
  obtain ⟨y1, h2, hm⟩ := bindE hm
  refine wcall is_63 hs rfl rfl (spec_mnVector_any v_p0 p0 v_p2 p2 _ (RdM.below hr_p0 hM.bel) (RdI.below hr_p2 hM.bel) h2) ?_; rintro a _ w hs ⟨rfl, hX⟩
  have hM : Mem W w [] := hM.call hX
  refine wl hs (y_not hs rfl) rfl ?_; intro a hs
  refine wl hs (y_move hs rfl) rfl ?_; intro a hs
  obtain ⟨b3, hb4, hm⟩ := bindE hm
  refine wlguard (N := 54) (L' := [(21, .bool b3), (0, v_p0), (1, .int .i64 p1), (2, v_p2)]) (fun w => Mem W w []) 4 ?_ ?_
  · intro K; rcases Bool.eq_false_or_eq_true (!y1) with hg5 | hg5
    · have hm := condT hg5 hb4
      refine wls hs rfl hg5 rfl ?_; intro a hs
      refine wls hs rfl hg5 rfl ?_; intro a hs
      refine wls hs rfl hg5 rfl ?_; intro a hs
      have hm : some true = some b3 := hm
      cases Option.some.inj hm
      refine wl hs (y_pickT hs rfl hg5 rfl) rfl ?_; intro a hs
      exact K _ _ (hs.sub ⟨rfl, rfl, rfl, rfl, trivial⟩) hM
    · have hm := condF hg5 hb4
      refine wlg hs rfl hg5 (y_move hs rfl) rfl ?_; intro a hs
      obtain ⟨y6, h7, hm⟩ := bindE hm
      refine wcallg is_64 hs rfl hg5 rfl rfl (spec_poFinite_any p1 _  h7) ?_; rintro a _ w hs ⟨rfl, hX⟩
      have hM : Mem W w [] := hM.call hX
      refine wlg hs rfl hg5 (y_not hs rfl) rfl ?_; intro a hs
      have hm : some (!y6) = some b3 := hm
      cases Option.some.inj hm
      refine wl hs (y_pickF hs rfl hg5 rfl) rfl ?_; intro a hs
      exact K _ _ (hs.sub ⟨rfl, rfl, rfl, rfl, trivial⟩) hM
  intro a w hs hM
  simp only [List.drop_succ_cons, List.drop_zero]
  refine wpList_nil ?_
  refine x_nt ?_
  refine x_cond hs rfl (fun hb => ?_) (fun hb => ?_)
  · replace hm := condT hb hm
    refine wp_seq ?_
    refine wp_region_lit ?_
    refine wl hs (y_assign hs rfl) rfl ?_; intro a hs
    refine wl hs (y_assign hs rfl) rfl ?_; intro a hs
    refine wpList_nil ?_
    refine x_nt ?_
    refine wp_ret ?_
    refine x_rt ?_
    have hm : some (false, false) = some r := hm
    obtain rfl := Option.some.inj hm
    refine x_ret2 rfl hs rfl rfl ⟨_, rfl, ?_⟩
    exact ⟨rfl, hM⟩
  · replace hm := condF hb hm
    refine wp_skip ?_
    refine x_nt ?_
    refine wp_seq ?_
    refine wp_seq ?_
    refine wp_region_lit ?_
    refine wl hs (y_move hs rfl) rfl ?_; intro a hs
    refine wl hs (y_len hu_M hs rfl (RdM.below hr_p0 hM.bel)) rfl ?_; intro a hs
    refine wl hs (y_move hs rfl) rfl ?_; intro a hs
    refine wpList_nil ?_
    refine x_nt ?_
    obtain ⟨s9, hm, hk10⟩ := bindE hm
    refine x_mid (fun a w => Sum.inr () = s9 ∧ Fr a 54 [] ∧ Mem W w []) ?_ ?_
    · refine wp_block ?_
      refine x_loop (fun k a w => ∃ (q11 : List (List Int)) (j8 : Nat) , k = q11.length ∧ Fr a 54 [(1, .int .i64 p1), (2, v_p2), (22, v_p0), (23, .int .i64 (p0.length : Int)), (24, .int .i64 (j8 : Int))] ∧ Mem W w [] ∧ spec_IsEigenvector_l1 p1 p2 q11 j8 = some s9 ∧ List.drop j8 p0 = q11) _ ⟨p0, 0, rfl, hs.sub ⟨rfl, rfl, rfl, rfl, rfl, trivial⟩, hM, hm, rfl⟩ ?_
      rintro k a w ⟨q11, j8, rfl, hs, hM, hm, hj8⟩
      rcases q11 with _ | ⟨x12, q11⟩
      · rewrite [spec_IsEigenvector_l1] at hm
        refine wp_seq ?_
        refine wp_region_lit ?_
        refine wl hs (y_lss hs rfl rfl) rfl ?_; intro a hs
        refine wpList_nil ?_
        refine x_nt ?_
        refine wp_seq ?_
        refine x_condF hs rfl (drop_f hj8) ?_
        refine wp_exit ?_
        refine x_et ?_
        refine x_et ?_
        refine x_eb ?_
        have hm : some (Sum.inr ()) = some s9 := hm
        exact ⟨Option.some.inj hm, hs.sub trivial, hM⟩
      · rewrite [spec_IsEigenvector_l1] at hm
        have hx13 := drop_idx hj8
        have hsj8 := ck_succ hj8 (RdS.len (RdM.below hr_p0 hM.bel))
        refine wp_seq ?_
        refine wp_region_lit ?_
        refine wl hs (y_lss hs rfl rfl) rfl ?_; intro a hs
        refine wpList_nil ?_
        refine x_nt ?_
        refine wp_seq ?_
        refine x_condT hs rfl (drop_t hj8) ?_
        refine wp_skip ?_
        refine x_nt ?_
        refine wp_seq ?_
        refine wp_block ?_
        refine wp_seq ?_
        refine wp_region_lit ?_
        refine wl hs (y_move hs rfl) rfl ?_; intro a hs
        obtain ⟨u15, he14, hr16⟩ := RdM.at_ hr_p0 hx13
        replace he14 := he14.below hM.bel
        refine wl hs (y_index ht_M hs rfl rfl he14) rfl ?_; intro a hs
        refine wl hs (y_load sc_I hs rfl he14.cell) rfl ?_; intro a hs
        refine wl hs (y_assign hs rfl) rfl ?_; intro a hs
        refine wl hs (y_assign hs rfl) rfl ?_; intro a hs
        refine wpList_nil ?_
        refine x_nt ?_
        refine wp_seq ?_
        refine wp_region_lit ?_
        refine wl hs (y_assign hs rfl) rfl ?_; intro a hs
        refine wpList_nil ?_
        refine x_nt ?_
        refine wp_seq ?_
        refine wp_seq ?_
        refine wp_region_lit ?_
        refine wl hs (y_move hs rfl) rfl ?_; intro a hs
        refine wl hs (y_len hu_I hs rfl (RdI.below hr16 hM.bel)) rfl ?_; intro a hs
        refine wl hs (y_move hs rfl) rfl ?_; intro a hs
        refine wpList_nil ?_
        refine x_nt ?_
        obtain ⟨s20, hm, hk21⟩ := bindE hm
        refine x_mid (fun a w => ∃ (n19 : Int), n19 = s20 ∧ Fr a 54 [(1, .int .i64 p1), (2, v_p2), (8, .int .i64 (j8 : Int)), (10, .int .i64 n19), (22, v_p0), (23, .int .i64 (p0.length : Int)), (24, .int .i64 (j8 : Int))] ∧ Mem W w []) ?_ ?_
        · refine wp_block ?_
          refine x_loop (fun k a w => ∃ (q22 : List Int) (j17 : Nat) (n18 : Int) , k = q22.length ∧ Fr a 54 [(1, .int .i64 p1), (2, v_p2), (8, .int .i64 (j8 : Int)), (10, .int .i64 n18), (22, v_p0), (23, .int .i64 (p0.length : Int)), (24, .int .i64 (j8 : Int)), (29, u15), (30, .int .i64 (x12.length : Int)), (31, .int .i64 (j17 : Int))] ∧ Mem W w [] ∧ spec_IsEigenvector_l2 p2 q22 j17 n18 = some s20 ∧ List.drop j17 x12 = q22) _ ⟨x12, 0, 1000000000, rfl, hs.sub ⟨rfl, rfl, rfl, rfl, rfl, rfl, rfl, rfl, rfl, rfl, trivial⟩, hM, hm, rfl⟩ ?_
          rintro k a w ⟨q22, j17, n18, rfl, hs, hM, hm, hj17⟩
          rcases q22 with _ | ⟨x23, q22⟩
          · rewrite [spec_IsEigenvector_l2] at hm
            refine wp_seq ?_
            refine wp_region_lit ?_
            refine wl hs (y_lss hs rfl rfl) rfl ?_; intro a hs
            refine wpList_nil ?_
            refine x_nt ?_
            refine wp_seq ?_
            refine x_condF hs rfl (drop_f hj17) ?_
            refine wp_exit ?_
            refine x_et ?_
            refine x_et ?_
            refine x_eb ?_
            have hm : some n18 = some s20 := hm
            exact ⟨n18, Option.some.inj hm, hs.sub ⟨rfl, rfl, rfl, rfl, rfl, rfl, rfl, trivial⟩, hM⟩
          · rewrite [spec_IsEigenvector_l2] at hm
            have hx24 := drop_idx hj17
            have hsj17 := ck_succ hj17 (RdS.len (RdI.below hr16 hM.bel))
            refine wp_seq ?_
            refine wp_region_lit ?_
            refine wl hs (y_lss hs rfl rfl) rfl ?_; intro a hs
            refine wpList_nil ?_
            refine x_nt ?_
            refine wp_seq ?_
            refine x_condT hs rfl (drop_t hj17) ?_
            refine wp_skip ?_
            refine x_nt ?_
            refine wp_seq ?_
            refine wp_block ?_
            refine wp_seq ?_
            refine wp_region_lit ?_
            refine wl hs (y_move hs rfl) rfl ?_; intro a hs
            have he25 := RdI.at_ (RdI.below hr16 hM.bel) hx24
            refine wl hs (y_index ht_I hs rfl rfl he25) rfl ?_; intro a hs
            refine wl hs (y_load sc_int hs rfl he25.cell) rfl ?_; intro a hs
            refine wl hs (y_assign hs rfl) rfl ?_; intro a hs
            refine wl hs (y_assign hs rfl) rfl ?_; intro a hs
            refine wpList_nil ?_
            refine x_nt ?_
            refine wp_region_lit ?_
            refine wl hs (y_move hs rfl) rfl ?_; intro a hs
            refine wl hs (y_move hs rfl) rfl ?_; intro a hs
            refine wl hs (y_move hs rfl) rfl ?_; intro a hs
            refine wl hs (y_move hs rfl) rfl ?_; intro a hs
            obtain ⟨x26, hx27, hm⟩ := bindE hm
            have he28 := RdI.at_ (RdI.below hr_p2 hM.bel) hx27
            refine wl hs (y_index ht_I hs rfl rfl he28) rfl ?_; intro a hs
            refine wl hs (y_load sc_int hs rfl he28.cell) rfl ?_; intro a hs
            obtain ⟨y29, h30, hm⟩ := bindE hm
            refine wcall is_57 hs rfl rfl (spec_nuPlus_any x23 x26 _  h30) ?_; rintro a _ w hs ⟨rfl, hX⟩
            have hM : Mem W w [] := hM.call hX
            obtain ⟨y31, h32, hm⟩ := bindE hm
            refine wcall is_48 hs rfl rfl (spec_l1Least_any n18 y29 _  h32) ?_; rintro a _ w hs ⟨rfl, hX⟩
            have hM : Mem W w [] := hM.call hX
            refine wl hs (y_assign hs rfl) rfl ?_; intro a hs
            refine wpList_nil ?_
            refine x_nb ?_
            refine x_nt ?_
            refine wp_region_lit ?_
            refine wl hs (y_add hs rfl rfl hsj17) rfl ?_; intro a hs
            refine wl hs (y_move hs rfl) rfl ?_; intro a hs
            refine wpList_nil ?_
            exact ⟨_, by simp, q22, j17 + 1, y31, rfl, hs.sub ⟨rfl, rfl, rfl, rfl, rfl, rfl, rfl, rfl, rfl, rfl, trivial⟩, hM, hm, drop_next hj17⟩
        rintro a w ⟨n19, rfl, hs, hM⟩
        have hm := hk21
        refine x_nt ?_
        refine wp_seq ?_
        refine wp_region_lit ?_
        refine wl hs (y_move hs rfl) rfl ?_; intro a hs
        refine wl hs (y_move hs rfl) rfl ?_; intro a hs
        refine wl hs (y_move hs rfl) rfl ?_; intro a hs
        refine wl hs (y_move hs rfl) rfl ?_; intro a hs
        obtain ⟨x33, hx34, hm⟩ := bindE hm
        have he35 := RdI.at_ (RdI.below hr_p2 hM.bel) hx34
        refine wl hs (y_index ht_I hs rfl rfl he35) rfl ?_; intro a hs
        refine wl hs (y_load sc_int hs rfl he35.cell) rfl ?_; intro a hs
        obtain ⟨n36, h37, hm⟩ := bindE hm
        refine wl hs (y_add hs rfl rfl h37) rfl ?_; intro a hs
        refine wl hs (y_neq hs rfl rfl) rfl ?_; intro a hs
        refine wpList_nil ?_
        refine x_nt ?_
        refine x_cond hs rfl (fun hb => ?_) (fun hb => ?_)
        · replace hm := condT hb hm
          refine wp_seq ?_
          refine wp_region_lit ?_
          refine wl hs (y_assign hs rfl) rfl ?_; intro a hs
          refine wl hs (y_assign hs rfl) rfl ?_; intro a hs
          refine wpList_nil ?_
          refine x_nt ?_
          refine wp_ret ?_
          refine x_rb ?_
          refine x_rt ?_
          refine x_rt ?_
          refine x_rb ?_
          refine x_rt ?_
          refine x_rt ?_
          have hm : some (Sum.inl (false, true)) = some s9 := hm
          cases Option.some.inj hm
          have hm := hk10
          have hm : some (false, true) = some r := hm
          obtain rfl := Option.some.inj hm
          refine x_ret2 rfl hs rfl rfl ⟨_, rfl, ?_⟩
          exact ⟨rfl, hM⟩
        · replace hm := condF hb hm
          refine wp_skip ?_
          refine x_nb ?_
          refine x_nt ?_
          refine wp_region_lit ?_
          refine wl hs (y_add hs rfl rfl hsj8) rfl ?_; intro a hs
          refine wl hs (y_move hs rfl) rfl ?_; intro a hs
          refine wpList_nil ?_
          exact ⟨_, by simp, q11, j8 + 1, rfl, hs.sub ⟨rfl, rfl, rfl, rfl, rfl, trivial⟩, hM, hm, drop_next hj8⟩
    rintro a w ⟨rfl, hs, hM⟩
    have hm := hk10
    refine x_nt ?_
    refine wp_seq ?_
    refine wp_region_lit ?_
    refine wl hs (y_assign hs rfl) rfl ?_; intro a hs
    refine wl hs (y_assign hs rfl) rfl ?_; intro a hs
    refine wpList_nil ?_
    refine x_nt ?_
    refine wp_ret ?_
    have hm : some (true, true) = some r := hm
    obtain rfl := Option.some.inj hm
    refine x_ret2 rfl hs rfl rfl ⟨_, rfl, ?_⟩
    exact ⟨rfl, hM⟩

theorem impl_IsEigenvector_any (v_p0 : Value) (p0 : List (List Int)) (p1 : Int) (v_p2 : Value) (p2 : List Int) (W : World) (hr_p0 : RdM W v_p0 p0) (hr_p2 : RdI W v_p2 p2) {r : Bool × Bool} (hm : impl_IsEigenvector_m p0 p1 p2 = some r) : Calls Try.prog 27 [v_p0, .int .i64 p1, v_p2].toArray W fun e w => ∃ v, e = .returned v ∧ v = .tuple #[.bool r.1, .bool r.2] ∧ Mem W w [] := by
  refine x_enter Try.func27 rfl Try.ntmps27 rfl ?_
  intro a hs
  have hM := Mem.start W
  unfold impl_IsEigenvector_m at hm
  refine wp_seq ?_
  refine wp_region_lit ?_
  refine wl hs (y_assign hs rfl) rfl ?_; intro a hs
  refine wl hs (y_assign hs rfl) rfl ?_; intro a hs
  refine wpList_nil ?_
  refine x_nt ?_
  refine wp_seq ?_
  refine wp_seq ?_
  refine wp_region_lit ?_
  refine wl hs (y_move hs rfl) rfl ?_; intro a hs
  refine wl hs (y_move hs rfl) rfl ?_; intro a hs
  refine wl hs (y_move hs rfl) rfl ?_; intro a hs
  obtain ⟨y1, h2, hm⟩ := bindE hm
  refine wcall is_65 hs rfl rfl (impl_isQuestion_any v_p0 p0 p1 v_p2 p2 _ (RdM.below hr_p0 hM.bel) (RdI.below hr_p2 hM.bel) h2) ?_; rintro a _ w hs ⟨rfl, hX⟩
  have hM : Mem W w [] := hM.call hX
  refine wl hs (y_not hs rfl) rfl ?_; intro a hs
  refine wpList_nil ?_
  refine x_nt ?_
  refine x_cond hs rfl (fun hb => ?_) (fun hb => ?_)
  · replace hm := condT hb hm
    refine wp_seq ?_
    refine wp_region_lit ?_
    refine wl hs (y_assign hs rfl) rfl ?_; intro a hs
    refine wl hs (y_assign hs rfl) rfl ?_; intro a hs
    refine wpList_nil ?_
    refine x_nt ?_
    refine wp_ret ?_
    refine x_rt ?_
    have hm : some (false, false) = some r := hm
    obtain rfl := Option.some.inj hm
    refine x_ret2 rfl hs rfl rfl ⟨_, rfl, ?_⟩
    exact ⟨rfl, hM⟩
  · replace hm := condF hb hm
    refine wp_skip ?_
    refine x_nt ?_
    refine wp_seq ?_
    refine wp_region_lit ?_
    refine wl hs (y_move hs rfl) rfl ?_; intro a hs
    refine wl hs (y_move hs rfl) rfl ?_; intro a hs
    obtain ⟨y3, h4, hm⟩ := bindE hm
    refine wcall is_67 hs rfl rfl (impl_applied_any v_p0 p0 v_p2 p2 _ (RdM.below hr_p0 hM.bel) (RdI.below hr_p2 hM.bel) h4) ?_; rintro a v5 w hs hX
    have hM : Mem W w [aInts 3 v5 y3] := hM.call hX
    refine wl hs (y_move hs rfl) rfl ?_; intro a hs
    refine wl hs (y_move hs rfl) rfl ?_; intro a hs
    obtain ⟨y7, h8, hm⟩ := bindE hm
    refine wcall is_68 hs rfl rfl (impl_shifted_any v_p2 p2 p1 _ (RdI.below hr_p2 hM.bel) h8) ?_; rintro a v9 w hs hX
    have hM : Mem W w [aInts 3 v9 y7, aInts 3 v5 y3] := hM.call hX
    obtain ⟨y11, h12, hm⟩ := bindE hm
    refine wcall is_66 hs rfl rfl (slices_Equal_int_int_any v5 y3 v9 y7 _ (hM.rdI 1 rfl) (hM.rdI 0 rfl) h12) ?_; rintro a _ w hs ⟨rfl, hX⟩
    have hM : Mem W w [aInts 3 v9 y7, aInts 3 v5 y3] := hM.call hX
    refine wl hs (y_assign hs rfl) rfl ?_; intro a hs
    refine wl hs (y_assign hs rfl) rfl ?_; intro a hs
    refine wpList_nil ?_
    refine x_nt ?_
    refine wp_ret ?_
    have hm : some (y11, true) = some r := hm
    obtain rfl := Option.some.inj hm
    refine x_ret2 rfl hs rfl rfl ⟨_, rfl, ?_⟩
    exact ⟨rfl, hM.none_⟩

set_option maxHeartbeats 4000000 in
theorem spec_l1Put_any (v_p0 : Value) (p0 : List Int)  (p1 : Int) (W w : World) (As : List Atom)  (hM : Mem W w (aInts 3 v_p0 p0 :: As)) {r : List Int} (hm : spec_l1Put_m p0 p1 = some r) : Calls Try.prog 115 [v_p0, .int .i64 p1].toArray w fun e w' => ∃ v, e = .returned v ∧ Mem W w' (aInts 3 v r :: As) := by
  refine x_enter Try.func115 rfl Try.ntmps115 rfl ?_
  intro a hs
  unfold spec_l1Put_m at hm
  refine wp_seq ?_
  refine wp_region_lit ?_
  refine wl hs (y_assign hs rfl) rfl ?_; intro a hs
  refine wpList_nil ?_
  refine x_nt ?_
  refine wp_seq ?_
  refine wp_region_lit ?_
  refine wl hs (y_assign hs rfl) rfl ?_; intro a hs
  refine wpList_nil ?_
  refine x_nt ?_
  refine wp_seq ?_
  obtain ⟨s3, hm, hk4⟩ := bindE hm
  refine x_mid (fun a w => ∃ (n2 : Int), n2 = s3 ∧ Fr a 48 [(0, v_p0), (1, .int .i64 p1), (5, .int .i64 n2)] ∧ Mem W w (aInts 3 v_p0 p0 :: As)) ?_ ?_
  · refine wp_block ?_
    refine x_loop (fun k a w => ∃ (n1 : Int) , Fr a 48 [(0, v_p0), (1, .int .i64 p1), (5, .int .i64 n1)] ∧ Mem W w (aInts 3 v_p0 p0 :: As) ∧ spec_l1Put_l1 p0 p1 k n1 = some s3) 4000000 ⟨0, hs.sub ⟨rfl, rfl, rfl, trivial⟩, hM, hm⟩ ?_
    rintro k a w ⟨n1, hs, hM, hm⟩
    rcases k with _ | k
    · rewrite [spec_l1Put_l1] at hm; cases hm
    rewrite [spec_l1Put_l1] at hm
    refine wp_seq ?_
    refine wp_seq ?_
    refine wp_region_lit ?_
    refine wl hs (y_move hs rfl) rfl ?_; intro a hs
    refine wl hs (y_move hs rfl) rfl ?_; intro a hs
    refine wl hs (y_len hu_I hs rfl (hM.rdI 0 rfl)) rfl ?_; intro a hs
    refine wl hs (y_lss hs rfl rfl) rfl ?_; intro a hs
    refine wl hs (y_move hs rfl) rfl ?_; intro a hs
    obtain ⟨b6, hb7, hm⟩ := bindE hm
    refine wlguard (N := 48) (L' := [(18, .bool b6), (0, v_p0), (1, .int .i64 p1), (5, .int .i64 n1)]) (fun w => Mem W w (aInts 3 v_p0 p0 :: As)) 7 ?_ ?_
    · intro K; rcases Bool.eq_false_or_eq_true (decide (n1 < (p0.length : Int))) with hg8 | hg8
      · have hm := condT hg8 hb7
        refine wlg hs rfl hg8 (y_move hs rfl) rfl ?_; intro a hs
        refine wlg hs rfl hg8 (y_move hs rfl) rfl ?_; intro a hs
        obtain ⟨x9, hx10, hm⟩ := bindE hm
        have he11 := RdI.at_ (hM.rdI 0 rfl) hx10
        refine wlg hs rfl hg8 (y_index ht_I hs rfl rfl he11) rfl ?_; intro a hs
        refine wlg hs rfl hg8 (y_load sc_int hs rfl he11.cell) rfl ?_; intro a hs
        refine wlg hs rfl hg8 (y_move hs rfl) rfl ?_; intro a hs
        refine wlg hs rfl hg8 (y_lss hs rfl rfl) rfl ?_; intro a hs
        have hm : some (decide (x9 < p1)) = some b6 := hm
        cases Option.some.inj hm
        refine wl hs (y_pickT hs rfl hg8 rfl) rfl ?_; intro a hs
        exact K _ _ (hs.sub ⟨rfl, rfl, rfl, rfl, trivial⟩) hM
      · have hm := condF hg8 hb7
        refine wls hs rfl hg8 rfl ?_; intro a hs
        refine wls hs rfl hg8 rfl ?_; intro a hs
        refine wls hs rfl hg8 rfl ?_; intro a hs
        refine wls hs rfl hg8 rfl ?_; intro a hs
        refine wls hs rfl hg8 rfl ?_; intro a hs
        refine wls hs rfl hg8 rfl ?_; intro a hs
        have hm : some false = some b6 := hm
        cases Option.some.inj hm
        refine wl hs (y_pickF hs rfl hg8 rfl) rfl ?_; intro a hs
        exact K _ _ (hs.sub ⟨rfl, rfl, rfl, rfl, trivial⟩) hM
    intro a w hs hM
    simp only [List.drop_succ_cons, List.drop_zero]
    refine wpList_nil ?_
    refine x_nt ?_
    refine x_cond hs rfl (fun hb => ?_) (fun hb => ?_)
    · replace hm := condT hb hm
      refine wp_skip ?_
      refine x_nt ?_
      refine wp_block ?_
      refine wp_region_lit ?_
      refine wl hs (y_move hs rfl) rfl ?_; intro a hs
      obtain ⟨n12, h13, hm⟩ := bindE hm
      refine wl hs (y_add hs rfl rfl h13) rfl ?_; intro a hs
      refine wl hs (y_assign hs rfl) rfl ?_; intro a hs
      refine wpList_nil ?_
      refine x_nb ?_
      exact ⟨k, Nat.lt_succ_self _, n12, hs.sub ⟨rfl, rfl, rfl, trivial⟩, hM, hm⟩
    · replace hm := condF hb hm
      refine wp_exit ?_
      refine x_et ?_
      refine x_et ?_
      refine x_eb ?_
      have hm : some n1 = some s3 := hm
      exact ⟨n1, Option.some.inj hm, hs.sub ⟨rfl, rfl, rfl, trivial⟩, hM⟩
  rintro a w ⟨n2, rfl, hs, hM⟩
  have hm := hk4
  refine x_nt ?_
  refine wp_seq ?_
  refine wp_seq ?_
  refine wp_region_lit ?_
  refine wl hs (y_move hs rfl) rfl ?_; intro a hs
  refine wl hs (y_move hs rfl) rfl ?_; intro a hs
  refine wl hs (y_len hu_I hs rfl (hM.rdI 0 rfl)) rfl ?_; intro a hs
  refine wl hs (y_lss hs rfl rfl) rfl ?_; intro a hs
  refine wl hs (y_move hs rfl) rfl ?_; intro a hs
  obtain ⟨b14, hb15, hm⟩ := bindE hm
  refine wlguard (N := 48) (L' := [(32, .bool b14), (0, v_p0), (1, .int .i64 p1), (5, .int .i64 n2)]) (fun w => Mem W w (aInts 3 v_p0 p0 :: As)) 7 ?_ ?_
  · intro K; rcases Bool.eq_false_or_eq_true (decide (n2 < (p0.length : Int))) with hg16 | hg16
    · have hm := condT hg16 hb15
      refine wlg hs rfl hg16 (y_move hs rfl) rfl ?_; intro a hs
      refine wlg hs rfl hg16 (y_move hs rfl) rfl ?_; intro a hs
      obtain ⟨x17, hx18, hm⟩ := bindE hm
      have he19 := RdI.at_ (hM.rdI 0 rfl) hx18
      refine wlg hs rfl hg16 (y_index ht_I hs rfl rfl he19) rfl ?_; intro a hs
      refine wlg hs rfl hg16 (y_load sc_int hs rfl he19.cell) rfl ?_; intro a hs
      refine wlg hs rfl hg16 (y_move hs rfl) rfl ?_; intro a hs
      refine wlg hs rfl hg16 (y_eql hs rfl rfl) rfl ?_; intro a hs
      have hm : some (x17 == p1) = some b14 := hm
      cases Option.some.inj hm
      refine wl hs (y_pickT hs rfl hg16 rfl) rfl ?_; intro a hs
      exact K _ _ (hs.sub ⟨rfl, rfl, rfl, rfl, trivial⟩) hM
    · have hm := condF hg16 hb15
      refine wls hs rfl hg16 rfl ?_; intro a hs
      refine wls hs rfl hg16 rfl ?_; intro a hs
      refine wls hs rfl hg16 rfl ?_; intro a hs
      refine wls hs rfl hg16 rfl ?_; intro a hs
      refine wls hs rfl hg16 rfl ?_; intro a hs
      refine wls hs rfl hg16 rfl ?_; intro a hs
      have hm : some false = some b14 := hm
      cases Option.some.inj hm
      refine wl hs (y_pickF hs rfl hg16 rfl) rfl ?_; intro a hs
      exact K _ _ (hs.sub ⟨rfl, rfl, rfl, rfl, trivial⟩) hM
  intro a w hs hM
  simp only [List.drop_succ_cons, List.drop_zero]
  refine wpList_nil ?_
  refine x_nt ?_
  refine x_cond hs rfl (fun hb => ?_) (fun hb => ?_)
  · replace hm := condT hb hm
    refine wp_seq ?_
    refine wp_region_lit ?_
    refine wl hs (y_move hs rfl) rfl ?_; intro a hs
    refine wl hs (y_assign hs rfl) rfl ?_; intro a hs
    refine wpList_nil ?_
    refine x_nt ?_
    refine wp_ret ?_
    refine x_rt ?_
    have hm : some p0 = some r := hm
    obtain rfl := Option.some.inj hm
    refine x_ret1 rfl hs rfl ⟨_, rfl, ?_⟩
    exact hM
  · replace hm := condF hb hm
    refine wp_skip ?_
    refine x_nt ?_
    refine wp_seq ?_
    refine wp_region_lit ?_
    refine wmem hs (x_new0I ht_I hM) rfl ?_; intro a v21 w hs hM
    have hM : Mem W w (aInts 3 v21 ([]) :: aInts 3 v_p0 p0 :: As) := hM
    refine wl hs (y_move hs rfl) rfl ?_; intro a hs
    refine wl hs (y_move hs rfl) rfl ?_; intro a hs
    obtain ⟨l22, h23, hm⟩ := bindE hm
    obtain ⟨v24, h25, hr26⟩ := RdS.cut hu_I he_int (hM.rdI 1 rfl) h23
    refine wl hs (y_cut hs rfl rfl h25) rfl ?_; intro a hs
    obtain ⟨l27, h28, hm⟩ := bindE hm
    refine wmem hs (x_appS hu_I he_int hs rfl (hM.front 0 rfl) (hr26 _ (hM.rdI 1 rfl)) h28) rfl ?_; intro a v29 w hs hM
    have hM : Mem W w (aInts 3 v29 l27 :: aInts 3 v_p0 p0 :: As) := hM
    refine wl hs (y_assign hs rfl) rfl ?_; intro a hs
    refine wpList_nil ?_
    refine x_nt ?_
    refine wp_seq ?_
    refine wp_region_lit ?_
    refine wl hs (y_move hs rfl) rfl ?_; intro a hs
    refine wl hs (y_move hs rfl) rfl ?_; intro a hs
    obtain ⟨l30, h31, hm⟩ := bindE hm
    refine wappI hu_I he_int hs hM rfl rfl h31 rfl rfl rfl ?_; intro a v32 w u33 hs hM
    have hM : Mem W w (aInts 3 v32 l30 :: aInts 3 v_p0 p0 :: As) := hM
    refine wl hs (y_assign hs rfl) rfl ?_; intro a hs
    refine wpList_nil ?_
    refine x_nt ?_
    refine wp_seq ?_
    refine wp_region_lit ?_
    refine wl hs (y_move hs rfl) rfl ?_; intro a hs
    refine wl hs (y_move hs rfl) rfl ?_; intro a hs
    refine wl hs (y_move hs rfl) rfl ?_; intro a hs
    obtain ⟨l34, h35, hm⟩ := bindE hm
    obtain ⟨v36, h37, hr38⟩ := RdS.cutl hu_I he_int (hM.rdI 1 rfl) h35
    refine wl hs (y_cutl hs rfl rfl h37) rfl ?_; intro a hs
    obtain ⟨l39, h40, hm⟩ := bindE hm
    refine wmem hs (x_appS hu_I he_int hs rfl (hM.front 0 rfl) (hr38 _ (hM.rdI 1 rfl)) h40) rfl ?_; intro a v41 w hs hM
    have hM : Mem W w (aInts 3 v41 l39 :: aInts 3 v_p0 p0 :: As) := hM
    refine wl hs (y_assign hs rfl) rfl ?_; intro a hs
    refine wpList_nil ?_
    refine x_nt ?_
    refine wp_ret ?_
    have hm : some l39 = some r := hm
    obtain rfl := Option.some.inj hm
    refine x_ret1 rfl hs rfl ⟨_, rfl, ?_⟩
    exact (hM.front 1 rfl).drop

set_option maxHeartbeats 4000000 in
theorem spec_mnReach_any (v_p0 : Value) (p0 : List (List Int)) (p1 : Int) (W : World) (hr_p0 : RdM W v_p0 p0) {r : List Int} (hm : spec_mnReach_m p0 p1 = some r) : Calls Try.prog 100 [v_p0, .int .i64 p1].toArray W fun e w => ∃ v, e = .returned v ∧ Mem W w [aInts 3 v r] := by
  refine x_enter Try.func100 rfl Try.ntmps100 rfl ?_
  intro a hs
  have hM := Mem.start W
  unfold spec_mnReach_m at hm
  refine wp_seq ?_
  refine wp_region_lit ?_
  refine wl hs (y_assign hs rfl) rfl ?_; intro a hs
  refine wpList_nil ?_
  refine x_nt ?_
  refine wp_seq ?_
  refine wp_region_lit ?_
  refine wl hs (y_move hs rfl) rfl ?_; intro a hs
  refine wmem hs (x_new1I hu_I he_int hs rfl hM) rfl ?_; intro a v2 w hs hM
  have hM : Mem W w [aInts 3 v2 ([p1])] := hM
  refine wl hs (y_move hs rfl) rfl ?_; intro a hs
  refine wmem hs (x_new1I hu_I he_int hs rfl hM) rfl ?_; intro a v4 w hs hM
  have hM : Mem W w [aInts 3 v4 ([p1]), aInts 3 v2 ([p1])] := hM
  refine wl hs (y_assign hs rfl) rfl ?_; intro a hs
  refine wl hs (y_assign hs rfl) rfl ?_; intro a hs
  refine wpList_nil ?_
  refine x_nt ?_
  refine wp_seq ?_
  obtain ⟨s11, hm, hk12⟩ := bindE hm
  refine x_mid (fun a w => ∃ (v9 : Value), ∃ (l10 : List Int), l10 = s11 ∧ Fr a 49 [(5, v9)] ∧ Mem W w [aInts 3 v9 l10]) ?_ ?_
  · refine wp_block ?_
    refine x_loop (fun k a w => ∃ (v5 : Value) (l6 : List Int) (v7 : Value) (l8 : List Int) , Fr a 49 [(0, v_p0), (5, v7), (6, v5)] ∧ Mem W w [aInts 3 v5 l6, aInts 3 v7 l8] ∧ spec_mnReach_l1 p0 k l6 l8 = some s11) 4000000 ⟨v4, [p1], v2, [p1], hs.sub ⟨rfl, rfl, rfl, trivial⟩, hM, hm⟩ ?_
    rintro k a w ⟨v5, l6, v7, l8, hs, hM, hm⟩
    rcases k with _ | k
    · rewrite [spec_mnReach_l1] at hm; cases hm
    rewrite [spec_mnReach_l1] at hm
    refine wp_seq ?_
    refine wp_seq ?_
    refine wp_region_lit ?_
    refine wl hs (y_move hs rfl) rfl ?_; intro a hs
    refine wl hs (y_len hu_I hs rfl (hM.rdI 0 rfl)) rfl ?_; intro a hs
    refine wl hs (y_gtr hs rfl rfl) rfl ?_; intro a hs
    refine wpList_nil ?_
    refine x_nt ?_
    refine x_cond hs rfl (fun hb => ?_) (fun hb => ?_)
    · replace hm := condT hb hm
      refine wp_skip ?_
      refine x_nt ?_
      refine wp_block ?_
      refine wp_seq ?_
      refine wp_region_lit ?_
      refine wl hs (y_move hs rfl) rfl ?_; intro a hs
      obtain ⟨x14, hx15, hm⟩ := bindE hm
      have he16 := RdI.at_ (hM.rdI 0 rfl) hx15
      refine wl hs (y_index ht_I hs rfl rfl he16) rfl ?_; intro a hs
      refine wl hs (y_load sc_int hs rfl he16.cell) rfl ?_; intro a hs
      refine wl hs (y_assign hs rfl) rfl ?_; intro a hs
      refine wpList_nil ?_
      refine x_nt ?_
      refine wp_seq ?_
      refine wp_region_lit ?_
      refine wl hs (y_move hs rfl) rfl ?_; intro a hs
      obtain ⟨l17, h18, hm⟩ := bindE hm
      obtain ⟨v19, h20, hM⟩ := (hM.front 0 rfl).cutlI hu_I he_int h18
      have hM : Mem W w [aInts 3 v19 l17, aInts 3 v7 l8] := hM
      refine wl hs (y_cutl hs rfl rfl h20) rfl ?_; intro a hs
      refine wl hs (y_assign hs rfl) rfl ?_; intro a hs
      refine wpList_nil ?_
      refine x_nt ?_
      refine wp_seq ?_
      refine wp_region_lit ?_
      refine wl hs (y_move hs rfl) rfl ?_; intro a hs
      refine wl hs (y_move hs rfl) rfl ?_; intro a hs
      obtain ⟨x21, hx22, hm⟩ := bindE hm
      obtain ⟨u24, he23, hr25⟩ := RdM.at_ hr_p0 hx22
      replace he23 := he23.below hM.bel
      refine wl hs (y_index ht_M hs rfl rfl he23) rfl ?_; intro a hs
      refine wl hs (y_load sc_I hs rfl he23.cell) rfl ?_; intro a hs
      refine wl hs (y_len hu_I hs rfl (RdI.below hr25 hM.bel)) rfl ?_; intro a hs
      refine wl hs (y_move hs rfl) rfl ?_; intro a hs
      refine wpList_nil ?_
      refine x_nt ?_
      obtain ⟨s35, hm, hk36⟩ := bindE hm
      refine x_mid (fun a w => ∃ (v31 : Value), ∃ (l32 : List Int), ∃ (v33 : Value), ∃ (l34 : List Int), (l32, l34) = s35 ∧ Fr a 49 [(0, v_p0), (5, v33), (6, v31)] ∧ Mem W w [aInts 3 v31 l32, aInts 3 v33 l34]) ?_ ?_
      · refine wp_block ?_
        refine x_loop (fun k a w => ∃ (q37 : List Int) (j26 : Nat) (v27 : Value) (l28 : List Int) (v29 : Value) (l30 : List Int) , k = q37.length ∧ Fr a 49 [(0, v_p0), (5, v29), (6, v27), (25, u24), (26, .int .i64 (x21.length : Int)), (27, .int .i64 (j26 : Int))] ∧ Mem W w [aInts 3 v27 l28, aInts 3 v29 l30] ∧ spec_mnReach_l2 q37 j26 l28 l30 = some s35 ∧ List.drop j26 x21 = q37) _ ⟨x21, 0, v19, l17, v7, l8, rfl, hs.sub ⟨rfl, rfl, rfl, rfl, rfl, rfl, trivial⟩, hM, hm, rfl⟩ ?_
        rintro k a w ⟨q37, j26, v27, l28, v29, l30, rfl, hs, hM, hm, hj26⟩
        rcases q37 with _ | ⟨x38, q37⟩
        · rewrite [spec_mnReach_l2] at hm
          refine wp_seq ?_
          refine wp_region_lit ?_
          refine wl hs (y_lss hs rfl rfl) rfl ?_; intro a hs
          refine wpList_nil ?_
          refine x_nt ?_
          refine wp_seq ?_
          refine x_condF hs rfl (drop_f hj26) ?_
          refine wp_exit ?_
          refine x_et ?_
          refine x_et ?_
          refine x_eb ?_
          have hm : some (l28, l30) = some s35 := hm
          exact ⟨v27, l28, v29, l30, Option.some.inj hm, hs.sub ⟨rfl, rfl, rfl, trivial⟩, hM⟩
        · rewrite [spec_mnReach_l2] at hm
          have hx39 := drop_idx hj26
          have hsj26 := ck_succ hj26 (RdS.len (RdI.below hr25 hM.bel))
          refine wp_seq ?_
          refine wp_region_lit ?_
          refine wl hs (y_lss hs rfl rfl) rfl ?_; intro a hs
          refine wpList_nil ?_
          refine x_nt ?_
          refine wp_seq ?_
          refine x_condT hs rfl (drop_t hj26) ?_
          refine wp_skip ?_
          refine x_nt ?_
          refine wp_seq ?_
          refine wp_block ?_
          refine wp_seq ?_
          refine wp_region_lit ?_
          refine wl hs (y_move hs rfl) rfl ?_; intro a hs
          have he40 := RdI.at_ (RdI.below hr25 hM.bel) hx39
          refine wl hs (y_index ht_I hs rfl rfl he40) rfl ?_; intro a hs
          refine wl hs (y_load sc_int hs rfl he40.cell) rfl ?_; intro a hs
          refine wl hs (y_assign hs rfl) rfl ?_; intro a hs
          refine wl hs (y_assign hs rfl) rfl ?_; intro a hs
          refine wpList_nil ?_
          refine x_nt ?_
          refine wp_seq ?_
          refine wp_region_lit ?_
          refine wl hs (y_move hs rfl) rfl ?_; intro a hs
          refine wl hs (y_neq hs rfl rfl) rfl ?_; intro a hs
          refine wl hs (y_move hs rfl) rfl ?_; intro a hs
          obtain ⟨b41, hb42, hm⟩ := bindE hm
          refine wlguard (N := 49) (L' := [(39, .bool b41), (0, v_p0), (5, v29), (6, v27), (8, .int .i64 (j26 : Int)), (25, u24), (26, .int .i64 (x21.length : Int)), (27, .int .i64 (j26 : Int))]) (fun w => Mem W w [aInts 3 v27 l28, aInts 3 v29 l30]) 5 ?_ ?_
          · intro K; rcases Bool.eq_false_or_eq_true (x38 != 1000000000) with hg43 | hg43
            · have hm := condT hg43 hb42
              refine wlg hs rfl hg43 (y_move hs rfl) rfl ?_; intro a hs
              refine wlg hs rfl hg43 (y_move hs rfl) rfl ?_; intro a hs
              obtain ⟨y44, h45, hm⟩ := bindE hm
              refine wcallg is_123 hs rfl hg43 rfl rfl (spec_l1Has_any v29 l30 (j26 : Int) _ (hM.rdI 1 rfl) h45) ?_; rintro a _ w hs ⟨rfl, hX⟩
              have hM : Mem W w [aInts 3 v27 l28, aInts 3 v29 l30] := hM.call hX
              refine wlg hs rfl hg43 (y_not hs rfl) rfl ?_; intro a hs
              have hm : some (!y44) = some b41 := hm
              cases Option.some.inj hm
              refine wl hs (y_pickT hs rfl hg43 rfl) rfl ?_; intro a hs
              exact K _ _ (hs.sub ⟨rfl, rfl, rfl, rfl, rfl, rfl, rfl, rfl, trivial⟩) hM
            · have hm := condF hg43 hb42
              refine wls hs rfl hg43 rfl ?_; intro a hs
              refine wls hs rfl hg43 rfl ?_; intro a hs
              refine wls hs rfl hg43 rfl ?_; intro a hs
              refine wls hs rfl hg43 rfl ?_; intro a hs
              have hm : some false = some b41 := hm
              cases Option.some.inj hm
              refine wl hs (y_pickF hs rfl hg43 rfl) rfl ?_; intro a hs
              exact K _ _ (hs.sub ⟨rfl, rfl, rfl, rfl, rfl, rfl, rfl, rfl, trivial⟩) hM
          intro a w hs hM
          simp only [List.drop_succ_cons, List.drop_zero]
          refine wpList_nil ?_
          refine x_nt ?_
          refine x_cond hs rfl (fun hb => ?_) (fun hb => ?_)
          · replace hm := condT hb hm
            refine wp_seq ?_
            refine wp_region_lit ?_
            refine wl hs (y_move hs rfl) rfl ?_; intro a hs
            refine wl hs (y_move hs rfl) rfl ?_; intro a hs
            obtain ⟨y46, h47, hm⟩ := bindE hm
            refine wcall is_115 hs rfl rfl (spec_l1Put_any v29 l30 (j26 : Int) _ _ _  (hM.front 1 rfl) h47) ?_; rintro a v48 w hs hM
            have hM : Mem W w [aInts 3 v48 y46, aInts 3 v27 l28] := hM
            refine wl hs (y_assign hs rfl) rfl ?_; intro a hs
            refine wpList_nil ?_
            refine x_nt ?_
            refine wp_region_lit ?_
            refine wl hs (y_move hs rfl) rfl ?_; intro a hs
            refine wl hs (y_move hs rfl) rfl ?_; intro a hs
            obtain ⟨l50, h51, hm⟩ := bindE hm
            refine wappI hu_I he_int hs (hM.front 1 rfl) rfl rfl h51 rfl rfl rfl ?_; intro a v52 w u53 hs hM
            have hM : Mem W w [aInts 3 v52 l50, aInts 3 v48 y46] := hM
            refine wl hs (y_assign hs rfl) rfl ?_; intro a hs
            refine wpList_nil ?_
            refine x_nb ?_
            refine x_nt ?_
            refine wp_region_lit ?_
            refine wl hs (y_add hs rfl rfl hsj26) rfl ?_; intro a hs
            refine wl hs (y_move hs rfl) rfl ?_; intro a hs
            refine wpList_nil ?_
            exact ⟨_, by simp, q37, j26 + 1, v52, l50, v48, y46, rfl, hs.sub ⟨rfl, rfl, rfl, rfl, rfl, rfl, trivial⟩, hM, hm, drop_next hj26⟩
          · replace hm := condF hb hm
            refine wp_skip ?_
            refine x_nb ?_
            refine x_nt ?_
            refine wp_region_lit ?_
            refine wl hs (y_add hs rfl rfl hsj26) rfl ?_; intro a hs
            refine wl hs (y_move hs rfl) rfl ?_; intro a hs
            refine wpList_nil ?_
            exact ⟨_, by simp, q37, j26 + 1, v27, l28, v29, l30, rfl, hs.sub ⟨rfl, rfl, rfl, rfl, rfl, rfl, trivial⟩, hM, hm, drop_next hj26⟩
      rintro a w ⟨v31, l32, v33, l34, rfl, hs, hM⟩
      have hm := hk36
      refine x_nb ?_
      exact ⟨k, Nat.lt_succ_self _, v31, l32, v33, l34, hs.sub ⟨rfl, rfl, rfl, trivial⟩, hM, hm⟩
    · replace hm := condF hb hm
      refine wp_exit ?_
      refine x_et ?_
      refine x_et ?_
      refine x_eb ?_
      have hm : some l8 = some s11 := hm
      exact ⟨v7, l8, Option.some.inj hm, hs.sub ⟨rfl, trivial⟩, hM.drop⟩
  rintro a w ⟨v9, l10, rfl, hs, hM⟩
  have hm := hk12
  refine x_nt ?_
  refine wp_seq ?_
  refine wp_region_lit ?_
  refine wl hs (y_move hs rfl) rfl ?_; intro a hs
  refine wl hs (y_assign hs rfl) rfl ?_; intro a hs
  refine wpList_nil ?_
  refine x_nt ?_
  refine wp_ret ?_
  have hm : some l10 = some r := hm
  obtain rfl := Option.some.inj hm
  refine x_ret1 rfl hs rfl ⟨_, rfl, ?_⟩
  exact hM

theorem spec_mnConnected_any (v_p0 : Value) (p0 : List (List Int)) (W : World) (hr_p0 : RdM W v_p0 p0) {r : Bool} (hm : spec_mnConnected_m p0 = some r) : Calls Try.prog 69 [v_p0].toArray W fun e w => ∃ v, e = .returned v ∧ v = .bool r ∧ Mem W w [] := by
  refine x_enter Try.func69 rfl Try.ntmps69 rfl ?_
  intro a hs
  have hM := Mem.start W
  unfold spec_mnConnected_m at hm
  refine wp_seq ?_
  refine wp_region_lit ?_
  refine wl hs (y_assign hs rfl) rfl ?_; intro a hs
  refine wpList_nil ?_
  refine x_nt ?_
  refine wp_seq ?_
  refine wp_seq ?_
  refine wp_region_lit ?_
  refine wl hs (y_move hs rfl) rfl ?_; intro a hs
  refine wl hs (y_len hu_M hs rfl (RdM.below hr_p0 hM.bel)) rfl ?_; intro a hs
  refine wl hs (y_move hs rfl) rfl ?_; intro a hs
  refine wpList_nil ?_
  refine x_nt ?_
  obtain ⟨s2, hm, hk3⟩ := bindE hm
  refine x_mid (fun a w => Sum.inr () = s2 ∧ Fr a 17 [] ∧ Mem W w []) ?_ ?_
  · refine wp_block ?_
    refine x_loop (fun k a w => ∃ (q4 : List (List Int)) (j1 : Nat) , k = q4.length ∧ Fr a 17 [(0, v_p0), (5, .int .i64 (p0.length : Int)), (6, .int .i64 (j1 : Int))] ∧ Mem W w [] ∧ spec_mnConnected_l1 p0 q4 j1 = some s2 ∧ List.drop j1 p0 = q4) _ ⟨p0, 0, rfl, hs.sub ⟨rfl, rfl, rfl, trivial⟩, hM, hm, rfl⟩ ?_
    rintro k a w ⟨q4, j1, rfl, hs, hM, hm, hj1⟩
    rcases q4 with _ | ⟨x5, q4⟩
    · rewrite [spec_mnConnected_l1] at hm
      refine wp_seq ?_
      refine wp_region_lit ?_
      refine wl hs (y_lss hs rfl rfl) rfl ?_; intro a hs
      refine wpList_nil ?_
      refine x_nt ?_
      refine wp_seq ?_
      refine x_condF hs rfl (drop_f hj1) ?_
      refine wp_exit ?_
      refine x_et ?_
      refine x_et ?_
      refine x_eb ?_
      have hm : some (Sum.inr ()) = some s2 := hm
      exact ⟨Option.some.inj hm, hs.sub trivial, hM⟩
    · rewrite [spec_mnConnected_l1] at hm
      have hx6 := drop_idx hj1
      have hsj1 := ck_succ hj1 (RdS.len (RdM.below hr_p0 hM.bel))
      refine wp_seq ?_
      refine wp_region_lit ?_
      refine wl hs (y_lss hs rfl rfl) rfl ?_; intro a hs
      refine wpList_nil ?_
      refine x_nt ?_
      refine wp_seq ?_
      refine x_condT hs rfl (drop_t hj1) ?_
      refine wp_skip ?_
      refine x_nt ?_
      refine wp_seq ?_
      refine wp_block ?_
      refine wp_seq ?_
      refine wp_region_lit ?_
      refine wl hs (y_move hs rfl) rfl ?_; intro a hs
      refine wl hs (y_assign hs rfl) rfl ?_; intro a hs
      refine wpList_nil ?_
      refine x_nt ?_
      refine wp_seq ?_
      refine wp_region_lit ?_
      refine wl hs (y_move hs rfl) rfl ?_; intro a hs
      refine wl hs (y_move hs rfl) rfl ?_; intro a hs
      obtain ⟨y7, h8, hm⟩ := bindE hm
      refine wcall is_100 hs rfl rfl (spec_mnReach_any v_p0 p0 (j1 : Int) _ (RdM.below hr_p0 hM.bel) h8) ?_; rintro a v9 w hs hX
      have hM : Mem W w [aInts 3 v9 y7] := hM.call hX
      refine wl hs (y_len hu_I hs rfl (hM.rdI 0 rfl)) rfl ?_; intro a hs
      refine wl hs (y_move hs rfl) rfl ?_; intro a hs
      refine wl hs (y_len hu_M hs rfl (RdM.below hr_p0 hM.bel)) rfl ?_; intro a hs
      refine wl hs (y_lss hs rfl rfl) rfl ?_; intro a hs
      refine wpList_nil ?_
      refine x_nt ?_
      refine x_cond hs rfl (fun hb => ?_) (fun hb => ?_)
      · replace hm := condT hb hm
        refine wp_seq ?_
        refine wp_region_lit ?_
        refine wl hs (y_assign hs rfl) rfl ?_; intro a hs
        refine wpList_nil ?_
        refine x_nt ?_
        refine wp_ret ?_
        refine x_rb ?_
        refine x_rt ?_
        refine x_rt ?_
        refine x_rb ?_
        refine x_rt ?_
        refine x_rt ?_
        have hm : some (Sum.inl false) = some s2 := hm
        cases Option.some.inj hm
        have hm := hk3
        have hm : some false = some r := hm
        obtain rfl := Option.some.inj hm
        refine x_ret1 rfl hs rfl ⟨_, rfl, ?_⟩
        exact ⟨rfl, hM.none_⟩
      · replace hm := condF hb hm
        refine wp_skip ?_
        refine x_nb ?_
        refine x_nt ?_
        refine wp_region_lit ?_
        refine wl hs (y_add hs rfl rfl hsj1) rfl ?_; intro a hs
        refine wl hs (y_move hs rfl) rfl ?_; intro a hs
        refine wpList_nil ?_
        exact ⟨_, by simp, q4, j1 + 1, rfl, hs.sub ⟨rfl, rfl, rfl, trivial⟩, hM.none_, hm, drop_next hj1⟩
  rintro a w ⟨rfl, hs, hM⟩
  have hm := hk3
  refine x_nt ?_
  refine wp_seq ?_
  refine wp_region_lit ?_
  refine wl hs (y_assign hs rfl) rfl ?_; intro a hs
  refine wpList_nil ?_
  refine x_nt ?_
  refine wp_ret ?_
  have hm : some true = some r := hm
  obtain rfl := Option.some.inj hm
  refine x_ret1 rfl hs rfl ⟨_, rfl, ?_⟩
  exact ⟨rfl, hM⟩

theorem impl_isStrong_1_any (v_p0 : Value) (p0 : List Int) (W : World) (hr_p0 : RdI W v_p0 p0) {r : Bool} (hm : impl_isStrong_1_m p0 = some r) : Calls Try.prog 102 [v_p0].toArray W fun e w => ∃ v, e = .returned v ∧ v = .bool r ∧ Mem W w [] := by
  refine x_enter Try.func102 rfl Try.ntmps102 rfl ?_
  intro a hs
  have hM := Mem.start W
  unfold impl_isStrong_1_m at hm
  refine wp_seq ?_
  refine wp_region_lit ?_
  refine wl hs (y_assign hs rfl) rfl ?_; intro a hs
  refine wpList_nil ?_
  refine x_nt ?_
  refine wp_seq ?_
  refine wp_region_lit ?_
  refine wl hs (y_move hs rfl) rfl ?_; intro a hs
  obtain ⟨y1, h2, hm⟩ := bindE hm
  refine wcall is_103 hs rfl rfl (slices_Contains_int_int_any v_p0 p0 1000000000 _ (RdI.below hr_p0 hM.bel) h2) ?_; rintro a _ w hs ⟨rfl, hX⟩
  have hM : Mem W w [] := hM.call hX
  refine wl hs (y_assign hs rfl) rfl ?_; intro a hs
  refine wpList_nil ?_
  refine x_nt ?_
  refine wp_ret ?_
  have hm : some y1 = some r := hm
  obtain rfl := Option.some.inj hm
  refine x_ret1 rfl hs rfl ⟨_, rfl, ?_⟩
  exact ⟨rfl, hM⟩

theorem slices_IndexFunc_int_int_impl_isStrong_1_any (v_p0 : Value) (p0 : List (List Int)) (W : World) (hr_p0 : RdM W v_p0 p0) {r : Int} (hm : slices_IndexFunc_int_int_impl_isStrong_1_m p0 = some r) : Calls Try.prog 60 [v_p0, .func (.func 102) #[] #[]].toArray W fun e w => ∃ v, e = .returned v ∧ v = .int .i64 r ∧ Mem W w [] := by
  refine x_enter Try.func60 rfl Try.ntmps60 rfl ?_
  intro a hs
  have hM := Mem.start W
  unfold slices_IndexFunc_int_int_impl_isStrong_1_m at hm
  refine wp_seq ?_
  refine wp_region_lit ?_
  refine wl hs (y_assign hs rfl) rfl ?_; intro a hs
  refine wpList_nil ?_
  refine x_nt ?_
  refine wp_seq ?_
  refine wp_seq ?_
  refine wp_region_lit ?_
  refine wl hs (y_move hs rfl) rfl ?_; intro a hs
  refine wl hs (y_len hu_M hs rfl (RdM.below hr_p0 hM.bel)) rfl ?_; intro a hs
  refine wl hs (y_move hs rfl) rfl ?_; intro a hs
  refine wpList_nil ?_
  refine x_nt ?_
  obtain ⟨s2, hm, hk3⟩ := bindE hm
  refine x_mid (fun a w => Sum.inr () = s2 ∧ Fr a 19 [] ∧ Mem W w []) ?_ ?_
  · refine wp_block ?_
    refine x_loop (fun k a w => ∃ (q4 : List (List Int)) (j1 : Nat) , k = q4.length ∧ Fr a 19 [(0, v_p0), (1, .func (.func 102) #[] #[]), (7, .int .i64 (p0.length : Int)), (8, .int .i64 (j1 : Int))] ∧ Mem W w [] ∧ slices_IndexFunc_int_int_impl_isStrong_1_l1 q4 j1 = some s2 ∧ List.drop j1 p0 = q4) _ ⟨p0, 0, rfl, hs.sub ⟨rfl, rfl, rfl, rfl, trivial⟩, hM, hm, rfl⟩ ?_
    rintro k a w ⟨q4, j1, rfl, hs, hM, hm, hj1⟩
    rcases q4 with _ | ⟨x5, q4⟩
    · rewrite [slices_IndexFunc_int_int_impl_isStrong_1_l1] at hm
      refine wp_seq ?_
      refine wp_region_lit ?_
      refine wl hs (y_lss hs rfl rfl) rfl ?_; intro a hs
      refine wpList_nil ?_
      refine x_nt ?_
      refine wp_seq ?_
      refine x_condF hs rfl (drop_f hj1) ?_
      refine wp_exit ?_
      refine x_et ?_
      refine x_et ?_
      refine x_eb ?_
      have hm : some (Sum.inr ()) = some s2 := hm
      exact ⟨Option.some.inj hm, hs.sub trivial, hM⟩
    · rewrite [slices_IndexFunc_int_int_impl_isStrong_1_l1] at hm
      have hx6 := drop_idx hj1
      have hsj1 := ck_succ hj1 (RdS.len (RdM.below hr_p0 hM.bel))
      refine wp_seq ?_
      refine wp_region_lit ?_
      refine wl hs (y_lss hs rfl rfl) rfl ?_; intro a hs
      refine wpList_nil ?_
      refine x_nt ?_
      refine wp_seq ?_
      refine x_condT hs rfl (drop_t hj1) ?_
      refine wp_skip ?_
      refine x_nt ?_
      refine wp_seq ?_
      refine wp_block ?_
      refine wp_seq ?_
      refine wp_region_lit ?_
      refine wl hs (y_move hs rfl) rfl ?_; intro a hs
      refine wl hs (y_assign hs rfl) rfl ?_; intro a hs
      refine wpList_nil ?_
      refine x_nt ?_
      refine wp_seq ?_
      refine wp_region_lit ?_
      refine wl hs (y_move hs rfl) rfl ?_; intro a hs
      refine wl hs (y_move hs rfl) rfl ?_; intro a hs
      refine wl hs (y_move hs rfl) rfl ?_; intro a hs
      obtain ⟨u8, he7, hr9⟩ := RdM.at_ hr_p0 hx6
      replace he7 := he7.below hM.bel
      refine wl hs (y_index ht_M hs rfl rfl he7) rfl ?_; intro a hs
      refine wl hs (y_load sc_I hs rfl he7.cell) rfl ?_; intro a hs
      obtain ⟨y10, h11, hm⟩ := bindE hm
      refine wcallv is_102 hs rfl rfl rfl (impl_isStrong_1_any u8 x5 _ (RdI.below hr9 hM.bel) h11) ?_; rintro a _ w hs ⟨rfl, hX⟩
      have hM : Mem W w [] := hM.call hX
      refine wpList_nil ?_
      refine x_nt ?_
      refine x_cond hs rfl (fun hb => ?_) (fun hb => ?_)
      · replace hm := condT hb hm
        refine wp_seq ?_
        refine wp_region_lit ?_
        refine wl hs (y_move hs rfl) rfl ?_; intro a hs
        refine wl hs (y_assign hs rfl) rfl ?_; intro a hs
        refine wpList_nil ?_
        refine x_nt ?_
        refine wp_ret ?_
        refine x_rb ?_
        refine x_rt ?_
        refine x_rt ?_
        refine x_rb ?_
        refine x_rt ?_
        refine x_rt ?_
        have hm : some (Sum.inl (j1 : Int)) = some s2 := hm
        cases Option.some.inj hm
        have hm := hk3
        have hm : some (j1 : Int) = some r := hm
        obtain rfl := Option.some.inj hm
        refine x_ret1 rfl hs rfl ⟨_, rfl, ?_⟩
        exact ⟨rfl, hM⟩
      · replace hm := condF hb hm
        refine wp_skip ?_
        refine x_nb ?_
        refine x_nt ?_
        refine wp_region_lit ?_
        refine wl hs (y_add hs rfl rfl hsj1) rfl ?_; intro a hs
        refine wl hs (y_move hs rfl) rfl ?_; intro a hs
        refine wpList_nil ?_
        exact ⟨_, by simp, q4, j1 + 1, rfl, hs.sub ⟨rfl, rfl, rfl, rfl, trivial⟩, hM, hm, drop_next hj1⟩
  rintro a w ⟨rfl, hs, hM⟩
  have hm := hk3
  refine x_nt ?_
  refine wp_seq ?_
  refine wp_region_lit ?_
  refine wl hs (y_assign hs rfl) rfl ?_; intro a hs
  refine wpList_nil ?_
  refine x_nt ?_
  refine wp_ret ?_
  have hm : some (-1) = some r := hm
  obtain rfl := Option.some.inj hm
  refine x_ret1 rfl hs rfl ⟨_, rfl, ?_⟩
  exact ⟨rfl, hM⟩

theorem slices_ContainsFunc_int_int_impl_isStrong_1_any (v_p0 : Value) (p0 : List (List Int)) (W : World) (hr_p0 : RdM W v_p0 p0) {r : Bool} (hm : slices_ContainsFunc_int_int_impl_isStrong_1_m p0 = some r) : Calls Try.prog 101 [v_p0, .func (.func 102) #[] #[]].toArray W fun e w => ∃ v, e = .returned v ∧ v = .bool r ∧ Mem W w [] := by
  refine x_enter Try.func101 rfl Try.ntmps101 rfl ?_
  intro a hs
  have hM := Mem.start W
  unfold slices_ContainsFunc_int_int_impl_isStrong_1_m at hm
  refine wp_seq ?_
  refine wp_region_lit ?_
  refine wl hs (y_assign hs rfl) rfl ?_; intro a hs
  refine wpList_nil ?_
  refine x_nt ?_
  refine wp_seq ?_
  refine wp_region_lit ?_
  refine wl hs (y_move hs rfl) rfl ?_; intro a hs
  refine wl hs (y_move hs rfl) rfl ?_; intro a hs
  obtain ⟨y1, h2, hm⟩ := bindE hm
  refine wcall is_60 hs rfl rfl (slices_IndexFunc_int_int_impl_isStrong_1_any v_p0 p0 _ (RdM.below hr_p0 hM.bel) h2) ?_; rintro a _ w hs ⟨rfl, hX⟩
  have hM : Mem W w [] := hM.call hX
  refine wl hs (y_geq hs rfl rfl) rfl ?_; intro a hs
  refine wl hs (y_assign hs rfl) rfl ?_; intro a hs
  refine wpList_nil ?_
  refine x_nt ?_
  refine wp_ret ?_
  have hm : some (decide (y1 ≥ 0)) = some r := hm
  obtain rfl := Option.some.inj hm
  refine x_ret1 rfl hs rfl ⟨_, rfl, ?_⟩
  exact ⟨rfl, hM⟩

set_option maxHeartbeats 4000000 in
theorem impl_isStrong_any (v_p0 : Value) (p0 : List (List Int)) (W : World) (hr_p0 : RdM W v_p0 p0) {r : Bool} (hm : impl_isStrong_m p0 = some r) : Calls Try.prog 70 [v_p0].toArray W fun e w => ∃ v, e = .returned v ∧ v = .bool r ∧ Mem W w [] := by
  refine x_enter Try.func70 rfl Try.ntmps70 rfl ?_
  intro a hs
  have hM := Mem.start W
  unfold impl_isStrong_m at hm
  refine wp_seq ?_
  refine wp_region_lit ?_
  refine wl hs (y_assign hs rfl) rfl ?_; intro a hs
  refine wpList_nil ?_
  refine x_nt ?_
  refine wp_seq ?_
  refine wp_region_lit ?_
  refine wl hs (y_move hs rfl) rfl ?_; intro a hs
  obtain ⟨y1, h2, hm⟩ := bindE hm
  refine wcall is_92 hs rfl rfl (impl_clones_any v_p0 p0 _ (RdM.below hr_p0 hM.bel) h2) ?_; rintro a v3 w hs ⟨vs5, hX⟩
  have hM : Mem W w [aMat 24 3 v3 vs5 y1] := hM.call hX
  refine wl hs (y_assign hs rfl) rfl ?_; intro a hs
  refine wpList_nil ?_
  refine x_nt ?_
  refine wp_seq ?_
  refine wp_seq ?_
  refine wp_region_lit ?_
  refine wl hs (y_move hs rfl) rfl ?_; intro a hs
  refine wl hs (y_len hu_M hs rfl (RdM.below hr_p0 hM.bel)) rfl ?_; intro a hs
  refine wl hs (y_move hs rfl) rfl ?_; intro a hs
  refine wpList_nil ?_
  refine x_nt ?_
  obtain ⟨s9, hm, hk10⟩ := bindE hm
  refine x_mid (fun a w => ∃ (l8 : List (List Int)), l8 = s9 ∧ Fr a 44 [(3, v3)] ∧ Mem W w [aMat 24 3 v3 vs5 l8]) ?_ ?_
  · refine wp_block ?_
    refine x_loop (fun k a w => ∃ (q11 : List (List Int)) (j6 : Nat) (l7 : List (List Int)) , k = q11.length ∧ Fr a 44 [(3, v3), (12, v_p0), (13, .int .i64 (p0.length : Int)), (14, .int .i64 (j6 : Int))] ∧ Mem W w [aMat 24 3 v3 vs5 l7] ∧ impl_isStrong_l1 q11 j6 l7 = some s9 ∧ List.drop j6 p0 = q11) _ ⟨p0, 0, y1, rfl, hs.sub ⟨rfl, rfl, rfl, rfl, trivial⟩, hM, hm, rfl⟩ ?_
    rintro k a w ⟨q11, j6, l7, rfl, hs, hM, hm, hj6⟩
    rcases q11 with _ | ⟨x12, q11⟩
    · rewrite [impl_isStrong_l1] at hm
      refine wp_seq ?_
      refine wp_region_lit ?_
      refine wl hs (y_lss hs rfl rfl) rfl ?_; intro a hs
      refine wpList_nil ?_
      refine x_nt ?_
      refine wp_seq ?_
      refine x_condF hs rfl (drop_f hj6) ?_
      refine wp_exit ?_
      refine x_et ?_
      refine x_et ?_
      refine x_eb ?_
      have hm : some l7 = some s9 := hm
      exact ⟨l7, Option.some.inj hm, hs.sub ⟨rfl, trivial⟩, hM⟩
    · rewrite [impl_isStrong_l1] at hm
      have hx13 := drop_idx hj6
      have hsj6 := ck_succ hj6 (RdS.len (RdM.below hr_p0 hM.bel))
      refine wp_seq ?_
      refine wp_region_lit ?_
      refine wl hs (y_lss hs rfl rfl) rfl ?_; intro a hs
      refine wpList_nil ?_
      refine x_nt ?_
      refine wp_seq ?_
      refine x_condT hs rfl (drop_t hj6) ?_
      refine wp_skip ?_
      refine x_nt ?_
      refine wp_seq ?_
      refine wp_block ?_
      refine wp_seq ?_
      refine wp_region_lit ?_
      refine wl hs (y_move hs rfl) rfl ?_; intro a hs
      obtain ⟨u15, he14, hr16⟩ := RdM.at_ hr_p0 hx13
      replace he14 := he14.below hM.bel
      refine wl hs (y_index ht_M hs rfl rfl he14) rfl ?_; intro a hs
      refine wl hs (y_load sc_I hs rfl he14.cell) rfl ?_; intro a hs
      refine wl hs (y_assign hs rfl) rfl ?_; intro a hs
      refine wl hs (y_assign hs rfl) rfl ?_; intro a hs
      refine wpList_nil ?_
      refine x_nt ?_
      refine wp_seq ?_
      refine wp_region_lit ?_
      refine wl hs (y_move hs rfl) rfl ?_; intro a hs
      refine wl hs (y_len hu_I hs rfl (RdI.below hr16 hM.bel)) rfl ?_; intro a hs
      refine wl hs (y_move hs rfl) rfl ?_; intro a hs
      refine wpList_nil ?_
      refine x_nt ?_
      obtain ⟨s20, hm, hk21⟩ := bindE hm
      refine x_mid (fun a w => ∃ (l19 : List (List Int)), l19 = s20 ∧ Fr a 44 [(3, v3), (12, v_p0), (13, .int .i64 (p0.length : Int)), (14, .int .i64 (j6 : Int))] ∧ Mem W w [aMat 24 3 v3 vs5 l19]) ?_ ?_
      · refine wp_block ?_
        refine x_loop (fun k a w => ∃ (q22 : List Int) (j17 : Nat) (l18 : List (List Int)) , k = q22.length ∧ Fr a 44 [(3, v3), (4, .int .i64 (j6 : Int)), (12, v_p0), (13, .int .i64 (p0.length : Int)), (14, .int .i64 (j6 : Int)), (19, u15), (20, .int .i64 (x12.length : Int)), (21, .int .i64 (j17 : Int))] ∧ Mem W w [aMat 24 3 v3 vs5 l18] ∧ impl_isStrong_l2 j6 q22 j17 l18 = some s20 ∧ List.drop j17 x12 = q22) _ ⟨x12, 0, l7, rfl, hs.sub ⟨rfl, rfl, rfl, rfl, rfl, rfl, rfl, rfl, trivial⟩, hM, hm, rfl⟩ ?_
        rintro k a w ⟨q22, j17, l18, rfl, hs, hM, hm, hj17⟩
        rcases q22 with _ | ⟨x23, q22⟩
        · rewrite [impl_isStrong_l2] at hm
          refine wp_seq ?_
          refine wp_region_lit ?_
          refine wl hs (y_lss hs rfl rfl) rfl ?_; intro a hs
          refine wpList_nil ?_
          refine x_nt ?_
          refine wp_seq ?_
          refine x_condF hs rfl (drop_f hj17) ?_
          refine wp_exit ?_
          refine x_et ?_
          refine x_et ?_
          refine x_eb ?_
          have hm : some l18 = some s20 := hm
          exact ⟨l18, Option.some.inj hm, hs.sub ⟨rfl, rfl, rfl, rfl, trivial⟩, hM⟩
        · rewrite [impl_isStrong_l2] at hm
          have hx24 := drop_idx hj17
          have hsj17 := ck_succ hj17 (RdS.len (RdI.below hr16 hM.bel))
          refine wp_seq ?_
          refine wp_region_lit ?_
          refine wl hs (y_lss hs rfl rfl) rfl ?_; intro a hs
          refine wpList_nil ?_
          refine x_nt ?_
          refine wp_seq ?_
          refine x_condT hs rfl (drop_t hj17) ?_
          refine wp_skip ?_
          refine x_nt ?_
          refine wp_seq ?_
          refine wp_block ?_
          refine wp_seq ?_
          refine wp_region_lit ?_
          refine wl hs (y_move hs rfl) rfl ?_; intro a hs
          have he25 := RdI.at_ (RdI.below hr16 hM.bel) hx24
          refine wl hs (y_index ht_I hs rfl rfl he25) rfl ?_; intro a hs
          refine wl hs (y_load sc_int hs rfl he25.cell) rfl ?_; intro a hs
          refine wl hs (y_assign hs rfl) rfl ?_; intro a hs
          refine wl hs (y_assign hs rfl) rfl ?_; intro a hs
          refine wpList_nil ?_
          refine x_nt ?_
          refine wp_seq ?_
          refine wp_region_lit ?_
          refine wl hs (y_move hs rfl) rfl ?_; intro a hs
          refine wl hs (y_neq hs rfl rfl) rfl ?_; intro a hs
          refine wpList_nil ?_
          refine x_nt ?_
          refine x_cond hs rfl (fun hb => ?_) (fun hb => ?_)
          · replace hm := condT hb hm
            refine wp_region_lit ?_
            refine wl hs (y_move hs rfl) rfl ?_; intro a hs
            refine wl hs (y_move hs rfl) rfl ?_; intro a hs
            obtain ⟨x26, hx27, hm⟩ := bindE hm
            obtain ⟨u29, hv30, he28⟩ := hM.atM 0 rfl hx27
            refine wl hs (y_index ht_M hs rfl rfl he28) rfl ?_; intro a hs
            refine wl hs (y_load sc_I hs rfl he28.cell) rfl ?_; intro a hs
            refine wl hs (y_move hs rfl) rfl ?_; intro a hs
            obtain ⟨x31, hx32, hm⟩ := bindE hm
            have he33 := RdI.at_ (hM.rdRow 0 rfl rfl hv30 (idx_spec hx27).2.2) hx32
            refine wl hs (y_index ht_I hs rfl rfl he33) rfl ?_; intro a hs
            obtain ⟨l34, h35, hm⟩ := bindE hm
            refine wstore hs rfl rfl (x_storeM he_int (hM.front 0 rfl) hv30 ((idx_spec hx27).2.2) h35) ?_; intro w hM
            have hM : Mem W w [aMat 24 3 v3 vs5 (l18.set ((j6 : Int)).toNat l34)] := hM
            refine wpList_nil ?_
            refine x_nb ?_
            refine x_nt ?_
            refine wp_region_lit ?_
            refine wl hs (y_add hs rfl rfl hsj17) rfl ?_; intro a hs
            refine wl hs (y_move hs rfl) rfl ?_; intro a hs
            refine wpList_nil ?_
            exact ⟨_, by simp, q22, j17 + 1, (l18.set ((j6 : Int)).toNat l34), rfl, hs.sub ⟨rfl, rfl, rfl, rfl, rfl, rfl, rfl, rfl, trivial⟩, hM, hm, drop_next hj17⟩
          · replace hm := condF hb hm
            refine wp_skip ?_
            refine x_nb ?_
            refine x_nt ?_
            refine wp_region_lit ?_
            refine wl hs (y_add hs rfl rfl hsj17) rfl ?_; intro a hs
            refine wl hs (y_move hs rfl) rfl ?_; intro a hs
            refine wpList_nil ?_
            exact ⟨_, by simp, q22, j17 + 1, l18, rfl, hs.sub ⟨rfl, rfl, rfl, rfl, rfl, rfl, rfl, rfl, trivial⟩, hM, hm, drop_next hj17⟩
      rintro a w ⟨l19, rfl, hs, hM⟩
      have hm := hk21
      refine x_nb ?_
      refine x_nt ?_
      refine wp_region_lit ?_
      refine wl hs (y_add hs rfl rfl hsj6) rfl ?_; intro a hs
      refine wl hs (y_move hs rfl) rfl ?_; intro a hs
      refine wpList_nil ?_
      exact ⟨_, by simp, q11, j6 + 1, l19, rfl, hs.sub ⟨rfl, rfl, rfl, rfl, trivial⟩, hM, hm, drop_next hj6⟩
  rintro a w ⟨l8, rfl, hs, hM⟩
  have hm := hk10
  refine x_nt ?_
  refine wp_seq ?_
  refine wp_region_lit ?_
  refine wl hs (y_move hs rfl) rfl ?_; intro a hs
  obtain ⟨y36, h37, hm⟩ := bindE hm
  refine wcall is_51 hs rfl rfl (impl_wayCosts_any v3 l8 _ (hM.rdM 0 rfl) h37) ?_; rintro a _ w hs ⟨v40, vs41, rfl, hX⟩
  have hM : Mem W w [aMat 24 3 v40 vs41 y36.1, aMat 24 3 v3 vs5 l8] := hM.call hX
  refine wl hs (y_move hs rfl) rfl ?_; intro a hs
  refine wl hs (y_extract hs rfl rfl) rfl ?_; intro a hs
  refine wl hs (y_extract hs rfl rfl) rfl ?_; intro a hs
  refine wl hs (y_assign hs rfl) rfl ?_; intro a hs
  refine wl hs (y_assign hs rfl) rfl ?_; intro a hs
  refine wpList_nil ?_
  refine x_nt ?_
  refine wp_seq ?_
  refine wp_region_lit ?_
  refine wl hs (y_move hs rfl) rfl ?_; intro a hs
  obtain ⟨y42, h43, hm⟩ := bindE hm
  refine wcall is_101 hs rfl rfl (slices_ContainsFunc_int_int_impl_isStrong_1_any v40 y36.1 _ (hM.rdM 0 rfl) h43) ?_; rintro a _ w hs ⟨rfl, hX⟩
  have hM : Mem W w [aMat 24 3 v40 vs41 y36.1, aMat 24 3 v3 vs5 l8] := hM.call hX
  refine wl hs (y_not hs rfl) rfl ?_; intro a hs
  refine wl hs (y_assign hs rfl) rfl ?_; intro a hs
  refine wpList_nil ?_
  refine x_nt ?_
  refine wp_ret ?_
  have hm : some (!y42) = some r := hm
  obtain rfl := Option.some.inj hm
  refine x_ret1 rfl hs rfl ⟨_, rfl, ?_⟩
  exact ⟨rfl, hM.none_⟩

theorem spec_IsStrong_any (v_p0 : Value) (p0 : List (List Int)) (W : World) (hr_p0 : RdM W v_p0 p0) {r : Bool × Bool} (hm : spec_IsStrong_m p0 = some r) : Calls Try.prog 28 [v_p0].toArray W fun e w => ∃ v, e = .returned v ∧ v = .tuple #[.bool r.1, .bool r.2] ∧ Mem W w [] := by
  refine x_enter Try.func28 rfl Try.ntmps28 rfl ?_
  intro a hs
  have hM := Mem.start W
  unfold spec_IsStrong_m at hm
  refine wp_seq ?_
  refine wp_region_lit ?_
  refine wl hs (y_assign hs rfl) rfl ?_; intro a hs
  refine wl hs (y_assign hs rfl) rfl ?_; intro a hs
  refine wpList_nil ?_
  refine x_nt ?_
  refine wp_seq ?_
  refine wp_seq ?_
  refine wp_region_lit ?_
  refine wl hs (y_move hs rfl) rfl ?_; intro a hs
  obtain ⟨y1, h2, hm⟩ := bindE hm
  refine wcall is_46 hs rfl rfl (spec_mxSquare_any v_p0 p0 _ (RdM.below hr_p0 hM.bel) h2) ?_; rintro a _ w hs ⟨rfl, hX⟩
  have hM : Mem W w [] := hM.call hX
  refine wl hs (y_not hs rfl) rfl ?_; intro a hs
  refine wpList_nil ?_
  refine x_nt ?_
  refine x_cond hs rfl (fun hb => ?_) (fun hb => ?_)
  · replace hm := condT hb hm
    refine wp_seq ?_
    refine wp_region_lit ?_
    refine wl hs (y_assign hs rfl) rfl ?_; intro a hs
    refine wl hs (y_assign hs rfl) rfl ?_; intro a hs
    refine wpList_nil ?_
    refine x_nt ?_
    refine wp_ret ?_
    refine x_rt ?_
    have hm : some (false, false) = some r := hm
    obtain rfl := Option.some.inj hm
    refine x_ret2 rfl hs rfl rfl ⟨_, rfl, ?_⟩
    exact ⟨rfl, hM⟩
  · replace hm := condF hb hm
    refine wp_skip ?_
    refine x_nt ?_
    refine wp_seq ?_
    refine wp_region_lit ?_
    refine wl hs (y_move hs rfl) rfl ?_; intro a hs
    obtain ⟨y3, h4, hm⟩ := bindE hm
    refine wcall is_69 hs rfl rfl (spec_mnConnected_any v_p0 p0 _ (RdM.below hr_p0 hM.bel) h4) ?_; rintro a _ w hs ⟨rfl, hX⟩
    have hM : Mem W w [] := hM.call hX
    refine wl hs (y_assign hs rfl) rfl ?_; intro a hs
    refine wl hs (y_assign hs rfl) rfl ?_; intro a hs
    refine wpList_nil ?_
    refine x_nt ?_
    refine wp_ret ?_
    have hm : some (y3, true) = some r := hm
    obtain rfl := Option.some.inj hm
    refine x_ret2 rfl hs rfl rfl ⟨_, rfl, ?_⟩
    exact ⟨rfl, hM⟩

theorem impl_IsStrong_any (v_p0 : Value) (p0 : List (List Int)) (W : World) (hr_p0 : RdM W v_p0 p0) {r : Bool × Bool} (hm : impl_IsStrong_m p0 = some r) : Calls Try.prog 29 [v_p0].toArray W fun e w => ∃ v, e = .returned v ∧ v = .tuple #[.bool r.1, .bool r.2] ∧ Mem W w [] := by
  refine x_enter Try.func29 rfl Try.ntmps29 rfl ?_
  intro a hs
  have hM := Mem.start W
  unfold impl_IsStrong_m at hm
  refine wp_seq ?_
  refine wp_region_lit ?_
  refine wl hs (y_assign hs rfl) rfl ?_; intro a hs
  refine wl hs (y_assign hs rfl) rfl ?_; intro a hs
  refine wpList_nil ?_
  refine x_nt ?_
  refine wp_seq ?_
  refine wp_seq ?_
  refine wp_region_lit ?_
  refine wl hs (y_move hs rfl) rfl ?_; intro a hs
  obtain ⟨y1, h2, hm⟩ := bindE hm
  refine wcall is_50 hs rfl rfl (impl_isSquare_any v_p0 p0 _ (RdM.below hr_p0 hM.bel) h2) ?_; rintro a _ w hs ⟨rfl, hX⟩
  have hM : Mem W w [] := hM.call hX
  refine wl hs (y_not hs rfl) rfl ?_; intro a hs
  refine wpList_nil ?_
  refine x_nt ?_
  refine x_cond hs rfl (fun hb => ?_) (fun hb => ?_)
  · replace hm := condT hb hm
    refine wp_seq ?_
    refine wp_region_lit ?_
    refine wl hs (y_assign hs rfl) rfl ?_; intro a hs
    refine wl hs (y_assign hs rfl) rfl ?_; intro a hs
    refine wpList_nil ?_
    refine x_nt ?_
    refine wp_ret ?_
    refine x_rt ?_
    have hm : some (false, false) = some r := hm
    obtain rfl := Option.some.inj hm
    refine x_ret2 rfl hs rfl rfl ⟨_, rfl, ?_⟩
    exact ⟨rfl, hM⟩
  · replace hm := condF hb hm
    refine wp_skip ?_
    refine x_nt ?_
    refine wp_seq ?_
    refine wp_region_lit ?_
    refine wl hs (y_move hs rfl) rfl ?_; intro a hs
    obtain ⟨y3, h4, hm⟩ := bindE hm
    refine wcall is_70 hs rfl rfl (impl_isStrong_any v_p0 p0 _ (RdM.below hr_p0 hM.bel) h4) ?_; rintro a _ w hs ⟨rfl, hX⟩
    have hM : Mem W w [] := hM.call hX
    refine wl hs (y_assign hs rfl) rfl ?_; intro a hs
    refine wl hs (y_assign hs rfl) rfl ?_; intro a hs
    refine wpList_nil ?_
    refine x_nt ?_
    refine wp_ret ?_
    have hm : some (y3, true) = some r := hm
    obtain rfl := Option.some.inj hm
    refine x_ret2 rfl hs rfl rfl ⟨_, rfl, ?_⟩
    exact ⟨rfl, hM⟩

theorem impl_shorter_any (v_p0 : Value) (p0 : List (List Int)) (p1 : Int) (W : World) (hr_p0 : RdM W v_p0 p0) {r : List (List Int)} (hm : impl_shorter_m p0 p1 = some r) : Calls Try.prog 84 [v_p0, .int .i64 p1].toArray W fun e w => ∃ v, e = .returned v ∧ ∃ vs0, Mem W w [aMat 24 3 v vs0 r] := by
  refine x_enter Try.func84 rfl Try.ntmps84 rfl ?_
  intro a hs
  have hM := Mem.start W
  unfold impl_shorter_m at hm
  refine wp_seq ?_
  refine wp_region_lit ?_
  refine wl hs (y_assign hs rfl) rfl ?_; intro a hs
  refine wpList_nil ?_
  refine x_nt ?_
  refine wp_seq ?_
  refine wp_region_lit ?_
  refine wmem hs (x_new0M (ti := 3) ht_M hM) rfl ?_; intro a v2 w hs hM
  have hM : Mem W w [aMat 24 3 v2 ([]) ([])] := hM
  refine wl hs (y_assign hs rfl) rfl ?_; intro a hs
  refine wpList_nil ?_
  refine x_nt ?_
  refine wp_seq ?_
  refine wp_seq ?_
  refine wp_region_lit ?_
  refine wl hs (y_move hs rfl) rfl ?_; intro a hs
  refine wl hs (y_len hu_M hs rfl (RdM.below hr_p0 hM.bel)) rfl ?_; intro a hs
  refine wl hs (y_move hs rfl) rfl ?_; intro a hs
  refine wpList_nil ?_
  refine x_nt ?_
  obtain ⟨s10, hm, hk11⟩ := bindE hm
  refine x_mid (fun a w => ∃ (v7 : Value), ∃ (vs8 : List Value), ∃ (l9 : List (List Int)), l9 = s10 ∧ Fr a 24 [(5, v7)] ∧ Mem W w [aMat 24 3 v7 vs8 l9]) ?_ ?_
  · refine wp_block ?_
    refine x_loop (fun k a w => ∃ (q12 : List (List Int)) (j3 : Nat) (v4 : Value) (vs5 : List Value) (l6 : List (List Int)) , k = q12.length ∧ Fr a 24 [(1, .int .i64 p1), (5, v4), (9, v_p0), (10, .int .i64 (p0.length : Int)), (11, .int .i64 (j3 : Int))] ∧ Mem W w [aMat 24 3 v4 vs5 l6] ∧ impl_shorter_l1 p1 q12 j3 l6 = some s10 ∧ List.drop j3 p0 = q12) _ ⟨p0, 0, v2, [], [], rfl, hs.sub ⟨rfl, rfl, rfl, rfl, rfl, trivial⟩, hM, hm, rfl⟩ ?_
    rintro k a w ⟨q12, j3, v4, vs5, l6, rfl, hs, hM, hm, hj3⟩
    rcases q12 with _ | ⟨x13, q12⟩
    · rewrite [impl_shorter_l1] at hm
      refine wp_seq ?_
      refine wp_region_lit ?_
      refine wl hs (y_lss hs rfl rfl) rfl ?_; intro a hs
      refine wpList_nil ?_
      refine x_nt ?_
      refine wp_seq ?_
      refine x_condF hs rfl (drop_f hj3) ?_
      refine wp_exit ?_
      refine x_et ?_
      refine x_et ?_
      refine x_eb ?_
      have hm : some l6 = some s10 := hm
      exact ⟨v4, vs5, l6, Option.some.inj hm, hs.sub ⟨rfl, trivial⟩, hM⟩
    · rewrite [impl_shorter_l1] at hm
      have hx14 := drop_idx hj3
      have hsj3 := ck_succ hj3 (RdS.len (RdM.below hr_p0 hM.bel))
      refine wp_seq ?_
      refine wp_region_lit ?_
      refine wl hs (y_lss hs rfl rfl) rfl ?_; intro a hs
      refine wpList_nil ?_
      refine x_nt ?_
      refine wp_seq ?_
      refine x_condT hs rfl (drop_t hj3) ?_
      refine wp_skip ?_
      refine x_nt ?_
      refine wp_seq ?_
      refine wp_block ?_
      refine wp_seq ?_
      refine wp_region_lit ?_
      obtain ⟨u16, he15, hr17⟩ := RdM.at_ hr_p0 hx14
      replace he15 := he15.below hM.bel
      refine wl hs (y_index ht_M hs rfl rfl he15) rfl ?_; intro a hs
      refine wl hs (y_load sc_I hs rfl he15.cell) rfl ?_; intro a hs
      refine wl hs (y_assign hs rfl) rfl ?_; intro a hs
      refine wpList_nil ?_
      refine x_nt ?_
      refine wp_region_lit ?_
      refine wl hs (y_move hs rfl) rfl ?_; intro a hs
      refine wl hs (y_move hs rfl) rfl ?_; intro a hs
      refine wl hs (y_move hs rfl) rfl ?_; intro a hs
      obtain ⟨n18, h19, hm⟩ := bindE hm
      refine wl hs (y_neg hs rfl h19) rfl ?_; intro a hs
      obtain ⟨y20, h21, hm⟩ := bindE hm
      refine wcall is_68 hs rfl rfl (impl_shifted_any u16 x13 n18 _ (RdI.below hr17 hM.bel) h21) ?_; rintro a v22 w hs hX
      have hM : Mem W w [aInts 3 v22 y20, aMat 24 3 v4 vs5 l6] := hM.call hX
      obtain ⟨l24, h25, hm⟩ := bindE hm
      refine wappM hu_M he_I hs (hM.front 1 rfl) rfl rfl h25 rfl rfl rfl ?_; intro a v26 w u27 hs hM
      have hM : Mem W w [aMat 24 3 v26 (vs5 ++ [v22]) l24] := hM
      refine wl hs (y_assign hs rfl) rfl ?_; intro a hs
      refine wpList_nil ?_
      refine x_nb ?_
      refine x_nt ?_
      refine wp_region_lit ?_
      refine wl hs (y_add hs rfl rfl hsj3) rfl ?_; intro a hs
      refine wl hs (y_move hs rfl) rfl ?_; intro a hs
      refine wpList_nil ?_
      exact ⟨_, by simp, q12, j3 + 1, v26, (vs5 ++ [v22]), l24, rfl, hs.sub ⟨rfl, rfl, rfl, rfl, rfl, trivial⟩, hM, hm, drop_next hj3⟩
  rintro a w ⟨v7, vs8, l9, rfl, hs, hM⟩
  have hm := hk11
  refine x_nt ?_
  refine wp_seq ?_
  refine wp_region_lit ?_
  refine wl hs (y_move hs rfl) rfl ?_; intro a hs
  refine wl hs (y_assign hs rfl) rfl ?_; intro a hs
  refine wpList_nil ?_
  refine x_nt ?_
  refine wp_ret ?_
  have hm : some l9 = some r := hm
  obtain rfl := Option.some.inj hm
  refine x_ret1 rfl hs rfl ⟨_, rfl, ?_⟩
  exact ⟨_, hM⟩

theorem impl_markedOf_any (v_p0 : Value) (p0 : List Bool) (W : World) (hr_p0 : RdB W v_p0 p0) {r : List Int} (hm : impl_markedOf_m p0 = some r) : Calls Try.prog 86 [v_p0].toArray W fun e w => ∃ v, e = .returned v ∧ Mem W w [aInts 3 v r] := by
  refine x_enter Try.func86 rfl Try.ntmps86 rfl ?_
  intro a hs
  have hM := Mem.start W
  unfold impl_markedOf_m at hm
  refine wp_seq ?_
  refine wp_region_lit ?_
  refine wl hs (y_assign hs rfl) rfl ?_; intro a hs
  refine wpList_nil ?_
  refine x_nt ?_
  refine wp_seq ?_
  refine wp_region_lit ?_
  refine wmem hs (x_new0I ht_I hM) rfl ?_; intro a v2 w hs hM
  have hM : Mem W w [aInts 3 v2 ([])] := hM
  refine wl hs (y_assign hs rfl) rfl ?_; intro a hs
  refine wpList_nil ?_
  refine x_nt ?_
  refine wp_seq ?_
  refine wp_seq ?_
  refine wp_region_lit ?_
  refine wl hs (y_move hs rfl) rfl ?_; intro a hs
  refine wl hs (y_len hu_B hs rfl (RdB.below hr_p0 hM.bel)) rfl ?_; intro a hs
  refine wl hs (y_move hs rfl) rfl ?_; intro a hs
  refine wpList_nil ?_
  refine x_nt ?_
  obtain ⟨s8, hm, hk9⟩ := bindE hm
  refine x_mid (fun a w => ∃ (v6 : Value), ∃ (l7 : List Int), l7 = s8 ∧ Fr a 21 [(3, v6)] ∧ Mem W w [aInts 3 v6 l7]) ?_ ?_
  · refine wp_block ?_
    refine x_loop (fun k a w => ∃ (q10 : List Bool) (j3 : Nat) (v4 : Value) (l5 : List Int) , k = q10.length ∧ Fr a 21 [(3, v4), (7, v_p0), (8, .int .i64 (p0.length : Int)), (9, .int .i64 (j3 : Int))] ∧ Mem W w [aInts 3 v4 l5] ∧ impl_markedOf_l1 q10 j3 l5 = some s8 ∧ List.drop j3 p0 = q10) _ ⟨p0, 0, v2, [], rfl, hs.sub ⟨rfl, rfl, rfl, rfl, trivial⟩, hM, hm, rfl⟩ ?_
    rintro k a w ⟨q10, j3, v4, l5, rfl, hs, hM, hm, hj3⟩
    rcases q10 with _ | ⟨x11, q10⟩
    · rewrite [impl_markedOf_l1] at hm
      refine wp_seq ?_
      refine wp_region_lit ?_
      refine wl hs (y_lss hs rfl rfl) rfl ?_; intro a hs
      refine wpList_nil ?_
      refine x_nt ?_
      refine wp_seq ?_
      refine x_condF hs rfl (drop_f hj3) ?_
      refine wp_exit ?_
      refine x_et ?_
      refine x_et ?_
      refine x_eb ?_
      have hm : some l5 = some s8 := hm
      exact ⟨v4, l5, Option.some.inj hm, hs.sub ⟨rfl, trivial⟩, hM⟩
    · rewrite [impl_markedOf_l1] at hm
      have hx12 := drop_idx hj3
      have hsj3 := ck_succ hj3 (RdS.len (RdB.below hr_p0 hM.bel))
      refine wp_seq ?_
      refine wp_region_lit ?_
      refine wl hs (y_lss hs rfl rfl) rfl ?_; intro a hs
      refine wpList_nil ?_
      refine x_nt ?_
      refine wp_seq ?_
      refine x_condT hs rfl (drop_t hj3) ?_
      refine wp_skip ?_
      refine x_nt ?_
      refine wp_seq ?_
      refine wp_block ?_
      refine wp_seq ?_
      refine wp_region_lit ?_
      refine wl hs (y_move hs rfl) rfl ?_; intro a hs
      have he13 := RdB.at_ (RdB.below hr_p0 hM.bel) hx12
      refine wl hs (y_index ht_B hs rfl rfl he13) rfl ?_; intro a hs
      refine wl hs (y_load sc_bool hs rfl he13.cell) rfl ?_; intro a hs
      refine wl hs (y_assign hs rfl) rfl ?_; intro a hs
      refine wl hs (y_assign hs rfl) rfl ?_; intro a hs
      refine wpList_nil ?_
      refine x_nt ?_
      refine wp_seq ?_
      refine wp_region_lit ?_
      refine wl hs (y_move hs rfl) rfl ?_; intro a hs
      refine wpList_nil ?_
      refine x_nt ?_
      refine x_cond hs rfl (fun hb => ?_) (fun hb => ?_)
      · replace hm := condT hb hm
        refine wp_region_lit ?_
        refine wl hs (y_move hs rfl) rfl ?_; intro a hs
        refine wl hs (y_move hs rfl) rfl ?_; intro a hs
        obtain ⟨l14, h15, hm⟩ := bindE hm
        refine wappI hu_I he_int hs hM rfl rfl h15 rfl rfl rfl ?_; intro a v16 w u17 hs hM
        have hM : Mem W w [aInts 3 v16 l14] := hM
        refine wl hs (y_assign hs rfl) rfl ?_; intro a hs
        refine wpList_nil ?_
        refine x_nb ?_
        refine x_nt ?_
        refine wp_region_lit ?_
        refine wl hs (y_add hs rfl rfl hsj3) rfl ?_; intro a hs
        refine wl hs (y_move hs rfl) rfl ?_; intro a hs
        refine wpList_nil ?_
        exact ⟨_, by simp, q10, j3 + 1, v16, l14, rfl, hs.sub ⟨rfl, rfl, rfl, rfl, trivial⟩, hM, hm, drop_next hj3⟩
      · replace hm := condF hb hm
        refine wp_skip ?_
        refine x_nb ?_
        refine x_nt ?_
        refine wp_region_lit ?_
        refine wl hs (y_add hs rfl rfl hsj3) rfl ?_; intro a hs
        refine wl hs (y_move hs rfl) rfl ?_; intro a hs
        refine wpList_nil ?_
        exact ⟨_, by simp, q10, j3 + 1, v4, l5, rfl, hs.sub ⟨rfl, rfl, rfl, rfl, trivial⟩, hM, hm, drop_next hj3⟩
  rintro a w ⟨v6, l7, rfl, hs, hM⟩
  have hm := hk9
  refine x_nt ?_
  refine wp_seq ?_
  refine wp_region_lit ?_
  refine wl hs (y_move hs rfl) rfl ?_; intro a hs
  refine wl hs (y_assign hs rfl) rfl ?_; intro a hs
  refine wpList_nil ?_
  refine x_nt ?_
  refine wp_ret ?_
  have hm : some l7 = some r := hm
  obtain rfl := Option.some.inj hm
  refine x_ret1 rfl hs rfl ⟨_, rfl, ?_⟩
  exact hM

set_option maxHeartbeats 4000000 in
theorem spec_mnWays_any (v_p0 : Value) (p0 : List (List Int)) (p1 : Int) (v_p2 : Value) (p2 : List Int) (W : World) (hr_p0 : RdM W v_p0 p0) (hr_p2 : RdI W v_p2 p2) {r : List Int} (hm : spec_mnWays_m p0 p1 p2 = some r) : Calls Try.prog 82 [v_p0, .int .i64 p1, v_p2].toArray W fun e w => ∃ v, e = .returned v ∧ Mem W w [aInts 3 v r] := by
  refine x_enter Try.func82 rfl Try.ntmps82 rfl ?_
  intro a hs
  have hM := Mem.start W
  unfold spec_mnWays_m at hm
  refine wp_seq ?_
  refine wp_region_lit ?_
  refine wl hs (y_assign hs rfl) rfl ?_; intro a hs
  refine wpList_nil ?_
  refine x_nt ?_
  refine wp_seq ?_
  refine wp_region_lit ?_
  refine wl hs (y_move hs rfl) rfl ?_; intro a hs
  obtain ⟨y1, h2, hm⟩ := bindE hm
  refine wcall is_114 hs rfl rfl (spec_l1Own_any v_p2 p2 _ (RdI.below hr_p2 hM.bel) h2) ?_; rintro a v3 w hs hX
  have hM : Mem W w [aInts 3 v3 y1] := hM.call hX
  refine wl hs (y_assign hs rfl) rfl ?_; intro a hs
  refine wpList_nil ?_
  refine x_nt ?_
  refine wp_seq ?_
  refine wp_seq ?_
  refine wp_region_lit ?_
  refine wl hs (y_move hs rfl) rfl ?_; intro a hs
  refine wl hs (y_len hu_M hs rfl (RdM.below hr_p0 hM.bel)) rfl ?_; intro a hs
  refine wl hs (y_move hs rfl) rfl ?_; intro a hs
  refine wpList_nil ?_
  refine x_nt ?_
  obtain ⟨s8, hm, hk9⟩ := bindE hm
  refine x_mid (fun a w => ∃ (l7 : List Int), l7 = s8 ∧ Fr a 61 [(7, v3)] ∧ Mem W w [aInts 3 v3 l7]) ?_ ?_
  · refine wp_block ?_
    refine x_loop (fun k a w => ∃ (q10 : List (List Int)) (j5 : Nat) (l6 : List Int) , k = q10.length ∧ Fr a 61 [(0, v_p0), (1, .int .i64 p1), (7, v3), (15, .int .i64 (p0.length : Int)), (16, .int .i64 (j5 : Int))] ∧ Mem W w [aInts 3 v3 l6] ∧ spec_mnWays_l1 p0 p1 q10 j5 l6 = some s8 ∧ List.drop j5 p0 = q10) _ ⟨p0, 0, y1, rfl, hs.sub ⟨rfl, rfl, rfl, rfl, rfl, trivial⟩, hM, hm, rfl⟩ ?_
    rintro k a w ⟨q10, j5, l6, rfl, hs, hM, hm, hj5⟩
    rcases q10 with _ | ⟨x11, q10⟩
    · rewrite [spec_mnWays_l1] at hm
      refine wp_seq ?_
      refine wp_region_lit ?_
      refine wl hs (y_lss hs rfl rfl) rfl ?_; intro a hs
      refine wpList_nil ?_
      refine x_nt ?_
      refine wp_seq ?_
      refine x_condF hs rfl (drop_f hj5) ?_
      refine wp_exit ?_
      refine x_et ?_
      refine x_et ?_
      refine x_eb ?_
      have hm : some l6 = some s8 := hm
      exact ⟨l6, Option.some.inj hm, hs.sub ⟨rfl, trivial⟩, hM⟩
    · rewrite [spec_mnWays_l1] at hm
      have hx12 := drop_idx hj5
      have hsj5 := ck_succ hj5 (RdS.len (RdM.below hr_p0 hM.bel))
      refine wp_seq ?_
      refine wp_region_lit ?_
      refine wl hs (y_lss hs rfl rfl) rfl ?_; intro a hs
      refine wpList_nil ?_
      refine x_nt ?_
      refine wp_seq ?_
      refine x_condT hs rfl (drop_t hj5) ?_
      refine wp_skip ?_
      refine x_nt ?_
      refine wp_seq ?_
      refine wp_block ?_
      refine wp_seq ?_
      refine wp_region_lit ?_
      refine wl hs (y_move hs rfl) rfl ?_; intro a hs
      refine wl hs (y_len hu_M hs rfl (RdM.below hr_p0 hM.bel)) rfl ?_; intro a hs
      refine wl hs (y_move hs rfl) rfl ?_; intro a hs
      refine wpList_nil ?_
      refine x_nt ?_
      obtain ⟨s16, hm, hk17⟩ := bindE hm
      refine x_mid (fun a w => ∃ (l15 : List Int), l15 = s16 ∧ Fr a 61 [(0, v_p0), (1, .int .i64 p1), (7, v3), (15, .int .i64 (p0.length : Int)), (16, .int .i64 (j5 : Int))] ∧ Mem W w [aInts 3 v3 l15]) ?_ ?_
      · refine wp_block ?_
        refine x_loop (fun k a w => ∃ (q18 : List (List Int)) (j13 : Nat) (l14 : List Int) , k = q18.length ∧ Fr a 61 [(0, v_p0), (1, .int .i64 p1), (7, v3), (15, .int .i64 (p0.length : Int)), (16, .int .i64 (j5 : Int)), (18, v_p0), (19, .int .i64 (p0.length : Int)), (20, .int .i64 (j13 : Int))] ∧ Mem W w [aInts 3 v3 l14] ∧ spec_mnWays_l2 p1 q18 j13 l14 = some s16 ∧ List.drop j13 p0 = q18) _ ⟨p0, 0, l6, rfl, hs.sub ⟨rfl, rfl, rfl, rfl, rfl, rfl, rfl, rfl, trivial⟩, hM, hm, rfl⟩ ?_
        rintro k a w ⟨q18, j13, l14, rfl, hs, hM, hm, hj13⟩
        rcases q18 with _ | ⟨x19, q18⟩
        · rewrite [spec_mnWays_l2] at hm
          refine wp_seq ?_
          refine wp_region_lit ?_
          refine wl hs (y_lss hs rfl rfl) rfl ?_; intro a hs
          refine wpList_nil ?_
          refine x_nt ?_
          refine wp_seq ?_
          refine x_condF hs rfl (drop_f hj13) ?_
          refine wp_exit ?_
          refine x_et ?_
          refine x_et ?_
          refine x_eb ?_
          have hm : some l14 = some s16 := hm
          exact ⟨l14, Option.some.inj hm, hs.sub ⟨rfl, rfl, rfl, rfl, rfl, trivial⟩, hM⟩
        · rewrite [spec_mnWays_l2] at hm
          have hx20 := drop_idx hj13
          have hsj13 := ck_succ hj13 (RdS.len (RdM.below hr_p0 hM.bel))
          refine wp_seq ?_
          refine wp_region_lit ?_
          refine wl hs (y_lss hs rfl rfl) rfl ?_; intro a hs
          refine wpList_nil ?_
          refine x_nt ?_
          refine wp_seq ?_
          refine x_condT hs rfl (drop_t hj13) ?_
          refine wp_skip ?_
          refine x_nt ?_
          refine wp_seq ?_
          refine wp_block ?_
          refine wp_seq ?_
          refine wp_region_lit ?_
          refine wl hs (y_move hs rfl) rfl ?_; intro a hs
          obtain ⟨u22, he21, hr23⟩ := RdM.at_ hr_p0 hx20
          replace he21 := he21.below hM.bel
          refine wl hs (y_index ht_M hs rfl rfl he21) rfl ?_; intro a hs
          refine wl hs (y_load sc_I hs rfl he21.cell) rfl ?_; intro a hs
          refine wl hs (y_assign hs rfl) rfl ?_; intro a hs
          refine wl hs (y_assign hs rfl) rfl ?_; intro a hs
          refine wpList_nil ?_
          refine x_nt ?_
          refine wp_seq ?_
          refine wp_region_lit ?_
          refine wl hs (y_move hs rfl) rfl ?_; intro a hs
          refine wl hs (y_len hu_I hs rfl (RdI.below hr23 hM.bel)) rfl ?_; intro a hs
          refine wl hs (y_move hs rfl) rfl ?_; intro a hs
          refine wpList_nil ?_
          refine x_nt ?_
          obtain ⟨s27, hm, hk28⟩ := bindE hm
          refine x_mid (fun a w => ∃ (l26 : List Int), l26 = s27 ∧ Fr a 61 [(0, v_p0), (1, .int .i64 p1), (7, v3), (15, .int .i64 (p0.length : Int)), (16, .int .i64 (j5 : Int)), (18, v_p0), (19, .int .i64 (p0.length : Int)), (20, .int .i64 (j13 : Int))] ∧ Mem W w [aInts 3 v3 l26]) ?_ ?_
          · refine wp_block ?_
            refine x_loop (fun k a w => ∃ (q29 : List Int) (j24 : Nat) (l25 : List Int) , k = q29.length ∧ Fr a 61 [(0, v_p0), (1, .int .i64 p1), (7, v3), (8, .int .i64 (j13 : Int)), (15, .int .i64 (p0.length : Int)), (16, .int .i64 (j5 : Int)), (18, v_p0), (19, .int .i64 (p0.length : Int)), (20, .int .i64 (j13 : Int)), (25, u22), (26, .int .i64 (x19.length : Int)), (27, .int .i64 (j24 : Int))] ∧ Mem W w [aInts 3 v3 l25] ∧ spec_mnWays_l3 p1 j13 q29 j24 l25 = some s27 ∧ List.drop j24 x19 = q29) _ ⟨x19, 0, l14, rfl, hs.sub ⟨rfl, rfl, rfl, rfl, rfl, rfl, rfl, rfl, rfl, rfl, rfl, rfl, trivial⟩, hM, hm, rfl⟩ ?_
            rintro k a w ⟨q29, j24, l25, rfl, hs, hM, hm, hj24⟩
            rcases q29 with _ | ⟨x30, q29⟩
            · rewrite [spec_mnWays_l3] at hm
              refine wp_seq ?_
              refine wp_region_lit ?_
              refine wl hs (y_lss hs rfl rfl) rfl ?_; intro a hs
              refine wpList_nil ?_
              refine x_nt ?_
              refine wp_seq ?_
              refine x_condF hs rfl (drop_f hj24) ?_
              refine wp_exit ?_
              refine x_et ?_
              refine x_et ?_
              refine x_eb ?_
              have hm : some l25 = some s27 := hm
              exact ⟨l25, Option.some.inj hm, hs.sub ⟨rfl, rfl, rfl, rfl, rfl, rfl, rfl, rfl, trivial⟩, hM⟩
            · rewrite [spec_mnWays_l3] at hm
              have hx31 := drop_idx hj24
              have hsj24 := ck_succ hj24 (RdS.len (RdI.below hr23 hM.bel))
              refine wp_seq ?_
              refine wp_region_lit ?_
              refine wl hs (y_lss hs rfl rfl) rfl ?_; intro a hs
              refine wpList_nil ?_
              refine x_nt ?_
              refine wp_seq ?_
              refine x_condT hs rfl (drop_t hj24) ?_
              refine wp_skip ?_
              refine x_nt ?_
              refine wp_seq ?_
              refine wp_block ?_
              refine wp_seq ?_
              refine wp_region_lit ?_
              refine wl hs (y_move hs rfl) rfl ?_; intro a hs
              have he32 := RdI.at_ (RdI.below hr23 hM.bel) hx31
              refine wl hs (y_index ht_I hs rfl rfl he32) rfl ?_; intro a hs
              refine wl hs (y_load sc_int hs rfl he32.cell) rfl ?_; intro a hs
              refine wl hs (y_assign hs rfl) rfl ?_; intro a hs
              refine wl hs (y_assign hs rfl) rfl ?_; intro a hs
              refine wpList_nil ?_
              refine x_nt ?_
              refine wp_seq ?_
              refine wp_region_lit ?_
              refine wl hs (y_move hs rfl) rfl ?_; intro a hs
              refine wl hs (y_neq hs rfl rfl) rfl ?_; intro a hs
              refine wl hs (y_move hs rfl) rfl ?_; intro a hs
              obtain ⟨b33, hb34, hm⟩ := bindE hm
              refine wlguard (N := 61) (L' := [(40, .bool b33), (0, v_p0), (1, .int .i64 p1), (7, v3), (8, .int .i64 (j13 : Int)), (10, .int .i64 (j24 : Int)), (11, .int .i64 x30), (15, .int .i64 (p0.length : Int)), (16, .int .i64 (j5 : Int)), (18, v_p0), (19, .int .i64 (p0.length : Int)), (20, .int .i64 (j13 : Int)), (25, u22), (26, .int .i64 (x19.length : Int)), (27, .int .i64 (j24 : Int))]) (fun w => Mem W w [aInts 3 v3 l25]) 6 ?_ ?_
              · intro K; rcases Bool.eq_false_or_eq_true (x30 != 1000000000) with hg35 | hg35
                · have hm := condT hg35 hb34
                  refine wlg hs rfl hg35 (y_move hs rfl) rfl ?_; intro a hs
                  refine wlg hs rfl hg35 (y_move hs rfl) rfl ?_; intro a hs
                  obtain ⟨x36, hx37, hm⟩ := bindE hm
                  have he38 := RdI.at_ (hM.rdI 0 rfl) hx37
                  refine wlg hs rfl hg35 (y_index ht_I hs rfl rfl he38) rfl ?_; intro a hs
                  refine wlg hs rfl hg35 (y_load sc_int hs rfl he38.cell) rfl ?_; intro a hs
                  refine wlg hs rfl hg35 (y_neq hs rfl rfl) rfl ?_; intro a hs
                  have hm : some (x36 != 1000000000) = some b33 := hm
                  cases Option.some.inj hm
                  refine wl hs (y_pickT hs rfl hg35 rfl) rfl ?_; intro a hs
                  exact K _ _ (hs.sub ⟨rfl, rfl, rfl, rfl, rfl, rfl, rfl, rfl, rfl, rfl, rfl, rfl, rfl, rfl, rfl, trivial⟩) hM
                · have hm := condF hg35 hb34
                  refine wls hs rfl hg35 rfl ?_; intro a hs
                  refine wls hs rfl hg35 rfl ?_; intro a hs
                  refine wls hs rfl hg35 rfl ?_; intro a hs
                  refine wls hs rfl hg35 rfl ?_; intro a hs
                  refine wls hs rfl hg35 rfl ?_; intro a hs
                  have hm : some false = some b33 := hm
                  cases Option.some.inj hm
                  refine wl hs (y_pickF hs rfl hg35 rfl) rfl ?_; intro a hs
                  exact K _ _ (hs.sub ⟨rfl, rfl, rfl, rfl, rfl, rfl, rfl, rfl, rfl, rfl, rfl, rfl, rfl, rfl, rfl, trivial⟩) hM
              intro a w hs hM
              simp only [List.drop_succ_cons, List.drop_zero]
              refine wpList_nil ?_
              refine x_nt ?_
              refine x_cond hs rfl (fun hb => ?_) (fun hb => ?_)
              · replace hm := condT hb hm
                refine wc_start hmix [0, 1, 2, 3, 4, 5, 6, 7, 8, 9, 10, 11, 12, 13, 14, 15] (fun w => Mem W w [aInts 3 v3 l25]) (by rfl) ?_
                refine wc (i := 0) (fuel := 16) rfl (by kernel_rfl) (fun w w2 hS hE => hS.quiet hE) hM hs (fun w1 hS => y_move hs rfl) rfl ?_; intro a hs
                refine wc (i := 1) (fuel := 15) rfl (by kernel_rfl) (fun w w2 hS hE => hS.quiet hE) hM hs (fun w1 hS => y_move hs rfl) rfl ?_; intro a hs
                refine wc (i := 2) (fuel := 14) rfl (by kernel_rfl) (fun w w2 hS hE => hS.quiet hE) hM hs (fun w1 hS => y_move hs rfl) rfl ?_; intro a hs
                refine wc (i := 3) (fuel := 13) rfl (by kernel_rfl) (fun w w2 hS hE => hS.quiet hE) hM hs (fun w1 hS => y_move hs rfl) rfl ?_; intro a hs
                obtain ⟨x39, hx40, hm⟩ := bindE hm
                have he41 := fun (w1 : World) (hS : Mem W w1 [aInts 3 v3 l25]) => RdI.at_ (hS.rdI 0 rfl) hx40
                refine wc (i := 4) (fuel := 12) rfl (by kernel_rfl) (fun w w2 hS hE => hS.quiet hE) hM hs (fun w1 hS => y_index ht_I hs rfl rfl (he41 w1 hS)) rfl ?_; intro a hs
                refine wc (i := 5) (fuel := 11) rfl (by kernel_rfl) (fun w w2 hS hE => hS.quiet hE) hM hs (fun w1 hS => y_load sc_int hs rfl (he41 w1 hS).cell) rfl ?_; intro a hs
                refine wc (i := 6) (fuel := 10) rfl (by kernel_rfl) (fun w w2 hS hE => hS.quiet hE) hM hs (fun w1 hS => y_move hs rfl) rfl ?_; intro a hs
                refine wc (i := 7) (fuel := 9) rfl (by kernel_rfl) (fun w w2 hS hE => hS.quiet hE) hM hs (fun w1 hS => y_move hs rfl) rfl ?_; intro a hs
                obtain ⟨n42, h43, hm⟩ := bindE hm
                refine wc (i := 8) (fuel := 8) rfl (by kernel_rfl) (fun w w2 hS hE => hS.quiet hE) hM hs (fun w1 hS => y_sub hs rfl rfl h43) rfl ?_; intro a hs
                refine wc (i := 9) (fuel := 7) rfl (by kernel_rfl) (fun w w2 hS hE => hS.quiet hE) hM hs (fun w1 hS => y_move hs rfl) rfl ?_; intro a hs
                refine wc (i := 10) (fuel := 6) rfl (by kernel_rfl) (fun w w2 hS hE => hS.quiet hE) hM hs (fun w1 hS => y_move hs rfl) rfl ?_; intro a hs
                obtain ⟨x44, hx45, hm⟩ := bindE hm
                have he46 := fun (w1 : World) (hS : Mem W w1 [aInts 3 v3 l25]) => RdI.at_ (hS.rdI 0 rfl) hx45
                refine wc (i := 11) (fuel := 5) rfl (by kernel_rfl) (fun w w2 hS hE => hS.quiet hE) hM hs (fun w1 hS => y_index ht_I hs rfl rfl (he46 w1 hS)) rfl ?_; intro a hs
                refine wc (i := 12) (fuel := 4) rfl (by kernel_rfl) (fun w w2 hS hE => hS.quiet hE) hM hs (fun w1 hS => y_load sc_int hs rfl (he46 w1 hS).cell) rfl ?_; intro a hs
                obtain ⟨n47, h48, hm⟩ := bindE hm
                refine wc (i := 13) (fuel := 3) rfl (by kernel_rfl) (fun w w2 hS hE => hS.quiet hE) hM hs (fun w1 hS => y_add hs rfl rfl h48) rfl ?_; intro a hs
                obtain ⟨y49, h50, hm⟩ := bindE hm
                refine ccall (i := 14) (fuel := 2) rfl (by kernel_rfl) (fun w w2 hS hE => hS.quiet hE) hM (v := .int .i64 y49) is_48 hs rfl rfl (fun w1 hS => cx_of (spec_l1Least_any x39 n47 w1  h50)) ?_; intro a hs
                have he51 := fun (w1 : World) (hS : Mem W w1 [aInts 3 v3 l25]) => RdI.at_ (hS.rdI 0 rfl) hx40
                refine wc (i := 15) (fuel := 1) rfl (by kernel_rfl) (fun w w2 hS hE => hS.quiet hE) hM hs (fun w1 hS => y_index ht_I hs rfl rfl (he51 w1 hS)) rfl ?_; intro a hs
                refine wc_one (fuel := 0) 16 rfl (by kernel_rfl) ?_
                intro w hw
                replace hM := hM.quiet hw
                obtain ⟨l52, h53, hm⟩ := bindE hm
                refine wstore hs rfl rfl (x_storeI he_int (hM.front 0 rfl) h53) ?_; intro w hM
                have hM : Mem W w [aInts 3 v3 l52] := hM
                refine on_nil ?_
                refine wc_done (by kernel_rfl) ?_
                intro w hw
                replace hM := hM.quiet hw
                refine x_nb ?_
                refine x_nt ?_
                refine wp_region_lit ?_
                refine wl hs (y_add hs rfl rfl hsj24) rfl ?_; intro a hs
                refine wl hs (y_move hs rfl) rfl ?_; intro a hs
                refine wpList_nil ?_
                exact ⟨_, by simp, q29, j24 + 1, l52, rfl, hs.sub ⟨rfl, rfl, rfl, rfl, rfl, rfl, rfl, rfl, rfl, rfl, rfl, rfl, trivial⟩, hM, hm, drop_next hj24⟩
              · replace hm := condF hb hm
                refine wp_skip ?_
                refine x_nb ?_
                refine x_nt ?_
                refine wp_region_lit ?_
                refine wl hs (y_add hs rfl rfl hsj24) rfl ?_; intro a hs
                refine wl hs (y_move hs rfl) rfl ?_; intro a hs
                refine wpList_nil ?_
                exact ⟨_, by simp, q29, j24 + 1, l25, rfl, hs.sub ⟨rfl, rfl, rfl, rfl, rfl, rfl, rfl, rfl, rfl, rfl, rfl, rfl, trivial⟩, hM, hm, drop_next hj24⟩
          rintro a w ⟨l26, rfl, hs, hM⟩
          have hm := hk28
          refine x_nb ?_
          refine x_nt ?_
          refine wp_region_lit ?_
          refine wl hs (y_add hs rfl rfl hsj13) rfl ?_; intro a hs
          refine wl hs (y_move hs rfl) rfl ?_; intro a hs
          refine wpList_nil ?_
          exact ⟨_, by simp, q18, j13 + 1, l26, rfl, hs.sub ⟨rfl, rfl, rfl, rfl, rfl, rfl, rfl, rfl, trivial⟩, hM, hm, drop_next hj13⟩
      rintro a w ⟨l15, rfl, hs, hM⟩
      have hm := hk17
      refine x_nb ?_
      refine x_nt ?_
      refine wp_region_lit ?_
      refine wl hs (y_add hs rfl rfl hsj5) rfl ?_; intro a hs
      refine wl hs (y_move hs rfl) rfl ?_; intro a hs
      refine wpList_nil ?_
      exact ⟨_, by simp, q10, j5 + 1, l15, rfl, hs.sub ⟨rfl, rfl, rfl, rfl, rfl, trivial⟩, hM, hm, drop_next hj5⟩
  rintro a w ⟨l7, rfl, hs, hM⟩
  have hm := hk9
  refine x_nt ?_
  refine wp_seq ?_
  refine wp_region_lit ?_
  refine wl hs (y_move hs rfl) rfl ?_; intro a hs
  refine wl hs (y_assign hs rfl) rfl ?_; intro a hs
  refine wpList_nil ?_
  refine x_nt ?_
  refine wp_ret ?_
  have hm : some l7 = some r := hm
  obtain rfl := Option.some.inj hm
  refine x_ret1 rfl hs rfl ⟨_, rfl, ?_⟩
  exact hM

theorem spec_mnIf_any (v_p0 : Value) (p0 : List Int) (W : World) (hr_p0 : RdI W v_p0 p0) {r : Bool × Bool} (hm : spec_mnIf_m p0 = some r) : Calls Try.prog 81 [v_p0].toArray W fun e w => ∃ v, e = .returned v ∧ v = .tuple #[cond r.1 v_p0 (.slice none 0 0), .bool r.2] ∧ Mem W w [] := by
  refine x_enter Try.func81 rfl Try.ntmps81 rfl ?_
  intro a hs
  have hM := Mem.start W
  unfold spec_mnIf_m at hm
  refine wp_seq ?_
  refine wp_region_lit ?_
  refine wl hs (y_assign hs rfl) rfl ?_; intro a hs
  refine wl hs (y_assign hs rfl) rfl ?_; intro a hs
  refine wpList_nil ?_
  refine x_nt ?_
  refine wp_seq ?_
  refine wp_seq ?_
  refine wp_region_lit ?_
  refine wl hs (y_move hs rfl) rfl ?_; intro a hs
  obtain ⟨y1, h2, hm⟩ := bindE hm
  refine wcall is_49 hs rfl rfl (spec_l1All_any v_p0 p0 (-1000000) 1000000 _ (RdI.below hr_p0 hM.bel) h2) ?_; rintro a _ w hs ⟨rfl, hX⟩
  have hM : Mem W w [] := hM.call hX
  refine wl hs (y_not hs rfl) rfl ?_; intro a hs
  refine wpList_nil ?_
  refine x_nt ?_
  refine x_cond hs rfl (fun hb => ?_) (fun hb => ?_)
  · replace hm := condT hb hm
    refine wp_seq ?_
    refine wp_region_lit ?_
    refine wl hs (y_assign hs rfl) rfl ?_; intro a hs
    refine wl hs (y_assign hs rfl) rfl ?_; intro a hs
    refine wpList_nil ?_
    refine x_nt ?_
    refine wp_ret ?_
    refine x_rt ?_
    have hm : some (false, false) = some r := hm
    obtain rfl := Option.some.inj hm
    refine x_ret2 rfl hs rfl rfl ⟨_, rfl, ?_⟩
    exact ⟨rfl, hM⟩
  · replace hm := condF hb hm
    refine wp_skip ?_
    refine x_nt ?_
    refine wp_seq ?_
    refine wp_region_lit ?_
    refine wl hs (y_move hs rfl) rfl ?_; intro a hs
    refine wl hs (y_assign hs rfl) rfl ?_; intro a hs
    refine wl hs (y_assign hs rfl) rfl ?_; intro a hs
    refine wpList_nil ?_
    refine x_nt ?_
    refine wp_ret ?_
    have hm : some (true, true) = some r := hm
    obtain rfl := Option.some.inj hm
    refine x_ret2 rfl hs rfl rfl ⟨_, rfl, ?_⟩
    exact ⟨rfl, hM⟩

end Go.Proofs.Ytjhaealoneennaa
