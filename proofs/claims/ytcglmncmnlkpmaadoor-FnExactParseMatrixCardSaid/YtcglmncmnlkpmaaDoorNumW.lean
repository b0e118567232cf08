/- The code of this unit computes what its mirrors say. Written by program (wip/gen). -/
import Derived.Test.YtcglmncmnlkpmaaDoorFacts
import Derived.Test.YtcglmncmnlkpmaaDoorNumM
namespace Go.Proofs.YtcglmncmnlkpmaaDoor
open Go.RowKit
set_option linter.unusedVariables false

theorem spec_l1In_any (p0 : Int) (p1 : Int) (p2 : Int) (W : World)  {r : Bool} (hm : spec_l1In_m p0 p1 p2 = some r) : Calls Tryd.prog 28 [.int .i64 p0, .int .i64 p1, .int .i64 p2].toArray W fun e w => ∃ v, e = .returned v ∧ v = .bool r ∧ Mem W w [] := by
  refine x_enter Tryd.func28 rfl Tryd.ntmps28 rfl ?_
  intro a hs
  have hM := Mem.start W
  unfold spec_l1In_m at hm
  refine wp_seq ?_
  refine wp_region_lit ?_
  refine wl hs (y_assign hs rfl) rfl ?_; intro a hs
  refine wpList_nil ?_
  refine x_nt ?_
  refine wp_seq ?_
  refine wp_region_lit ?_
  refine wl hs (y_move hs rfl) rfl ?_; intro a hs
  refine wl hs (y_move hs rfl) rfl ?_; intro a hs
  refine wl hs (y_geq hs rfl rfl) rfl ?_; intro a hs
  refine wl hs (y_move hs rfl) rfl ?_; intro a hs
  obtain ⟨b1, hb2, hm⟩ := bindE hm
  refine wlguard (N := 15) (L' := [(14, .bool b1), (6, .bool false)]) (fun w => Mem W w []) 4 ?_ ?_
  · intro K; rcases Bool.eq_false_or_eq_true (decide (p0 ≥ p1)) with hg3 | hg3
    · have hm := condT hg3 hb2
      refine wlg hs rfl hg3 (y_move hs rfl) rfl ?_; intro a hs
      refine wlg hs rfl hg3 (y_move hs rfl) rfl ?_; intro a hs
      refine wlg hs rfl hg3 (y_leq hs rfl rfl) rfl ?_; intro a hs
      have hm : some (decide (p0 ≤ p2)) = some b1 := hm
      cases Option.some.inj hm
      refine wl hs (y_pickT hs rfl hg3 rfl) rfl ?_; intro a hs
      exact K _ _ (hs.sub ⟨rfl, rfl, trivial⟩) hM
    · have hm := condF hg3 hb2
      refine wls hs rfl hg3 rfl ?_; intro a hs
      refine wls hs rfl hg3 rfl ?_; intro a hs
      refine wls hs rfl hg3 rfl ?_; intro a hs
      have hm : some false = some b1 := hm
      cases Option.some.inj hm
      refine wl hs (y_pickF hs rfl hg3 rfl) rfl ?_; intro a hs
      exact K _ _ (hs.sub ⟨rfl, rfl, trivial⟩) hM
  intro a w hs hM
  simp only [List.drop_succ_cons, List.drop_zero]
  refine wl hs (y_assign hs rfl) rfl ?_; intro a hs
  refine wpList_nil ?_
  refine x_nt ?_
  refine wp_ret ?_
  have hm : some b1 = some r := hm
  obtain rfl := Option.some.inj hm
  refine x_ret1 rfl hs rfl ⟨_, rfl, ?_⟩
  exact ⟨rfl, hM⟩

theorem impl_within_any (p0 : Int) (p1 : Int) (p2 : Int) (W : World)  {r : Bool} (hm : impl_within_m p0 p1 p2 = some r) : Calls Tryd.prog 31 [.int .i64 p0, .int .i64 p1, .int .i64 p2].toArray W fun e w => ∃ v, e = .returned v ∧ v = .bool r ∧ Mem W w [] := by
  refine x_enter Tryd.func31 rfl Tryd.ntmps31 rfl ?_
  intro a hs
  have hM := Mem.start W
  unfold impl_within_m at hm
  refine wp_seq ?_
  refine wp_region_lit ?_
  refine wl hs (y_assign hs rfl) rfl ?_; intro a hs
  refine wpList_nil ?_
  refine x_nt ?_
  refine wp_seq ?_
  refine wp_region_lit ?_
  refine wl hs (y_move hs rfl) rfl ?_; intro a hs
  refine wl hs (y_move hs rfl) rfl ?_; intro a hs
  refine wl hs (y_geq hs rfl rfl) rfl ?_; intro a hs
  refine wl hs (y_move hs rfl) rfl ?_; intro a hs
  obtain ⟨b1, hb2, hm⟩ := bindE hm
  refine wlguard (N := 15) (L' := [(14, .bool b1), (6, .bool false)]) (fun w => Mem W w []) 4 ?_ ?_
  · intro K; rcases Bool.eq_false_or_eq_true (decide (p0 ≥ p1)) with hg3 | hg3
    · have hm := condT hg3 hb2
      refine wlg hs rfl hg3 (y_move hs rfl) rfl ?_; intro a hs
      refine wlg hs rfl hg3 (y_move hs rfl) rfl ?_; intro a hs
      refine wlg hs rfl hg3 (y_leq hs rfl rfl) rfl ?_; intro a hs
      have hm : some (decide (p0 ≤ p2)) = some b1 := hm
      cases Option.some.inj hm
      refine wl hs (y_pickT hs rfl hg3 rfl) rfl ?_; intro a hs
      exact K _ _ (hs.sub ⟨rfl, rfl, trivial⟩) hM
    · have hm := condF hg3 hb2
      refine wls hs rfl hg3 rfl ?_; intro a hs
      refine wls hs rfl hg3 rfl ?_; intro a hs
      refine wls hs rfl hg3 rfl ?_; intro a hs
      have hm : some false = some b1 := hm
      cases Option.some.inj hm
      refine wl hs (y_pickF hs rfl hg3 rfl) rfl ?_; intro a hs
      exact K _ _ (hs.sub ⟨rfl, rfl, trivial⟩) hM
  intro a w hs hM
  simp only [List.drop_succ_cons, List.drop_zero]
  refine wl hs (y_assign hs rfl) rfl ?_; intro a hs
  refine wpList_nil ?_
  refine x_nt ?_
  refine wp_ret ?_
  have hm : some b1 = some r := hm
  obtain rfl := Option.some.inj hm
  refine x_ret1 rfl hs rfl ⟨_, rfl, ?_⟩
  exact ⟨rfl, hM⟩

theorem impl_isFinite_any (p0 : Int) (W : World)  {r : Bool} (hm : impl_isFinite_m p0 = some r) : Calls Tryd.prog 52 [.int .i64 p0].toArray W fun e w => ∃ v, e = .returned v ∧ v = .bool r ∧ Mem W w [] := by
  refine x_enter Tryd.func52 rfl Tryd.ntmps52 rfl ?_
  intro a hs
  have hM := Mem.start W
  unfold impl_isFinite_m at hm
  refine wp_seq ?_
  refine wp_region_lit ?_
  refine wl hs (y_assign hs rfl) rfl ?_; intro a hs
  refine wpList_nil ?_
  refine x_nt ?_
  refine wp_seq ?_
  refine wp_region_lit ?_
  refine wl hs (y_move hs rfl) rfl ?_; intro a hs
  refine wl hs (y_geq hs rfl rfl) rfl ?_; intro a hs
  refine wl hs (y_move hs rfl) rfl ?_; intro a hs
  obtain ⟨b1, hb2, hm⟩ := bindE hm
  refine wlguard (N := 9) (L' := [(8, .bool b1), (2, .bool false)]) (fun w => Mem W w []) 3 ?_ ?_
  · intro K; rcases Bool.eq_false_or_eq_true (decide (p0 ≥ (-1000000))) with hg3 | hg3
    · have hm := condT hg3 hb2
      refine wlg hs rfl hg3 (y_move hs rfl) rfl ?_; intro a hs
      refine wlg hs rfl hg3 (y_leq hs rfl rfl) rfl ?_; intro a hs
      have hm : some (decide (p0 ≤ 1000000)) = some b1 := hm
      cases Option.some.inj hm
      refine wl hs (y_pickT hs rfl hg3 rfl) rfl ?_; intro a hs
      exact K _ _ (hs.sub ⟨rfl, rfl, trivial⟩) hM
    · have hm := condF hg3 hb2
      refine wls hs rfl hg3 rfl ?_; intro a hs
      refine wls hs rfl hg3 rfl ?_; intro a hs
      have hm : some false = some b1 := hm
      cases Option.some.inj hm
      refine wl hs (y_pickF hs rfl hg3 rfl) rfl ?_; intro a hs
      exact K _ _ (hs.sub ⟨rfl, rfl, trivial⟩) hM
  intro a w hs hM
  simp only [List.drop_succ_cons, List.drop_zero]
  refine wl hs (y_assign hs rfl) rfl ?_; intro a hs
  refine wpList_nil ?_
  refine x_nt ?_
  refine wp_ret ?_
  have hm : some b1 = some r := hm
  obtain rfl := Option.some.inj hm
  refine x_ret1 rfl hs rfl ⟨_, rfl, ?_⟩
  exact ⟨rfl, hM⟩

theorem impl_isNumber_any (p0 : Int) (W : World)  {r : Bool} (hm : impl_isNumber_m p0 = some r) : Calls Tryd.prog 55 [.int .i64 p0].toArray W fun e w => ∃ v, e = .returned v ∧ v = .bool r ∧ Mem W w [] := by
  refine x_enter Tryd.func55 rfl Tryd.ntmps55 rfl ?_
  intro a hs
  have hM := Mem.start W
  unfold impl_isNumber_m at hm
  refine wp_seq ?_
  refine wp_region_lit ?_
  refine wl hs (y_assign hs rfl) rfl ?_; intro a hs
  refine wpList_nil ?_
  refine x_nt ?_
  refine wp_seq ?_
  refine wp_region_lit ?_
  refine wl hs (y_move hs rfl) rfl ?_; intro a hs
  obtain ⟨y1, h2, hm⟩ := bindE hm
  refine wcall is_52 hs rfl rfl (impl_isFinite_any p0 _  h2) ?_; rintro a _ w hs ⟨rfl, hX⟩
  have hM : Mem W w [] := hM.call hX
  refine wl hs (y_move hs rfl) rfl ?_; intro a hs
  obtain ⟨b3, hb4, hm⟩ := bindE hm
  refine wlguard (N := 9) (L' := [(8, .bool b3), (2, .bool false)]) (fun w => Mem W w []) 3 ?_ ?_
  · intro K; rcases Bool.eq_false_or_eq_true y1 with hg5 | hg5
    · have hm := condT hg5 hb4
      refine wls hs rfl hg5 rfl ?_; intro a hs
      refine wls hs rfl hg5 rfl ?_; intro a hs
      have hm : some true = some b3 := hm
      cases Option.some.inj hm
      refine wl hs (y_pickT hs rfl hg5 rfl) rfl ?_; intro a hs
      exact K _ _ (hs.sub ⟨rfl, rfl, trivial⟩) hM
    · have hm := condF hg5 hb4
      refine wlg hs rfl hg5 (y_move hs rfl) rfl ?_; intro a hs
      refine wlg hs rfl hg5 (y_eql hs rfl rfl) rfl ?_; intro a hs
      have hm : some (p0 == 1000000000) = some b3 := hm
      cases Option.some.inj hm
      refine wl hs (y_pickF hs rfl hg5 rfl) rfl ?_; intro a hs
      exact K _ _ (hs.sub ⟨rfl, rfl, trivial⟩) hM
  intro a w hs hM
  simp only [List.drop_succ_cons, List.drop_zero]
  refine wl hs (y_assign hs rfl) rfl ?_; intro a hs
  refine wpList_nil ?_
  refine x_nt ?_
  refine wp_ret ?_
  have hm : some b3 = some r := hm
  obtain rfl := Option.some.inj hm
  refine x_ret1 rfl hs rfl ⟨_, rfl, ?_⟩
  exact ⟨rfl, hM⟩

theorem spec_nuGood_any (p0 : Int) (W : World)  {r : Bool} (hm : spec_nuGood_m p0 = some r) : Calls Tryd.prog 39 [.int .i64 p0].toArray W fun e w => ∃ v, e = .returned v ∧ v = .bool r ∧ Mem W w [] := by
  refine x_enter Tryd.func39 rfl Tryd.ntmps39 rfl ?_
  intro a hs
  have hM := Mem.start W
  unfold spec_nuGood_m at hm
  refine wp_seq ?_
  refine wp_region_lit ?_
  refine wl hs (y_assign hs rfl) rfl ?_; intro a hs
  refine wpList_nil ?_
  refine x_nt ?_
  refine wp_seq ?_
  refine wp_region_lit ?_
  refine wl hs (y_move hs rfl) rfl ?_; intro a hs
  refine wl hs (y_eql hs rfl rfl) rfl ?_; intro a hs
  refine wl hs (y_move hs rfl) rfl ?_; intro a hs
  obtain ⟨b1, hb2, hm⟩ := bindE hm
  refine wlguard (N := 9) (L' := [(8, .bool b1), (2, .bool false)]) (fun w => Mem W w []) 3 ?_ ?_
  · intro K; rcases Bool.eq_false_or_eq_true (p0 == 1000000000) with hg3 | hg3
    · have hm := condT hg3 hb2
      refine wls hs rfl hg3 rfl ?_; intro a hs
      refine wls hs rfl hg3 rfl ?_; intro a hs
      have hm : some true = some b1 := hm
      cases Option.some.inj hm
      refine wl hs (y_pickT hs rfl hg3 rfl) rfl ?_; intro a hs
      exact K _ _ (hs.sub ⟨rfl, rfl, trivial⟩) hM
    · have hm := condF hg3 hb2
      refine wlg hs rfl hg3 (y_move hs rfl) rfl ?_; intro a hs
      obtain ⟨y4, h5, hm⟩ := bindE hm
      refine wcallg is_28 hs rfl hg3 rfl rfl (spec_l1In_any p0 (-1000000) 1000000 _  h5) ?_; rintro a _ w hs ⟨rfl, hX⟩
      have hM : Mem W w [] := hM.call hX
      have hm : some y4 = some b1 := hm
      cases Option.some.inj hm
      refine wl hs (y_pickF hs rfl hg3 rfl) rfl ?_; intro a hs
      exact K _ _ (hs.sub ⟨rfl, rfl, trivial⟩) hM
  intro a w hs hM
  simp only [List.drop_succ_cons, List.drop_zero]
  refine wl hs (y_assign hs rfl) rfl ?_; intro a hs
  refine wpList_nil ?_
  refine x_nt ?_
  refine wp_ret ?_
  have hm : some b1 = some r := hm
  obtain rfl := Option.some.inj hm
  refine x_ret1 rfl hs rfl ⟨_, rfl, ?_⟩
  exact ⟨rfl, hM⟩

theorem impl_areNumbers_any (v_p0 : Value) (p0 : List Int) (W : World) (hr_p0 : RdI W v_p0 p0) {r : Bool} (hm : impl_areNumbers_m p0 = some r) : Calls Tryd.prog 45 [v_p0].toArray W fun e w => ∃ v, e = .returned v ∧ v = .bool r ∧ Mem W w [] := by
  refine x_enter Tryd.func45 rfl Tryd.ntmps45 rfl ?_
  intro a hs
  have hM := Mem.start W
  unfold impl_areNumbers_m at hm
  refine wp_seq ?_
  refine wp_region_lit ?_
  refine wl hs (y_assign hs rfl) rfl ?_; intro a hs
  refine wpList_nil ?_
  refine x_nt ?_
  refine wp_seq ?_
  refine wp_seq ?_
  refine wp_region_lit ?_
  refine wl hs (y_move hs rfl) rfl ?_; intro a hs
  refine wl hs (y_len hu_I hs rfl (RdI.below hr_p0 hM.bel)) rfl ?_; intro a hs
  refine wl hs (y_move hs rfl) rfl ?_; intro a hs
  refine wpList_nil ?_
  refine x_nt ?_
  obtain ⟨s2, hm, hk3⟩ := bindE hm
  refine x_mid (fun a w => Sum.inr () = s2 ∧ Fr a 15 [] ∧ Mem W w []) ?_ ?_
  · refine wp_block ?_
    refine x_loop (fun k a w => ∃ (q4 : List Int) (j1 : Nat) , k = q4.length ∧ Fr a 15 [(5, v_p0), (6, .int .i64 (p0.length : Int)), (7, .int .i64 (j1 : Int))] ∧ Mem W w [] ∧ impl_areNumbers_l1 q4 j1 = some s2 ∧ List.drop j1 p0 = q4) _ ⟨p0, 0, rfl, hs.sub ⟨rfl, rfl, rfl, trivial⟩, hM, hm, rfl⟩ ?_
    rintro k a w ⟨q4, j1, rfl, hs, hM, hm, hj1⟩
    rcases q4 with _ | ⟨x5, q4⟩
    · rewrite [impl_areNumbers_l1] at hm
      refine wp_seq ?_
      refine wp_region_lit ?_
      refine wl hs (y_lss hs rfl rfl) rfl ?_; intro a hs
      refine wpList_nil ?_
      refine x_nt ?_
      refine wp_seq ?_
      refine x_condF hs rfl (drop_f hj1) ?_
      refine wp_exit ?_
      refine x_et ?_
      refine x_et ?_
      refine x_eb ?_
      have hm : some (Sum.inr ()) = some s2 := hm
      exact ⟨Option.some.inj hm, hs.sub trivial, hM⟩
    · rewrite [impl_areNumbers_l1] at hm
      have hx6 := drop_idx hj1
      have hsj1 := ck_succ hj1 (RdS.len (RdI.below hr_p0 hM.bel))
      refine wp_seq ?_
      refine wp_region_lit ?_
      refine wl hs (y_lss hs rfl rfl) rfl ?_; intro a hs
      refine wpList_nil ?_
      refine x_nt ?_
      refine wp_seq ?_
      refine x_condT hs rfl (drop_t hj1) ?_
      refine wp_skip ?_
      refine x_nt ?_
      refine wp_seq ?_
      refine wp_block ?_
      refine wp_seq ?_
      refine wp_region_lit ?_
      have he7 := RdI.at_ (RdI.below hr_p0 hM.bel) hx6
      refine wl hs (y_index ht_I hs rfl rfl he7) rfl ?_; intro a hs
      refine wl hs (y_load sc_int hs rfl he7.cell) rfl ?_; intro a hs
      refine wl hs (y_assign hs rfl) rfl ?_; intro a hs
      refine wpList_nil ?_
      refine x_nt ?_
      refine wp_seq ?_
      refine wp_region_lit ?_
      refine wl hs (y_move hs rfl) rfl ?_; intro a hs
      obtain ⟨y8, h9, hm⟩ := bindE hm
      refine wcall is_55 hs rfl rfl (impl_isNumber_any x5 _  h9) ?_; rintro a _ w hs ⟨rfl, hX⟩
      have hM : Mem W w [] := hM.call hX
      refine wl hs (y_not hs rfl) rfl ?_; intro a hs
      refine wpList_nil ?_
      refine x_nt ?_
      refine x_cond hs rfl (fun hb => ?_) (fun hb => ?_)
      · replace hm := condT hb hm
        refine wp_seq ?_
        refine wp_region_lit ?_
        refine wl hs (y_assign hs rfl) rfl ?_; intro a hs
        refine wpList_nil ?_
        refine x_nt ?_
        refine wp_ret ?_
        refine x_rb ?_
        refine x_rt ?_
        refine x_rt ?_
        refine x_rb ?_
        refine x_rt ?_
        refine x_rt ?_
        have hm : some (Sum.inl false) = some s2 := hm
        cases Option.some.inj hm
        have hm := hk3
        have hm : some false = some r := hm
        obtain rfl := Option.some.inj hm
        refine x_ret1 rfl hs rfl ⟨_, rfl, ?_⟩
        exact ⟨rfl, hM⟩
      · replace hm := condF hb hm
        refine wp_skip ?_
        refine x_nb ?_
        refine x_nt ?_
        refine wp_region_lit ?_
        refine wl hs (y_add hs rfl rfl hsj1) rfl ?_; intro a hs
        refine wl hs (y_move hs rfl) rfl ?_; intro a hs
        refine wpList_nil ?_
        exact ⟨_, by simp, q4, j1 + 1, rfl, hs.sub ⟨rfl, rfl, rfl, trivial⟩, hM, hm, drop_next hj1⟩
  rintro a w ⟨rfl, hs, hM⟩
  have hm := hk3
  refine x_nt ?_
  refine wp_seq ?_
  refine wp_region_lit ?_
  refine wl hs (y_assign hs rfl) rfl ?_; intro a hs
  refine wpList_nil ?_
  refine x_nt ?_
  refine wp_ret ?_
  have hm : some true = some r := hm
  obtain rfl := Option.some.inj hm
  refine x_ret1 rfl hs rfl ⟨_, rfl, ?_⟩
  exact ⟨rfl, hM⟩

theorem laws_eqIntS_any (v_p0 : Value) (p0 : List Int) (v_p1 : Value) (p1 : List Int) (W : World) (hr_p0 : RdI W v_p0 p0) (hr_p1 : RdI W v_p1 p1) {r : Bool} (hm : laws_eqIntS_m p0 p1 = some r) : Calls Tryd.prog 20 [v_p0, v_p1].toArray W fun e w => ∃ v, e = .returned v ∧ v = .bool r ∧ Mem W w [] := by
  refine x_enter Tryd.func20 rfl Tryd.ntmps20 rfl ?_
  intro a hs
  have hM := Mem.start W
  unfold laws_eqIntS_m at hm
  refine wp_seq ?_
  refine wp_region_lit ?_
  refine wl hs (y_assign hs rfl) rfl ?_; intro a hs
  refine wpList_nil ?_
  refine x_nt ?_
  refine wp_seq ?_
  refine wp_seq ?_
  refine wp_region_lit ?_
  refine wl hs (y_move hs rfl) rfl ?_; intro a hs
  refine wl hs (y_len hu_I hs rfl (RdI.below hr_p0 hM.bel)) rfl ?_; intro a hs
  refine wl hs (y_move hs rfl) rfl ?_; intro a hs
  refine wl hs (y_len hu_I hs rfl (RdI.below hr_p1 hM.bel)) rfl ?_; intro a hs
  refine wl hs (y_neq hs rfl rfl) rfl ?_; intro a hs
  refine wpList_nil ?_
  refine x_nt ?_
  refine x_cond hs rfl (fun hb => ?_) (fun hb => ?_)
  · replace hm := condT hb hm
    refine wp_seq ?_
    refine wp_region_lit ?_
    refine wl hs (y_assign hs rfl) rfl ?_; intro a hs
    refine wpList_nil ?_
    refine x_nt ?_
    refine wp_ret ?_
    refine x_rt ?_
    have hm : some false = some r := hm
    obtain rfl := Option.some.inj hm
    refine x_ret1 rfl hs rfl ⟨_, rfl, ?_⟩
    exact ⟨rfl, hM⟩
  · replace hm := condF hb hm
    refine wp_skip ?_
    refine x_nt ?_
    refine wp_seq ?_
    refine wp_seq ?_
    refine wp_region_lit ?_
    refine wl hs (y_assign hs rfl) rfl ?_; intro a hs
    refine wpList_nil ?_
    refine x_nt ?_
    obtain ⟨s2, hm, hk3⟩ := bindE hm
    refine x_mid (fun a w => Sum.inr () = s2 ∧ Fr a 26 [] ∧ Mem W w []) ?_ ?_
    · refine wp_block ?_
      refine x_loop (fun k a w => ∃ (n1 : Int) , Fr a 26 [(0, v_p0), (1, v_p1), (5, .int .i64 n1)] ∧ Mem W w [] ∧ laws_eqIntS_l1 p0 p1 k n1 = some s2) 4000000 ⟨0, hs.sub ⟨rfl, rfl, rfl, trivial⟩, hM, hm⟩ ?_
      rintro k a w ⟨n1, hs, hM, hm⟩
      rcases k with _ | k
      · rewrite [laws_eqIntS_l1] at hm; cases hm
      rewrite [laws_eqIntS_l1] at hm
      refine wp_seq ?_
      refine wp_seq ?_
      refine wp_region_lit ?_
      refine wl hs (y_move hs rfl) rfl ?_; intro a hs
      refine wl hs (y_move hs rfl) rfl ?_; intro a hs
      refine wl hs (y_len hu_I hs rfl (RdI.below hr_p0 hM.bel)) rfl ?_; intro a hs
      refine wl hs (y_lss hs rfl rfl) rfl ?_; intro a hs
      refine wpList_nil ?_
      refine x_nt ?_
      refine x_cond hs rfl (fun hb => ?_) (fun hb => ?_)
      · replace hm := condT hb hm
        refine wp_skip ?_
        refine x_nt ?_
        refine wp_seq ?_
        refine wp_block ?_
        refine wp_seq ?_
        refine x_regq hmix (by kernel_rfl) ?_
        refine wq hs (fun w1 hw1 => y_move hs rfl) rfl ?_; intro a hs
        refine wq hs (fun w1 hw1 => y_move hs rfl) rfl ?_; intro a hs
        obtain ⟨x5, hx6, hm⟩ := bindE hm
        have he7 := RdI.at_ (RdI.below hr_p0 hM.bel) hx6
        refine wq hs (fun w1 hw1 => y_index ht_I hs rfl rfl (he7.below hw1)) rfl ?_; intro a hs
        refine wq hs (fun w1 hw1 => y_load sc_int hs rfl (he7.below hw1).cell) rfl ?_; intro a hs
        refine wq hs (fun w1 hw1 => y_move hs rfl) rfl ?_; intro a hs
        refine wq hs (fun w1 hw1 => y_move hs rfl) rfl ?_; intro a hs
        obtain ⟨x8, hx9, hm⟩ := bindE hm
        have he10 := RdI.at_ (RdI.below hr_p1 hM.bel) hx9
        refine wq hs (fun w1 hw1 => y_index ht_I hs rfl rfl (he10.below hw1)) rfl ?_; intro a hs
        refine wq hs (fun w1 hw1 => y_load sc_int hs rfl (he10.below hw1).cell) rfl ?_; intro a hs
        refine wq hs (fun w1 hw1 => y_neq hs rfl rfl) rfl ?_; intro a hs
        refine wpQuiet_nil ?_
        intro w hw
        replace hM := hM.quiet hw
        refine x_nt ?_
        refine x_cond hs rfl (fun hb => ?_) (fun hb => ?_)
        · replace hm := condT hb hm
          refine wp_seq ?_
          refine wp_region_lit ?_
          refine wl hs (y_assign hs rfl) rfl ?_; intro a hs
          refine wpList_nil ?_
          refine x_nt ?_
          refine wp_ret ?_
          refine x_rb ?_
          refine x_rt ?_
          refine x_rt ?_
          refine x_rb ?_
          refine x_rt ?_
          refine x_rt ?_
          have hm : some (Sum.inl false) = some s2 := hm
          cases Option.some.inj hm
          have hm := hk3
          have hm : some false = some r := hm
          obtain rfl := Option.some.inj hm
          refine x_ret1 rfl hs rfl ⟨_, rfl, ?_⟩
          exact ⟨rfl, hM⟩
        · replace hm := condF hb hm
          refine wp_skip ?_
          refine x_nb ?_
          refine x_nt ?_
          refine wp_region_lit ?_
          refine wl hs (y_move hs rfl) rfl ?_; intro a hs
          obtain ⟨n11, h12, hm⟩ := bindE hm
          refine wl hs (y_add hs rfl rfl h12) rfl ?_; intro a hs
          refine wl hs (y_assign hs rfl) rfl ?_; intro a hs
          refine wpList_nil ?_
          exact ⟨k, Nat.lt_succ_self _, n11, hs.sub ⟨rfl, rfl, rfl, trivial⟩, hM, hm⟩
      · replace hm := condF hb hm
        refine wp_exit ?_
        refine x_et ?_
        refine x_et ?_
        refine x_eb ?_
        have hm : some (Sum.inr ()) = some s2 := hm
        exact ⟨Option.some.inj hm, hs.sub trivial, hM⟩
    rintro a w ⟨rfl, hs, hM⟩
    have hm := hk3
    refine x_nt ?_
    refine wp_seq ?_
    refine wp_region_lit ?_
    refine wl hs (y_assign hs rfl) rfl ?_; intro a hs
    refine wpList_nil ?_
    refine x_nt ?_
    refine wp_ret ?_
    have hm : some true = some r := hm
    obtain rfl := Option.some.inj hm
    refine x_ret1 rfl hs rfl ⟨_, rfl, ?_⟩
    exact ⟨rfl, hM⟩

theorem laws_eqIntSS_any (v_p0 : Value) (p0 : List (List Int)) (v_p1 : Value) (p1 : List (List Int)) (W : World) (hr_p0 : RdM W v_p0 p0) (hr_p1 : RdM W v_p1 p1) {r : Bool} (hm : laws_eqIntSS_m p0 p1 = some r) : Calls Tryd.prog 9 [v_p0, v_p1].toArray W fun e w => ∃ v, e = .returned v ∧ v = .bool r ∧ Mem W w [] := by
  refine x_enter Tryd.func9 rfl Tryd.ntmps9 rfl ?_
  intro a hs
  have hM := Mem.start W
  unfold laws_eqIntSS_m at hm
  refine wp_seq ?_
  refine wp_region_lit ?_
  refine wl hs (y_assign hs rfl) rfl ?_; intro a hs
  refine wpList_nil ?_
  refine x_nt ?_
  refine wp_seq ?_
  refine wp_seq ?_
  refine wp_region_lit ?_
  refine wl hs (y_move hs rfl) rfl ?_; intro a hs
  refine wl hs (y_len hu_M hs rfl (RdM.below hr_p0 hM.bel)) rfl ?_; intro a hs
  refine wl hs (y_move hs rfl) rfl ?_; intro a hs
  refine wl hs (y_len hu_M hs rfl (RdM.below hr_p1 hM.bel)) rfl ?_; intro a hs
  refine wl hs (y_neq hs rfl rfl) rfl ?_; intro a hs
  refine wpList_nil ?_
  refine x_nt ?_
  refine x_cond hs rfl (fun hb => ?_) (fun hb => ?_)
  · replace hm := condT hb hm
    refine wp_seq ?_
    refine wp_region_lit ?_
    refine wl hs (y_assign hs rfl) rfl ?_; intro a hs
    refine wpList_nil ?_
    refine x_nt ?_
    refine wp_ret ?_
    refine x_rt ?_
    have hm : some false = some r := hm
    obtain rfl := Option.some.inj hm
    refine x_ret1 rfl hs rfl ⟨_, rfl, ?_⟩
    exact ⟨rfl, hM⟩
  · replace hm := condF hb hm
    refine wp_skip ?_
    refine x_nt ?_
    refine wp_seq ?_
    refine wp_seq ?_
    refine wp_region_lit ?_
    refine wl hs (y_assign hs rfl) rfl ?_; intro a hs
    refine wpList_nil ?_
    refine x_nt ?_
    obtain ⟨s2, hm, hk3⟩ := bindE hm
    refine x_mid (fun a w => Sum.inr () = s2 ∧ Fr a 27 [] ∧ Mem W w []) ?_ ?_
    · refine wp_block ?_
      refine x_loop (fun k a w => ∃ (n1 : Int) , Fr a 27 [(0, v_p0), (1, v_p1), (5, .int .i64 n1)] ∧ Mem W w [] ∧ laws_eqIntSS_l1 p0 p1 k n1 = some s2) 4000000 ⟨0, hs.sub ⟨rfl, rfl, rfl, trivial⟩, hM, hm⟩ ?_
      rintro k a w ⟨n1, hs, hM, hm⟩
      rcases k with _ | k
      · rewrite [laws_eqIntSS_l1] at hm; cases hm
      rewrite [laws_eqIntSS_l1] at hm
      refine wp_seq ?_
      refine wp_seq ?_
      refine wp_region_lit ?_
      refine wl hs (y_move hs rfl) rfl ?_; intro a hs
      refine wl hs (y_move hs rfl) rfl ?_; intro a hs
      refine wl hs (y_len hu_M hs rfl (RdM.below hr_p0 hM.bel)) rfl ?_; intro a hs
      refine wl hs (y_lss hs rfl rfl) rfl ?_; intro a hs
      refine wpList_nil ?_
      refine x_nt ?_
      refine x_cond hs rfl (fun hb => ?_) (fun hb => ?_)
      · replace hm := condT hb hm
        refine wp_skip ?_
        refine x_nt ?_
        refine wp_seq ?_
        refine wp_block ?_
        refine wp_seq ?_
        refine x_regq hmix (by kernel_rfl) ?_
        refine wq hs (fun w1 hw1 => y_move hs rfl) rfl ?_; intro a hs
        refine wq hs (fun w1 hw1 => y_move hs rfl) rfl ?_; intro a hs
        obtain ⟨x5, hx6, hm⟩ := bindE hm
        obtain ⟨u8, he7, hr9⟩ := RdM.at_ hr_p0 hx6
        replace he7 := he7.below hM.bel
        refine wq hs (fun w1 hw1 => y_index ht_M hs rfl rfl (he7.below hw1)) rfl ?_; intro a hs
        refine wq hs (fun w1 hw1 => y_load sc_I hs rfl (he7.below hw1).cell) rfl ?_; intro a hs
        refine wq hs (fun w1 hw1 => y_move hs rfl) rfl ?_; intro a hs
        refine wq hs (fun w1 hw1 => y_move hs rfl) rfl ?_; intro a hs
        obtain ⟨x10, hx11, hm⟩ := bindE hm
        obtain ⟨u13, he12, hr14⟩ := RdM.at_ hr_p1 hx11
        replace he12 := he12.below hM.bel
        refine wq hs (fun w1 hw1 => y_index ht_M hs rfl rfl (he12.below hw1)) rfl ?_; intro a hs
        refine wq hs (fun w1 hw1 => y_load sc_I hs rfl (he12.below hw1).cell) rfl ?_; intro a hs
        obtain ⟨y15, h16, hm⟩ := bindE hm
        refine qcall (v := .bool y15) is_20 hs rfl rfl (fun w1 hw1 => q_of hw1 (laws_eqIntS_any u8 x5 u13 x10 w1 (RdI.below hr9 (hM.quiet hw1).bel) (RdI.below hr14 (hM.quiet hw1).bel) h16)) ?_; intro a hs
        refine wq hs (fun w1 hw1 => y_not hs rfl) rfl ?_; intro a hs
        refine wpQuiet_nil ?_
        intro w hw
        replace hM := hM.quiet hw
        refine x_nt ?_
        refine x_cond hs rfl (fun hb => ?_) (fun hb => ?_)
        · replace hm := condT hb hm
          refine wp_seq ?_
          refine wp_region_lit ?_
          refine wl hs (y_assign hs rfl) rfl ?_; intro a hs
          refine wpList_nil ?_
          refine x_nt ?_
          refine wp_ret ?_
          refine x_rb ?_
          refine x_rt ?_
          refine x_rt ?_
          refine x_rb ?_
          refine x_rt ?_
          refine x_rt ?_
          have hm : some (Sum.inl false) = some s2 := hm
          cases Option.some.inj hm
          have hm := hk3
          have hm : some false = some r := hm
          obtain rfl := Option.some.inj hm
          refine x_ret1 rfl hs rfl ⟨_, rfl, ?_⟩
          exact ⟨rfl, hM⟩
        · replace hm := condF hb hm
          refine wp_skip ?_
          refine x_nb ?_
          refine x_nt ?_
          refine wp_region_lit ?_
          refine wl hs (y_move hs rfl) rfl ?_; intro a hs
          obtain ⟨n17, h18, hm⟩ := bindE hm
          refine wl hs (y_add hs rfl rfl h18) rfl ?_; intro a hs
          refine wl hs (y_assign hs rfl) rfl ?_; intro a hs
          refine wpList_nil ?_
          exact ⟨k, Nat.lt_succ_self _, n17, hs.sub ⟨rfl, rfl, rfl, trivial⟩, hM, hm⟩
      · replace hm := condF hb hm
        refine wp_exit ?_
        refine x_et ?_
        refine x_et ?_
        refine x_eb ?_
        have hm : some (Sum.inr ()) = some s2 := hm
        exact ⟨Option.some.inj hm, hs.sub trivial, hM⟩
    rintro a w ⟨rfl, hs, hM⟩
    have hm := hk3
    refine x_nt ?_
    refine wp_seq ?_
    refine wp_region_lit ?_
    refine wl hs (y_assign hs rfl) rfl ?_; intro a hs
    refine wpList_nil ?_
    refine x_nt ?_
    refine wp_ret ?_
    have hm : some true = some r := hm
    obtain rfl := Option.some.inj hm
    refine x_ret1 rfl hs rfl ⟨_, rfl, ?_⟩
    exact ⟨rfl, hM⟩

theorem laws_szIntS_any (v_p0 : Value) (p0 : List Int) (p1 : Int) (W : World) (hr_p0 : RdI W v_p0 p0) {r : Int} (hm : laws_szIntS_m p0 p1 = some r) : Calls Tryd.prog 14 [v_p0, .int .i64 p1].toArray W fun e w => ∃ v, e = .returned v ∧ v = .int .i64 r ∧ Mem W w [] := by
  refine x_enter Tryd.func14 rfl Tryd.ntmps14 rfl ?_
  intro a hs
  have hM := Mem.start W
  unfold laws_szIntS_m at hm
  refine wp_seq ?_
  refine wp_region_lit ?_
  refine wl hs (y_assign hs rfl) rfl ?_; intro a hs
  refine wpList_nil ?_
  refine x_nt ?_
  refine wp_seq ?_
  refine wp_region_lit ?_
  refine wl hs (y_move hs rfl) rfl ?_; intro a hs
  refine wl hs (y_move hs rfl) rfl ?_; intro a hs
  refine wl hs (y_len hu_I hs rfl (RdI.below hr_p0 hM.bel)) rfl ?_; intro a hs
  obtain ⟨n1, h2, hm⟩ := bindE hm
  refine wl hs (y_sub hs rfl rfl h2) rfl ?_; intro a hs
  refine wl hs (y_assign hs rfl) rfl ?_; intro a hs
  refine wpList_nil ?_
  refine x_nt ?_
  refine wp_seq ?_
  refine wp_seq ?_
  refine wp_region_lit ?_
  refine wl hs (y_move hs rfl) rfl ?_; intro a hs
  refine wl hs (y_lss hs rfl rfl) rfl ?_; intro a hs
  refine wpList_nil ?_
  refine x_nt ?_
  refine x_cond hs rfl (fun hb => ?_) (fun hb => ?_)
  · replace hm := condT hb hm
    refine wp_seq ?_
    refine wp_region_lit ?_
    refine wl hs (y_assign hs rfl) rfl ?_; intro a hs
    refine wpList_nil ?_
    refine x_nt ?_
    refine wp_ret ?_
    refine x_rt ?_
    have hm : some (-1) = some r := hm
    obtain rfl := Option.some.inj hm
    refine x_ret1 rfl hs rfl ⟨_, rfl, ?_⟩
    exact ⟨rfl, hM⟩
  · replace hm := condF hb hm
    refine wp_skip ?_
    refine x_nt ?_
    refine wp_seq ?_
    refine wp_region_lit ?_
    refine wl hs (y_move hs rfl) rfl ?_; intro a hs
    refine wl hs (y_assign hs rfl) rfl ?_; intro a hs
    refine wpList_nil ?_
    refine x_nt ?_
    refine wp_ret ?_
    have hm : some n1 = some r := hm
    obtain rfl := Option.some.inj hm
    refine x_ret1 rfl hs rfl ⟨_, rfl, ?_⟩
    exact ⟨rfl, hM⟩

theorem laws_szIntSS_any (v_p0 : Value) (p0 : List (List Int)) (p1 : Int) (W : World) (hr_p0 : RdM W v_p0 p0) {r : Int} (hm : laws_szIntSS_m p0 p1 = some r) : Calls Tryd.prog 5 [v_p0, .int .i64 p1].toArray W fun e w => ∃ v, e = .returned v ∧ v = .int .i64 r ∧ Mem W w [] := by
  refine x_enter Tryd.func5 rfl Tryd.ntmps5 rfl ?_
  intro a hs
  have hM := Mem.start W
  unfold laws_szIntSS_m at hm
  refine wp_seq ?_
  refine wp_region_lit ?_
  refine wl hs (y_assign hs rfl) rfl ?_; intro a hs
  refine wpList_nil ?_
  refine x_nt ?_
  refine wp_seq ?_
  refine wp_region_lit ?_
  refine wl hs (y_move hs rfl) rfl ?_; intro a hs
  refine wl hs (y_move hs rfl) rfl ?_; intro a hs
  refine wl hs (y_len hu_M hs rfl (RdM.below hr_p0 hM.bel)) rfl ?_; intro a hs
  obtain ⟨n1, h2, hm⟩ := bindE hm
  refine wl hs (y_sub hs rfl rfl h2) rfl ?_; intro a hs
  refine wl hs (y_assign hs rfl) rfl ?_; intro a hs
  refine wpList_nil ?_
  refine x_nt ?_
  refine wp_seq ?_
  refine wp_seq ?_
  refine wp_region_lit ?_
  refine wl hs (y_move hs rfl) rfl ?_; intro a hs
  refine wl hs (y_lss hs rfl rfl) rfl ?_; intro a hs
  refine wpList_nil ?_
  refine x_nt ?_
  refine x_cond hs rfl (fun hb => ?_) (fun hb => ?_)
  · replace hm := condT hb hm
    refine wp_seq ?_
    refine wp_region_lit ?_
    refine wl hs (y_assign hs rfl) rfl ?_; intro a hs
    refine wpList_nil ?_
    refine x_nt ?_
    refine wp_ret ?_
    refine x_rt ?_
    have hm : some (-1) = some r := hm
    obtain rfl := Option.some.inj hm
    refine x_ret1 rfl hs rfl ⟨_, rfl, ?_⟩
    exact ⟨rfl, hM⟩
  · replace hm := condF hb hm
    refine wp_skip ?_
    refine x_nt ?_
    refine wp_seq ?_
    refine wp_seq ?_
    refine wp_region_lit ?_
    refine wl hs (y_assign hs rfl) rfl ?_; intro a hs
    refine wpList_nil ?_
    refine x_nt ?_
    obtain ⟨s6, hm, hk7⟩ := bindE hm
    refine x_mid (fun a w => ∃ (n5 : Int), Sum.inr n5 = s6 ∧ Fr a 27 [(1, .int .i64 n5)] ∧ Mem W w []) ?_ ?_
    · refine wp_block ?_
      refine x_loop (fun k a w => ∃ (n3 : Int) (n4 : Int) , Fr a 27 [(0, v_p0), (1, .int .i64 n3), (5, .int .i64 n4)] ∧ Mem W w [] ∧ laws_szIntSS_l1 p0 k n3 n4 = some s6) 4000000 ⟨n1, 0, hs.sub ⟨rfl, rfl, rfl, trivial⟩, hM, hm⟩ ?_
      rintro k a w ⟨n3, n4, hs, hM, hm⟩
      rcases k with _ | k
      · rewrite [laws_szIntSS_l1] at hm; cases hm
      rewrite [laws_szIntSS_l1] at hm
      refine wp_seq ?_
      refine wp_seq ?_
      refine wp_region_lit ?_
      refine wl hs (y_move hs rfl) rfl ?_; intro a hs
      refine wl hs (y_move hs rfl) rfl ?_; intro a hs
      refine wl hs (y_len hu_M hs rfl (RdM.below hr_p0 hM.bel)) rfl ?_; intro a hs
      refine wl hs (y_lss hs rfl rfl) rfl ?_; intro a hs
      refine wpList_nil ?_
      refine x_nt ?_
      refine x_cond hs rfl (fun hb => ?_) (fun hb => ?_)
      · replace hm := condT hb hm
        refine wp_skip ?_
        refine x_nt ?_
        refine wp_seq ?_
        refine wp_block ?_
        refine wp_seq ?_
        refine wp_region_lit ?_
        refine wl hs (y_move hs rfl) rfl ?_; intro a hs
        refine wl hs (y_move hs rfl) rfl ?_; intro a hs
        obtain ⟨x9, hx10, hm⟩ := bindE hm
        obtain ⟨u12, he11, hr13⟩ := RdM.at_ hr_p0 hx10
        replace he11 := he11.below hM.bel
        refine wl hs (y_index ht_M hs rfl rfl he11) rfl ?_; intro a hs
        refine wl hs (y_load sc_I hs rfl he11.cell) rfl ?_; intro a hs
        refine wl hs (y_move hs rfl) rfl ?_; intro a hs
        obtain ⟨y14, h15, hm⟩ := bindE hm
        refine wcall is_14 hs rfl rfl (laws_szIntS_any u12 x9 n3 _ (RdI.below hr13 hM.bel) h15) ?_; rintro a _ w hs ⟨rfl, hX⟩
        have hM : Mem W w [] := hM.call hX
        refine wl hs (y_assign hs rfl) rfl ?_; intro a hs
        refine wpList_nil ?_
        refine x_nt ?_
        refine wp_seq ?_
        refine wp_region_lit ?_
        refine wl hs (y_move hs rfl) rfl ?_; intro a hs
        refine wl hs (y_lss hs rfl rfl) rfl ?_; intro a hs
        refine wpList_nil ?_
        refine x_nt ?_
        refine x_cond hs rfl (fun hb => ?_) (fun hb => ?_)
        · replace hm := condT hb hm
          refine wp_seq ?_
          refine wp_region_lit ?_
          refine wl hs (y_assign hs rfl) rfl ?_; intro a hs
          refine wpList_nil ?_
          refine x_nt ?_
          refine wp_ret ?_
          refine x_rb ?_
          refine x_rt ?_
          refine x_rt ?_
          refine x_rb ?_
          refine x_rt ?_
          refine x_rt ?_
          have hm : some (Sum.inl (-1)) = some s6 := hm
          cases Option.some.inj hm
          have hm := hk7
          have hm : some (-1) = some r := hm
          obtain rfl := Option.some.inj hm
          refine x_ret1 rfl hs rfl ⟨_, rfl, ?_⟩
          exact ⟨rfl, hM⟩
        · replace hm := condF hb hm
          refine wp_skip ?_
          refine x_nb ?_
          refine x_nt ?_
          refine wp_region_lit ?_
          refine wl hs (y_move hs rfl) rfl ?_; intro a hs
          obtain ⟨n16, h17, hm⟩ := bindE hm
          refine wl hs (y_add hs rfl rfl h17) rfl ?_; intro a hs
          refine wl hs (y_assign hs rfl) rfl ?_; intro a hs
          refine wpList_nil ?_
          exact ⟨k, Nat.lt_succ_self _, y14, n16, hs.sub ⟨rfl, rfl, rfl, trivial⟩, hM, hm⟩
      · replace hm := condF hb hm
        refine wp_exit ?_
        refine x_et ?_
        refine x_et ?_
        refine x_eb ?_
        have hm : some (Sum.inr n3) = some s6 := hm
        exact ⟨n3, Option.some.inj hm, hs.sub ⟨rfl, trivial⟩, hM⟩
    rintro a w ⟨n5, rfl, hs, hM⟩
    have hm := hk7
    refine x_nt ?_
    refine wp_seq ?_
    refine wp_region_lit ?_
    refine wl hs (y_move hs rfl) rfl ?_; intro a hs
    refine wl hs (y_assign hs rfl) rfl ?_; intro a hs
    refine wpList_nil ?_
    refine x_nt ?_
    refine wp_ret ?_
    have hm : some n5 = some r := hm
    obtain rfl := Option.some.inj hm
    refine x_ret1 rfl hs rfl ⟨_, rfl, ?_⟩
    exact ⟨rfl, hM⟩

theorem laws_heldIntS_any (v_p0 : Value) (p0 : List Int) (p1 : Int) (W : World) (hr_p0 : RdI W v_p0 p0) {r : Int} (hm : laws_heldIntS_m p0 p1 = some r) : Calls Tryd.prog 27 [v_p0, .int .i64 p1].toArray W fun e w => ∃ v, e = .returned v ∧ v = .int .i64 r ∧ Mem W w [] := by
  refine x_enter Tryd.func27 rfl Tryd.ntmps27 rfl ?_
  intro a hs
  have hM := Mem.start W
  unfold laws_heldIntS_m at hm
  refine wp_seq ?_
  refine wp_region_lit ?_
  refine wl hs (y_assign hs rfl) rfl ?_; intro a hs
  refine wpList_nil ?_
  refine x_nt ?_
  refine wp_seq ?_
  refine wp_seq ?_
  refine wp_region_lit ?_
  refine wl hs (y_assign hs rfl) rfl ?_; intro a hs
  refine wpList_nil ?_
  refine x_nt ?_
  obtain ⟨s4, hm, hk5⟩ := bindE hm
  refine x_mid (fun a w => ∃ (n3 : Int), Sum.inr n3 = s4 ∧ Fr a 21 [(1, .int .i64 n3)] ∧ Mem W w []) ?_ ?_
  · refine wp_block ?_
    refine x_loop (fun k a w => ∃ (n1 : Int) (n2 : Int) , Fr a 21 [(0, v_p0), (1, .int .i64 n1), (5, .int .i64 n2)] ∧ Mem W w [] ∧ laws_heldIntS_l1 p0 k n1 n2 = some s4) 4000000 ⟨p1, 0, hs.sub ⟨rfl, rfl, rfl, trivial⟩, hM, hm⟩ ?_
    rintro k a w ⟨n1, n2, hs, hM, hm⟩
    rcases k with _ | k
    · rewrite [laws_heldIntS_l1] at hm; cases hm
    rewrite [laws_heldIntS_l1] at hm
    refine wp_seq ?_
    refine wp_seq ?_
    refine wp_region_lit ?_
    refine wl hs (y_move hs rfl) rfl ?_; intro a hs
    refine wl hs (y_move hs rfl) rfl ?_; intro a hs
    refine wl hs (y_len hu_I hs rfl (RdI.below hr_p0 hM.bel)) rfl ?_; intro a hs
    refine wl hs (y_lss hs rfl rfl) rfl ?_; intro a hs
    refine wpList_nil ?_
    refine x_nt ?_
    refine x_cond hs rfl (fun hb => ?_) (fun hb => ?_)
    · replace hm := condT hb hm
      refine wp_skip ?_
      refine x_nt ?_
      refine wp_seq ?_
      refine wp_block ?_
      refine wp_seq ?_
      refine wp_seq ?_
      refine wp_region_lit ?_
      refine wl hs (y_move hs rfl) rfl ?_; intro a hs
      refine wl hs (y_move hs rfl) rfl ?_; intro a hs
      obtain ⟨x7, hx8, hm⟩ := bindE hm
      have he9 := RdI.at_ (RdI.below hr_p0 hM.bel) hx8
      refine wl hs (y_index ht_I hs rfl rfl he9) rfl ?_; intro a hs
      refine wl hs (y_load sc_int hs rfl he9.cell) rfl ?_; intro a hs
      refine wl hs (y_move hs rfl) rfl ?_; intro a hs
      refine wl hs (y_neq hs rfl rfl) rfl ?_; intro a hs
      refine wpList_nil ?_
      refine x_nt ?_
      refine x_cond hs rfl (fun hb => ?_) (fun hb => ?_)
      · replace hm := condT hb hm
        refine wp_seq ?_
        refine wp_region_lit ?_
        refine wl hs (y_assign hs rfl) rfl ?_; intro a hs
        refine wpList_nil ?_
        refine x_nt ?_
        refine wp_ret ?_
        refine x_rt ?_
        refine x_rb ?_
        refine x_rt ?_
        refine x_rt ?_
        refine x_rb ?_
        refine x_rt ?_
        refine x_rt ?_
        have hm : some (Sum.inl (-1)) = some s4 := hm
        cases Option.some.inj hm
        have hm := hk5
        have hm : some (-1) = some r := hm
        obtain rfl := Option.some.inj hm
        refine x_ret1 rfl hs rfl ⟨_, rfl, ?_⟩
        exact ⟨rfl, hM⟩
      · replace hm := condF hb hm
        refine wp_skip ?_
        refine x_nt ?_
        refine wp_region_lit ?_
        refine wl hs (y_move hs rfl) rfl ?_; intro a hs
        obtain ⟨n10, h11, hm⟩ := bindE hm
        refine wl hs (y_add hs rfl rfl h11) rfl ?_; intro a hs
        refine wl hs (y_assign hs rfl) rfl ?_; intro a hs
        refine wpList_nil ?_
        refine x_nb ?_
        refine x_nt ?_
        refine wp_region_lit ?_
        refine wl hs (y_move hs rfl) rfl ?_; intro a hs
        obtain ⟨n12, h13, hm⟩ := bindE hm
        refine wl hs (y_add hs rfl rfl h13) rfl ?_; intro a hs
        refine wl hs (y_assign hs rfl) rfl ?_; intro a hs
        refine wpList_nil ?_
        exact ⟨k, Nat.lt_succ_self _, n10, n12, hs.sub ⟨rfl, rfl, rfl, trivial⟩, hM, hm⟩
    · replace hm := condF hb hm
      refine wp_exit ?_
      refine x_et ?_
      refine x_et ?_
      refine x_eb ?_
      have hm : some (Sum.inr n1) = some s4 := hm
      exact ⟨n1, Option.some.inj hm, hs.sub ⟨rfl, trivial⟩, hM⟩
  rintro a w ⟨n3, rfl, hs, hM⟩
  have hm := hk5
  refine x_nt ?_
  refine wp_seq ?_
  refine wp_region_lit ?_
  refine wl hs (y_move hs rfl) rfl ?_; intro a hs
  refine wl hs (y_assign hs rfl) rfl ?_; intro a hs
  refine wpList_nil ?_
  refine x_nt ?_
  refine wp_ret ?_
  have hm : some n3 = some r := hm
  obtain rfl := Option.some.inj hm
  refine x_ret1 rfl hs rfl ⟨_, rfl, ?_⟩
  exact ⟨rfl, hM⟩

theorem laws_heldIntSS_any (v_p0 : Value) (p0 : List (List Int)) (p1 : Int) (W : World) (hr_p0 : RdM W v_p0 p0) {r : Int} (hm : laws_heldIntSS_m p0 p1 = some r) : Calls Tryd.prog 13 [v_p0, .int .i64 p1].toArray W fun e w => ∃ v, e = .returned v ∧ v = .int .i64 r ∧ Mem W w [] := by
  refine x_enter Tryd.func13 rfl Tryd.ntmps13 rfl ?_
  intro a hs
  have hM := Mem.start W
  unfold laws_heldIntSS_m at hm
  refine wp_seq ?_
  refine wp_region_lit ?_
  refine wl hs (y_assign hs rfl) rfl ?_; intro a hs
  refine wpList_nil ?_
  refine x_nt ?_
  refine wp_seq ?_
  refine wp_seq ?_
  refine wp_region_lit ?_
  refine wl hs (y_assign hs rfl) rfl ?_; intro a hs
  refine wpList_nil ?_
  refine x_nt ?_
  obtain ⟨s4, hm, hk5⟩ := bindE hm
  refine x_mid (fun a w => ∃ (n3 : Int), Sum.inr n3 = s4 ∧ Fr a 21 [(1, .int .i64 n3)] ∧ Mem W w []) ?_ ?_
  · refine wp_block ?_
    refine x_loop (fun k a w => ∃ (n1 : Int) (n2 : Int) , Fr a 21 [(0, v_p0), (1, .int .i64 n1), (5, .int .i64 n2)] ∧ Mem W w [] ∧ laws_heldIntSS_l1 p0 k n1 n2 = some s4) 4000000 ⟨p1, 0, hs.sub ⟨rfl, rfl, rfl, trivial⟩, hM, hm⟩ ?_
    rintro k a w ⟨n1, n2, hs, hM, hm⟩
    rcases k with _ | k
    · rewrite [laws_heldIntSS_l1] at hm; cases hm
    rewrite [laws_heldIntSS_l1] at hm
    refine wp_seq ?_
    refine wp_seq ?_
    refine wp_region_lit ?_
    refine wl hs (y_move hs rfl) rfl ?_; intro a hs
    refine wl hs (y_move hs rfl) rfl ?_; intro a hs
    refine wl hs (y_len hu_M hs rfl (RdM.below hr_p0 hM.bel)) rfl ?_; intro a hs
    refine wl hs (y_lss hs rfl rfl) rfl ?_; intro a hs
    refine wpList_nil ?_
    refine x_nt ?_
    refine x_cond hs rfl (fun hb => ?_) (fun hb => ?_)
    · replace hm := condT hb hm
      refine wp_skip ?_
      refine x_nt ?_
      refine wp_seq ?_
      refine wp_block ?_
      refine wp_seq ?_
      refine wp_region_lit ?_
      refine wl hs (y_move hs rfl) rfl ?_; intro a hs
      refine wl hs (y_move hs rfl) rfl ?_; intro a hs
      obtain ⟨x7, hx8, hm⟩ := bindE hm
      obtain ⟨u10, he9, hr11⟩ := RdM.at_ hr_p0 hx8
      replace he9 := he9.below hM.bel
      refine wl hs (y_index ht_M hs rfl rfl he9) rfl ?_; intro a hs
      refine wl hs (y_load sc_I hs rfl he9.cell) rfl ?_; intro a hs
      refine wl hs (y_move hs rfl) rfl ?_; intro a hs
      obtain ⟨y12, h13, hm⟩ := bindE hm
      refine wcall is_27 hs rfl rfl (laws_heldIntS_any u10 x7 n1 _ (RdI.below hr11 hM.bel) h13) ?_; rintro a _ w hs ⟨rfl, hX⟩
      have hM : Mem W w [] := hM.call hX
      refine wl hs (y_assign hs rfl) rfl ?_; intro a hs
      refine wpList_nil ?_
      refine x_nt ?_
      refine wp_seq ?_
      refine wp_region_lit ?_
      refine wl hs (y_move hs rfl) rfl ?_; intro a hs
      refine wl hs (y_lss hs rfl rfl) rfl ?_; intro a hs
      refine wpList_nil ?_
      refine x_nt ?_
      refine x_cond hs rfl (fun hb => ?_) (fun hb => ?_)
      · replace hm := condT hb hm
        refine wp_seq ?_
        refine wp_region_lit ?_
        refine wl hs (y_assign hs rfl) rfl ?_; intro a hs
        refine wpList_nil ?_
        refine x_nt ?_
        refine wp_ret ?_
        refine x_rb ?_
        refine x_rt ?_
        refine x_rt ?_
        refine x_rb ?_
        refine x_rt ?_
        refine x_rt ?_
        have hm : some (Sum.inl (-1)) = some s4 := hm
        cases Option.some.inj hm
        have hm := hk5
        have hm : some (-1) = some r := hm
        obtain rfl := Option.some.inj hm
        refine x_ret1 rfl hs rfl ⟨_, rfl, ?_⟩
        exact ⟨rfl, hM⟩
      · replace hm := condF hb hm
        refine wp_skip ?_
        refine x_nb ?_
        refine x_nt ?_
        refine wp_region_lit ?_
        refine wl hs (y_move hs rfl) rfl ?_; intro a hs
        obtain ⟨n14, h15, hm⟩ := bindE hm
        refine wl hs (y_add hs rfl rfl h15) rfl ?_; intro a hs
        refine wl hs (y_assign hs rfl) rfl ?_; intro a hs
        refine wpList_nil ?_
        exact ⟨k, Nat.lt_succ_self _, y12, n14, hs.sub ⟨rfl, rfl, rfl, trivial⟩, hM, hm⟩
    · replace hm := condF hb hm
      refine wp_exit ?_
      refine x_et ?_
      refine x_et ?_
      refine x_eb ?_
      have hm : some (Sum.inr n1) = some s4 := hm
      exact ⟨n1, Option.some.inj hm, hs.sub ⟨rfl, trivial⟩, hM⟩
  rintro a w ⟨n3, rfl, hs, hM⟩
  have hm := hk5
  refine x_nt ?_
  refine wp_seq ?_
  refine wp_region_lit ?_
  refine wl hs (y_move hs rfl) rfl ?_; intro a hs
  refine wl hs (y_assign hs rfl) rfl ?_; intro a hs
  refine wpList_nil ?_
  refine x_nt ?_
  refine wp_ret ?_
  have hm : some n3 = some r := hm
  obtain rfl := Option.some.inj hm
  refine x_ret1 rfl hs rfl ⟨_, rfl, ?_⟩
  exact ⟨rfl, hM⟩

theorem laws_toIntS_any (v_p0 : Value) (p0 : List Int) (W : World) (hr_p0 : RdI W v_p0 p0) {r : List Int} (hm : laws_toIntS_m p0 = some r) : Calls Tryd.prog 17 [v_p0].toArray W fun e w => ∃ v, e = .returned v ∧ Mem W w [aInts 3 v r] := by
  refine x_enter Tryd.func17 rfl Tryd.ntmps17 rfl ?_
  intro a hs
  have hM := Mem.start W
  unfold laws_toIntS_m at hm
  refine wp_seq ?_
  refine wp_region_lit ?_
  refine wl hs (y_assign hs rfl) rfl ?_; intro a hs
  refine wpList_nil ?_
  refine x_nt ?_
  refine wp_seq ?_
  refine wp_region_lit ?_
  refine wl hs (y_move hs rfl) rfl ?_; intro a hs
  refine wl hs (y_len hu_I hs rfl (RdI.below hr_p0 hM.bel)) rfl ?_; intro a hs
  obtain ⟨_, h3, hm⟩ := bindE hm
  refine wmem hs (x_makeI hu_I he_int hs rfl hM h3) rfl ?_; intro a v2 w hs hM
  have hM : Mem W w [aInts 3 v2 (List.replicate ((p0.length : Int)).toNat (0 : Int))] := hM
  refine wl hs (y_assign hs rfl) rfl ?_; intro a hs
  refine wpList_nil ?_
  refine x_nt ?_
  refine wp_seq ?_
  refine wp_seq ?_
  refine wp_region_lit ?_
  refine wl hs (y_assign hs rfl) rfl ?_; intro a hs
  refine wpList_nil ?_
  refine x_nt ?_
  obtain ⟨s7, hm, hk8⟩ := bindE hm
  refine x_mid (fun a w => ∃ (l6 : List Int), l6 = s7 ∧ Fr a 22 [(3, v2)] ∧ Mem W w [aInts 3 v2 l6]) ?_ ?_
  · refine wp_block ?_
    refine x_loop (fun k a w => ∃ (l4 : List Int) (n5 : Int) , Fr a 22 [(0, v_p0), (3, v2), (4, .int .i64 n5)] ∧ Mem W w [aInts 3 v2 l4] ∧ laws_toIntS_l1 p0 k l4 n5 = some s7) 4000000 ⟨(List.replicate ((p0.length : Int)).toNat (0 : Int)), 0, hs.sub ⟨rfl, rfl, rfl, trivial⟩, hM, hm⟩ ?_
    rintro k a w ⟨l4, n5, hs, hM, hm⟩
    rcases k with _ | k
    · rewrite [laws_toIntS_l1] at hm; cases hm
    rewrite [laws_toIntS_l1] at hm
    refine wp_seq ?_
    refine wp_seq ?_
    refine wp_region_lit ?_
    refine wl hs (y_move hs rfl) rfl ?_; intro a hs
    refine wl hs (y_move hs rfl) rfl ?_; intro a hs
    refine wl hs (y_len hu_I hs rfl (RdI.below hr_p0 hM.bel)) rfl ?_; intro a hs
    refine wl hs (y_lss hs rfl rfl) rfl ?_; intro a hs
    refine wpList_nil ?_
    refine x_nt ?_
    refine x_cond hs rfl (fun hb => ?_) (fun hb => ?_)
    · replace hm := condT hb hm
      refine wp_skip ?_
      refine x_nt ?_
      refine wp_seq ?_
      refine wp_block ?_
      refine wp_region_lit ?_
      refine wl hs (y_move hs rfl) rfl ?_; intro a hs
      refine wl hs (y_move hs rfl) rfl ?_; intro a hs
      refine wl hs (y_move hs rfl) rfl ?_; intro a hs
      refine wl hs (y_move hs rfl) rfl ?_; intro a hs
      obtain ⟨x10, hx11, hm⟩ := bindE hm
      have he12 := RdI.at_ (RdI.below hr_p0 hM.bel) hx11
      refine wl hs (y_index ht_I hs rfl rfl he12) rfl ?_; intro a hs
      refine wl hs (y_load sc_int hs rfl he12.cell) rfl ?_; intro a hs
      obtain ⟨x13, hx14, hm⟩ := bindE hm
      have he15 := RdI.at_ (hM.rdI 0 rfl) hx14
      refine wl hs (y_index ht_I hs rfl rfl he15) rfl ?_; intro a hs
      obtain ⟨l16, h17, hm⟩ := bindE hm
      refine wstore hs rfl rfl (x_storeI he_int (hM.front 0 rfl) h17) ?_; intro w hM
      have hM : Mem W w [aInts 3 v2 l16] := hM
      refine wpList_nil ?_
      refine x_nb ?_
      refine x_nt ?_
      refine wp_region_lit ?_
      refine wl hs (y_move hs rfl) rfl ?_; intro a hs
      obtain ⟨n18, h19, hm⟩ := bindE hm
      refine wl hs (y_add hs rfl rfl h19) rfl ?_; intro a hs
      refine wl hs (y_assign hs rfl) rfl ?_; intro a hs
      refine wpList_nil ?_
      exact ⟨k, Nat.lt_succ_self _, l16, n18, hs.sub ⟨rfl, rfl, rfl, trivial⟩, hM, hm⟩
    · replace hm := condF hb hm
      refine wp_exit ?_
      refine x_et ?_
      refine x_et ?_
      refine x_eb ?_
      have hm : some l4 = some s7 := hm
      exact ⟨l4, Option.some.inj hm, hs.sub ⟨rfl, trivial⟩, hM⟩
  rintro a w ⟨l6, rfl, hs, hM⟩
  have hm := hk8
  refine x_nt ?_
  refine wp_seq ?_
  refine wp_region_lit ?_
  refine wl hs (y_move hs rfl) rfl ?_; intro a hs
  refine wl hs (y_assign hs rfl) rfl ?_; intro a hs
  refine wpList_nil ?_
  refine x_nt ?_
  refine wp_ret ?_
  have hm : some l6 = some r := hm
  obtain rfl := Option.some.inj hm
  refine x_ret1 rfl hs rfl ⟨_, rfl, ?_⟩
  exact hM

theorem laws_toIntSS_any (v_p0 : Value) (p0 : List (List Int)) (W : World) (hr_p0 : RdM W v_p0 p0) {r : List (List Int)} (hm : laws_toIntSS_m p0 = some r) : Calls Tryd.prog 7 [v_p0].toArray W fun e w => ∃ v, e = .returned v ∧ ∃ vs0, Mem W w [aMat 33 3 v vs0 r] := by
  refine x_enter Tryd.func7 rfl Tryd.ntmps7 rfl ?_
  intro a hs
  have hM := Mem.start W
  unfold laws_toIntSS_m at hm
  refine wp_seq ?_
  refine wp_region_lit ?_
  refine wl hs (y_assign hs rfl) rfl ?_; intro a hs
  refine wpList_nil ?_
  refine x_nt ?_
  refine wp_seq ?_
  refine wp_region_lit ?_
  refine wl hs (y_move hs rfl) rfl ?_; intro a hs
  refine wl hs (y_len hu_M hs rfl (RdM.below hr_p0 hM.bel)) rfl ?_; intro a hs
  obtain ⟨_, h3, hm⟩ := bindE hm
  refine wmem hs (x_makeM (ti := 3) hu_M he_I hs rfl hM h3) rfl ?_; intro a v2 w hs hM
  have hM : Mem W w [aMat 33 3 v2 (List.replicate ((p0.length : Int)).toNat (.slice none 0 0)) (List.replicate ((p0.length : Int)).toNat ([] : List Int))] := hM
  refine wl hs (y_assign hs rfl) rfl ?_; intro a hs
  refine wpList_nil ?_
  refine x_nt ?_
  refine wp_seq ?_
  refine wp_seq ?_
  refine wp_region_lit ?_
  refine wl hs (y_assign hs rfl) rfl ?_; intro a hs
  refine wpList_nil ?_
  refine x_nt ?_
  obtain ⟨s9, hm, hk10⟩ := bindE hm
  refine x_mid (fun a w => ∃ (vs7 : List Value), ∃ (l8 : List (List Int)), l8 = s9 ∧ Fr a 23 [(3, v2)] ∧ Mem W w [aMat 33 3 v2 vs7 l8]) ?_ ?_
  · refine wp_block ?_
    refine x_loop (fun k a w => ∃ (vs4 : List Value) (l5 : List (List Int)) (n6 : Int) , Fr a 23 [(0, v_p0), (3, v2), (4, .int .i64 n6)] ∧ Mem W w [aMat 33 3 v2 vs4 l5] ∧ laws_toIntSS_l1 p0 k l5 n6 = some s9) 4000000 ⟨(List.replicate ((p0.length : Int)).toNat (.slice none 0 0)), (List.replicate ((p0.length : Int)).toNat ([] : List Int)), 0, hs.sub ⟨rfl, rfl, rfl, trivial⟩, hM, hm⟩ ?_
    rintro k a w ⟨vs4, l5, n6, hs, hM, hm⟩
    rcases k with _ | k
    · rewrite [laws_toIntSS_l1] at hm; cases hm
    rewrite [laws_toIntSS_l1] at hm
    refine wp_seq ?_
    refine wp_seq ?_
    refine wp_region_lit ?_
    refine wl hs (y_move hs rfl) rfl ?_; intro a hs
    refine wl hs (y_move hs rfl) rfl ?_; intro a hs
    refine wl hs (y_len hu_M hs rfl (RdM.below hr_p0 hM.bel)) rfl ?_; intro a hs
    refine wl hs (y_lss hs rfl rfl) rfl ?_; intro a hs
    refine wpList_nil ?_
    refine x_nt ?_
    refine x_cond hs rfl (fun hb => ?_) (fun hb => ?_)
    · replace hm := condT hb hm
      refine wp_skip ?_
      refine x_nt ?_
      refine wp_seq ?_
      refine wp_block ?_
      refine wp_region_lit ?_
      refine wl hs (y_move hs rfl) rfl ?_; intro a hs
      refine wl hs (y_move hs rfl) rfl ?_; intro a hs
      refine wl hs (y_move hs rfl) rfl ?_; intro a hs
      refine wl hs (y_move hs rfl) rfl ?_; intro a hs
      obtain ⟨x12, hx13, hm⟩ := bindE hm
      obtain ⟨u15, he14, hr16⟩ := RdM.at_ hr_p0 hx13
      replace he14 := he14.below hM.bel
      refine wl hs (y_index ht_M hs rfl rfl he14) rfl ?_; intro a hs
      refine wl hs (y_load sc_I hs rfl he14.cell) rfl ?_; intro a hs
      obtain ⟨y17, h18, hm⟩ := bindE hm
      refine wcall is_17 hs rfl rfl (laws_toIntS_any u15 x12 _ (RdI.below hr16 hM.bel) h18) ?_; rintro a v19 w hs hX
      have hM : Mem W w [aInts 3 v19 y17, aMat 33 3 v2 vs4 l5] := hM.call hX
      obtain ⟨x21, hx22, hm⟩ := bindE hm
      obtain ⟨u24, hv25, he23⟩ := hM.atM 1 rfl hx22
      refine wl hs (y_index ht_M hs rfl rfl he23) rfl ?_; intro a hs
      obtain ⟨l26, h27, hm⟩ := bindE hm
      refine wstore hs rfl rfl (x_storeR he_I (hM.front 1 rfl) h27) ?_; intro w hM
      have hM : Mem W w [aMat 33 3 v2 (vs4.set (n6).toNat v19) l26] := hM
      refine wpList_nil ?_
      refine x_nb ?_
      refine x_nt ?_
      refine wp_region_lit ?_
      refine wl hs (y_move hs rfl) rfl ?_; intro a hs
      obtain ⟨n28, h29, hm⟩ := bindE hm
      refine wl hs (y_add hs rfl rfl h29) rfl ?_; intro a hs
      refine wl hs (y_assign hs rfl) rfl ?_; intro a hs
      refine wpList_nil ?_
      exact ⟨k, Nat.lt_succ_self _, (vs4.set (n6).toNat v19), l26, n28, hs.sub ⟨rfl, rfl, rfl, trivial⟩, hM, hm⟩
    · replace hm := condF hb hm
      refine wp_exit ?_
      refine x_et ?_
      refine x_et ?_
      refine x_eb ?_
      have hm : some l5 = some s9 := hm
      exact ⟨vs4, l5, Option.some.inj hm, hs.sub ⟨rfl, trivial⟩, hM⟩
  rintro a w ⟨vs7, l8, rfl, hs, hM⟩
  have hm := hk10
  refine x_nt ?_
  refine wp_seq ?_
  refine wp_region_lit ?_
  refine wl hs (y_move hs rfl) rfl ?_; intro a hs
  refine wl hs (y_assign hs rfl) rfl ?_; intro a hs
  refine wpList_nil ?_
  refine x_nt ?_
  refine wp_ret ?_
  have hm : some l8 = some r := hm
  obtain rfl := Option.some.inj hm
  refine x_ret1 rfl hs rfl ⟨_, rfl, ?_⟩
  exact ⟨_, hM⟩

theorem laws_markIntS_any (v_p0 : Value) (p0 : List Int)  (p1 : Int) (W w : World) (As : List Atom)  (hM : Mem W w (aInts 3 v_p0 p0 :: As)) {r : Int × (List Int)} (hm : laws_markIntS_m p0 p1 = some r) : Calls Tryd.prog 26 [v_p0, .int .i64 p1].toArray w fun e w' => ∃ v, e = .returned v ∧ v = .int .i64 r.1 ∧ Mem W w' (aInts 3 v_p0 r.2 :: As) := by
  refine x_enter Tryd.func26 rfl Tryd.ntmps26 rfl ?_
  intro a hs
  unfold laws_markIntS_m at hm
  refine wp_seq ?_
  refine wp_region_lit ?_
  refine wl hs (y_assign hs rfl) rfl ?_; intro a hs
  refine wpList_nil ?_
  refine x_nt ?_
  refine wp_seq ?_
  refine wp_seq ?_
  refine wp_region_lit ?_
  refine wl hs (y_assign hs rfl) rfl ?_; intro a hs
  refine wpList_nil ?_
  refine x_nt ?_
  obtain ⟨s6, hm, hk7⟩ := bindE hm
  refine x_mid (fun a w => ∃ (l4 : List Int), ∃ (n5 : Int), (l4, n5) = s6 ∧ Fr a 19 [(1, .int .i64 n5)] ∧ Mem W w (aInts 3 v_p0 l4 :: As)) ?_ ?_
  · refine wp_block ?_
    refine x_loop (fun k a w => ∃ (l1 : List Int) (n2 : Int) (n3 : Int) , Fr a 19 [(0, v_p0), (1, .int .i64 n2), (5, .int .i64 n3)] ∧ Mem W w (aInts 3 v_p0 l1 :: As) ∧ laws_markIntS_l1 k l1 n2 n3 = some s6) 4000000 ⟨p0, p1, 0, hs.sub ⟨rfl, rfl, rfl, trivial⟩, hM, hm⟩ ?_
    rintro k a w ⟨l1, n2, n3, hs, hM, hm⟩
    rcases k with _ | k
    · rewrite [laws_markIntS_l1] at hm; cases hm
    rewrite [laws_markIntS_l1] at hm
    refine wp_seq ?_
    refine wp_seq ?_
    refine wp_region_lit ?_
    refine wl hs (y_move hs rfl) rfl ?_; intro a hs
    refine wl hs (y_move hs rfl) rfl ?_; intro a hs
    refine wl hs (y_len hu_I hs rfl (hM.rdI 0 rfl)) rfl ?_; intro a hs
    refine wl hs (y_lss hs rfl rfl) rfl ?_; intro a hs
    refine wpList_nil ?_
    refine x_nt ?_
    refine x_cond hs rfl (fun hb => ?_) (fun hb => ?_)
    · replace hm := condT hb hm
      refine wp_skip ?_
      refine x_nt ?_
      refine wp_seq ?_
      refine wp_block ?_
      refine wp_seq ?_
      refine wp_region_lit ?_
      refine wl hs (y_move hs rfl) rfl ?_; intro a hs
      refine wl hs (y_move hs rfl) rfl ?_; intro a hs
      refine wl hs (y_move hs rfl) rfl ?_; intro a hs
      obtain ⟨x9, hx10, hm⟩ := bindE hm
      have he11 := RdI.at_ (hM.rdI 0 rfl) hx10
      refine wl hs (y_index ht_I hs rfl rfl he11) rfl ?_; intro a hs
      obtain ⟨l12, h13, hm⟩ := bindE hm
      refine wstore hs rfl rfl (x_storeI he_int (hM.front 0 rfl) h13) ?_; intro w hM
      have hM : Mem W w (aInts 3 v_p0 l12 :: As) := hM
      refine wpList_nil ?_
      refine x_nt ?_
      refine wp_region_lit ?_
      refine wl hs (y_move hs rfl) rfl ?_; intro a hs
      obtain ⟨n14, h15, hm⟩ := bindE hm
      refine wl hs (y_add hs rfl rfl h15) rfl ?_; intro a hs
      refine wl hs (y_assign hs rfl) rfl ?_; intro a hs
      refine wpList_nil ?_
      refine x_nb ?_
      refine x_nt ?_
      refine wp_region_lit ?_
      refine wl hs (y_move hs rfl) rfl ?_; intro a hs
      obtain ⟨n16, h17, hm⟩ := bindE hm
      refine wl hs (y_add hs rfl rfl h17) rfl ?_; intro a hs
      refine wl hs (y_assign hs rfl) rfl ?_; intro a hs
      refine wpList_nil ?_
      exact ⟨k, Nat.lt_succ_self _, l12, n14, n16, hs.sub ⟨rfl, rfl, rfl, trivial⟩, hM, hm⟩
    · replace hm := condF hb hm
      refine wp_exit ?_
      refine x_et ?_
      refine x_et ?_
      refine x_eb ?_
      have hm : some (l1, n2) = some s6 := hm
      exact ⟨l1, n2, Option.some.inj hm, hs.sub ⟨rfl, trivial⟩, hM⟩
  rintro a w ⟨l4, n5, rfl, hs, hM⟩
  have hm := hk7
  refine x_nt ?_
  refine wp_seq ?_
  refine wp_region_lit ?_
  refine wl hs (y_move hs rfl) rfl ?_; intro a hs
  refine wl hs (y_assign hs rfl) rfl ?_; intro a hs
  refine wpList_nil ?_
  refine x_nt ?_
  refine wp_ret ?_
  have hm : some (n5, l4) = some r := hm
  obtain rfl := Option.some.inj hm
  refine x_ret1 rfl hs rfl ⟨_, rfl, ?_⟩
  exact ⟨rfl, hM⟩

theorem laws_markIntSS_any (v_p0 : Value) (p0 : List (List Int)) (vs_p0 : List Value)  (p1 : Int) (W w : World) (As : List Atom)  (hM : Mem W w (aMat 33 3 v_p0 vs_p0 p0 :: As)) {r : Int × (List (List Int))} (hm : laws_markIntSS_m p0 p1 = some r) : Calls Tryd.prog 12 [v_p0, .int .i64 p1].toArray w fun e w' => ∃ v, e = .returned v ∧ ∃ vs0, v = .int .i64 r.1 ∧ Mem W w' (aMat 33 3 v_p0 vs0 r.2 :: As) := by
  refine x_enter Tryd.func12 rfl Tryd.ntmps12 rfl ?_
  intro a hs
  unfold laws_markIntSS_m at hm
  refine wp_seq ?_
  refine wp_region_lit ?_
  refine wl hs (y_assign hs rfl) rfl ?_; intro a hs
  refine wpList_nil ?_
  refine x_nt ?_
  refine wp_seq ?_
  refine wp_seq ?_
  refine wp_region_lit ?_
  refine wl hs (y_assign hs rfl) rfl ?_; intro a hs
  refine wpList_nil ?_
  refine x_nt ?_
  obtain ⟨s6, hm, hk7⟩ := bindE hm
  refine x_mid (fun a w => ∃ (l4 : List (List Int)), ∃ (n5 : Int), (l4, n5) = s6 ∧ Fr a 19 [(1, .int .i64 n5)] ∧ Mem W w (aMat 33 3 v_p0 vs_p0 l4 :: As)) ?_ ?_
  · refine wp_block ?_
    refine x_loop (fun k a w => ∃ (l1 : List (List Int)) (n2 : Int) (n3 : Int) , Fr a 19 [(0, v_p0), (1, .int .i64 n2), (5, .int .i64 n3)] ∧ Mem W w (aMat 33 3 v_p0 vs_p0 l1 :: As) ∧ laws_markIntSS_l1 k l1 n2 n3 = some s6) 4000000 ⟨p0, p1, 0, hs.sub ⟨rfl, rfl, rfl, trivial⟩, hM, hm⟩ ?_
    rintro k a w ⟨l1, n2, n3, hs, hM, hm⟩
    rcases k with _ | k
    · rewrite [laws_markIntSS_l1] at hm; cases hm
    rewrite [laws_markIntSS_l1] at hm
    refine wp_seq ?_
    refine wp_seq ?_
    refine wp_region_lit ?_
    refine wl hs (y_move hs rfl) rfl ?_; intro a hs
    refine wl hs (y_move hs rfl) rfl ?_; intro a hs
    refine wl hs (y_len hu_M hs rfl (hM.rdM 0 rfl)) rfl ?_; intro a hs
    refine wl hs (y_lss hs rfl rfl) rfl ?_; intro a hs
    refine wpList_nil ?_
    refine x_nt ?_
    refine x_cond hs rfl (fun hb => ?_) (fun hb => ?_)
    · replace hm := condT hb hm
      refine wp_skip ?_
      refine x_nt ?_
      refine wp_seq ?_
      refine wp_block ?_
      refine wp_region_lit ?_
      refine wl hs (y_move hs rfl) rfl ?_; intro a hs
      refine wl hs (y_move hs rfl) rfl ?_; intro a hs
      obtain ⟨x9, hx10, hm⟩ := bindE hm
      obtain ⟨u12, hv13, he11⟩ := hM.atM 0 rfl hx10
      refine wl hs (y_index ht_M hs rfl rfl he11) rfl ?_; intro a hs
      refine wl hs (y_load sc_I hs rfl he11.cell) rfl ?_; intro a hs
      refine wl hs (y_move hs rfl) rfl ?_; intro a hs
      have hM : Mem W w (aInts 3 u12 x9 :: aMatO 33 3 v_p0 vs_p0 l1 (setO (fun _ => false) (n3).toNat) :: As) := (hM).take rfl hv13 ((idx_spec hx10).2.2)
      obtain ⟨y15, h16, hm⟩ := bindE hm
      refine wcall is_26 hs rfl rfl (laws_markIntS_any u12 x9 n2 _ _ _  hM h16) ?_; rintro a _ w hs ⟨rfl, hM⟩
      have hM : Mem W w (aInts 3 u12 y15.2 :: aMatO 33 3 v_p0 vs_p0 l1 (setO (fun _ => false) (n3).toNat) :: As) := hM
      have hM : Mem W w (aMat 33 3 v_p0 vs_p0 (l1.set (n3).toNat y15.2) :: As) := hM.put rfl hv13
      refine wl hs (y_assign hs rfl) rfl ?_; intro a hs
      refine wpList_nil ?_
      refine x_nb ?_
      refine x_nt ?_
      refine wp_region_lit ?_
      refine wl hs (y_move hs rfl) rfl ?_; intro a hs
      obtain ⟨n17, h18, hm⟩ := bindE hm
      refine wl hs (y_add hs rfl rfl h18) rfl ?_; intro a hs
      refine wl hs (y_assign hs rfl) rfl ?_; intro a hs
      refine wpList_nil ?_
      exact ⟨k, Nat.lt_succ_self _, (l1.set (n3).toNat y15.2), y15.1, n17, hs.sub ⟨rfl, rfl, rfl, trivial⟩, hM, hm⟩
    · replace hm := condF hb hm
      refine wp_exit ?_
      refine x_et ?_
      refine x_et ?_
      refine x_eb ?_
      have hm : some (l1, n2) = some s6 := hm
      exact ⟨l1, n2, Option.some.inj hm, hs.sub ⟨rfl, trivial⟩, hM⟩
  rintro a w ⟨l4, n5, rfl, hs, hM⟩
  have hm := hk7
  refine x_nt ?_
  refine wp_seq ?_
  refine wp_region_lit ?_
  refine wl hs (y_move hs rfl) rfl ?_; intro a hs
  refine wl hs (y_assign hs rfl) rfl ?_; intro a hs
  refine wpList_nil ?_
  refine x_nt ?_
  refine wp_ret ?_
  have hm : some (n5, l4) = some r := hm
  obtain rfl := Option.some.inj hm
  refine x_ret1 rfl hs rfl ⟨_, rfl, ?_⟩
  exact ⟨_, rfl, hM⟩

end Go.Proofs.YtcglmncmnlkpmaaDoor
