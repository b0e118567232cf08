/- The code of this unit computes what its mirrors say. Written by program (wip/gen). -/
import Derived.Test.YtnnhbkhlipekeaaFacts
import Derived.Test.YtnnhbkhlipekeaaAs2M
import Derived.Test.YtnnhbkhlipekeaaNumW
import Derived.Test.YtnnhbkhlipekeaaMatW
import Derived.Test.YtnnhbkhlipekeaaAs1W
namespace Go.Proofs.Ytnnhbkhlipekeaa
open Go.RowKit
set_option linter.unusedVariables false

theorem spec_asCost_any (v_p0 : Value) (p0 : List (List Int)) (v_p1 : Value) (p1 : List Int) (W : World) (hr_p0 : RdM W v_p0 p0) (hr_p1 : RdI W v_p1 p1) {r : Int} (hm : spec_asCost_m p0 p1 = some r) : Calls Try.prog 46 [v_p0, v_p1].toArray W fun e w => ∃ v, e = .returned v ∧ v = .int .i64 r ∧ Mem W w [] := by
  refine x_enter Try.func46 rfl Try.ntmps46 rfl ?_
  intro a hs
  have hM := Mem.start W
  unfold spec_asCost_m at hm
  refine wp_seq ?_
  refine wp_region_lit ?_
  refine wl hs (y_assign hs rfl) rfl ?_; intro a hs
  refine wpList_nil ?_
  refine x_nt ?_
  refine wp_seq ?_
  refine wp_region_lit ?_
  refine wl hs (y_assign hs rfl) rfl ?_; intro a hs
  refine wpList_nil ?_
  refine x_nt ?_
  refine wp_seq ?_
  refine wp_seq ?_
  refine wp_region_lit ?_
  refine wl hs (y_move hs rfl) rfl ?_; intro a hs
  refine wl hs (y_len hu_I hs rfl (RdI.below hr_p1 hM.bel)) rfl ?_; intro a hs
  refine wl hs (y_move hs rfl) rfl ?_; intro a hs
  refine wpList_nil ?_
  refine x_nt ?_
  obtain ⟨s4, hm, hk5⟩ := bindE hm
  refine x_mid (fun a w => ∃ (n3 : Int), n3 = s4 ∧ Fr a 26 [(5, .int .i64 n3)] ∧ Mem W w []) ?_ ?_
  · refine wp_block ?_
    refine x_loop (fun k a w => ∃ (q6 : List Int) (j1 : Nat) (n2 : Int) , k = q6.length ∧ Fr a 26 [(0, v_p0), (5, .int .i64 n2), (8, v_p1), (9, .int .i64 (p1.length : Int)), (10, .int .i64 (j1 : Int))] ∧ Mem W w [] ∧ spec_asCost_l1 p0 q6 j1 n2 = some s4 ∧ List.drop j1 p1 = q6) _ ⟨p1, 0, 0, rfl, hs.sub ⟨rfl, rfl, rfl, rfl, rfl, trivial⟩, hM, hm, rfl⟩ ?_
    rintro k a w ⟨q6, j1, n2, rfl, hs, hM, hm, hj1⟩
    rcases q6 with _ | ⟨x7, q6⟩
    · rewrite [spec_asCost_l1] at hm
      refine wp_seq ?_
      refine wp_region_lit ?_
      refine wl hs (y_lss hs rfl rfl) rfl ?_; intro a hs
      refine wpList_nil ?_
      refine x_nt ?_
      refine wp_seq ?_
      refine x_condF hs rfl (drop_f hj1) ?_
      refine wp_exit ?_
      refine x_et ?_
      refine x_et ?_
      refine x_eb ?_
      have hm : some n2 = some s4 := hm
      exact ⟨n2, Option.some.inj hm, hs.sub ⟨rfl, trivial⟩, hM⟩
    · rewrite [spec_asCost_l1] at hm
      have hx8 := drop_idx hj1
      have hsj1 := ck_succ hj1 (RdS.len (RdI.below hr_p1 hM.bel))
      refine wp_seq ?_
      refine wp_region_lit ?_
      refine wl hs (y_lss hs rfl rfl) rfl ?_; intro a hs
      refine wpList_nil ?_
      refine x_nt ?_
      refine wp_seq ?_
      refine x_condT hs rfl (drop_t hj1) ?_
      refine wp_skip ?_
      refine x_nt ?_
      refine wp_seq ?_
      refine wp_block ?_
      refine wp_seq ?_
      refine wp_region_lit ?_
      refine wl hs (y_move hs rfl) rfl ?_; intro a hs
      have he9 := RdI.at_ (RdI.below hr_p1 hM.bel) hx8
      refine wl hs (y_index ht_I hs rfl rfl he9) rfl ?_; intro a hs
      refine wl hs (y_load sc_int hs rfl he9.cell) rfl ?_; intro a hs
      refine wl hs (y_assign hs rfl) rfl ?_; intro a hs
      refine wl hs (y_assign hs rfl) rfl ?_; intro a hs
      refine wpList_nil ?_
      refine x_nt ?_
      refine wp_region_lit ?_
      refine wl hs (y_move hs rfl) rfl ?_; intro a hs
      refine wl hs (y_move hs rfl) rfl ?_; intro a hs
      refine wl hs (y_move hs rfl) rfl ?_; intro a hs
      obtain ⟨x10, hx11, hm⟩ := bindE hm
      obtain ⟨u13, he12, hr14⟩ := RdM.at_ hr_p0 hx11
      replace he12 := he12.below hM.bel
      refine wl hs (y_index ht_M hs rfl rfl he12) rfl ?_; intro a hs
      refine wl hs (y_load sc_I hs rfl he12.cell) rfl ?_; intro a hs
      refine wl hs (y_move hs rfl) rfl ?_; intro a hs
      obtain ⟨x15, hx16, hm⟩ := bindE hm
      have he17 := RdI.at_ (RdI.below hr14 hM.bel) hx16
      refine wl hs (y_index ht_I hs rfl rfl he17) rfl ?_; intro a hs
      refine wl hs (y_load sc_int hs rfl he17.cell) rfl ?_; intro a hs
      obtain ⟨n18, h19, hm⟩ := bindE hm
      refine wl hs (y_add hs rfl rfl h19) rfl ?_; intro a hs
      refine wl hs (y_assign hs rfl) rfl ?_; intro a hs
      refine wpList_nil ?_
      refine x_nb ?_
      refine x_nt ?_
      refine wp_region_lit ?_
      refine wl hs (y_add hs rfl rfl hsj1) rfl ?_; intro a hs
      refine wl hs (y_move hs rfl) rfl ?_; intro a hs
      refine wpList_nil ?_
      exact ⟨_, by simp, q6, j1 + 1, n18, rfl, hs.sub ⟨rfl, rfl, rfl, rfl, rfl, trivial⟩, hM, hm, drop_next hj1⟩
  rintro a w ⟨n3, rfl, hs, hM⟩
  have hm := hk5
  refine x_nt ?_
  refine wp_seq ?_
  refine wp_region_lit ?_
  refine wl hs (y_move hs rfl) rfl ?_; intro a hs
  refine wl hs (y_assign hs rfl) rfl ?_; intro a hs
  refine wpList_nil ?_
  refine x_nt ?_
  refine wp_ret ?_
  have hm : some n3 = some r := hm
  obtain rfl := Option.some.inj hm
  refine x_ret1 rfl hs rfl ⟨_, rfl, ?_⟩
  exact ⟨rfl, hM⟩

set_option maxHeartbeats 4000000 in
theorem spec_asGood_any (v_p0 : Value) (p0 : List (List Int)) (v_p1 : Value) (p1 : List Int) (W : World) (hr_p0 : RdM W v_p0 p0) (hr_p1 : RdI W v_p1 p1) {r : Bool} (hm : spec_asGood_m p0 p1 = some r) : Calls Try.prog 44 [v_p0, v_p1].toArray W fun e w => ∃ v, e = .returned v ∧ v = .bool r ∧ Mem W w [] := by
  refine x_enter Try.func44 rfl Try.ntmps44 rfl ?_
  intro a hs
  have hM := Mem.start W
  unfold spec_asGood_m at hm
  refine wp_seq ?_
  refine wp_region_lit ?_
  refine wl hs (y_assign hs rfl) rfl ?_; intro a hs
  refine wpList_nil ?_
  refine x_nt ?_
  refine wp_seq ?_
  refine wp_seq ?_
  refine wp_region_lit ?_
  refine wl hs (y_move hs rfl) rfl ?_; intro a hs
  refine wl hs (y_len hu_I hs rfl (RdI.below hr_p1 hM.bel)) rfl ?_; intro a hs
  refine wl hs (y_move hs rfl) rfl ?_; intro a hs
  refine wl hs (y_len hu_M hs rfl (RdM.below hr_p0 hM.bel)) rfl ?_; intro a hs
  refine wl hs (y_neq hs rfl rfl) rfl ?_; intro a hs
  refine wl hs (y_move hs rfl) rfl ?_; intro a hs
  obtain ⟨b1, hb2, hm⟩ := bindE hm
  refine wlguard (N := 43) (L' := [(19, .bool b1), (0, v_p0), (1, v_p1)]) (fun w => Mem W w []) 7 ?_ ?_
  · intro K; rcases Bool.eq_false_or_eq_true ((p1.length : Int) != (p0.length : Int)) with hg3 | hg3
    · have hm := condT hg3 hb2
      refine wls hs rfl hg3 rfl ?_; intro a hs
      refine wls hs rfl hg3 rfl ?_; intro a hs
      refine wls hs rfl hg3 rfl ?_; intro a hs
      refine wls hs rfl hg3 rfl ?_; intro a hs
      refine wls hs rfl hg3 rfl ?_; intro a hs
      refine wls hs rfl hg3 rfl ?_; intro a hs
      have hm : some true = some b1 := hm
      cases Option.some.inj hm
      refine wl hs (y_pickT hs rfl hg3 rfl) rfl ?_; intro a hs
      exact K _ _ (hs.sub ⟨rfl, rfl, rfl, trivial⟩) hM
    · have hm := condF hg3 hb2
      refine wlg hs rfl hg3 (y_move hs rfl) rfl ?_; intro a hs
      refine wlg hs rfl hg3 (y_move hs rfl) rfl ?_; intro a hs
      refine wlg hs rfl hg3 (y_len hu_M hs rfl (RdM.below hr_p0 hM.bel)) rfl ?_; intro a hs
      obtain ⟨n4, h5, hm⟩ := bindE hm
      refine wlg hs rfl hg3 (y_sub hs rfl rfl h5) rfl ?_; intro a hs
      obtain ⟨y6, h7, hm⟩ := bindE hm
      refine wcallg is_76 hs rfl hg3 rfl rfl (spec_l1All_any v_p1 p1 0 n4 _ (RdI.below hr_p1 hM.bel) h7) ?_; rintro a _ w hs ⟨rfl, hX⟩
      have hM : Mem W w [] := hM.call hX
      refine wlg hs rfl hg3 (y_not hs rfl) rfl ?_; intro a hs
      have hm : some (!y6) = some b1 := hm
      cases Option.some.inj hm
      refine wl hs (y_pickF hs rfl hg3 rfl) rfl ?_; intro a hs
      exact K _ _ (hs.sub ⟨rfl, rfl, rfl, trivial⟩) hM
  intro a w hs hM
  simp only [List.drop_succ_cons, List.drop_zero]
  refine wpList_nil ?_
  refine x_nt ?_
  refine x_cond hs rfl (fun hb => ?_) (fun hb => ?_)
  · replace hm := condT hb hm
    refine wp_seq ?_
    refine wp_region_lit ?_
    refine wl hs (y_assign hs rfl) rfl ?_; intro a hs
    refine wpList_nil ?_
    refine x_nt ?_
    refine wp_ret ?_
    refine x_rt ?_
    have hm : some false = some r := hm
    obtain rfl := Option.some.inj hm
    refine x_ret1 rfl hs rfl ⟨_, rfl, ?_⟩
    exact ⟨rfl, hM⟩
  · replace hm := condF hb hm
    refine wp_skip ?_
    refine x_nt ?_
    refine wp_seq ?_
    refine wp_seq ?_
    refine wp_region_lit ?_
    refine wl hs (y_move hs rfl) rfl ?_; intro a hs
    refine wl hs (y_len hu_I hs rfl (RdI.below hr_p1 hM.bel)) rfl ?_; intro a hs
    refine wl hs (y_move hs rfl) rfl ?_; intro a hs
    refine wpList_nil ?_
    refine x_nt ?_
    obtain ⟨s9, hm, hk10⟩ := bindE hm
    refine x_mid (fun a w => Sum.inr () = s9 ∧ Fr a 43 [] ∧ Mem W w []) ?_ ?_
    · refine wp_block ?_
      refine x_loop (fun k a w => ∃ (q11 : List Int) (j8 : Nat) , k = q11.length ∧ Fr a 43 [(0, v_p0), (1, v_p1), (20, v_p1), (21, .int .i64 (p1.length : Int)), (22, .int .i64 (j8 : Int))] ∧ Mem W w [] ∧ spec_asGood_l1 p0 p1 q11 j8 = some s9 ∧ List.drop j8 p1 = q11) _ ⟨p1, 0, rfl, hs.sub ⟨rfl, rfl, rfl, rfl, rfl, trivial⟩, hM, hm, rfl⟩ ?_
      rintro k a w ⟨q11, j8, rfl, hs, hM, hm, hj8⟩
      rcases q11 with _ | ⟨x12, q11⟩
      · rewrite [spec_asGood_l1] at hm
        refine wp_seq ?_
        refine wp_region_lit ?_
        refine wl hs (y_lss hs rfl rfl) rfl ?_; intro a hs
        refine wpList_nil ?_
        refine x_nt ?_
        refine wp_seq ?_
        refine x_condF hs rfl (drop_f hj8) ?_
        refine wp_exit ?_
        refine x_et ?_
        refine x_et ?_
        refine x_eb ?_
        have hm : some (Sum.inr ()) = some s9 := hm
        exact ⟨Option.some.inj hm, hs.sub trivial, hM⟩
      · rewrite [spec_asGood_l1] at hm
        have hx13 := drop_idx hj8
        have hsj8 := ck_succ hj8 (RdS.len (RdI.below hr_p1 hM.bel))
        refine wp_seq ?_
        refine wp_region_lit ?_
        refine wl hs (y_lss hs rfl rfl) rfl ?_; intro a hs
        refine wpList_nil ?_
        refine x_nt ?_
        refine wp_seq ?_
        refine x_condT hs rfl (drop_t hj8) ?_
        refine wp_skip ?_
        refine x_nt ?_
        refine wp_seq ?_
        refine wp_block ?_
        refine wp_seq ?_
        refine wp_region_lit ?_
        refine wl hs (y_move hs rfl) rfl ?_; intro a hs
        have he14 := RdI.at_ (RdI.below hr_p1 hM.bel) hx13
        refine wl hs (y_index ht_I hs rfl rfl he14) rfl ?_; intro a hs
        refine wl hs (y_load sc_int hs rfl he14.cell) rfl ?_; intro a hs
        refine wl hs (y_assign hs rfl) rfl ?_; intro a hs
        refine wl hs (y_assign hs rfl) rfl ?_; intro a hs
        refine wpList_nil ?_
        refine x_nt ?_
        refine wp_seq ?_
        refine wp_region_lit ?_
        refine wl hs (y_move hs rfl) rfl ?_; intro a hs
        refine wl hs (y_move hs rfl) rfl ?_; intro a hs
        obtain ⟨l15, h16, hm⟩ := bindE hm
        obtain ⟨v17, h18, hr19⟩ := RdS.cut hu_I he_int hr_p1 h16
        refine wl hs (y_cut hs rfl rfl h18) rfl ?_; intro a hs
        refine wl hs (y_move hs rfl) rfl ?_; intro a hs
        obtain ⟨y20, h21, hm⟩ := bindE hm
        refine wcall is_80 hs rfl rfl (spec_l1Has_any v17 l15 x12 _ (RdI.below (hr19 _ hr_p1) hM.bel) h21) ?_; rintro a _ w hs ⟨rfl, hX⟩
        have hM : Mem W w [] := hM.call hX
        refine wl hs (y_move hs rfl) rfl ?_; intro a hs
        obtain ⟨b22, hb23, hm⟩ := bindE hm
        refine wlguard (N := 43) (L' := [(41, .bool b22), (0, v_p0), (1, v_p1), (20, v_p1), (21, .int .i64 (p1.length : Int)), (22, .int .i64 (j8 : Int))]) (fun w => Mem W w []) 9 ?_ ?_
        · intro K; rcases Bool.eq_false_or_eq_true y20 with hg24 | hg24
          · have hm := condT hg24 hb23
            refine wls hs rfl hg24 rfl ?_; intro a hs
            refine wls hs rfl hg24 rfl ?_; intro a hs
            refine wls hs rfl hg24 rfl ?_; intro a hs
            refine wls hs rfl hg24 rfl ?_; intro a hs
            refine wls hs rfl hg24 rfl ?_; intro a hs
            refine wls hs rfl hg24 rfl ?_; intro a hs
            refine wls hs rfl hg24 rfl ?_; intro a hs
            refine wls hs rfl hg24 rfl ?_; intro a hs
            have hm : some true = some b22 := hm
            cases Option.some.inj hm
            refine wl hs (y_pickT hs rfl hg24 rfl) rfl ?_; intro a hs
            exact K _ _ (hs.sub ⟨rfl, rfl, rfl, rfl, rfl, rfl, trivial⟩) hM
          · have hm := condF hg24 hb23
            refine wlg hs rfl hg24 (y_move hs rfl) rfl ?_; intro a hs
            refine wlg hs rfl hg24 (y_move hs rfl) rfl ?_; intro a hs
            obtain ⟨x25, hx26, hm⟩ := bindE hm
            obtain ⟨u28, he27, hr29⟩ := RdM.at_ hr_p0 hx26
            replace he27 := he27.below hM.bel
            refine wlg hs rfl hg24 (y_index ht_M hs rfl rfl he27) rfl ?_; intro a hs
            refine wlg hs rfl hg24 (y_load sc_I hs rfl he27.cell) rfl ?_; intro a hs
            refine wlg hs rfl hg24 (y_move hs rfl) rfl ?_; intro a hs
            obtain ⟨x30, hx31, hm⟩ := bindE hm
            have he32 := RdI.at_ (RdI.below hr29 hM.bel) hx31
            refine wlg hs rfl hg24 (y_index ht_I hs rfl rfl he32) rfl ?_; intro a hs
            refine wlg hs rfl hg24 (y_load sc_int hs rfl he32.cell) rfl ?_; intro a hs
            refine wlg hs rfl hg24 (y_eql hs rfl rfl) rfl ?_; intro a hs
            have hm : some (x30 == 1000000000) = some b22 := hm
            cases Option.some.inj hm
            refine wl hs (y_pickF hs rfl hg24 rfl) rfl ?_; intro a hs
            exact K _ _ (hs.sub ⟨rfl, rfl, rfl, rfl, rfl, rfl, trivial⟩) hM
        intro a w hs hM
        simp only [List.drop_succ_cons, List.drop_zero]
        refine wpList_nil ?_
        refine x_nt ?_
        refine x_cond hs rfl (fun hb => ?_) (fun hb => ?_)
        · replace hm := condT hb hm
          refine wp_seq ?_
          refine wp_region_lit ?_
          refine wl hs (y_assign hs rfl) rfl ?_; intro a hs
          refine wpList_nil ?_
          refine x_nt ?_
          refine wp_ret ?_
          refine x_rb ?_
          refine x_rt ?_
          refine x_rt ?_
          refine x_rb ?_
          refine x_rt ?_
          refine x_rt ?_
          have hm : some (Sum.inl false) = some s9 := hm
          cases Option.some.inj hm
          have hm := hk10
          have hm : some false = some r := hm
          obtain rfl := Option.some.inj hm
          refine x_ret1 rfl hs rfl ⟨_, rfl, ?_⟩
          exact ⟨rfl, hM⟩
        · replace hm := condF hb hm
          refine wp_skip ?_
          refine x_nb ?_
          refine x_nt ?_
          refine wp_region_lit ?_
          refine wl hs (y_add hs rfl rfl hsj8) rfl ?_; intro a hs
          refine wl hs (y_move hs rfl) rfl ?_; intro a hs
          refine wpList_nil ?_
          exact ⟨_, by simp, q11, j8 + 1, rfl, hs.sub ⟨rfl, rfl, rfl, rfl, rfl, trivial⟩, hM, hm, drop_next hj8⟩
    rintro a w ⟨rfl, hs, hM⟩
    have hm := hk10
    refine x_nt ?_
    refine wp_seq ?_
    refine wp_region_lit ?_
    refine wl hs (y_assign hs rfl) rfl ?_; intro a hs
    refine wpList_nil ?_
    refine x_nt ?_
    refine wp_ret ?_
    have hm : some true = some r := hm
    obtain rfl := Option.some.inj hm
    refine x_ret1 rfl hs rfl ⟨_, rfl, ?_⟩
    exact ⟨rfl, hM⟩

set_option maxHeartbeats 4000000 in
theorem impl_isAssignment_any (v_p0 : Value) (p0 : List (List Int)) (v_p1 : Value) (p1 : List Int) (W : World) (hr_p0 : RdM W v_p0 p0) (hr_p1 : RdI W v_p1 p1) {r : Bool} (hm : impl_isAssignment_m p0 p1 = some r) : Calls Try.prog 48 [v_p0, v_p1].toArray W fun e w => ∃ v, e = .returned v ∧ v = .bool r ∧ Mem W w [] := by
  refine x_enter Try.func48 rfl Try.ntmps48 rfl ?_
  intro a hs
  have hM := Mem.start W
  unfold impl_isAssignment_m at hm
  refine wp_seq ?_
  refine wp_region_lit ?_
  refine wl hs (y_assign hs rfl) rfl ?_; intro a hs
  refine wpList_nil ?_
  refine x_nt ?_
  refine wp_seq ?_
  refine wp_seq ?_
  refine wp_region_lit ?_
  refine wl hs (y_move hs rfl) rfl ?_; intro a hs
  refine wl hs (y_len hu_I hs rfl (RdI.below hr_p1 hM.bel)) rfl ?_; intro a hs
  refine wl hs (y_move hs rfl) rfl ?_; intro a hs
  refine wl hs (y_len hu_M hs rfl (RdM.below hr_p0 hM.bel)) rfl ?_; intro a hs
  refine wl hs (y_neq hs rfl rfl) rfl ?_; intro a hs
  refine wpList_nil ?_
  refine x_nt ?_
  refine x_cond hs rfl (fun hb => ?_) (fun hb => ?_)
  · replace hm := condT hb hm
    refine wp_seq ?_
    refine wp_region_lit ?_
    refine wl hs (y_assign hs rfl) rfl ?_; intro a hs
    refine wpList_nil ?_
    refine x_nt ?_
    refine wp_ret ?_
    refine x_rt ?_
    have hm : some false = some r := hm
    obtain rfl := Option.some.inj hm
    refine x_ret1 rfl hs rfl ⟨_, rfl, ?_⟩
    exact ⟨rfl, hM⟩
  · replace hm := condF hb hm
    refine wp_skip ?_
    refine x_nt ?_
    refine wp_seq ?_
    refine wp_region_lit ?_
    refine wl hs (y_move hs rfl) rfl ?_; intro a hs
    refine wl hs (y_len hu_M hs rfl (RdM.below hr_p0 hM.bel)) rfl ?_; intro a hs
    obtain ⟨_, h3, hm⟩ := bindE hm
    refine wmem hs (x_makeB hu_B he_bool hs rfl hM h3) rfl ?_; intro a v2 w hs hM
    have hM : Mem W w [aBools 4 v2 (List.replicate ((p0.length : Int)).toNat false)] := hM
    refine wl hs (y_assign hs rfl) rfl ?_; intro a hs
    refine wpList_nil ?_
    refine x_nt ?_
    refine wp_seq ?_
    refine wp_seq ?_
    refine wp_region_lit ?_
    refine wl hs (y_move hs rfl) rfl ?_; intro a hs
    refine wl hs (y_len hu_I hs rfl (RdI.below hr_p1 hM.bel)) rfl ?_; intro a hs
    refine wl hs (y_move hs rfl) rfl ?_; intro a hs
    refine wpList_nil ?_
    refine x_nt ?_
    obtain ⟨s6, hm, hk7⟩ := bindE hm
    refine x_mid (fun a w => Sum.inr () = s6 ∧ Fr a 38 [] ∧ Mem W w []) ?_ ?_
    · refine wp_block ?_
      refine x_loop (fun k a w => ∃ (q8 : List Int) (j4 : Nat) (l5 : List Bool) , k = q8.length ∧ Fr a 38 [(0, v_p0), (5, v2), (16, v_p1), (17, .int .i64 (p1.length : Int)), (18, .int .i64 (j4 : Int))] ∧ Mem W w [aBools 4 v2 l5] ∧ impl_isAssignment_l1 p0 q8 j4 l5 = some s6 ∧ List.drop j4 p1 = q8) _ ⟨p1, 0, (List.replicate ((p0.length : Int)).toNat false), rfl, hs.sub ⟨rfl, rfl, rfl, rfl, rfl, trivial⟩, hM, hm, rfl⟩ ?_
      rintro k a w ⟨q8, j4, l5, rfl, hs, hM, hm, hj4⟩
      rcases q8 with _ | ⟨x9, q8⟩
      · rewrite [impl_isAssignment_l1] at hm
        refine wp_seq ?_
        refine wp_region_lit ?_
        refine wl hs (y_lss hs rfl rfl) rfl ?_; intro a hs
        refine wpList_nil ?_
        refine x_nt ?_
        refine wp_seq ?_
        refine x_condF hs rfl (drop_f hj4) ?_
        refine wp_exit ?_
        refine x_et ?_
        refine x_et ?_
        refine x_eb ?_
        have hm : some (Sum.inr ()) = some s6 := hm
        exact ⟨Option.some.inj hm, hs.sub trivial, hM.none_⟩
      · rewrite [impl_isAssignment_l1] at hm
        have hx10 := drop_idx hj4
        have hsj4 := ck_succ hj4 (RdS.len (RdI.below hr_p1 hM.bel))
        refine wp_seq ?_
        refine wp_region_lit ?_
        refine wl hs (y_lss hs rfl rfl) rfl ?_; intro a hs
        refine wpList_nil ?_
        refine x_nt ?_
        refine wp_seq ?_
        refine x_condT hs rfl (drop_t hj4) ?_
        refine wp_skip ?_
        refine x_nt ?_
        refine wp_seq ?_
        refine wp_block ?_
        refine wp_seq ?_
        refine wp_region_lit ?_
        have he11 := RdI.at_ (RdI.below hr_p1 hM.bel) hx10
        refine wl hs (y_index ht_I hs rfl rfl he11) rfl ?_; intro a hs
        refine wl hs (y_load sc_int hs rfl he11.cell) rfl ?_; intro a hs
        refine wl hs (y_assign hs rfl) rfl ?_; intro a hs
        refine wpList_nil ?_
        refine x_nt ?_
        refine wp_seq ?_
        refine wp_seq ?_
        refine wp_region_lit ?_
        refine wl hs (y_move hs rfl) rfl ?_; intro a hs
        refine wl hs (y_move hs rfl) rfl ?_; intro a hs
        refine wl hs (y_len hu_M hs rfl (RdM.below hr_p0 hM.bel)) rfl ?_; intro a hs
        obtain ⟨n12, h13, hm⟩ := bindE hm
        refine wl hs (y_sub hs rfl rfl h13) rfl ?_; intro a hs
        obtain ⟨y14, h15, hm⟩ := bindE hm
        refine wcall is_82 hs rfl rfl (impl_within_any x9 0 n12 _  h15) ?_; rintro a _ w hs ⟨rfl, hX⟩
        have hM : Mem W w [aBools 4 v2 l5] := hM.call hX
        refine wl hs (y_not hs rfl) rfl ?_; intro a hs
        refine wl hs (y_move hs rfl) rfl ?_; intro a hs
        obtain ⟨b16, hb17, hm⟩ := bindE hm
        refine wlguard (N := 38) (L' := [(33, .bool b16), (0, v_p0), (5, v2), (7, .int .i64 x9), (16, v_p1), (17, .int .i64 (p1.length : Int)), (18, .int .i64 (j4 : Int))]) (fun w => Mem W w [aBools 4 v2 l5]) 5 ?_ ?_
        · intro K; rcases Bool.eq_false_or_eq_true (!y14) with hg18 | hg18
          · have hm := condT hg18 hb17
            refine wls hs rfl hg18 rfl ?_; intro a hs
            refine wls hs rfl hg18 rfl ?_; intro a hs
            refine wls hs rfl hg18 rfl ?_; intro a hs
            refine wls hs rfl hg18 rfl ?_; intro a hs
            have hm : some true = some b16 := hm
            cases Option.some.inj hm
            refine wl hs (y_pickT hs rfl hg18 rfl) rfl ?_; intro a hs
            exact K _ _ (hs.sub ⟨rfl, rfl, rfl, rfl, rfl, rfl, rfl, trivial⟩) hM
          · have hm := condF hg18 hb17
            refine wlg hs rfl hg18 (y_move hs rfl) rfl ?_; intro a hs
            refine wlg hs rfl hg18 (y_move hs rfl) rfl ?_; intro a hs
            obtain ⟨x19, hx20, hm⟩ := bindE hm
            have he21 := RdB.at_ (hM.rdB 0 rfl) hx20
            refine wlg hs rfl hg18 (y_index ht_B hs rfl rfl he21) rfl ?_; intro a hs
            refine wlg hs rfl hg18 (y_load sc_bool hs rfl he21.cell) rfl ?_; intro a hs
            have hm : some x19 = some b16 := hm
            cases Option.some.inj hm
            refine wl hs (y_pickF hs rfl hg18 rfl) rfl ?_; intro a hs
            exact K _ _ (hs.sub ⟨rfl, rfl, rfl, rfl, rfl, rfl, rfl, trivial⟩) hM
        intro a w hs hM
        simp only [List.drop_succ_cons, List.drop_zero]
        refine wpList_nil ?_
        refine x_nt ?_
        refine x_cond hs rfl (fun hb => ?_) (fun hb => ?_)
        · replace hm := condT hb hm
          refine wp_seq ?_
          refine wp_region_lit ?_
          refine wl hs (y_assign hs rfl) rfl ?_; intro a hs
          refine wpList_nil ?_
          refine x_nt ?_
          refine wp_ret ?_
          refine x_rt ?_
          refine x_rb ?_
          refine x_rt ?_
          refine x_rt ?_
          refine x_rb ?_
          refine x_rt ?_
          refine x_rt ?_
          have hm : some (Sum.inl false) = some s6 := hm
          cases Option.some.inj hm
          have hm := hk7
          have hm : some false = some r := hm
          obtain rfl := Option.some.inj hm
          refine x_ret1 rfl hs rfl ⟨_, rfl, ?_⟩
          exact ⟨rfl, hM.none_⟩
        · replace hm := condF hb hm
          refine wp_skip ?_
          refine x_nt ?_
          refine wp_region_lit ?_
          refine wl hs (y_move hs rfl) rfl ?_; intro a hs
          refine wl hs (y_move hs rfl) rfl ?_; intro a hs
          obtain ⟨x22, hx23, hm⟩ := bindE hm
          have he24 := RdB.at_ (hM.rdB 0 rfl) hx23
          refine wl hs (y_index ht_B hs rfl rfl he24) rfl ?_; intro a hs
          obtain ⟨l25, h26, hm⟩ := bindE hm
          refine wstore hs rfl rfl (x_storeB he_bool (hM.front 0 rfl) h26) ?_; intro w hM
          have hM : Mem W w [aBools 4 v2 l25] := hM
          refine wpList_nil ?_
          refine x_nb ?_
          refine x_nt ?_
          refine wp_region_lit ?_
          refine wl hs (y_add hs rfl rfl hsj4) rfl ?_; intro a hs
          refine wl hs (y_move hs rfl) rfl ?_; intro a hs
          refine wpList_nil ?_
          exact ⟨_, by simp, q8, j4 + 1, l25, rfl, hs.sub ⟨rfl, rfl, rfl, rfl, rfl, trivial⟩, hM, hm, drop_next hj4⟩
    rintro a w ⟨rfl, hs, hM⟩
    have hm := hk7
    refine x_nt ?_
    refine wp_seq ?_
    refine wp_region_lit ?_
    refine wl hs (y_assign hs rfl) rfl ?_; intro a hs
    refine wpList_nil ?_
    refine x_nt ?_
    refine wp_ret ?_
    have hm : some true = some r := hm
    obtain rfl := Option.some.inj hm
    refine x_ret1 rfl hs rfl ⟨_, rfl, ?_⟩
    exact ⟨rfl, hM⟩

theorem impl_costOf_any (v_p0 : Value) (p0 : List (List Int)) (v_p1 : Value) (p1 : List Int) (W : World) (hr_p0 : RdM W v_p0 p0) (hr_p1 : RdI W v_p1 p1) {r : Int} (hm : impl_costOf_m p0 p1 = some r) : Calls Try.prog 49 [v_p0, v_p1].toArray W fun e w => ∃ v, e = .returned v ∧ v = .int .i64 r ∧ Mem W w [] := by
  refine x_enter Try.func49 rfl Try.ntmps49 rfl ?_
  intro a hs
  have hM := Mem.start W
  unfold impl_costOf_m at hm
  refine wp_seq ?_
  refine wp_region_lit ?_
  refine wl hs (y_assign hs rfl) rfl ?_; intro a hs
  refine wpList_nil ?_
  refine x_nt ?_
  refine wp_seq ?_
  refine wp_region_lit ?_
  refine wl hs (y_assign hs rfl) rfl ?_; intro a hs
  refine wpList_nil ?_
  refine x_nt ?_
  refine wp_seq ?_
  refine wp_seq ?_
  refine wp_region_lit ?_
  refine wl hs (y_move hs rfl) rfl ?_; intro a hs
  refine wl hs (y_len hu_I hs rfl (RdI.below hr_p1 hM.bel)) rfl ?_; intro a hs
  refine wl hs (y_move hs rfl) rfl ?_; intro a hs
  refine wpList_nil ?_
  refine x_nt ?_
  obtain ⟨s4, hm, hk5⟩ := bindE hm
  refine x_mid (fun a w => ∃ (n3 : Int), n3 = s4 ∧ Fr a 26 [(5, .int .i64 n3)] ∧ Mem W w []) ?_ ?_
  · refine wp_block ?_
    refine x_loop (fun k a w => ∃ (q6 : List Int) (j1 : Nat) (n2 : Int) , k = q6.length ∧ Fr a 26 [(0, v_p0), (5, .int .i64 n2), (8, v_p1), (9, .int .i64 (p1.length : Int)), (10, .int .i64 (j1 : Int))] ∧ Mem W w [] ∧ impl_costOf_l1 p0 q6 j1 n2 = some s4 ∧ List.drop j1 p1 = q6) _ ⟨p1, 0, 0, rfl, hs.sub ⟨rfl, rfl, rfl, rfl, rfl, trivial⟩, hM, hm, rfl⟩ ?_
    rintro k a w ⟨q6, j1, n2, rfl, hs, hM, hm, hj1⟩
    rcases q6 with _ | ⟨x7, q6⟩
    · rewrite [impl_costOf_l1] at hm
      refine wp_seq ?_
      refine wp_region_lit ?_
      refine wl hs (y_lss hs rfl rfl) rfl ?_; intro a hs
      refine wpList_nil ?_
      refine x_nt ?_
      refine wp_seq ?_
      refine x_condF hs rfl (drop_f hj1) ?_
      refine wp_exit ?_
      refine x_et ?_
      refine x_et ?_
      refine x_eb ?_
      have hm : some n2 = some s4 := hm
      exact ⟨n2, Option.some.inj hm, hs.sub ⟨rfl, trivial⟩, hM⟩
    · rewrite [impl_costOf_l1] at hm
      have hx8 := drop_idx hj1
      have hsj1 := ck_succ hj1 (RdS.len (RdI.below hr_p1 hM.bel))
      refine wp_seq ?_
      refine wp_region_lit ?_
      refine wl hs (y_lss hs rfl rfl) rfl ?_; intro a hs
      refine wpList_nil ?_
      refine x_nt ?_
      refine wp_seq ?_
      refine x_condT hs rfl (drop_t hj1) ?_
      refine wp_skip ?_
      refine x_nt ?_
      refine wp_seq ?_
      refine wp_block ?_
      refine wp_seq ?_
      refine wp_region_lit ?_
      refine wl hs (y_move hs rfl) rfl ?_; intro a hs
      have he9 := RdI.at_ (RdI.below hr_p1 hM.bel) hx8
      refine wl hs (y_index ht_I hs rfl rfl he9) rfl ?_; intro a hs
      refine wl hs (y_load sc_int hs rfl he9.cell) rfl ?_; intro a hs
      refine wl hs (y_assign hs rfl) rfl ?_; intro a hs
      refine wl hs (y_assign hs rfl) rfl ?_; intro a hs
      refine wpList_nil ?_
      refine x_nt ?_
      refine wp_region_lit ?_
      refine wl hs (y_move hs rfl) rfl ?_; intro a hs
      refine wl hs (y_move hs rfl) rfl ?_; intro a hs
      refine wl hs (y_move hs rfl) rfl ?_; intro a hs
      obtain ⟨x10, hx11, hm⟩ := bindE hm
      obtain ⟨u13, he12, hr14⟩ := RdM.at_ hr_p0 hx11
      replace he12 := he12.below hM.bel
      refine wl hs (y_index ht_M hs rfl rfl he12) rfl ?_; intro a hs
      refine wl hs (y_load sc_I hs rfl he12.cell) rfl ?_; intro a hs
      refine wl hs (y_move hs rfl) rfl ?_; intro a hs
      obtain ⟨x15, hx16, hm⟩ := bindE hm
      have he17 := RdI.at_ (RdI.below hr14 hM.bel) hx16
      refine wl hs (y_index ht_I hs rfl rfl he17) rfl ?_; intro a hs
      refine wl hs (y_load sc_int hs rfl he17.cell) rfl ?_; intro a hs
      obtain ⟨y18, h19, hm⟩ := bindE hm
      refine wcall is_83 hs rfl rfl (impl_product_any n2 x15 _  h19) ?_; rintro a _ w hs ⟨rfl, hX⟩
      have hM : Mem W w [] := hM.call hX
      refine wl hs (y_assign hs rfl) rfl ?_; intro a hs
      refine wpList_nil ?_
      refine x_nb ?_
      refine x_nt ?_
      refine wp_region_lit ?_
      refine wl hs (y_add hs rfl rfl hsj1) rfl ?_; intro a hs
      refine wl hs (y_move hs rfl) rfl ?_; intro a hs
      refine wpList_nil ?_
      exact ⟨_, by simp, q6, j1 + 1, y18, rfl, hs.sub ⟨rfl, rfl, rfl, rfl, rfl, trivial⟩, hM, hm, drop_next hj1⟩
  rintro a w ⟨n3, rfl, hs, hM⟩
  have hm := hk5
  refine x_nt ?_
  refine wp_seq ?_
  refine wp_region_lit ?_
  refine wl hs (y_move hs rfl) rfl ?_; intro a hs
  refine wl hs (y_assign hs rfl) rfl ?_; intro a hs
  refine wpList_nil ?_
  refine x_nt ?_
  refine wp_ret ?_
  have hm : some n3 = some r := hm
  obtain rfl := Option.some.inj hm
  refine x_ret1 rfl hs rfl ⟨_, rfl, ?_⟩
  exact ⟨rfl, hM⟩

theorem impl_total_any (v_p0 : Value) (p0 : List Int) (W : World) (hr_p0 : RdI W v_p0 p0) {r : Int} (hm : impl_total_m p0 = some r) : Calls Try.prog 55 [v_p0].toArray W fun e w => ∃ v, e = .returned v ∧ v = .int .i64 r ∧ Mem W w [] := by
  refine x_enter Try.func55 rfl Try.ntmps55 rfl ?_
  intro a hs
  have hM := Mem.start W
  unfold impl_total_m at hm
  refine wp_seq ?_
  refine wp_region_lit ?_
  refine wl hs (y_assign hs rfl) rfl ?_; intro a hs
  refine wpList_nil ?_
  refine x_nt ?_
  refine wp_seq ?_
  refine wp_region_lit ?_
  refine wl hs (y_assign hs rfl) rfl ?_; intro a hs
  refine wpList_nil ?_
  refine x_nt ?_
  refine wp_seq ?_
  refine wp_seq ?_
  refine wp_region_lit ?_
  refine wl hs (y_move hs rfl) rfl ?_; intro a hs
  refine wl hs (y_len hu_I hs rfl (RdI.below hr_p0 hM.bel)) rfl ?_; intro a hs
  refine wl hs (y_move hs rfl) rfl ?_; intro a hs
  refine wpList_nil ?_
  refine x_nt ?_
  obtain ⟨s4, hm, hk5⟩ := bindE hm
  refine x_mid (fun a w => ∃ (n3 : Int), n3 = s4 ∧ Fr a 17 [(3, .int .i64 n3)] ∧ Mem W w []) ?_ ?_
  · refine wp_block ?_
    refine x_loop (fun k a w => ∃ (q6 : List Int) (j1 : Nat) (n2 : Int) , k = q6.length ∧ Fr a 17 [(3, .int .i64 n2), (6, v_p0), (7, .int .i64 (p0.length : Int)), (8, .int .i64 (j1 : Int))] ∧ Mem W w [] ∧ impl_total_l1 q6 j1 n2 = some s4 ∧ List.drop j1 p0 = q6) _ ⟨p0, 0, 0, rfl, hs.sub ⟨rfl, rfl, rfl, rfl, trivial⟩, hM, hm, rfl⟩ ?_
    rintro k a w ⟨q6, j1, n2, rfl, hs, hM, hm, hj1⟩
    rcases q6 with _ | ⟨x7, q6⟩
    · rewrite [impl_total_l1] at hm
      refine wp_seq ?_
      refine wp_region_lit ?_
      refine wl hs (y_lss hs rfl rfl) rfl ?_; intro a hs
      refine wpList_nil ?_
      refine x_nt ?_
      refine wp_seq ?_
      refine x_condF hs rfl (drop_f hj1) ?_
      refine wp_exit ?_
      refine x_et ?_
      refine x_et ?_
      refine x_eb ?_
      have hm : some n2 = some s4 := hm
      exact ⟨n2, Option.some.inj hm, hs.sub ⟨rfl, trivial⟩, hM⟩
    · rewrite [impl_total_l1] at hm
      have hx8 := drop_idx hj1
      have hsj1 := ck_succ hj1 (RdS.len (RdI.below hr_p0 hM.bel))
      refine wp_seq ?_
      refine wp_region_lit ?_
      refine wl hs (y_lss hs rfl rfl) rfl ?_; intro a hs
      refine wpList_nil ?_
      refine x_nt ?_
      refine wp_seq ?_
      refine x_condT hs rfl (drop_t hj1) ?_
      refine wp_skip ?_
      refine x_nt ?_
      refine wp_seq ?_
      refine wp_block ?_
      refine wp_seq ?_
      refine wp_region_lit ?_
      have he9 := RdI.at_ (RdI.below hr_p0 hM.bel) hx8
      refine wl hs (y_index ht_I hs rfl rfl he9) rfl ?_; intro a hs
      refine wl hs (y_load sc_int hs rfl he9.cell) rfl ?_; intro a hs
      refine wl hs (y_assign hs rfl) rfl ?_; intro a hs
      refine wpList_nil ?_
      refine x_nt ?_
      refine wp_region_lit ?_
      refine wl hs (y_move hs rfl) rfl ?_; intro a hs
      refine wl hs (y_move hs rfl) rfl ?_; intro a hs
      obtain ⟨n10, h11, hm⟩ := bindE hm
      refine wl hs (y_add hs rfl rfl h11) rfl ?_; intro a hs
      refine wl hs (y_assign hs rfl) rfl ?_; intro a hs
      refine wpList_nil ?_
      refine x_nb ?_
      refine x_nt ?_
      refine wp_region_lit ?_
      refine wl hs (y_add hs rfl rfl hsj1) rfl ?_; intro a hs
      refine wl hs (y_move hs rfl) rfl ?_; intro a hs
      refine wpList_nil ?_
      exact ⟨_, by simp, q6, j1 + 1, n10, rfl, hs.sub ⟨rfl, rfl, rfl, rfl, trivial⟩, hM, hm, drop_next hj1⟩
  rintro a w ⟨n3, rfl, hs, hM⟩
  have hm := hk5
  refine x_nt ?_
  refine wp_seq ?_
  refine wp_region_lit ?_
  refine wl hs (y_move hs rfl) rfl ?_; intro a hs
  refine wl hs (y_assign hs rfl) rfl ?_; intro a hs
  refine wpList_nil ?_
  refine x_nt ?_
  refine wp_ret ?_
  have hm : some n3 = some r := hm
  obtain rfl := Option.some.inj hm
  refine x_ret1 rfl hs rfl ⟨_, rfl, ?_⟩
  exact ⟨rfl, hM⟩

theorem spec_chSum_any (v_p0 : Value) (p0 : List Int) (W : World) (hr_p0 : RdI W v_p0 p0) {r : Int} (hm : spec_chSum_m p0 = some r) : Calls Try.prog 53 [v_p0].toArray W fun e w => ∃ v, e = .returned v ∧ v = .int .i64 r ∧ Mem W w [] := by
  refine x_enter Try.func53 rfl Try.ntmps53 rfl ?_
  intro a hs
  have hM := Mem.start W
  unfold spec_chSum_m at hm
  refine wp_seq ?_
  refine wp_region_lit ?_
  refine wl hs (y_assign hs rfl) rfl ?_; intro a hs
  refine wpList_nil ?_
  refine x_nt ?_
  refine wp_seq ?_
  refine wp_region_lit ?_
  refine wl hs (y_assign hs rfl) rfl ?_; intro a hs
  refine wpList_nil ?_
  refine x_nt ?_
  refine wp_seq ?_
  refine wp_seq ?_
  refine wp_region_lit ?_
  refine wl hs (y_move hs rfl) rfl ?_; intro a hs
  refine wl hs (y_len hu_I hs rfl (RdI.below hr_p0 hM.bel)) rfl ?_; intro a hs
  refine wl hs (y_move hs rfl) rfl ?_; intro a hs
  refine wpList_nil ?_
  refine x_nt ?_
  obtain ⟨s4, hm, hk5⟩ := bindE hm
  refine x_mid (fun a w => ∃ (n3 : Int), n3 = s4 ∧ Fr a 17 [(3, .int .i64 n3)] ∧ Mem W w []) ?_ ?_
  · refine wp_block ?_
    refine x_loop (fun k a w => ∃ (q6 : List Int) (j1 : Nat) (n2 : Int) , k = q6.length ∧ Fr a 17 [(3, .int .i64 n2), (6, v_p0), (7, .int .i64 (p0.length : Int)), (8, .int .i64 (j1 : Int))] ∧ Mem W w [] ∧ spec_chSum_l1 q6 j1 n2 = some s4 ∧ List.drop j1 p0 = q6) _ ⟨p0, 0, 0, rfl, hs.sub ⟨rfl, rfl, rfl, rfl, trivial⟩, hM, hm, rfl⟩ ?_
    rintro k a w ⟨q6, j1, n2, rfl, hs, hM, hm, hj1⟩
    rcases q6 with _ | ⟨x7, q6⟩
    · rewrite [spec_chSum_l1] at hm
      refine wp_seq ?_
      refine wp_region_lit ?_
      refine wl hs (y_lss hs rfl rfl) rfl ?_; intro a hs
      refine wpList_nil ?_
      refine x_nt ?_
      refine wp_seq ?_
      refine x_condF hs rfl (drop_f hj1) ?_
      refine wp_exit ?_
      refine x_et ?_
      refine x_et ?_
      refine x_eb ?_
      have hm : some n2 = some s4 := hm
      exact ⟨n2, Option.some.inj hm, hs.sub ⟨rfl, trivial⟩, hM⟩
    · rewrite [spec_chSum_l1] at hm
      have hx8 := drop_idx hj1
      have hsj1 := ck_succ hj1 (RdS.len (RdI.below hr_p0 hM.bel))
      refine wp_seq ?_
      refine wp_region_lit ?_
      refine wl hs (y_lss hs rfl rfl) rfl ?_; intro a hs
      refine wpList_nil ?_
      refine x_nt ?_
      refine wp_seq ?_
      refine x_condT hs rfl (drop_t hj1) ?_
      refine wp_skip ?_
      refine x_nt ?_
      refine wp_seq ?_
      refine wp_block ?_
      refine wp_seq ?_
      refine wp_region_lit ?_
      have he9 := RdI.at_ (RdI.below hr_p0 hM.bel) hx8
      refine wl hs (y_index ht_I hs rfl rfl he9) rfl ?_; intro a hs
      refine wl hs (y_load sc_int hs rfl he9.cell) rfl ?_; intro a hs
      refine wl hs (y_assign hs rfl) rfl ?_; intro a hs
      refine wpList_nil ?_
      refine x_nt ?_
      refine wp_region_lit ?_
      refine wl hs (y_move hs rfl) rfl ?_; intro a hs
      refine wl hs (y_move hs rfl) rfl ?_; intro a hs
      obtain ⟨n10, h11, hm⟩ := bindE hm
      refine wl hs (y_add hs rfl rfl h11) rfl ?_; intro a hs
      refine wl hs (y_assign hs rfl) rfl ?_; intro a hs
      refine wpList_nil ?_
      refine x_nb ?_
      refine x_nt ?_
      refine wp_region_lit ?_
      refine wl hs (y_add hs rfl rfl hsj1) rfl ?_; intro a hs
      refine wl hs (y_move hs rfl) rfl ?_; intro a hs
      refine wpList_nil ?_
      exact ⟨_, by simp, q6, j1 + 1, n10, rfl, hs.sub ⟨rfl, rfl, rfl, rfl, trivial⟩, hM, hm, drop_next hj1⟩
  rintro a w ⟨n3, rfl, hs, hM⟩
  have hm := hk5
  refine x_nt ?_
  refine wp_seq ?_
  refine wp_region_lit ?_
  refine wl hs (y_move hs rfl) rfl ?_; intro a hs
  refine wl hs (y_assign hs rfl) rfl ?_; intro a hs
  refine wpList_nil ?_
  refine x_nt ?_
  refine wp_ret ?_
  have hm : some n3 = some r := hm
  obtain rfl := Option.some.inj hm
  refine x_ret1 rfl hs rfl ⟨_, rfl, ?_⟩
  exact ⟨rfl, hM⟩

theorem spec_CostOfAssignment_any (v_p0 : Value) (p0 : List (List Int)) (v_p1 : Value) (p1 : List Int) (W : World) (hr_p0 : RdM W v_p0 p0) (hr_p1 : RdI W v_p1 p1) {r : Int × Bool} (hm : spec_CostOfAssignment_m p0 p1 = some r) : Calls Try.prog 14 [v_p0, v_p1].toArray W fun e w => ∃ v, e = .returned v ∧ v = .tuple #[.int .i64 r.1, .bool r.2] ∧ Mem W w [] := by
  refine x_enter Try.func14 rfl Try.ntmps14 rfl ?_
  intro a hs
  have hM := Mem.start W
  unfold spec_CostOfAssignment_m at hm
  refine wp_seq ?_
  refine wp_region_lit ?_
  refine wl hs (y_assign hs rfl) rfl ?_; intro a hs
  refine wl hs (y_assign hs rfl) rfl ?_; intro a hs
  refine wpList_nil ?_
  refine x_nt ?_
  refine wp_seq ?_
  refine wp_seq ?_
  refine wp_region_lit ?_
  refine wl hs (y_move hs rfl) rfl ?_; intro a hs
  obtain ⟨y1, h2, hm⟩ := bindE hm
  refine wcall is_43 hs rfl rfl (spec_mxSquare_any v_p0 p0 _ (RdM.below hr_p0 hM.bel) h2) ?_; rintro a _ w hs ⟨rfl, hX⟩
  have hM : Mem W w [] := hM.call hX
  refine wl hs (y_not hs rfl) rfl ?_; intro a hs
  refine wl hs (y_move hs rfl) rfl ?_; intro a hs
  obtain ⟨b3, hb4, hm⟩ := bindE hm
  refine wlguard (N := 21) (L' := [(14, .bool b3), (0, v_p0), (1, v_p1)]) (fun w => Mem W w []) 5 ?_ ?_
  · intro K; rcases Bool.eq_false_or_eq_true (!y1) with hg5 | hg5
    · have hm := condT hg5 hb4
      refine wls hs rfl hg5 rfl ?_; intro a hs
      refine wls hs rfl hg5 rfl ?_; intro a hs
      refine wls hs rfl hg5 rfl ?_; intro a hs
      refine wls hs rfl hg5 rfl ?_; intro a hs
      have hm : some true = some b3 := hm
      cases Option.some.inj hm
      refine wl hs (y_pickT hs rfl hg5 rfl) rfl ?_; intro a hs
      exact K _ _ (hs.sub ⟨rfl, rfl, rfl, trivial⟩) hM
    · have hm := condF hg5 hb4
      refine wlg hs rfl hg5 (y_move hs rfl) rfl ?_; intro a hs
      refine wlg hs rfl hg5 (y_move hs rfl) rfl ?_; intro a hs
      obtain ⟨y6, h7, hm⟩ := bindE hm
      refine wcallg is_44 hs rfl hg5 rfl rfl (spec_asGood_any v_p0 p0 v_p1 p1 _ (RdM.below hr_p0 hM.bel) (RdI.below hr_p1 hM.bel) h7) ?_; rintro a _ w hs ⟨rfl, hX⟩
      have hM : Mem W w [] := hM.call hX
      refine wlg hs rfl hg5 (y_not hs rfl) rfl ?_; intro a hs
      have hm : some (!y6) = some b3 := hm
      cases Option.some.inj hm
      refine wl hs (y_pickF hs rfl hg5 rfl) rfl ?_; intro a hs
      exact K _ _ (hs.sub ⟨rfl, rfl, rfl, trivial⟩) hM
  intro a w hs hM
  simp only [List.drop_succ_cons, List.drop_zero]
  refine wpList_nil ?_
  refine x_nt ?_
  refine x_cond hs rfl (fun hb => ?_) (fun hb => ?_)
  · replace hm := condT hb hm
    refine wp_seq ?_
    refine wp_region_lit ?_
    refine wl hs (y_assign hs rfl) rfl ?_; intro a hs
    refine wl hs (y_assign hs rfl) rfl ?_; intro a hs
    refine wpList_nil ?_
    refine x_nt ?_
    refine wp_ret ?_
    refine x_rt ?_
    have hm : some (0, false) = some r := hm
    obtain rfl := Option.some.inj hm
    refine x_ret2 rfl hs rfl rfl ⟨_, rfl, ?_⟩
    exact ⟨rfl, hM⟩
  · replace hm := condF hb hm
    refine wp_skip ?_
    refine x_nt ?_
    refine wp_seq ?_
    refine wp_region_lit ?_
    refine wl hs (y_move hs rfl) rfl ?_; intro a hs
    refine wl hs (y_move hs rfl) rfl ?_; intro a hs
    obtain ⟨y8, h9, hm⟩ := bindE hm
    refine wcall is_46 hs rfl rfl (spec_asCost_any v_p0 p0 v_p1 p1 _ (RdM.below hr_p0 hM.bel) (RdI.below hr_p1 hM.bel) h9) ?_; rintro a _ w hs ⟨rfl, hX⟩
    have hM : Mem W w [] := hM.call hX
    obtain ⟨y10, h11, hm⟩ := bindE hm
    refine wcall is_45 hs rfl rfl (spec_nuIf_any y8 _  h11) ?_; rintro a _ w hs ⟨rfl, hX⟩
    have hM : Mem W w [] := hM.call hX
    refine wl hs (y_extract hs rfl rfl) rfl ?_; intro a hs
    refine wl hs (y_extract hs rfl rfl) rfl ?_; intro a hs
    refine wl hs (y_assign hs rfl) rfl ?_; intro a hs
    refine wl hs (y_assign hs rfl) rfl ?_; intro a hs
    refine wpList_nil ?_
    refine x_nt ?_
    refine wp_ret ?_
    have hm : some (y10.1, y10.2) = some r := hm
    obtain rfl := Option.some.inj hm
    refine x_ret2 rfl hs rfl rfl ⟨_, rfl, ?_⟩
    exact ⟨rfl, hM⟩

theorem impl_CostOfAssignment_any (v_p0 : Value) (p0 : List (List Int)) (v_p1 : Value) (p1 : List Int) (W : World) (hr_p0 : RdM W v_p0 p0) (hr_p1 : RdI W v_p1 p1) {r : Int × Bool} (hm : impl_CostOfAssignment_m p0 p1 = some r) : Calls Try.prog 17 [v_p0, v_p1].toArray W fun e w => ∃ v, e = .returned v ∧ v = .tuple #[.int .i64 r.1, .bool r.2] ∧ Mem W w [] := by
  refine x_enter Try.func17 rfl Try.ntmps17 rfl ?_
  intro a hs
  have hM := Mem.start W
  unfold impl_CostOfAssignment_m at hm
  refine wp_seq ?_
  refine wp_region_lit ?_
  refine wl hs (y_assign hs rfl) rfl ?_; intro a hs
  refine wl hs (y_assign hs rfl) rfl ?_; intro a hs
  refine wpList_nil ?_
  refine x_nt ?_
  refine wp_seq ?_
  refine wp_seq ?_
  refine wp_region_lit ?_
  refine wl hs (y_move hs rfl) rfl ?_; intro a hs
  obtain ⟨y1, h2, hm⟩ := bindE hm
  refine wcall is_47 hs rfl rfl (impl_isSquare_any v_p0 p0 _ (RdM.below hr_p0 hM.bel) h2) ?_; rintro a _ w hs ⟨rfl, hX⟩
  have hM : Mem W w [] := hM.call hX
  refine wl hs (y_not hs rfl) rfl ?_; intro a hs
  refine wl hs (y_move hs rfl) rfl ?_; intro a hs
  obtain ⟨b3, hb4, hm⟩ := bindE hm
  refine wlguard (N := 27) (L' := [(14, .bool b3), (0, v_p0), (1, v_p1)]) (fun w => Mem W w []) 5 ?_ ?_
  · intro K; rcases Bool.eq_false_or_eq_true (!y1) with hg5 | hg5
    · have hm := condT hg5 hb4
      refine wls hs rfl hg5 rfl ?_; intro a hs
      refine wls hs rfl hg5 rfl ?_; intro a hs
      refine wls hs rfl hg5 rfl ?_; intro a hs
      refine wls hs rfl hg5 rfl ?_; intro a hs
      have hm : some true = some b3 := hm
      cases Option.some.inj hm
      refine wl hs (y_pickT hs rfl hg5 rfl) rfl ?_; intro a hs
      exact K _ _ (hs.sub ⟨rfl, rfl, rfl, trivial⟩) hM
    · have hm := condF hg5 hb4
      refine wlg hs rfl hg5 (y_move hs rfl) rfl ?_; intro a hs
      refine wlg hs rfl hg5 (y_move hs rfl) rfl ?_; intro a hs
      obtain ⟨y6, h7, hm⟩ := bindE hm
      refine wcallg is_48 hs rfl hg5 rfl rfl (impl_isAssignment_any v_p0 p0 v_p1 p1 _ (RdM.below hr_p0 hM.bel) (RdI.below hr_p1 hM.bel) h7) ?_; rintro a _ w hs ⟨rfl, hX⟩
      have hM : Mem W w [] := hM.call hX
      refine wlg hs rfl hg5 (y_not hs rfl) rfl ?_; intro a hs
      have hm : some (!y6) = some b3 := hm
      cases Option.some.inj hm
      refine wl hs (y_pickF hs rfl hg5 rfl) rfl ?_; intro a hs
      exact K _ _ (hs.sub ⟨rfl, rfl, rfl, trivial⟩) hM
  intro a w hs hM
  simp only [List.drop_succ_cons, List.drop_zero]
  refine wl hs (y_move hs rfl) rfl ?_; intro a hs
  obtain ⟨b8, hb9, hm⟩ := bindE hm
  refine wlguard (N := 27) (L' := [(20, .bool b8), (0, v_p0), (1, v_p1)]) (fun w => Mem W w []) 5 ?_ ?_
  · intro K; rcases Bool.eq_false_or_eq_true b3 with hg10 | hg10
    · have hm := condT hg10 hb9
      refine wls hs rfl hg10 rfl ?_; intro a hs
      refine wls hs rfl hg10 rfl ?_; intro a hs
      refine wls hs rfl hg10 rfl ?_; intro a hs
      refine wls hs rfl hg10 rfl ?_; intro a hs
      have hm : some true = some b8 := hm
      cases Option.some.inj hm
      refine wl hs (y_pickT hs rfl hg10 rfl) rfl ?_; intro a hs
      exact K _ _ (hs.sub ⟨rfl, rfl, rfl, trivial⟩) hM
    · have hm := condF hg10 hb9
      refine wlg hs rfl hg10 (y_move hs rfl) rfl ?_; intro a hs
      refine wlg hs rfl hg10 (y_move hs rfl) rfl ?_; intro a hs
      obtain ⟨y11, h12, hm⟩ := bindE hm
      refine wcallg is_49 hs rfl hg10 rfl rfl (impl_costOf_any v_p0 p0 v_p1 p1 _ (RdM.below hr_p0 hM.bel) (RdI.below hr_p1 hM.bel) h12) ?_; rintro a _ w hs ⟨rfl, hX⟩
      have hM : Mem W w [] := hM.call hX
      refine wlg hs rfl hg10 (y_eql hs rfl rfl) rfl ?_; intro a hs
      have hm : some (y11 == 1000000000) = some b8 := hm
      cases Option.some.inj hm
      refine wl hs (y_pickF hs rfl hg10 rfl) rfl ?_; intro a hs
      exact K _ _ (hs.sub ⟨rfl, rfl, rfl, trivial⟩) hM
  intro a w hs hM
  simp only [List.drop_succ_cons, List.drop_zero]
  refine wpList_nil ?_
  refine x_nt ?_
  refine x_cond hs rfl (fun hb => ?_) (fun hb => ?_)
  · replace hm := condT hb hm
    refine wp_seq ?_
    refine wp_region_lit ?_
    refine wl hs (y_assign hs rfl) rfl ?_; intro a hs
    refine wl hs (y_assign hs rfl) rfl ?_; intro a hs
    refine wpList_nil ?_
    refine x_nt ?_
    refine wp_ret ?_
    refine x_rt ?_
    have hm : some (0, false) = some r := hm
    obtain rfl := Option.some.inj hm
    refine x_ret2 rfl hs rfl rfl ⟨_, rfl, ?_⟩
    exact ⟨rfl, hM⟩
  · replace hm := condF hb hm
    refine wp_skip ?_
    refine x_nt ?_
    refine wp_seq ?_
    refine wp_region_lit ?_
    refine wl hs (y_move hs rfl) rfl ?_; intro a hs
    refine wl hs (y_move hs rfl) rfl ?_; intro a hs
    obtain ⟨y13, h14, hm⟩ := bindE hm
    refine wcall is_49 hs rfl rfl (impl_costOf_any v_p0 p0 v_p1 p1 _ (RdM.below hr_p0 hM.bel) (RdI.below hr_p1 hM.bel) h14) ?_; rintro a _ w hs ⟨rfl, hX⟩
    have hM : Mem W w [] := hM.call hX
    obtain ⟨y15, h16, hm⟩ := bindE hm
    refine wcall is_50 hs rfl rfl (impl_told_any y13 _  h16) ?_; rintro a _ w hs ⟨rfl, hX⟩
    have hM : Mem W w [] := hM.call hX
    refine wl hs (y_extract hs rfl rfl) rfl ?_; intro a hs
    refine wl hs (y_extract hs rfl rfl) rfl ?_; intro a hs
    refine wl hs (y_assign hs rfl) rfl ?_; intro a hs
    refine wl hs (y_assign hs rfl) rfl ?_; intro a hs
    refine wpList_nil ?_
    refine x_nt ?_
    refine wp_ret ?_
    have hm : some (y15.1, y15.2) = some r := hm
    obtain rfl := Option.some.inj hm
    refine x_ret2 rfl hs rfl rfl ⟨_, rfl, ?_⟩
    exact ⟨rfl, hM⟩

theorem spec_IsProvedBest_any (v_p0 : Value) (p0 : List (List Int)) (v_p1 : Value) (p1 : List Int) (v_p2 : Value) (p2 : List Int) (v_p3 : Value) (p3 : List Int) (W : World) (hr_p0 : RdM W v_p0 p0) (hr_p1 : RdI W v_p1 p1) (hr_p2 : RdI W v_p2 p2) (hr_p3 : RdI W v_p3 p3) {r : Bool × Bool} (hm : spec_IsProvedBest_m p0 p1 p2 p3 = some r) : Calls Try.prog 20 [v_p0, v_p1, v_p2, v_p3].toArray W fun e w => ∃ v, e = .returned v ∧ v = .tuple #[.bool r.1, .bool r.2] ∧ Mem W w [] := by
  refine x_enter Try.func20 rfl Try.ntmps20 rfl ?_
  intro a hs
  have hM := Mem.start W
  unfold spec_IsProvedBest_m at hm
  refine wp_seq ?_
  refine wp_region_lit ?_
  refine wl hs (y_assign hs rfl) rfl ?_; intro a hs
  refine wl hs (y_assign hs rfl) rfl ?_; intro a hs
  refine wpList_nil ?_
  refine x_nt ?_
  refine wp_seq ?_
  refine wp_seq ?_
  refine wp_region_lit ?_
  refine wl hs (y_move hs rfl) rfl ?_; intro a hs
  refine wl hs (y_move hs rfl) rfl ?_; intro a hs
  refine wl hs (y_move hs rfl) rfl ?_; intro a hs
  obtain ⟨y1, h2, hm⟩ := bindE hm
  refine wcall is_51 hs rfl rfl (spec_asNumbers_any v_p0 p0 v_p2 p2 v_p3 p3 _ (RdM.below hr_p0 hM.bel) (RdI.below hr_p2 hM.bel) (RdI.below hr_p3 hM.bel) h2) ?_; rintro a _ w hs ⟨rfl, hX⟩
  have hM : Mem W w [] := hM.call hX
  refine wl hs (y_not hs rfl) rfl ?_; intro a hs
  refine wl hs (y_move hs rfl) rfl ?_; intro a hs
  obtain ⟨b3, hb4, hm⟩ := bindE hm
  refine wlguard (N := 36) (L' := [(20, .bool b3), (0, v_p0), (1, v_p1), (2, v_p2), (3, v_p3)]) (fun w => Mem W w []) 5 ?_ ?_
  · intro K; rcases Bool.eq_false_or_eq_true (!y1) with hg5 | hg5
    · have hm := condT hg5 hb4
      refine wls hs rfl hg5 rfl ?_; intro a hs
      refine wls hs rfl hg5 rfl ?_; intro a hs
      refine wls hs rfl hg5 rfl ?_; intro a hs
      refine wls hs rfl hg5 rfl ?_; intro a hs
      have hm : some true = some b3 := hm
      cases Option.some.inj hm
      refine wl hs (y_pickT hs rfl hg5 rfl) rfl ?_; intro a hs
      exact K _ _ (hs.sub ⟨rfl, rfl, rfl, rfl, rfl, trivial⟩) hM
    · have hm := condF hg5 hb4
      refine wlg hs rfl hg5 (y_move hs rfl) rfl ?_; intro a hs
      refine wlg hs rfl hg5 (y_move hs rfl) rfl ?_; intro a hs
      obtain ⟨y6, h7, hm⟩ := bindE hm
      refine wcallg is_44 hs rfl hg5 rfl rfl (spec_asGood_any v_p0 p0 v_p1 p1 _ (RdM.below hr_p0 hM.bel) (RdI.below hr_p1 hM.bel) h7) ?_; rintro a _ w hs ⟨rfl, hX⟩
      have hM : Mem W w [] := hM.call hX
      refine wlg hs rfl hg5 (y_not hs rfl) rfl ?_; intro a hs
      have hm : some (!y6) = some b3 := hm
      cases Option.some.inj hm
      refine wl hs (y_pickF hs rfl hg5 rfl) rfl ?_; intro a hs
      exact K _ _ (hs.sub ⟨rfl, rfl, rfl, rfl, rfl, trivial⟩) hM
  intro a w hs hM
  simp only [List.drop_succ_cons, List.drop_zero]
  refine wpList_nil ?_
  refine x_nt ?_
  refine x_cond hs rfl (fun hb => ?_) (fun hb => ?_)
  · replace hm := condT hb hm
    refine wp_seq ?_
    refine wp_region_lit ?_
    refine wl hs (y_assign hs rfl) rfl ?_; intro a hs
    refine wl hs (y_assign hs rfl) rfl ?_; intro a hs
    refine wpList_nil ?_
    refine x_nt ?_
    refine wp_ret ?_
    refine x_rt ?_
    have hm : some (false, false) = some r := hm
    obtain rfl := Option.some.inj hm
    refine x_ret2 rfl hs rfl rfl ⟨_, rfl, ?_⟩
    exact ⟨rfl, hM⟩
  · replace hm := condF hb hm
    refine wp_skip ?_
    refine x_nt ?_
    refine wp_seq ?_
    refine wp_region_lit ?_
    refine wl hs (y_move hs rfl) rfl ?_; intro a hs
    refine wl hs (y_move hs rfl) rfl ?_; intro a hs
    refine wl hs (y_move hs rfl) rfl ?_; intro a hs
    obtain ⟨y8, h9, hm⟩ := bindE hm
    refine wcall is_52 hs rfl rfl (spec_asPrices_any v_p0 p0 v_p2 p2 v_p3 p3 _ (RdM.below hr_p0 hM.bel) (RdI.below hr_p2 hM.bel) (RdI.below hr_p3 hM.bel) h9) ?_; rintro a _ w hs ⟨rfl, hX⟩
    have hM : Mem W w [] := hM.call hX
    refine wl hs (y_move hs rfl) rfl ?_; intro a hs
    obtain ⟨b10, hb11, hm⟩ := bindE hm
    refine wlguard (N := 36) (L' := [(35, .bool b10)]) (fun w => Mem W w []) 10 ?_ ?_
    · intro K; rcases Bool.eq_false_or_eq_true y8 with hg12 | hg12
      · have hm := condT hg12 hb11
        refine wlg hs rfl hg12 (y_move hs rfl) rfl ?_; intro a hs
        obtain ⟨y13, h14, hm⟩ := bindE hm
        refine wcallg is_53 hs rfl hg12 rfl rfl (spec_chSum_any v_p2 p2 _ (RdI.below hr_p2 hM.bel) h14) ?_; rintro a _ w hs ⟨rfl, hX⟩
        have hM : Mem W w [] := hM.call hX
        refine wlg hs rfl hg12 (y_move hs rfl) rfl ?_; intro a hs
        obtain ⟨y15, h16, hm⟩ := bindE hm
        refine wcallg is_53 hs rfl hg12 rfl rfl (spec_chSum_any v_p3 p3 _ (RdI.below hr_p3 hM.bel) h16) ?_; rintro a _ w hs ⟨rfl, hX⟩
        have hM : Mem W w [] := hM.call hX
        obtain ⟨n17, h18, hm⟩ := bindE hm
        refine wlg hs rfl hg12 (y_add hs rfl rfl h18) rfl ?_; intro a hs
        refine wlg hs rfl hg12 (y_move hs rfl) rfl ?_; intro a hs
        refine wlg hs rfl hg12 (y_move hs rfl) rfl ?_; intro a hs
        obtain ⟨y19, h20, hm⟩ := bindE hm
        refine wcallg is_46 hs rfl hg12 rfl rfl (spec_asCost_any v_p0 p0 v_p1 p1 _ (RdM.below hr_p0 hM.bel) (RdI.below hr_p1 hM.bel) h20) ?_; rintro a _ w hs ⟨rfl, hX⟩
        have hM : Mem W w [] := hM.call hX
        refine wlg hs rfl hg12 (y_eql hs rfl rfl) rfl ?_; intro a hs
        have hm : some (n17 == y19) = some b10 := hm
        cases Option.some.inj hm
        refine wl hs (y_pickT hs rfl hg12 rfl) rfl ?_; intro a hs
        exact K _ _ (hs.sub ⟨rfl, trivial⟩) hM
      · have hm := condF hg12 hb11
        refine wls hs rfl hg12 rfl ?_; intro a hs
        refine wls hs rfl hg12 rfl ?_; intro a hs
        refine wls hs rfl hg12 rfl ?_; intro a hs
        refine wls hs rfl hg12 rfl ?_; intro a hs
        refine wls hs rfl hg12 rfl ?_; intro a hs
        refine wls hs rfl hg12 rfl ?_; intro a hs
        refine wls hs rfl hg12 rfl ?_; intro a hs
        refine wls hs rfl hg12 rfl ?_; intro a hs
        refine wls hs rfl hg12 rfl ?_; intro a hs
        have hm : some false = some b10 := hm
        cases Option.some.inj hm
        refine wl hs (y_pickF hs rfl hg12 rfl) rfl ?_; intro a hs
        exact K _ _ (hs.sub ⟨rfl, trivial⟩) hM
    intro a w hs hM
    simp only [List.drop_succ_cons, List.drop_zero]
    refine wl hs (y_assign hs rfl) rfl ?_; intro a hs
    refine wl hs (y_assign hs rfl) rfl ?_; intro a hs
    refine wpList_nil ?_
    refine x_nt ?_
    refine wp_ret ?_
    have hm : some (b10, true) = some r := hm
    obtain rfl := Option.some.inj hm
    refine x_ret2 rfl hs rfl rfl ⟨_, rfl, ?_⟩
    exact ⟨rfl, hM⟩

theorem impl_IsProvedBest_any (v_p0 : Value) (p0 : List (List Int)) (v_p1 : Value) (p1 : List Int) (v_p2 : Value) (p2 : List Int) (v_p3 : Value) (p3 : List Int) (W : World) (hr_p0 : RdM W v_p0 p0) (hr_p1 : RdI W v_p1 p1) (hr_p2 : RdI W v_p2 p2) (hr_p3 : RdI W v_p3 p3) {r : Bool × Bool} (hm : impl_IsProvedBest_m p0 p1 p2 p3 = some r) : Calls Try.prog 21 [v_p0, v_p1, v_p2, v_p3].toArray W fun e w => ∃ v, e = .returned v ∧ v = .tuple #[.bool r.1, .bool r.2] ∧ Mem W w [] := by
  refine x_enter Try.func21 rfl Try.ntmps21 rfl ?_
  intro a hs
  have hM := Mem.start W
  unfold impl_IsProvedBest_m at hm
  refine wp_seq ?_
  refine wp_region_lit ?_
  refine wl hs (y_assign hs rfl) rfl ?_; intro a hs
  refine wl hs (y_assign hs rfl) rfl ?_; intro a hs
  refine wpList_nil ?_
  refine x_nt ?_
  refine wp_seq ?_
  refine wp_region_lit ?_
  refine wl hs (y_move hs rfl) rfl ?_; intro a hs
  refine wl hs (y_move hs rfl) rfl ?_; intro a hs
  refine wl hs (y_move hs rfl) rfl ?_; intro a hs
  obtain ⟨y1, h2, hm⟩ := bindE hm
  refine wcall is_54 hs rfl rfl (impl_ArePrices_any v_p0 p0 v_p2 p2 v_p3 p3 _ (RdM.below hr_p0 hM.bel) (RdI.below hr_p2 hM.bel) (RdI.below hr_p3 hM.bel) h2) ?_; rintro a _ w hs ⟨rfl, hX⟩
  have hM : Mem W w [] := hM.call hX
  refine wl hs (y_move hs rfl) rfl ?_; intro a hs
  refine wl hs (y_extract hs rfl rfl) rfl ?_; intro a hs
  refine wl hs (y_extract hs rfl rfl) rfl ?_; intro a hs
  refine wl hs (y_assign hs rfl) rfl ?_; intro a hs
  refine wl hs (y_assign hs rfl) rfl ?_; intro a hs
  refine wpList_nil ?_
  refine x_nt ?_
  refine wp_seq ?_
  refine wp_seq ?_
  refine wp_region_lit ?_
  refine wl hs (y_move hs rfl) rfl ?_; intro a hs
  refine wl hs (y_not hs rfl) rfl ?_; intro a hs
  refine wl hs (y_move hs rfl) rfl ?_; intro a hs
  obtain ⟨b3, hb4, hm⟩ := bindE hm
  refine wlguard (N := 45) (L' := [(26, .bool b3), (0, v_p0), (1, v_p1), (2, v_p2), (3, v_p3), (10, .bool y1.1)]) (fun w => Mem W w []) 5 ?_ ?_
  · intro K; rcases Bool.eq_false_or_eq_true (!y1.2) with hg5 | hg5
    · have hm := condT hg5 hb4
      refine wls hs rfl hg5 rfl ?_; intro a hs
      refine wls hs rfl hg5 rfl ?_; intro a hs
      refine wls hs rfl hg5 rfl ?_; intro a hs
      refine wls hs rfl hg5 rfl ?_; intro a hs
      have hm : some true = some b3 := hm
      cases Option.some.inj hm
      refine wl hs (y_pickT hs rfl hg5 rfl) rfl ?_; intro a hs
      exact K _ _ (hs.sub ⟨rfl, rfl, rfl, rfl, rfl, rfl, trivial⟩) hM
    · have hm := condF hg5 hb4
      refine wlg hs rfl hg5 (y_move hs rfl) rfl ?_; intro a hs
      refine wlg hs rfl hg5 (y_move hs rfl) rfl ?_; intro a hs
      obtain ⟨y6, h7, hm⟩ := bindE hm
      refine wcallg is_48 hs rfl hg5 rfl rfl (impl_isAssignment_any v_p0 p0 v_p1 p1 _ (RdM.below hr_p0 hM.bel) (RdI.below hr_p1 hM.bel) h7) ?_; rintro a _ w hs ⟨rfl, hX⟩
      have hM : Mem W w [] := hM.call hX
      refine wlg hs rfl hg5 (y_not hs rfl) rfl ?_; intro a hs
      have hm : some (!y6) = some b3 := hm
      cases Option.some.inj hm
      refine wl hs (y_pickF hs rfl hg5 rfl) rfl ?_; intro a hs
      exact K _ _ (hs.sub ⟨rfl, rfl, rfl, rfl, rfl, rfl, trivial⟩) hM
  intro a w hs hM
  simp only [List.drop_succ_cons, List.drop_zero]
  refine wl hs (y_move hs rfl) rfl ?_; intro a hs
  obtain ⟨b8, hb9, hm⟩ := bindE hm
  refine wlguard (N := 45) (L' := [(32, .bool b8), (0, v_p0), (1, v_p1), (2, v_p2), (3, v_p3), (10, .bool y1.1)]) (fun w => Mem W w []) 5 ?_ ?_
  · intro K; rcases Bool.eq_false_or_eq_true b3 with hg10 | hg10
    · have hm := condT hg10 hb9
      refine wls hs rfl hg10 rfl ?_; intro a hs
      refine wls hs rfl hg10 rfl ?_; intro a hs
      refine wls hs rfl hg10 rfl ?_; intro a hs
      refine wls hs rfl hg10 rfl ?_; intro a hs
      have hm : some true = some b8 := hm
      cases Option.some.inj hm
      refine wl hs (y_pickT hs rfl hg10 rfl) rfl ?_; intro a hs
      exact K _ _ (hs.sub ⟨rfl, rfl, rfl, rfl, rfl, rfl, trivial⟩) hM
    · have hm := condF hg10 hb9
      refine wlg hs rfl hg10 (y_move hs rfl) rfl ?_; intro a hs
      refine wlg hs rfl hg10 (y_move hs rfl) rfl ?_; intro a hs
      obtain ⟨y11, h12, hm⟩ := bindE hm
      refine wcallg is_49 hs rfl hg10 rfl rfl (impl_costOf_any v_p0 p0 v_p1 p1 _ (RdM.below hr_p0 hM.bel) (RdI.below hr_p1 hM.bel) h12) ?_; rintro a _ w hs ⟨rfl, hX⟩
      have hM : Mem W w [] := hM.call hX
      refine wlg hs rfl hg10 (y_eql hs rfl rfl) rfl ?_; intro a hs
      have hm : some (y11 == 1000000000) = some b8 := hm
      cases Option.some.inj hm
      refine wl hs (y_pickF hs rfl hg10 rfl) rfl ?_; intro a hs
      exact K _ _ (hs.sub ⟨rfl, rfl, rfl, rfl, rfl, rfl, trivial⟩) hM
  intro a w hs hM
  simp only [List.drop_succ_cons, List.drop_zero]
  refine wpList_nil ?_
  refine x_nt ?_
  refine x_cond hs rfl (fun hb => ?_) (fun hb => ?_)
  · replace hm := condT hb hm
    refine wp_seq ?_
    refine wp_region_lit ?_
    refine wl hs (y_assign hs rfl) rfl ?_; intro a hs
    refine wl hs (y_assign hs rfl) rfl ?_; intro a hs
    refine wpList_nil ?_
    refine x_nt ?_
    refine wp_ret ?_
    refine x_rt ?_
    have hm : some (false, false) = some r := hm
    obtain rfl := Option.some.inj hm
    refine x_ret2 rfl hs rfl rfl ⟨_, rfl, ?_⟩
    exact ⟨rfl, hM⟩
  · replace hm := condF hb hm
    refine wp_skip ?_
    refine x_nt ?_
    refine wp_seq ?_
    refine wp_region_lit ?_
    refine wl hs (y_move hs rfl) rfl ?_; intro a hs
    refine wl hs (y_move hs rfl) rfl ?_; intro a hs
    obtain ⟨b13, hb14, hm⟩ := bindE hm
    refine wlguard (N := 45) (L' := [(44, .bool b13)]) (fun w => Mem W w []) 10 ?_ ?_
    · intro K; rcases Bool.eq_false_or_eq_true y1.1 with hg15 | hg15
      · have hm := condT hg15 hb14
        refine wlg hs rfl hg15 (y_move hs rfl) rfl ?_; intro a hs
        obtain ⟨y16, h17, hm⟩ := bindE hm
        refine wcallg is_55 hs rfl hg15 rfl rfl (impl_total_any v_p2 p2 _ (RdI.below hr_p2 hM.bel) h17) ?_; rintro a _ w hs ⟨rfl, hX⟩
        have hM : Mem W w [] := hM.call hX
        refine wlg hs rfl hg15 (y_move hs rfl) rfl ?_; intro a hs
        obtain ⟨y18, h19, hm⟩ := bindE hm
        refine wcallg is_55 hs rfl hg15 rfl rfl (impl_total_any v_p3 p3 _ (RdI.below hr_p3 hM.bel) h19) ?_; rintro a _ w hs ⟨rfl, hX⟩
        have hM : Mem W w [] := hM.call hX
        obtain ⟨n20, h21, hm⟩ := bindE hm
        refine wlg hs rfl hg15 (y_add hs rfl rfl h21) rfl ?_; intro a hs
        refine wlg hs rfl hg15 (y_move hs rfl) rfl ?_; intro a hs
        refine wlg hs rfl hg15 (y_move hs rfl) rfl ?_; intro a hs
        obtain ⟨y22, h23, hm⟩ := bindE hm
        refine wcallg is_49 hs rfl hg15 rfl rfl (impl_costOf_any v_p0 p0 v_p1 p1 _ (RdM.below hr_p0 hM.bel) (RdI.below hr_p1 hM.bel) h23) ?_; rintro a _ w hs ⟨rfl, hX⟩
        have hM : Mem W w [] := hM.call hX
        refine wlg hs rfl hg15 (y_eql hs rfl rfl) rfl ?_; intro a hs
        have hm : some (n20 == y22) = some b13 := hm
        cases Option.some.inj hm
        refine wl hs (y_pickT hs rfl hg15 rfl) rfl ?_; intro a hs
        exact K _ _ (hs.sub ⟨rfl, trivial⟩) hM
      · have hm := condF hg15 hb14
        refine wls hs rfl hg15 rfl ?_; intro a hs
        refine wls hs rfl hg15 rfl ?_; intro a hs
        refine wls hs rfl hg15 rfl ?_; intro a hs
        refine wls hs rfl hg15 rfl ?_; intro a hs
        refine wls hs rfl hg15 rfl ?_; intro a hs
        refine wls hs rfl hg15 rfl ?_; intro a hs
        refine wls hs rfl hg15 rfl ?_; intro a hs
        refine wls hs rfl hg15 rfl ?_; intro a hs
        refine wls hs rfl hg15 rfl ?_; intro a hs
        have hm : some false = some b13 := hm
        cases Option.some.inj hm
        refine wl hs (y_pickF hs rfl hg15 rfl) rfl ?_; intro a hs
        exact K _ _ (hs.sub ⟨rfl, trivial⟩) hM
    intro a w hs hM
    simp only [List.drop_succ_cons, List.drop_zero]
    refine wl hs (y_assign hs rfl) rfl ?_; intro a hs
    refine wl hs (y_assign hs rfl) rfl ?_; intro a hs
    refine wpList_nil ?_
    refine x_nt ?_
    refine wp_ret ?_
    have hm : some (b13, true) = some r := hm
    obtain rfl := Option.some.inj hm
    refine x_ret2 rfl hs rfl rfl ⟨_, rfl, ?_⟩
    exact ⟨rfl, hM⟩

set_option maxHeartbeats 4000000 in
theorem spec_asAll_rec : ∀ (k : Nat) (v_p0 : Value) (p0 : List (List Int)) (v_p1 : Value) (p1 : List Int)  (W w : World) (As : List Atom) (hr_p0 : RdM W v_p0 p0) (hM : Mem W w (aInts 3 v_p1 p1 :: As)) {r : List (List Int)} (hm : spec_asAll_r k p0 p1 = some r), Calls Try.prog 61 [v_p0, v_p1].toArray w fun e w' => ∃ v, e = .returned v ∧ ∃ vs0, Mem W w' (aMat 23 3 v vs0 r :: As) := by
  intro k
  induction k with
  | zero => intro v_p0 p0 v_p1 p1 W w As hr_p0 hM r hm; have hm : none = some r := hm; cases hm
  | succ k ih =>
  intro v_p0 p0 v_p1 p1 W w As hr_p0 hM r hm
  have hm : spec_asAll_b (spec_asAll_r k) p0 p1 = some r := hm
  generalize spec_asAll_r k = rec at hm ih
  refine x_enter Try.func61 rfl Try.ntmps61 rfl ?_
  intro a hs
  unfold spec_asAll_b at hm
  refine wp_seq ?_
  refine wp_region_lit ?_
  refine wl hs (y_assign hs rfl) rfl ?_; intro a hs
  refine wpList_nil ?_
  refine x_nt ?_
  refine wp_seq ?_
  refine wp_seq ?_
  refine wp_region_lit ?_
  refine wl hs (y_move hs rfl) rfl ?_; intro a hs
  refine wl hs (y_len hu_I hs rfl (hM.rdI 0 rfl)) rfl ?_; intro a hs
  refine wl hs (y_move hs rfl) rfl ?_; intro a hs
  refine wl hs (y_len hu_M hs rfl (RdM.below hr_p0 hM.bel)) rfl ?_; intro a hs
  refine wl hs (y_eql hs rfl rfl) rfl ?_; intro a hs
  refine wpList_nil ?_
  refine x_nt ?_
  refine x_cond hs rfl (fun hb => ?_) (fun hb => ?_)
  · replace hm := condT hb hm
    refine wp_seq ?_
    refine wp_region_lit ?_
    refine wl hs (y_move hs rfl) rfl ?_; intro a hs
    refine wmem hs (x_new1M hu_M he_I hs rfl (hM.front 0 rfl)) rfl ?_; intro a v2 w hs hM
    have hM : Mem W w (aMat 23 3 v2 ([v_p1]) ([p1]) :: As) := hM
    refine wl hs (y_assign hs rfl) rfl ?_; intro a hs
    refine wpList_nil ?_
    refine x_nt ?_
    refine wp_ret ?_
    refine x_rt ?_
    have hm : some ([p1]) = some r := hm
    obtain rfl := Option.some.inj hm
    refine x_ret1 rfl hs rfl ⟨_, rfl, ?_⟩
    exact ⟨_, hM⟩
  · replace hm := condF hb hm
    refine wp_skip ?_
    refine x_nt ?_
    refine wp_seq ?_
    refine wp_region_lit ?_
    refine wl hs (y_assign hs rfl) rfl ?_; intro a hs
    have hM := hM.nilM 23 3
    refine wpList_nil ?_
    refine x_nt ?_
    refine wp_seq ?_
    refine wp_seq ?_
    refine wp_region_lit ?_
    refine wl hs (y_move hs rfl) rfl ?_; intro a hs
    refine wl hs (y_move hs rfl) rfl ?_; intro a hs
    refine wl hs (y_len hu_I hs rfl (hM.rdI 1 rfl)) rfl ?_; intro a hs
    obtain ⟨x4, hx5, hm⟩ := bindE hm
    obtain ⟨u7, he6, hr8⟩ := RdM.at_ hr_p0 hx5
    replace he6 := he6.below hM.bel
    refine wl hs (y_index ht_M hs rfl rfl he6) rfl ?_; intro a hs
    refine wl hs (y_load sc_I hs rfl he6.cell) rfl ?_; intro a hs
    refine wl hs (y_len hu_I hs rfl (RdI.below hr8 hM.bel)) rfl ?_; intro a hs
    refine wl hs (y_move hs rfl) rfl ?_; intro a hs
    refine wpList_nil ?_
    refine x_nt ?_
    obtain ⟨s16, hm, hk17⟩ := bindE hm
    refine x_mid (fun a w => ∃ (v13 : Value), ∃ (vs14 : List Value), ∃ (l15 : List (List Int)), l15 = s16 ∧ Fr a 45 [(5, v13)] ∧ Mem W w (aMat 23 3 v13 vs14 l15 :: As)) ?_ ?_
    · refine wp_block ?_
      refine x_loop (fun k a w => ∃ (q18 : List Int) (j9 : Nat) (v10 : Value) (vs11 : List Value) (l12 : List (List Int)) , k = q18.length ∧ Fr a 45 [(0, v_p0), (1, v_p1), (5, v10), (19, u7), (20, .int .i64 (x4.length : Int)), (21, .int .i64 (j9 : Int))] ∧ Mem W w (aMat 23 3 v10 vs11 l12 :: aInts 3 v_p1 p1 :: As) ∧ spec_asAll_l1 p0 p1 rec q18 j9 l12 = some s16 ∧ List.drop j9 x4 = q18) _ ⟨x4, 0, (.slice none 0 0), [], [], rfl, hs.sub ⟨rfl, rfl, rfl, rfl, rfl, rfl, trivial⟩, hM, hm, rfl⟩ ?_
      rintro k a w ⟨q18, j9, v10, vs11, l12, rfl, hs, hM, hm, hj9⟩
      rcases q18 with _ | ⟨x19, q18⟩
      · rewrite [spec_asAll_l1] at hm
        refine wp_seq ?_
        refine wp_region_lit ?_
        refine wl hs (y_lss hs rfl rfl) rfl ?_; intro a hs
        refine wpList_nil ?_
        refine x_nt ?_
        refine wp_seq ?_
        refine x_condF hs rfl (drop_f hj9) ?_
        refine wp_exit ?_
        refine x_et ?_
        refine x_et ?_
        refine x_eb ?_
        have hm : some l12 = some s16 := hm
        exact ⟨v10, vs11, l12, Option.some.inj hm, hs.sub ⟨rfl, trivial⟩, (hM.front 1 rfl).drop⟩
      · rewrite [spec_asAll_l1] at hm
        have hx20 := drop_idx hj9
        have hsj9 := ck_succ hj9 (RdS.len (RdI.below hr8 hM.bel))
        refine wp_seq ?_
        refine wp_region_lit ?_
        refine wl hs (y_lss hs rfl rfl) rfl ?_; intro a hs
        refine wpList_nil ?_
        refine x_nt ?_
        refine wp_seq ?_
        refine x_condT hs rfl (drop_t hj9) ?_
        refine wp_skip ?_
        refine x_nt ?_
        refine wp_seq ?_
        refine wp_block ?_
        refine wp_seq ?_
        refine wp_region_lit ?_
        refine wl hs (y_move hs rfl) rfl ?_; intro a hs
        have he21 := RdI.at_ (RdI.below hr8 hM.bel) hx20
        refine wl hs (y_index ht_I hs rfl rfl he21) rfl ?_; intro a hs
        refine wl hs (y_load sc_int hs rfl he21.cell) rfl ?_; intro a hs
        refine wl hs (y_assign hs rfl) rfl ?_; intro a hs
        refine wl hs (y_assign hs rfl) rfl ?_; intro a hs
        refine wpList_nil ?_
        refine x_nt ?_
        refine wp_seq ?_
        refine wp_region_lit ?_
        refine wl hs (y_move hs rfl) rfl ?_; intro a hs
        refine wl hs (y_neq hs rfl rfl) rfl ?_; intro a hs
        refine wl hs (y_move hs rfl) rfl ?_; intro a hs
        obtain ⟨b22, hb23, hm⟩ := bindE hm
        refine wlguard (N := 45) (L' := [(33, .bool b22), (0, v_p0), (1, v_p1), (5, v10), (6, .int .i64 (j9 : Int)), (19, u7), (20, .int .i64 (x4.length : Int)), (21, .int .i64 (j9 : Int))]) (fun w => Mem W w (aMat 23 3 v10 vs11 l12 :: aInts 3 v_p1 p1 :: As)) 5 ?_ ?_
        · intro K; rcases Bool.eq_false_or_eq_true (x19 != 1000000000) with hg24 | hg24
          · have hm := condT hg24 hb23
            refine wlg hs rfl hg24 (y_move hs rfl) rfl ?_; intro a hs
            refine wlg hs rfl hg24 (y_move hs rfl) rfl ?_; intro a hs
            obtain ⟨y25, h26, hm⟩ := bindE hm
            refine wcallg is_80 hs rfl hg24 rfl rfl (spec_l1Has_any v_p1 p1 (j9 : Int) _ (hM.rdI 1 rfl) h26) ?_; rintro a _ w hs ⟨rfl, hX⟩
            have hM : Mem W w (aMat 23 3 v10 vs11 l12 :: aInts 3 v_p1 p1 :: As) := hM.call hX
            refine wlg hs rfl hg24 (y_not hs rfl) rfl ?_; intro a hs
            have hm : some (!y25) = some b22 := hm
            cases Option.some.inj hm
            refine wl hs (y_pickT hs rfl hg24 rfl) rfl ?_; intro a hs
            exact K _ _ (hs.sub ⟨rfl, rfl, rfl, rfl, rfl, rfl, rfl, rfl, trivial⟩) hM
          · have hm := condF hg24 hb23
            refine wls hs rfl hg24 rfl ?_; intro a hs
            refine wls hs rfl hg24 rfl ?_; intro a hs
            refine wls hs rfl hg24 rfl ?_; intro a hs
            refine wls hs rfl hg24 rfl ?_; intro a hs
            have hm : some false = some b22 := hm
            cases Option.some.inj hm
            refine wl hs (y_pickF hs rfl hg24 rfl) rfl ?_; intro a hs
            exact K _ _ (hs.sub ⟨rfl, rfl, rfl, rfl, rfl, rfl, rfl, rfl, trivial⟩) hM
        intro a w hs hM
        simp only [List.drop_succ_cons, List.drop_zero]
        refine wpList_nil ?_
        refine x_nt ?_
        refine x_cond hs rfl (fun hb => ?_) (fun hb => ?_)
        · replace hm := condT hb hm
          refine wp_region_lit ?_
          refine wl hs (y_move hs rfl) rfl ?_; intro a hs
          refine wl hs (y_move hs rfl) rfl ?_; intro a hs
          refine wl hs (y_move hs rfl) rfl ?_; intro a hs
          obtain ⟨y27, h28, hm⟩ := bindE hm
          refine wcall is_88 hs rfl rfl (spec_l1Own_any v_p1 p1 _ (hM.rdI 1 rfl) h28) ?_; rintro a v29 w hs hX
          have hM : Mem W w (aInts 3 v29 y27 :: aMat 23 3 v10 vs11 l12 :: aInts 3 v_p1 p1 :: As) := hM.call hX
          refine wl hs (y_move hs rfl) rfl ?_; intro a hs
          obtain ⟨l31, h32, hm⟩ := bindE hm
          refine wappI hu_I he_int hs hM rfl rfl h32 rfl rfl rfl ?_; intro a v33 w u34 hs hM
          have hM : Mem W w (aInts 3 v33 l31 :: aMat 23 3 v10 vs11 l12 :: aInts 3 v_p1 p1 :: As) := hM
          obtain ⟨y35, h36, hm⟩ := bindE hm
          refine wcall is_61 hs rfl rfl (ih v_p0 p0 v33 l31 _ _ _ hr_p0 hM h36) ?_; rintro a v37 w hs ⟨vs39, hM⟩
          have hM : Mem W w (aMat 23 3 v37 vs39 y35 :: aMat 23 3 v10 vs11 l12 :: aInts 3 v_p1 p1 :: As) := hM
          obtain ⟨l40, h41, hm⟩ := bindE hm
          refine wmem hs (x_appSM hu_M he_I hs rfl (((hM.front 2 rfl).front 1 rfl).front 2 rfl) h41) rfl ?_; intro a v42 w hs hM
          have hM : Mem W w (aMat 23 3 v42 (vs11 ++ vs39) l40 :: aInts 3 v_p1 p1 :: As) := hM
          refine wl hs (y_assign hs rfl) rfl ?_; intro a hs
          refine wpList_nil ?_
          refine x_nb ?_
          refine x_nt ?_
          refine wp_region_lit ?_
          refine wl hs (y_add hs rfl rfl hsj9) rfl ?_; intro a hs
          refine wl hs (y_move hs rfl) rfl ?_; intro a hs
          refine wpList_nil ?_
          exact ⟨_, by simp, q18, j9 + 1, v42, (vs11 ++ vs39), l40, rfl, hs.sub ⟨rfl, rfl, rfl, rfl, rfl, rfl, trivial⟩, hM, hm, drop_next hj9⟩
        · replace hm := condF hb hm
          refine wp_skip ?_
          refine x_nb ?_
          refine x_nt ?_
          refine wp_region_lit ?_
          refine wl hs (y_add hs rfl rfl hsj9) rfl ?_; intro a hs
          refine wl hs (y_move hs rfl) rfl ?_; intro a hs
          refine wpList_nil ?_
          exact ⟨_, by simp, q18, j9 + 1, v10, vs11, l12, rfl, hs.sub ⟨rfl, rfl, rfl, rfl, rfl, rfl, trivial⟩, hM, hm, drop_next hj9⟩
    rintro a w ⟨v13, vs14, l15, rfl, hs, hM⟩
    have hm := hk17
    refine x_nt ?_
    refine wp_seq ?_
    refine wp_region_lit ?_
    refine wl hs (y_move hs rfl) rfl ?_; intro a hs
    refine wl hs (y_assign hs rfl) rfl ?_; intro a hs
    refine wpList_nil ?_
    refine x_nt ?_
    refine wp_ret ?_
    have hm : some l15 = some r := hm
    obtain rfl := Option.some.inj hm
    refine x_ret1 rfl hs rfl ⟨_, rfl, ?_⟩
    exact ⟨_, hM⟩
theorem spec_asAll_any (v_p0 : Value) (p0 : List (List Int)) (v_p1 : Value) (p1 : List Int)  (W w : World) (As : List Atom) (hr_p0 : RdM W v_p0 p0) (hM : Mem W w (aInts 3 v_p1 p1 :: As)) {r : List (List Int)} (hm : spec_asAll_m p0 p1 = some r) : Calls Try.prog 61 [v_p0, v_p1].toArray w fun e w' => ∃ v, e = .returned v ∧ ∃ vs0, Mem W w' (aMat 23 3 v vs0 r :: As) := spec_asAll_rec 64 v_p0 p0 v_p1 p1 W w As hr_p0 hM hm

set_option maxHeartbeats 4000000 in
theorem spec_asBest_any (v_p0 : Value) (p0 : List (List Int)) (W : World) (hr_p0 : RdM W v_p0 p0) {r : (List (List Int)) × Int} (hm : spec_asBest_m p0 = some r) : Calls Try.prog 57 [v_p0].toArray W fun e w => ∃ v, e = .returned v ∧ ∃ v0, ∃ vs0, v = .tuple #[v0, .int .i64 r.2] ∧ Mem W w [aMat 23 3 v0 vs0 r.1] := by
  refine x_enter Try.func57 rfl Try.ntmps57 rfl ?_
  intro a hs
  have hM := Mem.start W
  unfold spec_asBest_m at hm
  refine wp_seq ?_
  refine wp_region_lit ?_
  refine wl hs (y_assign hs rfl) rfl ?_; intro a hs
  refine wl hs (y_assign hs rfl) rfl ?_; intro a hs
  refine wpList_nil ?_
  refine x_nt ?_
  refine wp_seq ?_
  refine wp_region_lit ?_
  refine wl hs (y_assign hs rfl) rfl ?_; intro a hs
  have hM := hM.nilM 23 3
  refine wpList_nil ?_
  refine x_nt ?_
  refine wp_seq ?_
  refine wp_region_lit ?_
  refine wl hs (y_assign hs rfl) rfl ?_; intro a hs
  refine wpList_nil ?_
  refine x_nt ?_
  refine wp_seq ?_
  refine wp_seq ?_
  refine wp_region_lit ?_
  refine wl hs (y_move hs rfl) rfl ?_; intro a hs
  have hM := hM.nilI 3
  obtain ⟨y3, h4, hm⟩ := bindE hm
  refine wcall is_61 hs rfl rfl (spec_asAll_any v_p0 p0 (.slice none 0 0) ([]) _ _ _ hr_p0 hM h4) ?_; rintro a v5 w hs ⟨vs7, hM⟩
  have hM : Mem W w [aMat 23 3 v5 vs7 y3, aMat 23 3 (.slice none 0 0) ([]) ([])] := hM
  refine wl hs (y_len hu_M hs rfl (hM.rdM 0 rfl)) rfl ?_; intro a hs
  refine wl hs (y_move hs rfl) rfl ?_; intro a hs
  refine wpList_nil ?_
  refine x_nt ?_
  obtain ⟨s19, hm, hk20⟩ := bindE hm
  refine x_mid (fun a w => ∃ (v15 : Value), ∃ (vs16 : List Value), ∃ (l17 : List (List Int)), ∃ (n18 : Int), (l17, n18) = s19 ∧ Fr a 38 [(4, v15), (5, .int .i64 n18)] ∧ Mem W w [aMat 23 3 v15 vs16 l17]) ?_ ?_
  · refine wp_block ?_
    refine x_loop (fun k a w => ∃ (q21 : List (List Int)) (j8 : Nat) (o9 : Nat → Bool) (v11 : Value) (vs12 : List Value) (l13 : List (List Int)) (n14 : Int) , k = q21.length ∧ (∀ k, j8 ≤ k → o9 k = false) ∧ Fr a 38 [(0, v_p0), (4, v11), (5, .int .i64 n14), (10, v5), (11, .int .i64 (y3.length : Int)), (12, .int .i64 (j8 : Int))] ∧ Mem W w [aMatO 23 3 v5 vs7 y3 o9, aMat 23 3 v11 vs12 l13] ∧ spec_asBest_l1 p0 q21 j8 l13 n14 = some s19 ∧ List.drop j8 y3 = q21) _ ⟨y3, 0, (fun _ => false), (.slice none 0 0), [], [], 0, rfl, (fun _ _ => rfl), hs.sub ⟨rfl, rfl, rfl, rfl, rfl, rfl, trivial⟩, hM, hm, rfl⟩ ?_
    rintro k a w ⟨q21, j8, o9, v11, vs12, l13, n14, rfl, ho10, hs, hM, hm, hj8⟩
    rcases q21 with _ | ⟨x22, q21⟩
    · rewrite [spec_asBest_l1] at hm
      refine wp_seq ?_
      refine wp_region_lit ?_
      refine wl hs (y_lss hs rfl rfl) rfl ?_; intro a hs
      refine wpList_nil ?_
      refine x_nt ?_
      refine wp_seq ?_
      refine x_condF hs rfl (drop_f hj8) ?_
      refine wp_exit ?_
      refine x_et ?_
      refine x_et ?_
      refine x_eb ?_
      have hm : some (l13, n14) = some s19 := hm
      exact ⟨v11, vs12, l13, n14, Option.some.inj hm, hs.sub ⟨rfl, rfl, trivial⟩, hM.drop⟩
    · rewrite [spec_asBest_l1] at hm
      have hx23 := drop_idx hj8
      have hsj8 := ck_succ hj8 (RdS.len (hM.rdMO 0 rfl))
      refine wp_seq ?_
      refine wp_region_lit ?_
      refine wl hs (y_lss hs rfl rfl) rfl ?_; intro a hs
      refine wpList_nil ?_
      refine x_nt ?_
      refine wp_seq ?_
      refine x_condT hs rfl (drop_t hj8) ?_
      refine wp_skip ?_
      refine x_nt ?_
      refine wp_seq ?_
      refine wp_block ?_
      refine wp_seq ?_
      refine wp_region_lit ?_
      obtain ⟨u25, hv26, he24⟩ := hM.atM 0 rfl hx23
      refine wl hs (y_index ht_M hs rfl rfl he24) rfl ?_; intro a hs
      refine wl hs (y_load sc_I hs rfl he24.cell) rfl ?_; intro a hs
      refine wl hs (y_assign hs rfl) rfl ?_; intro a hs
      refine wpList_nil ?_
      refine x_nt ?_
      refine wp_seq ?_
      refine wp_region_lit ?_
      refine wl hs (y_move hs rfl) rfl ?_; intro a hs
      refine wl hs (y_move hs rfl) rfl ?_; intro a hs
      obtain ⟨y27, h28, hm⟩ := bindE hm
      refine wcall is_46 hs rfl rfl (spec_asCost_any v_p0 p0 u25 x22 _ (RdM.below hr_p0 hM.bel) (hM.rdRow 0 rfl (ho10 _ (by omega)) hv26 (idx_spec hx23).2.2) h28) ?_; rintro a _ w hs ⟨rfl, hX⟩
      have hM : Mem W w [aMatO 23 3 v5 vs7 y3 o9, aMat 23 3 v11 vs12 l13] := hM.call hX
      refine wl hs (y_assign hs rfl) rfl ?_; intro a hs
      refine wpList_nil ?_
      refine x_nt ?_
      refine wp_seq ?_
      refine wp_seq ?_
      refine wp_region_lit ?_
      refine wl hs (y_move hs rfl) rfl ?_; intro a hs
      refine wl hs (y_len hu_M hs rfl (hM.rdM 1 rfl)) rfl ?_; intro a hs
      refine wl hs (y_eql hs rfl rfl) rfl ?_; intro a hs
      refine wl hs (y_move hs rfl) rfl ?_; intro a hs
      obtain ⟨b29, hb30, hm⟩ := bindE hm
      refine wlguard (N := 38) (L' := [(26, .bool b29), (0, v_p0), (4, v11), (5, .int .i64 n14), (7, u25), (8, .int .i64 y27), (10, v5), (11, .int .i64 (y3.length : Int)), (12, .int .i64 (j8 : Int))]) (fun w => Mem W w [aMatO 23 3 v5 vs7 y3 o9, aMat 23 3 v11 vs12 l13]) 4 ?_ ?_
      · intro K; rcases Bool.eq_false_or_eq_true ((l13.length : Int) == 0) with hg31 | hg31
        · have hm := condT hg31 hb30
          refine wls hs rfl hg31 rfl ?_; intro a hs
          refine wls hs rfl hg31 rfl ?_; intro a hs
          refine wls hs rfl hg31 rfl ?_; intro a hs
          have hm : some true = some b29 := hm
          cases Option.some.inj hm
          refine wl hs (y_pickT hs rfl hg31 rfl) rfl ?_; intro a hs
          exact K _ _ (hs.sub ⟨rfl, rfl, rfl, rfl, rfl, rfl, rfl, rfl, rfl, trivial⟩) hM
        · have hm := condF hg31 hb30
          refine wlg hs rfl hg31 (y_move hs rfl) rfl ?_; intro a hs
          refine wlg hs rfl hg31 (y_move hs rfl) rfl ?_; intro a hs
          refine wlg hs rfl hg31 (y_lss hs rfl rfl) rfl ?_; intro a hs
          have hm : some (decide (y27 < n14)) = some b29 := hm
          cases Option.some.inj hm
          refine wl hs (y_pickF hs rfl hg31 rfl) rfl ?_; intro a hs
          exact K _ _ (hs.sub ⟨rfl, rfl, rfl, rfl, rfl, rfl, rfl, rfl, rfl, trivial⟩) hM
      intro a w hs hM
      simp only [List.drop_succ_cons, List.drop_zero]
      refine wpList_nil ?_
      refine x_nt ?_
      obtain ⟨s36, hm, hk37⟩ := bindE hm
      refine x_mid (fun a w => ∃ (v32 : Value), ∃ (vs33 : List Value), ∃ (l34 : List (List Int)), ∃ (n35 : Int), (l34, n35) = s36 ∧ Fr a 38 [(0, v_p0), (4, v32), (5, .int .i64 n35), (7, u25), (8, .int .i64 y27), (10, v5), (11, .int .i64 (y3.length : Int)), (12, .int .i64 (j8 : Int))] ∧ Mem W w [aMat 23 3 v32 vs33 l34, aMatO 23 3 v5 vs7 y3 o9]) ?_ ?_
      · refine x_cond hs rfl (fun hb => ?_) (fun hb => ?_)
        · replace hm := condT hb hm
          refine wp_seq ?_
          refine wp_region_lit ?_
          refine wl hs (y_assign hs rfl) rfl ?_; intro a hs
          have hM := hM.nilM 23 3
          refine wpList_nil ?_
          refine x_nt ?_
          refine wp_region_lit ?_
          refine wl hs (y_move hs rfl) rfl ?_; intro a hs
          refine wl hs (y_assign hs rfl) rfl ?_; intro a hs
          refine wpList_nil ?_
          have hm : some ([], y27) = some s36 := hm
          exact ⟨(.slice none 0 0), [], [], y27, Option.some.inj hm, hs.sub ⟨rfl, rfl, rfl, rfl, rfl, rfl, rfl, rfl, trivial⟩, (hM.keep_ 2)⟩
        · replace hm := condF hb hm
          refine wp_skip ?_
          have hm : some (l13, n14) = some s36 := hm
          exact ⟨v11, vs12, l13, n14, Option.some.inj hm, hs.sub ⟨rfl, rfl, rfl, rfl, rfl, rfl, rfl, rfl, trivial⟩, (hM.front 1 rfl)⟩
      rintro a w ⟨v32, vs33, l34, n35, rfl, hs, hM⟩
      have hm := hk37
      refine x_nt ?_
      refine wp_seq ?_
      refine wp_region_lit ?_
      refine wl hs (y_move hs rfl) rfl ?_; intro a hs
      refine wl hs (y_move hs rfl) rfl ?_; intro a hs
      refine wl hs (y_eql hs rfl rfl) rfl ?_; intro a hs
      refine wpList_nil ?_
      refine x_nt ?_
      refine x_cond hs rfl (fun hb => ?_) (fun hb => ?_)
      · replace hm := condT hb hm
        refine wp_region_lit ?_
        refine wl hs (y_move hs rfl) rfl ?_; intro a hs
        refine wl hs (y_move hs rfl) rfl ?_; intro a hs
        obtain ⟨l39, h40, hm⟩ := bindE hm
        have ho44 := out_take (e := j8 + 1) (i := (j8 : Int)) ho10 rfl (by omega)
        have hM : Mem W w [aInts 3 u25 x22, aMatO 23 3 v5 vs7 y3 (setO o9 ((j8 : Int)).toNat), aMat 23 3 v32 vs33 l34] := (hM.front 1 rfl).take (ho10 _ (by omega)) hv26 ((idx_spec hx23).2.2)
        refine wappM hu_M he_I hs (((hM.front 1 rfl).front 1 rfl).front 2 rfl) rfl rfl h40 rfl rfl rfl ?_; intro a v41 w u42 hs hM
        have hM : Mem W w [aMat 23 3 v41 (vs33 ++ [u25]) l39, aMatO 23 3 v5 vs7 y3 (setO o9 ((j8 : Int)).toNat)] := hM
        refine wl hs (y_assign hs rfl) rfl ?_; intro a hs
        refine wpList_nil ?_
        refine x_nb ?_
        refine x_nt ?_
        refine wp_region_lit ?_
        refine wl hs (y_add hs rfl rfl hsj8) rfl ?_; intro a hs
        refine wl hs (y_move hs rfl) rfl ?_; intro a hs
        refine wpList_nil ?_
        exact ⟨_, by simp, q21, j8 + 1, (setO o9 ((j8 : Int)).toNat), v41, (vs33 ++ [u25]), l39, n35, rfl, (fun k hk => ho44 k (by omega)), hs.sub ⟨rfl, rfl, rfl, rfl, rfl, rfl, trivial⟩, (hM.front 1 rfl), hm, drop_next hj8⟩
      · replace hm := condF hb hm
        refine wp_skip ?_
        refine x_nb ?_
        refine x_nt ?_
        refine wp_region_lit ?_
        refine wl hs (y_add hs rfl rfl hsj8) rfl ?_; intro a hs
        refine wl hs (y_move hs rfl) rfl ?_; intro a hs
        refine wpList_nil ?_
        exact ⟨_, by simp, q21, j8 + 1, o9, v32, vs33, l34, n35, rfl, (fun k hk => ho10 k (by omega)), hs.sub ⟨rfl, rfl, rfl, rfl, rfl, rfl, trivial⟩, (hM.front 1 rfl), hm, drop_next hj8⟩
  rintro a w ⟨v15, vs16, l17, n18, rfl, hs, hM⟩
  have hm := hk20
  refine x_nt ?_
  refine wp_seq ?_
  refine wp_region_lit ?_
  refine wl hs (y_move hs rfl) rfl ?_; intro a hs
  refine wl hs (y_move hs rfl) rfl ?_; intro a hs
  refine wl hs (y_assign hs rfl) rfl ?_; intro a hs
  refine wl hs (y_assign hs rfl) rfl ?_; intro a hs
  refine wpList_nil ?_
  refine x_nt ?_
  refine wp_ret ?_
  have hm : some (l17, n18) = some r := hm
  obtain rfl := Option.some.inj hm
  refine x_ret2 rfl hs rfl rfl ⟨_, rfl, ?_⟩
  exact ⟨_, _, rfl, hM⟩

theorem spec_asAsked_any (v_p0 : Value) (p0 : List (List Int)) (W : World) (hr_p0 : RdM W v_p0 p0) {r : Bool} (hm : spec_asAsked_m p0 = some r) : Calls Try.prog 56 [v_p0].toArray W fun e w => ∃ v, e = .returned v ∧ v = .bool r ∧ Mem W w [] := by
  refine x_enter Try.func56 rfl Try.ntmps56 rfl ?_
  intro a hs
  have hM := Mem.start W
  unfold spec_asAsked_m at hm
  refine wp_seq ?_
  refine wp_region_lit ?_
  refine wl hs (y_assign hs rfl) rfl ?_; intro a hs
  refine wpList_nil ?_
  refine x_nt ?_
  refine wp_seq ?_
  refine wp_region_lit ?_
  refine wl hs (y_move hs rfl) rfl ?_; intro a hs
  obtain ⟨y1, h2, hm⟩ := bindE hm
  refine wcall is_43 hs rfl rfl (spec_mxSquare_any v_p0 p0 _ (RdM.below hr_p0 hM.bel) h2) ?_; rintro a _ w hs ⟨rfl, hX⟩
  have hM : Mem W w [] := hM.call hX
  refine wl hs (y_move hs rfl) rfl ?_; intro a hs
  obtain ⟨b3, hb4, hm⟩ := bindE hm
  refine wlguard (N := 11) (L' := [(10, .bool b3), (2, .bool false)]) (fun w => Mem W w []) 5 ?_ ?_
  · intro K; rcases Bool.eq_false_or_eq_true y1 with hg5 | hg5
    · have hm := condT hg5 hb4
      refine wlg hs rfl hg5 (y_move hs rfl) rfl ?_; intro a hs
      have hM := hM.nilI 3
      obtain ⟨y7, h8, hm⟩ := bindE hm
      refine wcallg is_61 hs rfl hg5 rfl rfl (spec_asAll_any v_p0 p0 (.slice none 0 0) ([]) _ _ _ hr_p0 hM h8) ?_; rintro a v9 w hs ⟨vs11, hM⟩
      have hM : Mem W w [aMat 23 3 v9 vs11 y7] := hM
      refine wlg hs rfl hg5 (y_len hu_M hs rfl (hM.rdM 0 rfl)) rfl ?_; intro a hs
      refine wlg hs rfl hg5 (y_gtr hs rfl rfl) rfl ?_; intro a hs
      have hm : some (decide ((y7.length : Int) > 0)) = some b3 := hm
      cases Option.some.inj hm
      refine wl hs (y_pickT hs rfl hg5 rfl) rfl ?_; intro a hs
      exact K _ _ (hs.sub ⟨rfl, rfl, trivial⟩) hM.none_
    · have hm := condF hg5 hb4
      refine wls hs rfl hg5 rfl ?_; intro a hs
      refine wls hs rfl hg5 rfl ?_; intro a hs
      refine wls hs rfl hg5 rfl ?_; intro a hs
      refine wls hs rfl hg5 rfl ?_; intro a hs
      have hm : some false = some b3 := hm
      cases Option.some.inj hm
      refine wl hs (y_pickF hs rfl hg5 rfl) rfl ?_; intro a hs
      exact K _ _ (hs.sub ⟨rfl, rfl, trivial⟩) hM
  intro a w hs hM
  simp only [List.drop_succ_cons, List.drop_zero]
  refine wl hs (y_assign hs rfl) rfl ?_; intro a hs
  refine wpList_nil ?_
  refine x_nt ?_
  refine wp_ret ?_
  have hm : some b3 = some r := hm
  obtain rfl := Option.some.inj hm
  refine x_ret1 rfl hs rfl ⟨_, rfl, ?_⟩
  exact ⟨rfl, hM⟩

theorem spec_BestAssignment_any (v_p0 : Value) (p0 : List (List Int)) (W : World) (hr_p0 : RdM W v_p0 p0) {r : (List Int) × Int × Bool} (hm : spec_BestAssignment_m p0 = some r) : Calls Try.prog 26 [v_p0].toArray W fun e w => ∃ v, e = .returned v ∧ ∃ v0, v = .tuple #[v0, .int .i64 r.2.1, .bool r.2.2] ∧ Mem W w [aInts 3 v0 r.1] := by
  refine x_enter Try.func26 rfl Try.ntmps26 rfl ?_
  intro a hs
  have hM := Mem.start W
  unfold spec_BestAssignment_m at hm
  refine wp_seq ?_
  refine wp_region_lit ?_
  refine wl hs (y_assign hs rfl) rfl ?_; intro a hs
  refine wl hs (y_assign hs rfl) rfl ?_; intro a hs
  refine wl hs (y_assign hs rfl) rfl ?_; intro a hs
  refine wpList_nil ?_
  refine x_nt ?_
  refine wp_seq ?_
  refine wp_seq ?_
  refine wp_region_lit ?_
  refine wl hs (y_move hs rfl) rfl ?_; intro a hs
  obtain ⟨y1, h2, hm⟩ := bindE hm
  refine wcall is_56 hs rfl rfl (spec_asAsked_any v_p0 p0 _ (RdM.below hr_p0 hM.bel) h2) ?_; rintro a _ w hs ⟨rfl, hX⟩
  have hM : Mem W w [] := hM.call hX
  refine wl hs (y_not hs rfl) rfl ?_; intro a hs
  refine wpList_nil ?_
  refine x_nt ?_
  refine x_cond hs rfl (fun hb => ?_) (fun hb => ?_)
  · replace hm := condT hb hm
    refine wp_seq ?_
    refine wp_region_lit ?_
    refine wl hs (y_assign hs rfl) rfl ?_; intro a hs
    refine wl hs (y_assign hs rfl) rfl ?_; intro a hs
    refine wl hs (y_assign hs rfl) rfl ?_; intro a hs
    refine wpList_nil ?_
    refine x_nt ?_
    refine wp_ret ?_
    refine x_rt ?_
    have hm : some ([], 0, false) = some r := hm
    obtain rfl := Option.some.inj hm
    refine x_ret3 rfl hs rfl rfl rfl ⟨_, rfl, ?_⟩
    have hM := hM.nilI 3
    exact ⟨_, rfl, hM⟩
  · replace hm := condF hb hm
    refine wp_skip ?_
    refine x_nt ?_
    refine wp_seq ?_
    refine wp_region_lit ?_
    refine wl hs (y_move hs rfl) rfl ?_; intro a hs
    obtain ⟨y4, h5, hm⟩ := bindE hm
    refine wcall is_57 hs rfl rfl (spec_asBest_any v_p0 p0 _ (RdM.below hr_p0 hM.bel) h5) ?_; rintro a _ w hs ⟨v8, vs9, rfl, hX⟩
    have hM : Mem W w [aMat 23 3 v8 vs9 y4.1] := hM.call hX
    refine wl hs (y_move hs rfl) rfl ?_; intro a hs
    refine wl hs (y_extract hs rfl rfl) rfl ?_; intro a hs
    refine wl hs (y_extract hs rfl rfl) rfl ?_; intro a hs
    refine wl hs (y_assign hs rfl) rfl ?_; intro a hs
    refine wl hs (y_assign hs rfl) rfl ?_; intro a hs
    refine wpList_nil ?_
    refine x_nt ?_
    refine wp_seq ?_
    refine wp_seq ?_
    refine wp_region_lit ?_
    refine wl hs (y_move hs rfl) rfl ?_; intro a hs
    obtain ⟨y10, h11, hm⟩ := bindE hm
    refine wcall is_66 hs rfl rfl (spec_nuGood_any y4.2 _  h11) ?_; rintro a _ w hs ⟨rfl, hX⟩
    have hM : Mem W w [aMat 23 3 v8 vs9 y4.1] := hM.call hX
    refine wl hs (y_not hs rfl) rfl ?_; intro a hs
    refine wpList_nil ?_
    refine x_nt ?_
    refine x_cond hs rfl (fun hb => ?_) (fun hb => ?_)
    · replace hm := condT hb hm
      refine wp_seq ?_
      refine wp_region_lit ?_
      refine wl hs (y_assign hs rfl) rfl ?_; intro a hs
      refine wl hs (y_assign hs rfl) rfl ?_; intro a hs
      refine wl hs (y_assign hs rfl) rfl ?_; intro a hs
      refine wpList_nil ?_
      refine x_nt ?_
      refine wp_ret ?_
      refine x_rt ?_
      have hm : some ([], 0, false) = some r := hm
      obtain rfl := Option.some.inj hm
      refine x_ret3 rfl hs rfl rfl rfl ⟨_, rfl, ?_⟩
      have hM := hM.nilI 3
      exact ⟨_, rfl, (hM.keep_ 1)⟩
    · replace hm := condF hb hm
      refine wp_skip ?_
      refine x_nt ?_
      refine wp_seq ?_
      refine wp_region_lit ?_
      refine wl hs (y_move hs rfl) rfl ?_; intro a hs
      obtain ⟨x13, hx14, hm⟩ := bindE hm
      obtain ⟨u16, hv17, he15⟩ := hM.atM 0 rfl hx14
      refine wl hs (y_index ht_M hs rfl rfl he15) rfl ?_; intro a hs
      refine wl hs (y_load sc_I hs rfl he15.cell) rfl ?_; intro a hs
      refine wl hs (y_move hs rfl) rfl ?_; intro a hs
      refine wl hs (y_assign hs rfl) rfl ?_; intro a hs
      refine wl hs (y_assign hs rfl) rfl ?_; intro a hs
      refine wl hs (y_assign hs rfl) rfl ?_; intro a hs
      refine wpList_nil ?_
      refine x_nt ?_
      refine wp_ret ?_
      have hm : some (x13, y4.2, true) = some r := hm
      obtain rfl := Option.some.inj hm
      refine x_ret3 rfl hs rfl rfl rfl ⟨_, rfl, ?_⟩
      have hM : Mem W w [aInts 3 u16 x13] := (hM).rowOut (RowOf.row hv17 ((idx_spec hx14).2.2))
      exact ⟨_, rfl, hM⟩

theorem spec_CountBest_any (v_p0 : Value) (p0 : List (List Int)) (W : World) (hr_p0 : RdM W v_p0 p0) {r : Int × Bool} (hm : spec_CountBest_m p0 = some r) : Calls Try.prog 22 [v_p0].toArray W fun e w => ∃ v, e = .returned v ∧ v = .tuple #[.int .i64 r.1, .bool r.2] ∧ Mem W w [] := by
  refine x_enter Try.func22 rfl Try.ntmps22 rfl ?_
  intro a hs
  have hM := Mem.start W
  unfold spec_CountBest_m at hm
  refine wp_seq ?_
  refine wp_region_lit ?_
  refine wl hs (y_assign hs rfl) rfl ?_; intro a hs
  refine wl hs (y_assign hs rfl) rfl ?_; intro a hs
  refine wpList_nil ?_
  refine x_nt ?_
  refine wp_seq ?_
  refine wp_seq ?_
  refine wp_region_lit ?_
  refine wl hs (y_move hs rfl) rfl ?_; intro a hs
  obtain ⟨y1, h2, hm⟩ := bindE hm
  refine wcall is_56 hs rfl rfl (spec_asAsked_any v_p0 p0 _ (RdM.below hr_p0 hM.bel) h2) ?_; rintro a _ w hs ⟨rfl, hX⟩
  have hM : Mem W w [] := hM.call hX
  refine wl hs (y_not hs rfl) rfl ?_; intro a hs
  refine wpList_nil ?_
  refine x_nt ?_
  refine x_cond hs rfl (fun hb => ?_) (fun hb => ?_)
  · replace hm := condT hb hm
    refine wp_seq ?_
    refine wp_region_lit ?_
    refine wl hs (y_assign hs rfl) rfl ?_; intro a hs
    refine wl hs (y_assign hs rfl) rfl ?_; intro a hs
    refine wpList_nil ?_
    refine x_nt ?_
    refine wp_ret ?_
    refine x_rt ?_
    have hm : some (0, false) = some r := hm
    obtain rfl := Option.some.inj hm
    refine x_ret2 rfl hs rfl rfl ⟨_, rfl, ?_⟩
    exact ⟨rfl, hM⟩
  · replace hm := condF hb hm
    refine wp_skip ?_
    refine x_nt ?_
    refine wp_seq ?_
    refine wp_region_lit ?_
    refine wl hs (y_move hs rfl) rfl ?_; intro a hs
    obtain ⟨y3, h4, hm⟩ := bindE hm
    refine wcall is_57 hs rfl rfl (spec_asBest_any v_p0 p0 _ (RdM.below hr_p0 hM.bel) h4) ?_; rintro a _ w hs ⟨v7, vs8, rfl, hX⟩
    have hM : Mem W w [aMat 23 3 v7 vs8 y3.1] := hM.call hX
    refine wl hs (y_move hs rfl) rfl ?_; intro a hs
    refine wl hs (y_extract hs rfl rfl) rfl ?_; intro a hs
    refine wl hs (y_extract hs rfl rfl) rfl ?_; intro a hs
    refine wl hs (y_assign hs rfl) rfl ?_; intro a hs
    refine wl hs (y_assign hs rfl) rfl ?_; intro a hs
    refine wpList_nil ?_
    refine x_nt ?_
    refine wp_seq ?_
    refine wp_region_lit ?_
    refine wl hs (y_move hs rfl) rfl ?_; intro a hs
    refine wl hs (y_len hu_M hs rfl (hM.rdM 0 rfl)) rfl ?_; intro a hs
    refine wl hs (y_assign hs rfl) rfl ?_; intro a hs
    refine wl hs (y_assign hs rfl) rfl ?_; intro a hs
    refine wpList_nil ?_
    refine x_nt ?_
    refine wp_ret ?_
    have hm : some ((y3.1.length : Int), true) = some r := hm
    obtain rfl := Option.some.inj hm
    refine x_ret2 rfl hs rfl rfl ⟨_, rfl, ?_⟩
    exact ⟨rfl, hM.none_⟩

end Go.Proofs.Ytnnhbkhlipekeaa
