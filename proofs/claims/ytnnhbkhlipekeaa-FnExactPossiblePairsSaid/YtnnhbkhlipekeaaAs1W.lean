/- The code of this unit computes what its mirrors say. Written by program (wip/gen). -/
import Derived.Test.YtnnhbkhlipekeaaFacts
import Derived.Test.YtnnhbkhlipekeaaAs1M
import Derived.Test.YtnnhbkhlipekeaaNumW
import Derived.Test.YtnnhbkhlipekeaaMatW
namespace Go.Proofs.Ytnnhbkhlipekeaa
open Go.RowKit
set_option linter.unusedVariables false

theorem spec_asNumbers_any (v_p0 : Value) (p0 : List (List Int)) (v_p1 : Value) (p1 : List Int) (v_p2 : Value) (p2 : List Int) (W : World) (hr_p0 : RdM W v_p0 p0) (hr_p1 : RdI W v_p1 p1) (hr_p2 : RdI W v_p2 p2) {r : Bool} (hm : spec_asNumbers_m p0 p1 p2 = some r) : Calls Try.prog 51 [v_p0, v_p1, v_p2].toArray W fun e w => ∃ v, e = .returned v ∧ v = .bool r ∧ Mem W w [] := by
  refine x_enter Try.func51 rfl Try.ntmps51 rfl ?_
  intro a hs
  have hM := Mem.start W
  unfold spec_asNumbers_m at hm
  refine wp_seq ?_
  refine wp_region_lit ?_
  refine wl hs (y_assign hs rfl) rfl ?_; intro a hs
  refine wpList_nil ?_
  refine x_nt ?_
  refine wp_seq ?_
  refine wp_region_lit ?_
  refine wl hs (y_move hs rfl) rfl ?_; intro a hs
  obtain ⟨y1, h2, hm⟩ := bindE hm
  refine wcall is_43 hs rfl rfl (spec_mxSquare_any v_p0 p0 _ (RdM.below hr_p0 hM.bel) h2) ?_; rintro a _ w hs ⟨rfl, hX⟩
  have hM : Mem W w [] := hM.call hX
  refine wl hs (y_move hs rfl) rfl ?_; intro a hs
  obtain ⟨b3, hb4, hm⟩ := bindE hm
  refine wlguard (N := 31) (L' := [(15, .bool b3), (0, v_p0), (1, v_p1), (2, v_p2), (6, .bool false)]) (fun w => Mem W w []) 6 ?_ ?_
  · intro K; rcases Bool.eq_false_or_eq_true y1 with hg5 | hg5
    · have hm := condT hg5 hb4
      refine wlg hs rfl hg5 (y_move hs rfl) rfl ?_; intro a hs
      refine wlg hs rfl hg5 (y_len hu_I hs rfl (RdI.below hr_p1 hM.bel)) rfl ?_; intro a hs
      refine wlg hs rfl hg5 (y_move hs rfl) rfl ?_; intro a hs
      refine wlg hs rfl hg5 (y_len hu_M hs rfl (RdM.below hr_p0 hM.bel)) rfl ?_; intro a hs
      refine wlg hs rfl hg5 (y_eql hs rfl rfl) rfl ?_; intro a hs
      have hm : some ((p1.length : Int) == (p0.length : Int)) = some b3 := hm
      cases Option.some.inj hm
      refine wl hs (y_pickT hs rfl hg5 rfl) rfl ?_; intro a hs
      exact K _ _ (hs.sub ⟨rfl, rfl, rfl, rfl, rfl, trivial⟩) hM
    · have hm := condF hg5 hb4
      refine wls hs rfl hg5 rfl ?_; intro a hs
      refine wls hs rfl hg5 rfl ?_; intro a hs
      refine wls hs rfl hg5 rfl ?_; intro a hs
      refine wls hs rfl hg5 rfl ?_; intro a hs
      refine wls hs rfl hg5 rfl ?_; intro a hs
      have hm : some false = some b3 := hm
      cases Option.some.inj hm
      refine wl hs (y_pickF hs rfl hg5 rfl) rfl ?_; intro a hs
      exact K _ _ (hs.sub ⟨rfl, rfl, rfl, rfl, rfl, trivial⟩) hM
  intro a w hs hM
  simp only [List.drop_succ_cons, List.drop_zero]
  refine wl hs (y_move hs rfl) rfl ?_; intro a hs
  obtain ⟨b6, hb7, hm⟩ := bindE hm
  refine wlguard (N := 31) (L' := [(22, .bool b6), (1, v_p1), (2, v_p2), (6, .bool false)]) (fun w => Mem W w []) 6 ?_ ?_
  · intro K; rcases Bool.eq_false_or_eq_true b3 with hg8 | hg8
    · have hm := condT hg8 hb7
      refine wlg hs rfl hg8 (y_move hs rfl) rfl ?_; intro a hs
      refine wlg hs rfl hg8 (y_len hu_I hs rfl (RdI.below hr_p2 hM.bel)) rfl ?_; intro a hs
      refine wlg hs rfl hg8 (y_move hs rfl) rfl ?_; intro a hs
      refine wlg hs rfl hg8 (y_len hu_M hs rfl (RdM.below hr_p0 hM.bel)) rfl ?_; intro a hs
      refine wlg hs rfl hg8 (y_eql hs rfl rfl) rfl ?_; intro a hs
      have hm : some ((p2.length : Int) == (p0.length : Int)) = some b6 := hm
      cases Option.some.inj hm
      refine wl hs (y_pickT hs rfl hg8 rfl) rfl ?_; intro a hs
      exact K _ _ (hs.sub ⟨rfl, rfl, rfl, rfl, trivial⟩) hM
    · have hm := condF hg8 hb7
      refine wls hs rfl hg8 rfl ?_; intro a hs
      refine wls hs rfl hg8 rfl ?_; intro a hs
      refine wls hs rfl hg8 rfl ?_; intro a hs
      refine wls hs rfl hg8 rfl ?_; intro a hs
      refine wls hs rfl hg8 rfl ?_; intro a hs
      have hm : some false = some b6 := hm
      cases Option.some.inj hm
      refine wl hs (y_pickF hs rfl hg8 rfl) rfl ?_; intro a hs
      exact K _ _ (hs.sub ⟨rfl, rfl, rfl, rfl, trivial⟩) hM
  intro a w hs hM
  simp only [List.drop_succ_cons, List.drop_zero]
  refine wl hs (y_move hs rfl) rfl ?_; intro a hs
  obtain ⟨b9, hb10, hm⟩ := bindE hm
  refine wlguard (N := 31) (L' := [(26, .bool b9), (2, v_p2), (6, .bool false)]) (fun w => Mem W w []) 3 ?_ ?_
  · intro K; rcases Bool.eq_false_or_eq_true b6 with hg11 | hg11
    · have hm := condT hg11 hb10
      refine wlg hs rfl hg11 (y_move hs rfl) rfl ?_; intro a hs
      obtain ⟨y12, h13, hm⟩ := bindE hm
      refine wcallg is_76 hs rfl hg11 rfl rfl (spec_l1All_any v_p1 p1 (-1000000) 1000000 _ (RdI.below hr_p1 hM.bel) h13) ?_; rintro a _ w hs ⟨rfl, hX⟩
      have hM : Mem W w [] := hM.call hX
      have hm : some y12 = some b9 := hm
      cases Option.some.inj hm
      refine wl hs (y_pickT hs rfl hg11 rfl) rfl ?_; intro a hs
      exact K _ _ (hs.sub ⟨rfl, rfl, rfl, trivial⟩) hM
    · have hm := condF hg11 hb10
      refine wls hs rfl hg11 rfl ?_; intro a hs
      refine wls hs rfl hg11 rfl ?_; intro a hs
      have hm : some false = some b9 := hm
      cases Option.some.inj hm
      refine wl hs (y_pickF hs rfl hg11 rfl) rfl ?_; intro a hs
      exact K _ _ (hs.sub ⟨rfl, rfl, rfl, trivial⟩) hM
  intro a w hs hM
  simp only [List.drop_succ_cons, List.drop_zero]
  refine wl hs (y_move hs rfl) rfl ?_; intro a hs
  obtain ⟨b14, hb15, hm⟩ := bindE hm
  refine wlguard (N := 31) (L' := [(30, .bool b14), (6, .bool false)]) (fun w => Mem W w []) 3 ?_ ?_
  · intro K; rcases Bool.eq_false_or_eq_true b9 with hg16 | hg16
    · have hm := condT hg16 hb15
      refine wlg hs rfl hg16 (y_move hs rfl) rfl ?_; intro a hs
      obtain ⟨y17, h18, hm⟩ := bindE hm
      refine wcallg is_76 hs rfl hg16 rfl rfl (spec_l1All_any v_p2 p2 (-1000000) 1000000 _ (RdI.below hr_p2 hM.bel) h18) ?_; rintro a _ w hs ⟨rfl, hX⟩
      have hM : Mem W w [] := hM.call hX
      have hm : some y17 = some b14 := hm
      cases Option.some.inj hm
      refine wl hs (y_pickT hs rfl hg16 rfl) rfl ?_; intro a hs
      exact K _ _ (hs.sub ⟨rfl, rfl, trivial⟩) hM
    · have hm := condF hg16 hb15
      refine wls hs rfl hg16 rfl ?_; intro a hs
      refine wls hs rfl hg16 rfl ?_; intro a hs
      have hm : some false = some b14 := hm
      cases Option.some.inj hm
      refine wl hs (y_pickF hs rfl hg16 rfl) rfl ?_; intro a hs
      exact K _ _ (hs.sub ⟨rfl, rfl, trivial⟩) hM
  intro a w hs hM
  simp only [List.drop_succ_cons, List.drop_zero]
  refine wl hs (y_assign hs rfl) rfl ?_; intro a hs
  refine wpList_nil ?_
  refine x_nt ?_
  refine wp_ret ?_
  have hm : some b14 = some r := hm
  obtain rfl := Option.some.inj hm
  refine x_ret1 rfl hs rfl ⟨_, rfl, ?_⟩
  exact ⟨rfl, hM⟩

set_option maxHeartbeats 4000000 in
theorem spec_asPrices_any (v_p0 : Value) (p0 : List (List Int)) (v_p1 : Value) (p1 : List Int) (v_p2 : Value) (p2 : List Int) (W : World) (hr_p0 : RdM W v_p0 p0) (hr_p1 : RdI W v_p1 p1) (hr_p2 : RdI W v_p2 p2) {r : Bool} (hm : spec_asPrices_m p0 p1 p2 = some r) : Calls Try.prog 52 [v_p0, v_p1, v_p2].toArray W fun e w => ∃ v, e = .returned v ∧ v = .bool r ∧ Mem W w [] := by
  refine x_enter Try.func52 rfl Try.ntmps52 rfl ?_
  intro a hs
  have hM := Mem.start W
  unfold spec_asPrices_m at hm
  refine wp_seq ?_
  refine wp_region_lit ?_
  refine wl hs (y_assign hs rfl) rfl ?_; intro a hs
  refine wpList_nil ?_
  refine x_nt ?_
  refine wp_seq ?_
  refine wp_seq ?_
  refine wp_region_lit ?_
  refine wl hs (y_move hs rfl) rfl ?_; intro a hs
  refine wl hs (y_len hu_M hs rfl (RdM.below hr_p0 hM.bel)) rfl ?_; intro a hs
  refine wl hs (y_move hs rfl) rfl ?_; intro a hs
  refine wpList_nil ?_
  refine x_nt ?_
  obtain ⟨s2, hm, hk3⟩ := bindE hm
  refine x_mid (fun a w => Sum.inr () = s2 ∧ Fr a 38 [] ∧ Mem W w []) ?_ ?_
  · refine wp_block ?_
    refine x_loop (fun k a w => ∃ (q4 : List (List Int)) (j1 : Nat) , k = q4.length ∧ Fr a 38 [(1, v_p1), (2, v_p2), (11, v_p0), (12, .int .i64 (p0.length : Int)), (13, .int .i64 (j1 : Int))] ∧ Mem W w [] ∧ spec_asPrices_l1 p1 p2 q4 j1 = some s2 ∧ List.drop j1 p0 = q4) _ ⟨p0, 0, rfl, hs.sub ⟨rfl, rfl, rfl, rfl, rfl, trivial⟩, hM, hm, rfl⟩ ?_
    rintro k a w ⟨q4, j1, rfl, hs, hM, hm, hj1⟩
    rcases q4 with _ | ⟨x5, q4⟩
    · rewrite [spec_asPrices_l1] at hm
      refine wp_seq ?_
      refine wp_region_lit ?_
      refine wl hs (y_lss hs rfl rfl) rfl ?_; intro a hs
      refine wpList_nil ?_
      refine x_nt ?_
      refine wp_seq ?_
      refine x_condF hs rfl (drop_f hj1) ?_
      refine wp_exit ?_
      refine x_et ?_
      refine x_et ?_
      refine x_eb ?_
      have hm : some (Sum.inr ()) = some s2 := hm
      exact ⟨Option.some.inj hm, hs.sub trivial, hM⟩
    · rewrite [spec_asPrices_l1] at hm
      have hx6 := drop_idx hj1
      have hsj1 := ck_succ hj1 (RdS.len (RdM.below hr_p0 hM.bel))
      refine wp_seq ?_
      refine wp_region_lit ?_
      refine wl hs (y_lss hs rfl rfl) rfl ?_; intro a hs
      refine wpList_nil ?_
      refine x_nt ?_
      refine wp_seq ?_
      refine x_condT hs rfl (drop_t hj1) ?_
      refine wp_skip ?_
      refine x_nt ?_
      refine wp_seq ?_
      refine wp_block ?_
      refine wp_seq ?_
      refine wp_region_lit ?_
      refine wl hs (y_move hs rfl) rfl ?_; intro a hs
      obtain ⟨u8, he7, hr9⟩ := RdM.at_ hr_p0 hx6
      replace he7 := he7.below hM.bel
      refine wl hs (y_index ht_M hs rfl rfl he7) rfl ?_; intro a hs
      refine wl hs (y_load sc_I hs rfl he7.cell) rfl ?_; intro a hs
      refine wl hs (y_assign hs rfl) rfl ?_; intro a hs
      refine wl hs (y_assign hs rfl) rfl ?_; intro a hs
      refine wpList_nil ?_
      refine x_nt ?_
      refine wp_seq ?_
      refine wp_region_lit ?_
      refine wl hs (y_move hs rfl) rfl ?_; intro a hs
      refine wl hs (y_len hu_I hs rfl (RdI.below hr9 hM.bel)) rfl ?_; intro a hs
      refine wl hs (y_move hs rfl) rfl ?_; intro a hs
      refine wpList_nil ?_
      refine x_nt ?_
      obtain ⟨s11, hm, hk12⟩ := bindE hm
      refine x_mid (fun a w => Sum.inr () = s11 ∧ Fr a 38 [(1, v_p1), (2, v_p2), (11, v_p0), (12, .int .i64 (p0.length : Int)), (13, .int .i64 (j1 : Int))] ∧ Mem W w []) ?_ ?_
      · refine wp_block ?_
        refine x_loop (fun k a w => ∃ (q13 : List Int) (j10 : Nat) , k = q13.length ∧ Fr a 38 [(1, v_p1), (2, v_p2), (7, .int .i64 (j1 : Int)), (11, v_p0), (12, .int .i64 (p0.length : Int)), (13, .int .i64 (j1 : Int)), (18, u8), (19, .int .i64 (x5.length : Int)), (20, .int .i64 (j10 : Int))] ∧ Mem W w [] ∧ spec_asPrices_l2 p1 p2 j1 q13 j10 = some s11 ∧ List.drop j10 x5 = q13) _ ⟨x5, 0, rfl, hs.sub ⟨rfl, rfl, rfl, rfl, rfl, rfl, rfl, rfl, rfl, trivial⟩, hM, hm, rfl⟩ ?_
        rintro k a w ⟨q13, j10, rfl, hs, hM, hm, hj10⟩
        rcases q13 with _ | ⟨x14, q13⟩
        · rewrite [spec_asPrices_l2] at hm
          refine wp_seq ?_
          refine wp_region_lit ?_
          refine wl hs (y_lss hs rfl rfl) rfl ?_; intro a hs
          refine wpList_nil ?_
          refine x_nt ?_
          refine wp_seq ?_
          refine x_condF hs rfl (drop_f hj10) ?_
          refine wp_exit ?_
          refine x_et ?_
          refine x_et ?_
          refine x_eb ?_
          have hm : some (Sum.inr ()) = some s11 := hm
          exact ⟨Option.some.inj hm, hs.sub ⟨rfl, rfl, rfl, rfl, rfl, trivial⟩, hM⟩
        · rewrite [spec_asPrices_l2] at hm
          have hx15 := drop_idx hj10
          have hsj10 := ck_succ hj10 (RdS.len (RdI.below hr9 hM.bel))
          refine wp_seq ?_
          refine wp_region_lit ?_
          refine wl hs (y_lss hs rfl rfl) rfl ?_; intro a hs
          refine wpList_nil ?_
          refine x_nt ?_
          refine wp_seq ?_
          refine x_condT hs rfl (drop_t hj10) ?_
          refine wp_skip ?_
          refine x_nt ?_
          refine wp_seq ?_
          refine wp_block ?_
          refine wp_seq ?_
          refine wp_region_lit ?_
          refine wl hs (y_move hs rfl) rfl ?_; intro a hs
          have he16 := RdI.at_ (RdI.below hr9 hM.bel) hx15
          refine wl hs (y_index ht_I hs rfl rfl he16) rfl ?_; intro a hs
          refine wl hs (y_load sc_int hs rfl he16.cell) rfl ?_; intro a hs
          refine wl hs (y_assign hs rfl) rfl ?_; intro a hs
          refine wl hs (y_assign hs rfl) rfl ?_; intro a hs
          refine wpList_nil ?_
          refine x_nt ?_
          refine wp_seq ?_
          refine x_regq hmix (by kernel_rfl) ?_
          refine wq hs (fun w1 hw1 => y_move hs rfl) rfl ?_; intro a hs
          refine wq hs (fun w1 hw1 => y_move hs rfl) rfl ?_; intro a hs
          obtain ⟨x17, hx18, hm⟩ := bindE hm
          have he19 := RdI.at_ (RdI.below hr_p1 hM.bel) hx18
          refine wq hs (fun w1 hw1 => y_index ht_I hs rfl rfl (he19.below hw1)) rfl ?_; intro a hs
          refine wq hs (fun w1 hw1 => y_load sc_int hs rfl (he19.below hw1).cell) rfl ?_; intro a hs
          refine wq hs (fun w1 hw1 => y_move hs rfl) rfl ?_; intro a hs
          refine wq hs (fun w1 hw1 => y_move hs rfl) rfl ?_; intro a hs
          obtain ⟨x20, hx21, hm⟩ := bindE hm
          have he22 := RdI.at_ (RdI.below hr_p2 hM.bel) hx21
          refine wq hs (fun w1 hw1 => y_index ht_I hs rfl rfl (he22.below hw1)) rfl ?_; intro a hs
          refine wq hs (fun w1 hw1 => y_load sc_int hs rfl (he22.below hw1).cell) rfl ?_; intro a hs
          obtain ⟨n23, h24, hm⟩ := bindE hm
          refine wq hs (fun w1 hw1 => y_add hs rfl rfl h24) rfl ?_; intro a hs
          refine wq hs (fun w1 hw1 => y_move hs rfl) rfl ?_; intro a hs
          refine wq hs (fun w1 hw1 => y_gtr hs rfl rfl) rfl ?_; intro a hs
          refine wpQuiet_nil ?_
          intro w hw
          replace hM := hM.quiet hw
          refine x_nt ?_
          refine x_cond hs rfl (fun hb => ?_) (fun hb => ?_)
          · replace hm := condT hb hm
            refine wp_seq ?_
            refine wp_region_lit ?_
            refine wl hs (y_assign hs rfl) rfl ?_; intro a hs
            refine wpList_nil ?_
            refine x_nt ?_
            refine wp_ret ?_
            refine x_rb ?_
            refine x_rt ?_
            refine x_rt ?_
            refine x_rb ?_
            refine x_rt ?_
            refine x_rb ?_
            refine x_rt ?_
            refine x_rt ?_
            refine x_rb ?_
            refine x_rt ?_
            refine x_rt ?_
            have hm : some (Sum.inl false) = some s11 := hm
            cases Option.some.inj hm
            have hm := hk12
            have hm : some (Sum.inl false) = some s2 := hm
            cases Option.some.inj hm
            have hm := hk3
            have hm : some false = some r := hm
            obtain rfl := Option.some.inj hm
            refine x_ret1 rfl hs rfl ⟨_, rfl, ?_⟩
            exact ⟨rfl, hM⟩
          · replace hm := condF hb hm
            refine wp_skip ?_
            refine x_nb ?_
            refine x_nt ?_
            refine wp_region_lit ?_
            refine wl hs (y_add hs rfl rfl hsj10) rfl ?_; intro a hs
            refine wl hs (y_move hs rfl) rfl ?_; intro a hs
            refine wpList_nil ?_
            exact ⟨_, by simp, q13, j10 + 1, rfl, hs.sub ⟨rfl, rfl, rfl, rfl, rfl, rfl, rfl, rfl, rfl, trivial⟩, hM, hm, drop_next hj10⟩
      rintro a w ⟨rfl, hs, hM⟩
      have hm := hk12
      refine x_nb ?_
      refine x_nt ?_
      refine wp_region_lit ?_
      refine wl hs (y_add hs rfl rfl hsj1) rfl ?_; intro a hs
      refine wl hs (y_move hs rfl) rfl ?_; intro a hs
      refine wpList_nil ?_
      exact ⟨_, by simp, q4, j1 + 1, rfl, hs.sub ⟨rfl, rfl, rfl, rfl, rfl, trivial⟩, hM, hm, drop_next hj1⟩
  rintro a w ⟨rfl, hs, hM⟩
  have hm := hk3
  refine x_nt ?_
  refine wp_seq ?_
  refine wp_region_lit ?_
  refine wl hs (y_assign hs rfl) rfl ?_; intro a hs
  refine wpList_nil ?_
  refine x_nt ?_
  refine wp_ret ?_
  have hm : some true = some r := hm
  obtain rfl := Option.some.inj hm
  refine x_ret1 rfl hs rfl ⟨_, rfl, ?_⟩
  exact ⟨rfl, hM⟩

set_option maxHeartbeats 4000000 in
theorem impl_arePrices_any (v_p0 : Value) (p0 : List (List Int)) (v_p1 : Value) (p1 : List Int) (v_p2 : Value) (p2 : List Int) (W : World) (hr_p0 : RdM W v_p0 p0) (hr_p1 : RdI W v_p1 p1) (hr_p2 : RdI W v_p2 p2) {r : Bool} (hm : impl_arePrices_m p0 p1 p2 = some r) : Calls Try.prog 85 [v_p0, v_p1, v_p2].toArray W fun e w => ∃ v, e = .returned v ∧ v = .bool r ∧ Mem W w [] := by
  refine x_enter Try.func85 rfl Try.ntmps85 rfl ?_
  intro a hs
  have hM := Mem.start W
  unfold impl_arePrices_m at hm
  refine wp_seq ?_
  refine wp_region_lit ?_
  refine wl hs (y_assign hs rfl) rfl ?_; intro a hs
  refine wpList_nil ?_
  refine x_nt ?_
  refine wp_seq ?_
  refine wp_seq ?_
  refine wp_region_lit ?_
  refine wl hs (y_move hs rfl) rfl ?_; intro a hs
  refine wl hs (y_len hu_M hs rfl (RdM.below hr_p0 hM.bel)) rfl ?_; intro a hs
  refine wl hs (y_move hs rfl) rfl ?_; intro a hs
  refine wpList_nil ?_
  refine x_nt ?_
  obtain ⟨s2, hm, hk3⟩ := bindE hm
  refine x_mid (fun a w => Sum.inr () = s2 ∧ Fr a 38 [] ∧ Mem W w []) ?_ ?_
  · refine wp_block ?_
    refine x_loop (fun k a w => ∃ (q4 : List (List Int)) (j1 : Nat) , k = q4.length ∧ Fr a 38 [(1, v_p1), (2, v_p2), (11, v_p0), (12, .int .i64 (p0.length : Int)), (13, .int .i64 (j1 : Int))] ∧ Mem W w [] ∧ impl_arePrices_l1 p1 p2 q4 j1 = some s2 ∧ List.drop j1 p0 = q4) _ ⟨p0, 0, rfl, hs.sub ⟨rfl, rfl, rfl, rfl, rfl, trivial⟩, hM, hm, rfl⟩ ?_
    rintro k a w ⟨q4, j1, rfl, hs, hM, hm, hj1⟩
    rcases q4 with _ | ⟨x5, q4⟩
    · rewrite [impl_arePrices_l1] at hm
      refine wp_seq ?_
      refine wp_region_lit ?_
      refine wl hs (y_lss hs rfl rfl) rfl ?_; intro a hs
      refine wpList_nil ?_
      refine x_nt ?_
      refine wp_seq ?_
      refine x_condF hs rfl (drop_f hj1) ?_
      refine wp_exit ?_
      refine x_et ?_
      refine x_et ?_
      refine x_eb ?_
      have hm : some (Sum.inr ()) = some s2 := hm
      exact ⟨Option.some.inj hm, hs.sub trivial, hM⟩
    · rewrite [impl_arePrices_l1] at hm
      have hx6 := drop_idx hj1
      have hsj1 := ck_succ hj1 (RdS.len (RdM.below hr_p0 hM.bel))
      refine wp_seq ?_
      refine wp_region_lit ?_
      refine wl hs (y_lss hs rfl rfl) rfl ?_; intro a hs
      refine wpList_nil ?_
      refine x_nt ?_
      refine wp_seq ?_
      refine x_condT hs rfl (drop_t hj1) ?_
      refine wp_skip ?_
      refine x_nt ?_
      refine wp_seq ?_
      refine wp_block ?_
      refine wp_seq ?_
      refine wp_region_lit ?_
      refine wl hs (y_move hs rfl) rfl ?_; intro a hs
      obtain ⟨u8, he7, hr9⟩ := RdM.at_ hr_p0 hx6
      replace he7 := he7.below hM.bel
      refine wl hs (y_index ht_M hs rfl rfl he7) rfl ?_; intro a hs
      refine wl hs (y_load sc_I hs rfl he7.cell) rfl ?_; intro a hs
      refine wl hs (y_assign hs rfl) rfl ?_; intro a hs
      refine wl hs (y_assign hs rfl) rfl ?_; intro a hs
      refine wpList_nil ?_
      refine x_nt ?_
      refine wp_seq ?_
      refine wp_region_lit ?_
      refine wl hs (y_move hs rfl) rfl ?_; intro a hs
      refine wl hs (y_len hu_I hs rfl (RdI.below hr9 hM.bel)) rfl ?_; intro a hs
      refine wl hs (y_move hs rfl) rfl ?_; intro a hs
      refine wpList_nil ?_
      refine x_nt ?_
      obtain ⟨s11, hm, hk12⟩ := bindE hm
      refine x_mid (fun a w => Sum.inr () = s11 ∧ Fr a 38 [(1, v_p1), (2, v_p2), (11, v_p0), (12, .int .i64 (p0.length : Int)), (13, .int .i64 (j1 : Int))] ∧ Mem W w []) ?_ ?_
      · refine wp_block ?_
        refine x_loop (fun k a w => ∃ (q13 : List Int) (j10 : Nat) , k = q13.length ∧ Fr a 38 [(1, v_p1), (2, v_p2), (7, .int .i64 (j1 : Int)), (11, v_p0), (12, .int .i64 (p0.length : Int)), (13, .int .i64 (j1 : Int)), (18, u8), (19, .int .i64 (x5.length : Int)), (20, .int .i64 (j10 : Int))] ∧ Mem W w [] ∧ impl_arePrices_l2 p1 p2 j1 q13 j10 = some s11 ∧ List.drop j10 x5 = q13) _ ⟨x5, 0, rfl, hs.sub ⟨rfl, rfl, rfl, rfl, rfl, rfl, rfl, rfl, rfl, trivial⟩, hM, hm, rfl⟩ ?_
        rintro k a w ⟨q13, j10, rfl, hs, hM, hm, hj10⟩
        rcases q13 with _ | ⟨x14, q13⟩
        · rewrite [impl_arePrices_l2] at hm
          refine wp_seq ?_
          refine wp_region_lit ?_
          refine wl hs (y_lss hs rfl rfl) rfl ?_; intro a hs
          refine wpList_nil ?_
          refine x_nt ?_
          refine wp_seq ?_
          refine x_condF hs rfl (drop_f hj10) ?_
          refine wp_exit ?_
          refine x_et ?_
          refine x_et ?_
          refine x_eb ?_
          have hm : some (Sum.inr ()) = some s11 := hm
          exact ⟨Option.some.inj hm, hs.sub ⟨rfl, rfl, rfl, rfl, rfl, trivial⟩, hM⟩
        · rewrite [impl_arePrices_l2] at hm
          have hx15 := drop_idx hj10
          have hsj10 := ck_succ hj10 (RdS.len (RdI.below hr9 hM.bel))
          refine wp_seq ?_
          refine wp_region_lit ?_
          refine wl hs (y_lss hs rfl rfl) rfl ?_; intro a hs
          refine wpList_nil ?_
          refine x_nt ?_
          refine wp_seq ?_
          refine x_condT hs rfl (drop_t hj10) ?_
          refine wp_skip ?_
          refine x_nt ?_
          refine wp_seq ?_
          refine wp_block ?_
          refine wp_seq ?_
          refine wp_region_lit ?_
          refine wl hs (y_move hs rfl) rfl ?_; intro a hs
          have he16 := RdI.at_ (RdI.below hr9 hM.bel) hx15
          refine wl hs (y_index ht_I hs rfl rfl he16) rfl ?_; intro a hs
          refine wl hs (y_load sc_int hs rfl he16.cell) rfl ?_; intro a hs
          refine wl hs (y_assign hs rfl) rfl ?_; intro a hs
          refine wl hs (y_assign hs rfl) rfl ?_; intro a hs
          refine wpList_nil ?_
          refine x_nt ?_
          refine wp_seq ?_
          refine x_regq hmix (by kernel_rfl) ?_
          refine wq hs (fun w1 hw1 => y_move hs rfl) rfl ?_; intro a hs
          refine wq hs (fun w1 hw1 => y_move hs rfl) rfl ?_; intro a hs
          obtain ⟨x17, hx18, hm⟩ := bindE hm
          have he19 := RdI.at_ (RdI.below hr_p1 hM.bel) hx18
          refine wq hs (fun w1 hw1 => y_index ht_I hs rfl rfl (he19.below hw1)) rfl ?_; intro a hs
          refine wq hs (fun w1 hw1 => y_load sc_int hs rfl (he19.below hw1).cell) rfl ?_; intro a hs
          refine wq hs (fun w1 hw1 => y_move hs rfl) rfl ?_; intro a hs
          refine wq hs (fun w1 hw1 => y_move hs rfl) rfl ?_; intro a hs
          obtain ⟨x20, hx21, hm⟩ := bindE hm
          have he22 := RdI.at_ (RdI.below hr_p2 hM.bel) hx21
          refine wq hs (fun w1 hw1 => y_index ht_I hs rfl rfl (he22.below hw1)) rfl ?_; intro a hs
          refine wq hs (fun w1 hw1 => y_load sc_int hs rfl (he22.below hw1).cell) rfl ?_; intro a hs
          obtain ⟨n23, h24, hm⟩ := bindE hm
          refine wq hs (fun w1 hw1 => y_add hs rfl rfl h24) rfl ?_; intro a hs
          refine wq hs (fun w1 hw1 => y_move hs rfl) rfl ?_; intro a hs
          refine wq hs (fun w1 hw1 => y_gtr hs rfl rfl) rfl ?_; intro a hs
          refine wpQuiet_nil ?_
          intro w hw
          replace hM := hM.quiet hw
          refine x_nt ?_
          refine x_cond hs rfl (fun hb => ?_) (fun hb => ?_)
          · replace hm := condT hb hm
            refine wp_seq ?_
            refine wp_region_lit ?_
            refine wl hs (y_assign hs rfl) rfl ?_; intro a hs
            refine wpList_nil ?_
            refine x_nt ?_
            refine wp_ret ?_
            refine x_rb ?_
            refine x_rt ?_
            refine x_rt ?_
            refine x_rb ?_
            refine x_rt ?_
            refine x_rb ?_
            refine x_rt ?_
            refine x_rt ?_
            refine x_rb ?_
            refine x_rt ?_
            refine x_rt ?_
            have hm : some (Sum.inl false) = some s11 := hm
            cases Option.some.inj hm
            have hm := hk12
            have hm : some (Sum.inl false) = some s2 := hm
            cases Option.some.inj hm
            have hm := hk3
            have hm : some false = some r := hm
            obtain rfl := Option.some.inj hm
            refine x_ret1 rfl hs rfl ⟨_, rfl, ?_⟩
            exact ⟨rfl, hM⟩
          · replace hm := condF hb hm
            refine wp_skip ?_
            refine x_nb ?_
            refine x_nt ?_
            refine wp_region_lit ?_
            refine wl hs (y_add hs rfl rfl hsj10) rfl ?_; intro a hs
            refine wl hs (y_move hs rfl) rfl ?_; intro a hs
            refine wpList_nil ?_
            exact ⟨_, by simp, q13, j10 + 1, rfl, hs.sub ⟨rfl, rfl, rfl, rfl, rfl, rfl, rfl, rfl, rfl, trivial⟩, hM, hm, drop_next hj10⟩
      rintro a w ⟨rfl, hs, hM⟩
      have hm := hk12
      refine x_nb ?_
      refine x_nt ?_
      refine wp_region_lit ?_
      refine wl hs (y_add hs rfl rfl hsj1) rfl ?_; intro a hs
      refine wl hs (y_move hs rfl) rfl ?_; intro a hs
      refine wpList_nil ?_
      exact ⟨_, by simp, q4, j1 + 1, rfl, hs.sub ⟨rfl, rfl, rfl, rfl, rfl, trivial⟩, hM, hm, drop_next hj1⟩
  rintro a w ⟨rfl, hs, hM⟩
  have hm := hk3
  refine x_nt ?_
  refine wp_seq ?_
  refine wp_region_lit ?_
  refine wl hs (y_assign hs rfl) rfl ?_; intro a hs
  refine wpList_nil ?_
  refine x_nt ?_
  refine wp_ret ?_
  have hm : some true = some r := hm
  obtain rfl := Option.some.inj hm
  refine x_ret1 rfl hs rfl ⟨_, rfl, ?_⟩
  exact ⟨rfl, hM⟩

theorem impl_ArePrices_any (v_p0 : Value) (p0 : List (List Int)) (v_p1 : Value) (p1 : List Int) (v_p2 : Value) (p2 : List Int) (W : World) (hr_p0 : RdM W v_p0 p0) (hr_p1 : RdI W v_p1 p1) (hr_p2 : RdI W v_p2 p2) {r : Bool × Bool} (hm : impl_ArePrices_m p0 p1 p2 = some r) : Calls Try.prog 54 [v_p0, v_p1, v_p2].toArray W fun e w => ∃ v, e = .returned v ∧ v = .tuple #[.bool r.1, .bool r.2] ∧ Mem W w [] := by
  refine x_enter Try.func54 rfl Try.ntmps54 rfl ?_
  intro a hs
  have hM := Mem.start W
  unfold impl_ArePrices_m at hm
  refine wp_seq ?_
  refine wp_region_lit ?_
  refine wl hs (y_assign hs rfl) rfl ?_; intro a hs
  refine wl hs (y_assign hs rfl) rfl ?_; intro a hs
  refine wpList_nil ?_
  refine x_nt ?_
  refine wp_seq ?_
  refine wp_seq ?_
  refine wp_region_lit ?_
  refine wl hs (y_move hs rfl) rfl ?_; intro a hs
  obtain ⟨y1, h2, hm⟩ := bindE hm
  refine wcall is_47 hs rfl rfl (impl_isSquare_any v_p0 p0 _ (RdM.below hr_p0 hM.bel) h2) ?_; rintro a _ w hs ⟨rfl, hX⟩
  have hM : Mem W w [] := hM.call hX
  refine wl hs (y_not hs rfl) rfl ?_; intro a hs
  refine wl hs (y_move hs rfl) rfl ?_; intro a hs
  obtain ⟨b3, hb4, hm⟩ := bindE hm
  refine wlguard (N := 27) (L' := [(16, .bool b3), (0, v_p0), (1, v_p1), (2, v_p2)]) (fun w => Mem W w []) 5 ?_ ?_
  · intro K; rcases Bool.eq_false_or_eq_true (!y1) with hg5 | hg5
    · have hm := condT hg5 hb4
      refine wls hs rfl hg5 rfl ?_; intro a hs
      refine wls hs rfl hg5 rfl ?_; intro a hs
      refine wls hs rfl hg5 rfl ?_; intro a hs
      refine wls hs rfl hg5 rfl ?_; intro a hs
      have hm : some true = some b3 := hm
      cases Option.some.inj hm
      refine wl hs (y_pickT hs rfl hg5 rfl) rfl ?_; intro a hs
      exact K _ _ (hs.sub ⟨rfl, rfl, rfl, rfl, trivial⟩) hM
    · have hm := condF hg5 hb4
      refine wlg hs rfl hg5 (y_move hs rfl) rfl ?_; intro a hs
      refine wlg hs rfl hg5 (y_move hs rfl) rfl ?_; intro a hs
      obtain ⟨y6, h7, hm⟩ := bindE hm
      refine wcallg is_84 hs rfl hg5 rfl rfl (impl_areOnePerVertex_any v_p0 p0 v_p1 p1 _ (RdM.below hr_p0 hM.bel) (RdI.below hr_p1 hM.bel) h7) ?_; rintro a _ w hs ⟨rfl, hX⟩
      have hM : Mem W w [] := hM.call hX
      refine wlg hs rfl hg5 (y_not hs rfl) rfl ?_; intro a hs
      have hm : some (!y6) = some b3 := hm
      cases Option.some.inj hm
      refine wl hs (y_pickF hs rfl hg5 rfl) rfl ?_; intro a hs
      exact K _ _ (hs.sub ⟨rfl, rfl, rfl, rfl, trivial⟩) hM
  intro a w hs hM
  simp only [List.drop_succ_cons, List.drop_zero]
  refine wl hs (y_move hs rfl) rfl ?_; intro a hs
  obtain ⟨b8, hb9, hm⟩ := bindE hm
  refine wlguard (N := 27) (L' := [(22, .bool b8), (0, v_p0), (1, v_p1), (2, v_p2)]) (fun w => Mem W w []) 5 ?_ ?_
  · intro K; rcases Bool.eq_false_or_eq_true b3 with hg10 | hg10
    · have hm := condT hg10 hb9
      refine wls hs rfl hg10 rfl ?_; intro a hs
      refine wls hs rfl hg10 rfl ?_; intro a hs
      refine wls hs rfl hg10 rfl ?_; intro a hs
      refine wls hs rfl hg10 rfl ?_; intro a hs
      have hm : some true = some b8 := hm
      cases Option.some.inj hm
      refine wl hs (y_pickT hs rfl hg10 rfl) rfl ?_; intro a hs
      exact K _ _ (hs.sub ⟨rfl, rfl, rfl, rfl, trivial⟩) hM
    · have hm := condF hg10 hb9
      refine wlg hs rfl hg10 (y_move hs rfl) rfl ?_; intro a hs
      refine wlg hs rfl hg10 (y_move hs rfl) rfl ?_; intro a hs
      obtain ⟨y11, h12, hm⟩ := bindE hm
      refine wcallg is_84 hs rfl hg10 rfl rfl (impl_areOnePerVertex_any v_p0 p0 v_p2 p2 _ (RdM.below hr_p0 hM.bel) (RdI.below hr_p2 hM.bel) h12) ?_; rintro a _ w hs ⟨rfl, hX⟩
      have hM : Mem W w [] := hM.call hX
      refine wlg hs rfl hg10 (y_not hs rfl) rfl ?_; intro a hs
      have hm : some (!y11) = some b8 := hm
      cases Option.some.inj hm
      refine wl hs (y_pickF hs rfl hg10 rfl) rfl ?_; intro a hs
      exact K _ _ (hs.sub ⟨rfl, rfl, rfl, rfl, trivial⟩) hM
  intro a w hs hM
  simp only [List.drop_succ_cons, List.drop_zero]
  refine wpList_nil ?_
  refine x_nt ?_
  refine x_cond hs rfl (fun hb => ?_) (fun hb => ?_)
  · replace hm := condT hb hm
    refine wp_seq ?_
    refine wp_region_lit ?_
    refine wl hs (y_assign hs rfl) rfl ?_; intro a hs
    refine wl hs (y_assign hs rfl) rfl ?_; intro a hs
    refine wpList_nil ?_
    refine x_nt ?_
    refine wp_ret ?_
    refine x_rt ?_
    have hm : some (false, false) = some r := hm
    obtain rfl := Option.some.inj hm
    refine x_ret2 rfl hs rfl rfl ⟨_, rfl, ?_⟩
    exact ⟨rfl, hM⟩
  · replace hm := condF hb hm
    refine wp_skip ?_
    refine x_nt ?_
    refine wp_seq ?_
    refine wp_region_lit ?_
    refine wl hs (y_move hs rfl) rfl ?_; intro a hs
    refine wl hs (y_move hs rfl) rfl ?_; intro a hs
    refine wl hs (y_move hs rfl) rfl ?_; intro a hs
    obtain ⟨y13, h14, hm⟩ := bindE hm
    refine wcall is_85 hs rfl rfl (impl_arePrices_any v_p0 p0 v_p1 p1 v_p2 p2 _ (RdM.below hr_p0 hM.bel) (RdI.below hr_p1 hM.bel) (RdI.below hr_p2 hM.bel) h14) ?_; rintro a _ w hs ⟨rfl, hX⟩
    have hM : Mem W w [] := hM.call hX
    refine wl hs (y_assign hs rfl) rfl ?_; intro a hs
    refine wl hs (y_assign hs rfl) rfl ?_; intro a hs
    refine wpList_nil ?_
    refine x_nt ?_
    refine wp_ret ?_
    have hm : some (y13, true) = some r := hm
    obtain rfl := Option.some.inj hm
    refine x_ret2 rfl hs rfl rfl ⟨_, rfl, ?_⟩
    exact ⟨rfl, hM⟩

end Go.Proofs.Ytnnhbkhlipekeaa
