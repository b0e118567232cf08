/- The code of this unit computes what its mirrors say. Written by program (wip/gen). -/
import Derived.Test.YtjicdfplhenohaaFacts
import Derived.Test.YtjicdfplhenohaaWy1M
import Derived.Test.YtjicdfplhenohaaNumW
import Derived.Test.YtjicdfplhenohaaMatW
namespace Go.Proofs.Ytjicdfplhenohaa
open Go.RowKit
set_option linter.unusedVariables false

theorem spec_wyAsked_any (v_p0 : Value) (p0 : List (List Int)) (v_p1 : Value) (p1 : List Int) (W : World) (hr_p0 : RdM W v_p0 p0) (hr_p1 : RdI W v_p1 p1) {r : Bool} (hm : spec_wyAsked_m p0 p1 = some r) : Calls Try.prog 75 [v_p0, v_p1].toArray W fun e w => ∃ v, e = .returned v ∧ v = .bool r ∧ Mem W w [] := by
  refine x_enter Try.func75 rfl Try.ntmps75 rfl ?_
  intro a hs
  have hM := Mem.start W
  unfold spec_wyAsked_m at hm
  refine wp_seq ?_
  refine wp_region_lit ?_
  refine wl hs (y_assign hs rfl) rfl ?_; intro a hs
  refine wpList_nil ?_
  refine x_nt ?_
  refine wp_seq ?_
  refine wp_region_lit ?_
  refine wl hs (y_move hs rfl) rfl ?_; intro a hs
  obtain ⟨y1, h2, hm⟩ := bindE hm
  refine wcall is_64 hs rfl rfl (spec_mxSquare_any v_p0 p0 _ (RdM.below hr_p0 hM.bel) h2) ?_; rintro a _ w hs ⟨rfl, hX⟩
  have hM : Mem W w [] := hM.call hX
  refine wl hs (y_move hs rfl) rfl ?_; intro a hs
  obtain ⟨b3, hb4, hm⟩ := bindE hm
  refine wlguard (N := 18) (L' := [(13, .bool b3), (1, v_p1), (4, .bool false)]) (fun w => Mem W w []) 6 ?_ ?_
  · intro K; rcases Bool.eq_false_or_eq_true y1 with hg5 | hg5
    · have hm := condT hg5 hb4
      refine wlg hs rfl hg5 (y_move hs rfl) rfl ?_; intro a hs
      refine wlg hs rfl hg5 (y_len hu_I hs rfl (RdI.below hr_p1 hM.bel)) rfl ?_; intro a hs
      refine wlg hs rfl hg5 (y_move hs rfl) rfl ?_; intro a hs
      refine wlg hs rfl hg5 (y_len hu_M hs rfl (RdM.below hr_p0 hM.bel)) rfl ?_; intro a hs
      refine wlg hs rfl hg5 (y_eql hs rfl rfl) rfl ?_; intro a hs
      have hm : some ((p1.length : Int) == (p0.length : Int)) = some b3 := hm
      cases Option.some.inj hm
      refine wl hs (y_pickT hs rfl hg5 rfl) rfl ?_; intro a hs
      exact K _ _ (hs.sub ⟨rfl, rfl, rfl, trivial⟩) hM
    · have hm := condF hg5 hb4
      refine wls hs rfl hg5 rfl ?_; intro a hs
      refine wls hs rfl hg5 rfl ?_; intro a hs
      refine wls hs rfl hg5 rfl ?_; intro a hs
      refine wls hs rfl hg5 rfl ?_; intro a hs
      refine wls hs rfl hg5 rfl ?_; intro a hs
      have hm : some false = some b3 := hm
      cases Option.some.inj hm
      refine wl hs (y_pickF hs rfl hg5 rfl) rfl ?_; intro a hs
      exact K _ _ (hs.sub ⟨rfl, rfl, rfl, trivial⟩) hM
  intro a w hs hM
  simp only [List.drop_succ_cons, List.drop_zero]
  refine wl hs (y_move hs rfl) rfl ?_; intro a hs
  obtain ⟨b6, hb7, hm⟩ := bindE hm
  refine wlguard (N := 18) (L' := [(17, .bool b6), (4, .bool false)]) (fun w => Mem W w []) 3 ?_ ?_
  · intro K; rcases Bool.eq_false_or_eq_true b3 with hg8 | hg8
    · have hm := condT hg8 hb7
      refine wlg hs rfl hg8 (y_move hs rfl) rfl ?_; intro a hs
      obtain ⟨y9, h10, hm⟩ := bindE hm
      refine wcallg is_107 hs rfl hg8 rfl rfl (spec_l1All_any v_p1 p1 (-1000000) 1000000 _ (RdI.below hr_p1 hM.bel) h10) ?_; rintro a _ w hs ⟨rfl, hX⟩
      have hM : Mem W w [] := hM.call hX
      have hm : some y9 = some b6 := hm
      cases Option.some.inj hm
      refine wl hs (y_pickT hs rfl hg8 rfl) rfl ?_; intro a hs
      exact K _ _ (hs.sub ⟨rfl, rfl, trivial⟩) hM
    · have hm := condF hg8 hb7
      refine wls hs rfl hg8 rfl ?_; intro a hs
      refine wls hs rfl hg8 rfl ?_; intro a hs
      have hm : some false = some b6 := hm
      cases Option.some.inj hm
      refine wl hs (y_pickF hs rfl hg8 rfl) rfl ?_; intro a hs
      exact K _ _ (hs.sub ⟨rfl, rfl, trivial⟩) hM
  intro a w hs hM
  simp only [List.drop_succ_cons, List.drop_zero]
  refine wl hs (y_assign hs rfl) rfl ?_; intro a hs
  refine wpList_nil ?_
  refine x_nt ?_
  refine wp_ret ?_
  have hm : some b6 = some r := hm
  obtain rfl := Option.some.inj hm
  refine x_ret1 rfl hs rfl ⟨_, rfl, ?_⟩
  exact ⟨rfl, hM⟩

theorem spec_wyPotentials_any (v_p0 : Value) (p0 : List (List Int)) (v_p1 : Value) (p1 : List Int) (W : World) (hr_p0 : RdM W v_p0 p0) (hr_p1 : RdI W v_p1 p1) {r : Bool} (hm : spec_wyPotentials_m p0 p1 = some r) : Calls Try.prog 76 [v_p0, v_p1].toArray W fun e w => ∃ v, e = .returned v ∧ v = .bool r ∧ Mem W w [] := by
  refine x_enter Try.func76 rfl Try.ntmps76 rfl ?_
  intro a hs
  have hM := Mem.start W
  unfold spec_wyPotentials_m at hm
  refine wp_seq ?_
  refine wp_region_lit ?_
  refine wl hs (y_assign hs rfl) rfl ?_; intro a hs
  refine wpList_nil ?_
  refine x_nt ?_
  refine wp_seq ?_
  refine wp_seq ?_
  refine wp_region_lit ?_
  refine wl hs (y_move hs rfl) rfl ?_; intro a hs
  refine wl hs (y_len hu_M hs rfl (RdM.below hr_p0 hM.bel)) rfl ?_; intro a hs
  refine wl hs (y_move hs rfl) rfl ?_; intro a hs
  refine wpList_nil ?_
  refine x_nt ?_
  obtain ⟨s2, hm, hk3⟩ := bindE hm
  refine x_mid (fun a w => Sum.inr () = s2 ∧ Fr a 36 [] ∧ Mem W w []) ?_ ?_
  · refine wp_block ?_
    refine x_loop (fun k a w => ∃ (q4 : List (List Int)) (j1 : Nat) , k = q4.length ∧ Fr a 36 [(1, v_p1), (9, v_p0), (10, .int .i64 (p0.length : Int)), (11, .int .i64 (j1 : Int))] ∧ Mem W w [] ∧ spec_wyPotentials_l1 p1 q4 j1 = some s2 ∧ List.drop j1 p0 = q4) _ ⟨p0, 0, rfl, hs.sub ⟨rfl, rfl, rfl, rfl, trivial⟩, hM, hm, rfl⟩ ?_
    rintro k a w ⟨q4, j1, rfl, hs, hM, hm, hj⟩
    rcases q4 with _ | ⟨x5, q4⟩
    · rewrite [spec_wyPotentials_l1] at hm
      refine wp_seq ?_
      refine wp_region_lit ?_
      refine wl hs (y_lss hs rfl rfl) rfl ?_; intro a hs
      refine wpList_nil ?_
      refine x_nt ?_
      refine wp_seq ?_
      refine x_condF hs rfl (drop_f hj) ?_
      refine wp_exit ?_
      refine x_et ?_
      refine x_et ?_
      refine x_eb ?_
      have hm : some (Sum.inr ()) = some s2 := hm
      exact ⟨Option.some.inj hm, hs.sub trivial, hM⟩
    · rewrite [spec_wyPotentials_l1] at hm
      have hx6 := drop_idx hj
      have hjs := ck_succ hj (RdS.len (RdM.below hr_p0 hM.bel))
      refine wp_seq ?_
      refine wp_region_lit ?_
      refine wl hs (y_lss hs rfl rfl) rfl ?_; intro a hs
      refine wpList_nil ?_
      refine x_nt ?_
      refine wp_seq ?_
      refine x_condT hs rfl (drop_t hj) ?_
      refine wp_skip ?_
      refine x_nt ?_
      refine wp_seq ?_
      refine wp_block ?_
      refine wp_seq ?_
      refine wp_region_lit ?_
      refine wl hs (y_move hs rfl) rfl ?_; intro a hs
      obtain ⟨u8, he7, hr9⟩ := RdM.at_ hr_p0 hx6
      replace he7 := he7.below hM.bel
      refine wl hs (y_index ht_M hs rfl rfl he7) rfl ?_; intro a hs
      refine wl hs (y_load sc_I hs rfl he7.cell) rfl ?_; intro a hs
      refine wl hs (y_assign hs rfl) rfl ?_; intro a hs
      refine wl hs (y_assign hs rfl) rfl ?_; intro a hs
      refine wpList_nil ?_
      refine x_nt ?_
      refine wp_seq ?_
      refine wp_region_lit ?_
      refine wl hs (y_move hs rfl) rfl ?_; intro a hs
      refine wl hs (y_len hu_I hs rfl (RdI.below hr9 hM.bel)) rfl ?_; intro a hs
      refine wl hs (y_move hs rfl) rfl ?_; intro a hs
      refine wpList_nil ?_
      refine x_nt ?_
      obtain ⟨s11, hm, hk12⟩ := bindE hm
      refine x_mid (fun a w => Sum.inr () = s11 ∧ Fr a 36 [(1, v_p1), (9, v_p0), (10, .int .i64 (p0.length : Int)), (11, .int .i64 (j1 : Int))] ∧ Mem W w []) ?_ ?_
      · refine wp_block ?_
        refine x_loop (fun k a w => ∃ (q13 : List Int) (j10 : Nat) , k = q13.length ∧ Fr a 36 [(1, v_p1), (5, .int .i64 (j1 : Int)), (9, v_p0), (10, .int .i64 (p0.length : Int)), (11, .int .i64 (j1 : Int)), (16, u8), (17, .int .i64 (x5.length : Int)), (18, .int .i64 (j10 : Int))] ∧ Mem W w [] ∧ spec_wyPotentials_l2 p1 j1 q13 j10 = some s11 ∧ List.drop j10 x5 = q13) _ ⟨x5, 0, rfl, hs.sub ⟨rfl, rfl, rfl, rfl, rfl, rfl, rfl, rfl, trivial⟩, hM, hm, rfl⟩ ?_
        rintro k a w ⟨q13, j10, rfl, hs, hM, hm, hj⟩
        rcases q13 with _ | ⟨x14, q13⟩
        · rewrite [spec_wyPotentials_l2] at hm
          refine wp_seq ?_
          refine wp_region_lit ?_
          refine wl hs (y_lss hs rfl rfl) rfl ?_; intro a hs
          refine wpList_nil ?_
          refine x_nt ?_
          refine wp_seq ?_
          refine x_condF hs rfl (drop_f hj) ?_
          refine wp_exit ?_
          refine x_et ?_
          refine x_et ?_
          refine x_eb ?_
          have hm : some (Sum.inr ()) = some s11 := hm
          exact ⟨Option.some.inj hm, hs.sub ⟨rfl, rfl, rfl, rfl, trivial⟩, hM⟩
        · rewrite [spec_wyPotentials_l2] at hm
          have hx15 := drop_idx hj
          have hjs := ck_succ hj (RdS.len (RdI.below hr9 hM.bel))
          refine wp_seq ?_
          refine wp_region_lit ?_
          refine wl hs (y_lss hs rfl rfl) rfl ?_; intro a hs
          refine wpList_nil ?_
          refine x_nt ?_
          refine wp_seq ?_
          refine x_condT hs rfl (drop_t hj) ?_
          refine wp_skip ?_
          refine x_nt ?_
          refine wp_seq ?_
          refine wp_block ?_
          refine wp_seq ?_
          refine wp_region_lit ?_
          refine wl hs (y_move hs rfl) rfl ?_; intro a hs
          have he16 := RdI.at_ (RdI.below hr9 hM.bel) hx15
          refine wl hs (y_index ht_I hs rfl rfl he16) rfl ?_; intro a hs
          refine wl hs (y_load sc_int hs rfl he16.cell) rfl ?_; intro a hs
          refine wl hs (y_assign hs rfl) rfl ?_; intro a hs
          refine wl hs (y_assign hs rfl) rfl ?_; intro a hs
          refine wpList_nil ?_
          refine x_nt ?_
          refine wp_seq ?_
          refine x_regq hmix (by kernel_rfl) ?_
          refine wq hs (fun w1 hw1 => y_move hs rfl) rfl ?_; intro a hs
          refine wq hs (fun w1 hw1 => y_move hs rfl) rfl ?_; intro a hs
          obtain ⟨x17, hx18, hm⟩ := bindE hm
          have he19 := RdI.at_ (RdI.below hr_p1 hM.bel) hx18
          refine wq hs (fun w1 hw1 => y_index ht_I hs rfl rfl (he19.below hw1)) rfl ?_; intro a hs
          refine wq hs (fun w1 hw1 => y_load sc_int hs rfl (he19.below hw1).cell) rfl ?_; intro a hs
          refine wq hs (fun w1 hw1 => y_move hs rfl) rfl ?_; intro a hs
          refine wq hs (fun w1 hw1 => y_move hs rfl) rfl ?_; intro a hs
          obtain ⟨x20, hx21, hm⟩ := bindE hm
          have he22 := RdI.at_ (RdI.below hr_p1 hM.bel) hx21
          refine wq hs (fun w1 hw1 => y_index ht_I hs rfl rfl (he22.below hw1)) rfl ?_; intro a hs
          refine wq hs (fun w1 hw1 => y_load sc_int hs rfl (he22.below hw1).cell) rfl ?_; intro a hs
          refine wq hs (fun w1 hw1 => y_move hs rfl) rfl ?_; intro a hs
          obtain ⟨y23, h24, hm⟩ := bindE hm
          refine qcall (v := .int .i64 y23) is_77 hs rfl rfl (fun w1 hw1 => q_of hw1 (spec_nuPlus_any x20 x14 w1  h24)) ?_; intro a hs
          refine wq hs (fun w1 hw1 => y_gtr hs rfl rfl) rfl ?_; intro a hs
          refine wpQuiet_nil ?_
          intro w hw
          replace hM := hM.quiet hw
          refine x_nt ?_
          refine x_cond hs rfl (fun hb => ?_) (fun hb => ?_)
          · replace hm := condT hb hm
            refine wp_seq ?_
            refine wp_region_lit ?_
            refine wl hs (y_assign hs rfl) rfl ?_; intro a hs
            refine wpList_nil ?_
            refine x_nt ?_
            refine wp_ret ?_
            refine x_rb ?_
            refine x_rt ?_
            refine x_rt ?_
            refine x_rb ?_
            refine x_rt ?_
            refine x_rb ?_
            refine x_rt ?_
            refine x_rt ?_
            refine x_rb ?_
            refine x_rt ?_
            refine x_rt ?_
            have hm : some (Sum.inl false) = some s11 := hm
            cases Option.some.inj hm
            have hm := hk12
            have hm : some (Sum.inl false) = some s2 := hm
            cases Option.some.inj hm
            have hm := hk3
            have hm : some false = some r := hm
            obtain rfl := Option.some.inj hm
            refine x_ret1 rfl hs rfl ⟨_, rfl, ?_⟩
            exact ⟨rfl, hM⟩
          · replace hm := condF hb hm
            refine wp_skip ?_
            refine x_nb ?_
            refine x_nt ?_
            refine wp_region_lit ?_
            refine wl hs (y_add hs rfl rfl hjs) rfl ?_; intro a hs
            refine wl hs (y_move hs rfl) rfl ?_; intro a hs
            refine wpList_nil ?_
            exact ⟨_, by simp, q13, j10 + 1, rfl, hs.sub ⟨rfl, rfl, rfl, rfl, rfl, rfl, rfl, rfl, trivial⟩, hM, hm, drop_next hj⟩
      rintro a w ⟨rfl, hs, hM⟩
      have hm := hk12
      refine x_nb ?_
      refine x_nt ?_
      refine wp_region_lit ?_
      refine wl hs (y_add hs rfl rfl hjs) rfl ?_; intro a hs
      refine wl hs (y_move hs rfl) rfl ?_; intro a hs
      refine wpList_nil ?_
      exact ⟨_, by simp, q4, j1 + 1, rfl, hs.sub ⟨rfl, rfl, rfl, rfl, trivial⟩, hM, hm, drop_next hj⟩
  rintro a w ⟨rfl, hs, hM⟩
  have hm := hk3
  refine x_nt ?_
  refine wp_seq ?_
  refine wp_region_lit ?_
  refine wl hs (y_assign hs rfl) rfl ?_; intro a hs
  refine wpList_nil ?_
  refine x_nt ?_
  refine wp_ret ?_
  have hm : some true = some r := hm
  obtain rfl := Option.some.inj hm
  refine x_ret1 rfl hs rfl ⟨_, rfl, ?_⟩
  exact ⟨rfl, hM⟩

theorem impl_arePotentials_any (v_p0 : Value) (p0 : List (List Int)) (v_p1 : Value) (p1 : List Int) (W : World) (hr_p0 : RdM W v_p0 p0) (hr_p1 : RdI W v_p1 p1) {r : Bool} (hm : impl_arePotentials_m p0 p1 = some r) : Calls Try.prog 109 [v_p0, v_p1].toArray W fun e w => ∃ v, e = .returned v ∧ v = .bool r ∧ Mem W w [] := by
  refine x_enter Try.func109 rfl Try.ntmps109 rfl ?_
  intro a hs
  have hM := Mem.start W
  unfold impl_arePotentials_m at hm
  refine wp_seq ?_
  refine wp_region_lit ?_
  refine wl hs (y_assign hs rfl) rfl ?_; intro a hs
  refine wpList_nil ?_
  refine x_nt ?_
  refine wp_seq ?_
  refine wp_seq ?_
  refine wp_region_lit ?_
  refine wl hs (y_move hs rfl) rfl ?_; intro a hs
  refine wl hs (y_len hu_M hs rfl (RdM.below hr_p0 hM.bel)) rfl ?_; intro a hs
  refine wl hs (y_move hs rfl) rfl ?_; intro a hs
  refine wpList_nil ?_
  refine x_nt ?_
  obtain ⟨s2, hm, hk3⟩ := bindE hm
  refine x_mid (fun a w => Sum.inr () = s2 ∧ Fr a 40 [] ∧ Mem W w []) ?_ ?_
  · refine wp_block ?_
    refine x_loop (fun k a w => ∃ (q4 : List (List Int)) (j1 : Nat) , k = q4.length ∧ Fr a 40 [(1, v_p1), (9, v_p0), (10, .int .i64 (p0.length : Int)), (11, .int .i64 (j1 : Int))] ∧ Mem W w [] ∧ impl_arePotentials_l1 p1 q4 j1 = some s2 ∧ List.drop j1 p0 = q4) _ ⟨p0, 0, rfl, hs.sub ⟨rfl, rfl, rfl, rfl, trivial⟩, hM, hm, rfl⟩ ?_
    rintro k a w ⟨q4, j1, rfl, hs, hM, hm, hj⟩
    rcases q4 with _ | ⟨x5, q4⟩
    · rewrite [impl_arePotentials_l1] at hm
      refine wp_seq ?_
      refine wp_region_lit ?_
      refine wl hs (y_lss hs rfl rfl) rfl ?_; intro a hs
      refine wpList_nil ?_
      refine x_nt ?_
      refine wp_seq ?_
      refine x_condF hs rfl (drop_f hj) ?_
      refine wp_exit ?_
      refine x_et ?_
      refine x_et ?_
      refine x_eb ?_
      have hm : some (Sum.inr ()) = some s2 := hm
      exact ⟨Option.some.inj hm, hs.sub trivial, hM⟩
    · rewrite [impl_arePotentials_l1] at hm
      have hx6 := drop_idx hj
      have hjs := ck_succ hj (RdS.len (RdM.below hr_p0 hM.bel))
      refine wp_seq ?_
      refine wp_region_lit ?_
      refine wl hs (y_lss hs rfl rfl) rfl ?_; intro a hs
      refine wpList_nil ?_
      refine x_nt ?_
      refine wp_seq ?_
      refine x_condT hs rfl (drop_t hj) ?_
      refine wp_skip ?_
      refine x_nt ?_
      refine wp_seq ?_
      refine wp_block ?_
      refine wp_seq ?_
      refine wp_region_lit ?_
      refine wl hs (y_move hs rfl) rfl ?_; intro a hs
      obtain ⟨u8, he7, hr9⟩ := RdM.at_ hr_p0 hx6
      replace he7 := he7.below hM.bel
      refine wl hs (y_index ht_M hs rfl rfl he7) rfl ?_; intro a hs
      refine wl hs (y_load sc_I hs rfl he7.cell) rfl ?_; intro a hs
      refine wl hs (y_assign hs rfl) rfl ?_; intro a hs
      refine wl hs (y_assign hs rfl) rfl ?_; intro a hs
      refine wpList_nil ?_
      refine x_nt ?_
      refine wp_seq ?_
      refine wp_region_lit ?_
      refine wl hs (y_move hs rfl) rfl ?_; intro a hs
      refine wl hs (y_len hu_I hs rfl (RdI.below hr9 hM.bel)) rfl ?_; intro a hs
      refine wl hs (y_move hs rfl) rfl ?_; intro a hs
      refine wpList_nil ?_
      refine x_nt ?_
      obtain ⟨s11, hm, hk12⟩ := bindE hm
      refine x_mid (fun a w => Sum.inr () = s11 ∧ Fr a 40 [(1, v_p1), (9, v_p0), (10, .int .i64 (p0.length : Int)), (11, .int .i64 (j1 : Int))] ∧ Mem W w []) ?_ ?_
      · refine wp_block ?_
        refine x_loop (fun k a w => ∃ (q13 : List Int) (j10 : Nat) , k = q13.length ∧ Fr a 40 [(1, v_p1), (5, .int .i64 (j1 : Int)), (9, v_p0), (10, .int .i64 (p0.length : Int)), (11, .int .i64 (j1 : Int)), (16, u8), (17, .int .i64 (x5.length : Int)), (18, .int .i64 (j10 : Int))] ∧ Mem W w [] ∧ impl_arePotentials_l2 p1 j1 q13 j10 = some s11 ∧ List.drop j10 x5 = q13) _ ⟨x5, 0, rfl, hs.sub ⟨rfl, rfl, rfl, rfl, rfl, rfl, rfl, rfl, trivial⟩, hM, hm, rfl⟩ ?_
        rintro k a w ⟨q13, j10, rfl, hs, hM, hm, hj⟩
        rcases q13 with _ | ⟨x14, q13⟩
        · rewrite [impl_arePotentials_l2] at hm
          refine wp_seq ?_
          refine wp_region_lit ?_
          refine wl hs (y_lss hs rfl rfl) rfl ?_; intro a hs
          refine wpList_nil ?_
          refine x_nt ?_
          refine wp_seq ?_
          refine x_condF hs rfl (drop_f hj) ?_
          refine wp_exit ?_
          refine x_et ?_
          refine x_et ?_
          refine x_eb ?_
          have hm : some (Sum.inr ()) = some s11 := hm
          exact ⟨Option.some.inj hm, hs.sub ⟨rfl, rfl, rfl, rfl, trivial⟩, hM⟩
        · rewrite [impl_arePotentials_l2] at hm
          have hx15 := drop_idx hj
          have hjs := ck_succ hj (RdS.len (RdI.below hr9 hM.bel))
          refine wp_seq ?_
          refine wp_region_lit ?_
          refine wl hs (y_lss hs rfl rfl) rfl ?_; intro a hs
          refine wpList_nil ?_
          refine x_nt ?_
          refine wp_seq ?_
          refine x_condT hs rfl (drop_t hj) ?_
          refine wp_skip ?_
          refine x_nt ?_
          refine wp_seq ?_
          refine wp_block ?_
          refine wp_seq ?_
          refine wp_region_lit ?_
          refine wl hs (y_move hs rfl) rfl ?_; intro a hs
          have he16 := RdI.at_ (RdI.below hr9 hM.bel) hx15
          refine wl hs (y_index ht_I hs rfl rfl he16) rfl ?_; intro a hs
          refine wl hs (y_load sc_int hs rfl he16.cell) rfl ?_; intro a hs
          refine wl hs (y_assign hs rfl) rfl ?_; intro a hs
          refine wl hs (y_assign hs rfl) rfl ?_; intro a hs
          refine wpList_nil ?_
          refine x_nt ?_
          refine wp_seq ?_
          refine x_regq hmix (by kernel_rfl) ?_
          refine wq hs (fun w1 hw1 => y_move hs rfl) rfl ?_; intro a hs
          refine wq hs (fun w1 hw1 => y_neq hs rfl rfl) rfl ?_; intro a hs
          refine wq hs (fun w1 hw1 => y_move hs rfl) rfl ?_; intro a hs
          obtain ⟨b17, hb18, hm⟩ := bindE hm
          refine wqguard (N := 40) (L' := [(37, .bool b17), (1, v_p1), (5, .int .i64 (j1 : Int)), (9, v_p0), (10, .int .i64 (p0.length : Int)), (11, .int .i64 (j1 : Int)), (16, u8), (17, .int .i64 (x5.length : Int)), (18, .int .i64 (j10 : Int))]) 12 ?_ ?_
          · intro K; rcases Bool.eq_false_or_eq_true (x14 != 1000000000) with hg19 | hg19
            · have hm := condT hg19 hb18
              refine wqg hs rfl hg19 (fun w1 hw1 => y_move hs rfl) rfl ?_; intro a hs
              refine wqg hs rfl hg19 (fun w1 hw1 => y_move hs rfl) rfl ?_; intro a hs
              obtain ⟨x20, hx21, hm⟩ := bindE hm
              have he22 := RdI.at_ (RdI.below hr_p1 hM.bel) hx21
              refine wqg hs rfl hg19 (fun w1 hw1 => y_index ht_I hs rfl rfl (he22.below hw1)) rfl ?_; intro a hs
              refine wqg hs rfl hg19 (fun w1 hw1 => y_load sc_int hs rfl (he22.below hw1).cell) rfl ?_; intro a hs
              refine wqg hs rfl hg19 (fun w1 hw1 => y_move hs rfl) rfl ?_; intro a hs
              refine wqg hs rfl hg19 (fun w1 hw1 => y_move hs rfl) rfl ?_; intro a hs
              obtain ⟨x23, hx24, hm⟩ := bindE hm
              have he25 := RdI.at_ (RdI.below hr_p1 hM.bel) hx24
              refine wqg hs rfl hg19 (fun w1 hw1 => y_index ht_I hs rfl rfl (he25.below hw1)) rfl ?_; intro a hs
              refine wqg hs rfl hg19 (fun w1 hw1 => y_load sc_int hs rfl (he25.below hw1).cell) rfl ?_; intro a hs
              refine wqg hs rfl hg19 (fun w1 hw1 => y_move hs rfl) rfl ?_; intro a hs
              obtain ⟨n26, h27, hm⟩ := bindE hm
              refine wqg hs rfl hg19 (fun w1 hw1 => y_add hs rfl rfl h27) rfl ?_; intro a hs
              refine wqg hs rfl hg19 (fun w1 hw1 => y_gtr hs rfl rfl) rfl ?_; intro a hs
              have hm : some (decide (x20 > n26)) = some b17 := hm
              cases Option.some.inj hm
              refine wq hs (fun w1 hw1 => y_pickT hs rfl hg19 rfl) rfl ?_; intro a hs
              exact K _ (hs.sub ⟨rfl, rfl, rfl, rfl, rfl, rfl, rfl, rfl, rfl, trivial⟩)
            · have hm := condF hg19 hb18
              refine wqs hs rfl hg19 rfl ?_; intro a hs
              refine wqs hs rfl hg19 rfl ?_; intro a hs
              refine wqs hs rfl hg19 rfl ?_; intro a hs
              refine wqs hs rfl hg19 rfl ?_; intro a hs
              refine wqs hs rfl hg19 rfl ?_; intro a hs
              refine wqs hs rfl hg19 rfl ?_; intro a hs
              refine wqs hs rfl hg19 rfl ?_; intro a hs
              refine wqs hs rfl hg19 rfl ?_; intro a hs
              refine wqs hs rfl hg19 rfl ?_; intro a hs
              refine wqs hs rfl hg19 rfl ?_; intro a hs
              refine wqs hs rfl hg19 rfl ?_; intro a hs
              have hm : some false = some b17 := hm
              cases Option.some.inj hm
              refine wq hs (fun w1 hw1 => y_pickF hs rfl hg19 rfl) rfl ?_; intro a hs
              exact K _ (hs.sub ⟨rfl, rfl, rfl, rfl, rfl, rfl, rfl, rfl, rfl, trivial⟩)
          intro a hs
          simp only [List.drop_succ_cons, List.drop_zero]
          refine wpQuiet_nil ?_
          intro w hw
          replace hM := hM.quiet hw
          refine x_nt ?_
          refine x_cond hs rfl (fun hb => ?_) (fun hb => ?_)
          · replace hm := condT hb hm
            refine wp_seq ?_
            refine wp_region_lit ?_
            refine wl hs (y_assign hs rfl) rfl ?_; intro a hs
            refine wpList_nil ?_
            refine x_nt ?_
            refine wp_ret ?_
            refine x_rb ?_
            refine x_rt ?_
            refine x_rt ?_
            refine x_rb ?_
            refine x_rt ?_
            refine x_rb ?_
            refine x_rt ?_
            refine x_rt ?_
            refine x_rb ?_
            refine x_rt ?_
            refine x_rt ?_
            have hm : some (Sum.inl false) = some s11 := hm
            cases Option.some.inj hm
            have hm := hk12
            have hm : some (Sum.inl false) = some s2 := hm
            cases Option.some.inj hm
            have hm := hk3
            have hm : some false = some r := hm
            obtain rfl := Option.some.inj hm
            refine x_ret1 rfl hs rfl ⟨_, rfl, ?_⟩
            exact ⟨rfl, hM⟩
          · replace hm := condF hb hm
            refine wp_skip ?_
            refine x_nb ?_
            refine x_nt ?_
            refine wp_region_lit ?_
            refine wl hs (y_add hs rfl rfl hjs) rfl ?_; intro a hs
            refine wl hs (y_move hs rfl) rfl ?_; intro a hs
            refine wpList_nil ?_
            exact ⟨_, by simp, q13, j10 + 1, rfl, hs.sub ⟨rfl, rfl, rfl, rfl, rfl, rfl, rfl, rfl, trivial⟩, hM, hm, drop_next hj⟩
      rintro a w ⟨rfl, hs, hM⟩
      have hm := hk12
      refine x_nb ?_
      refine x_nt ?_
      refine wp_region_lit ?_
      refine wl hs (y_add hs rfl rfl hjs) rfl ?_; intro a hs
      refine wl hs (y_move hs rfl) rfl ?_; intro a hs
      refine wpList_nil ?_
      exact ⟨_, by simp, q4, j1 + 1, rfl, hs.sub ⟨rfl, rfl, rfl, rfl, trivial⟩, hM, hm, drop_next hj⟩
  rintro a w ⟨rfl, hs, hM⟩
  have hm := hk3
  refine x_nt ?_
  refine wp_seq ?_
  refine wp_region_lit ?_
  refine wl hs (y_assign hs rfl) rfl ?_; intro a hs
  refine wpList_nil ?_
  refine x_nt ?_
  refine wp_ret ?_
  have hm : some true = some r := hm
  obtain rfl := Option.some.inj hm
  refine x_ret1 rfl hs rfl ⟨_, rfl, ?_⟩
  exact ⟨rfl, hM⟩

end Go.Proofs.Ytjicdfplhenohaa
