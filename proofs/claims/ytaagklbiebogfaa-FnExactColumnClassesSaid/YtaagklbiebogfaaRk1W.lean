/- The code of this unit computes what its mirrors say. Written by program (wip/gen). -/
import Derived.Test.YtaagklbiebogfaaFacts
import Derived.Test.YtaagklbiebogfaaRk1M
import Derived.Test.YtaagklbiebogfaaNumW
namespace Go.Proofs.Ytaagklbiebogfaa
open Go.RowKit
set_option linter.unusedVariables false

set_option maxHeartbeats 4000000 in
theorem spec_rkOne_any (v_p0 : Value) (p0 : List (List Int)) (W : World) (hr_p0 : RdM W v_p0 p0) {r : Bool} (hm : spec_rkOne_m p0 = some r) : Calls Try.prog 58 [v_p0].toArray W fun e w => ∃ v, e = .returned v ∧ v = .bool r ∧ Mem W w [] := by
  refine x_enter Try.func58 rfl Try.ntmps58 rfl ?_
  intro a hs
  have hM := Mem.start W
  unfold spec_rkOne_m at hm
  refine wp_seq ?_
  refine wp_region_lit ?_
  refine wl hs (y_assign hs rfl) rfl ?_; intro a hs
  refine wpList_nil ?_
  refine x_nt ?_
  refine wp_seq ?_
  refine wp_seq ?_
  refine wp_region_lit ?_
  refine wl hs (y_move hs rfl) rfl ?_; intro a hs
  refine wl hs (y_len hu_M hs rfl (RdM.below hr_p0 hM.bel)) rfl ?_; intro a hs
  refine wl hs (y_move hs rfl) rfl ?_; intro a hs
  refine wpList_nil ?_
  refine x_nt ?_
  obtain ⟨s2, hm, hk3⟩ := bindE hm
  refine x_mid (fun a w => Sum.inr () = s2 ∧ Fr a 44 [] ∧ Mem W w []) ?_ ?_
  · refine wp_block ?_
    refine x_loop (fun k a w => ∃ (q4 : List (List Int)) (j1 : Nat) , k = q4.length ∧ Fr a 44 [(0, v_p0), (7, v_p0), (8, .int .i64 (p0.length : Int)), (9, .int .i64 (j1 : Int))] ∧ Mem W w [] ∧ spec_rkOne_l1 p0 q4 j1 = some s2 ∧ List.drop j1 p0 = q4) _ ⟨p0, 0, rfl, hs.sub ⟨rfl, rfl, rfl, rfl, trivial⟩, hM, hm, rfl⟩ ?_
    rintro k a w ⟨q4, j1, rfl, hs, hM, hm, hj1⟩
    rcases q4 with _ | ⟨x5, q4⟩
    · rewrite [spec_rkOne_l1] at hm
      refine wp_seq ?_
      refine wp_region_lit ?_
      refine wl hs (y_lss hs rfl rfl) rfl ?_; intro a hs
      refine wpList_nil ?_
      refine x_nt ?_
      refine wp_seq ?_
      refine x_condF hs rfl (drop_f hj1) ?_
      refine wp_exit ?_
      refine x_et ?_
      refine x_et ?_
      refine x_eb ?_
      have hm : some (Sum.inr ()) = some s2 := hm
      exact ⟨Option.some.inj hm, hs.sub trivial, hM⟩
    · rewrite [spec_rkOne_l1] at hm
      have hx6 := drop_idx hj1
      have hsj1 := ck_succ hj1 (RdS.len (RdM.below hr_p0 hM.bel))
      refine wp_seq ?_
      refine wp_region_lit ?_
      refine wl hs (y_lss hs rfl rfl) rfl ?_; intro a hs
      refine wpList_nil ?_
      refine x_nt ?_
      refine wp_seq ?_
      refine x_condT hs rfl (drop_t hj1) ?_
      refine wp_skip ?_
      refine x_nt ?_
      refine wp_seq ?_
      refine wp_block ?_
      refine wp_seq ?_
      refine wp_region_lit ?_
      obtain ⟨u8, he7, hr9⟩ := RdM.at_ hr_p0 hx6
      replace he7 := he7.below hM.bel
      refine wl hs (y_index ht_M hs rfl rfl he7) rfl ?_; intro a hs
      refine wl hs (y_load sc_I hs rfl he7.cell) rfl ?_; intro a hs
      refine wl hs (y_assign hs rfl) rfl ?_; intro a hs
      refine wpList_nil ?_
      refine x_nt ?_
      refine wp_seq ?_
      refine wp_region_lit ?_
      refine wl hs (y_move hs rfl) rfl ?_; intro a hs
      refine wl hs (y_len hu_I hs rfl (RdI.below hr9 hM.bel)) rfl ?_; intro a hs
      refine wl hs (y_move hs rfl) rfl ?_; intro a hs
      refine wpList_nil ?_
      refine x_nt ?_
      obtain ⟨s11, hm, hk12⟩ := bindE hm
      refine x_mid (fun a w => Sum.inr () = s11 ∧ Fr a 44 [(0, v_p0), (7, v_p0), (8, .int .i64 (p0.length : Int)), (9, .int .i64 (j1 : Int))] ∧ Mem W w []) ?_ ?_
      · refine wp_block ?_
        refine x_loop (fun k a w => ∃ (q13 : List Int) (j10 : Nat) , k = q13.length ∧ Fr a 44 [(0, v_p0), (4, u8), (7, v_p0), (8, .int .i64 (p0.length : Int)), (9, .int .i64 (j1 : Int)), (13, u8), (14, .int .i64 (x5.length : Int)), (15, .int .i64 (j10 : Int))] ∧ Mem W w [] ∧ spec_rkOne_l2 p0 x5 q13 j10 = some s11 ∧ List.drop j10 x5 = q13) _ ⟨x5, 0, rfl, hs.sub ⟨rfl, rfl, rfl, rfl, rfl, rfl, rfl, rfl, trivial⟩, hM, hm, rfl⟩ ?_
        rintro k a w ⟨q13, j10, rfl, hs, hM, hm, hj10⟩
        rcases q13 with _ | ⟨x14, q13⟩
        · rewrite [spec_rkOne_l2] at hm
          refine wp_seq ?_
          refine wp_region_lit ?_
          refine wl hs (y_lss hs rfl rfl) rfl ?_; intro a hs
          refine wpList_nil ?_
          refine x_nt ?_
          refine wp_seq ?_
          refine x_condF hs rfl (drop_f hj10) ?_
          refine wp_exit ?_
          refine x_et ?_
          refine x_et ?_
          refine x_eb ?_
          have hm : some (Sum.inr ()) = some s11 := hm
          exact ⟨Option.some.inj hm, hs.sub ⟨rfl, rfl, rfl, rfl, trivial⟩, hM⟩
        · rewrite [spec_rkOne_l2] at hm
          have hx15 := drop_idx hj10
          have hsj10 := ck_succ hj10 (RdS.len (RdI.below hr9 hM.bel))
          refine wp_seq ?_
          refine wp_region_lit ?_
          refine wl hs (y_lss hs rfl rfl) rfl ?_; intro a hs
          refine wpList_nil ?_
          refine x_nt ?_
          refine wp_seq ?_
          refine x_condT hs rfl (drop_t hj10) ?_
          refine wp_skip ?_
          refine x_nt ?_
          refine wp_seq ?_
          refine wp_block ?_
          refine wp_seq ?_
          refine wp_region_lit ?_
          refine wl hs (y_move hs rfl) rfl ?_; intro a hs
          have he16 := RdI.at_ (RdI.below hr9 hM.bel) hx15
          refine wl hs (y_index ht_I hs rfl rfl he16) rfl ?_; intro a hs
          refine wl hs (y_load sc_int hs rfl he16.cell) rfl ?_; intro a hs
          refine wl hs (y_assign hs rfl) rfl ?_; intro a hs
          refine wl hs (y_assign hs rfl) rfl ?_; intro a hs
          refine wpList_nil ?_
          refine x_nt ?_
          refine wp_seq ?_
          refine x_regq hmix (by kernel_rfl) ?_
          refine wq hs (fun w1 hw1 => y_move hs rfl) rfl ?_; intro a hs
          refine wq hs (fun w1 hw1 => y_eql hs rfl rfl) rfl ?_; intro a hs
          refine wq hs (fun w1 hw1 => y_move hs rfl) rfl ?_; intro a hs
          obtain ⟨b17, hb18, hm⟩ := bindE hm
          refine wqguard (N := 44) (L' := [(41, .bool b17), (0, v_p0), (4, u8), (7, v_p0), (8, .int .i64 (p0.length : Int)), (9, .int .i64 (j1 : Int)), (13, u8), (14, .int .i64 (x5.length : Int)), (15, .int .i64 (j10 : Int))]) 19 ?_ ?_
          · intro K; rcases Bool.eq_false_or_eq_true (x14 == 1000000000) with hg19 | hg19
            · have hm := condT hg19 hb18
              refine wqs hs rfl hg19 rfl ?_; intro a hs
              refine wqs hs rfl hg19 rfl ?_; intro a hs
              refine wqs hs rfl hg19 rfl ?_; intro a hs
              refine wqs hs rfl hg19 rfl ?_; intro a hs
              refine wqs hs rfl hg19 rfl ?_; intro a hs
              refine wqs hs rfl hg19 rfl ?_; intro a hs
              refine wqs hs rfl hg19 rfl ?_; intro a hs
              refine wqs hs rfl hg19 rfl ?_; intro a hs
              refine wqs hs rfl hg19 rfl ?_; intro a hs
              refine wqs hs rfl hg19 rfl ?_; intro a hs
              refine wqs hs rfl hg19 rfl ?_; intro a hs
              refine wqs hs rfl hg19 rfl ?_; intro a hs
              refine wqs hs rfl hg19 rfl ?_; intro a hs
              refine wqs hs rfl hg19 rfl ?_; intro a hs
              refine wqs hs rfl hg19 rfl ?_; intro a hs
              refine wqs hs rfl hg19 rfl ?_; intro a hs
              refine wqs hs rfl hg19 rfl ?_; intro a hs
              refine wqs hs rfl hg19 rfl ?_; intro a hs
              have hm : some true = some b17 := hm
              cases Option.some.inj hm
              refine wq hs (fun w1 hw1 => y_pickT hs rfl hg19 rfl) rfl ?_; intro a hs
              exact K _ (hs.sub ⟨rfl, rfl, rfl, rfl, rfl, rfl, rfl, rfl, rfl, trivial⟩)
            · have hm := condF hg19 hb18
              refine wqg hs rfl hg19 (fun w1 hw1 => y_move hs rfl) rfl ?_; intro a hs
              refine wqg hs rfl hg19 (fun w1 hw1 => y_move hs rfl) rfl ?_; intro a hs
              obtain ⟨x20, hx21, hm⟩ := bindE hm
              have he22 := RdI.at_ (RdI.below hr9 hM.bel) hx21
              refine wqg hs rfl hg19 (fun w1 hw1 => y_index ht_I hs rfl rfl (he22.below hw1)) rfl ?_; intro a hs
              refine wqg hs rfl hg19 (fun w1 hw1 => y_load sc_int hs rfl (he22.below hw1).cell) rfl ?_; intro a hs
              obtain ⟨n23, h24, hm⟩ := bindE hm
              refine wqg hs rfl hg19 (fun w1 hw1 => y_sub hs rfl rfl h24) rfl ?_; intro a hs
              refine wqg hs rfl hg19 (fun w1 hw1 => y_move hs rfl) rfl ?_; intro a hs
              obtain ⟨x25, hx26, hm⟩ := bindE hm
              obtain ⟨u28, he27, hr29⟩ := RdM.at_ hr_p0 hx26
              replace he27 := he27.below hM.bel
              refine wqg hs rfl hg19 (fun w1 hw1 => y_index ht_M hs rfl rfl (he27.below hw1)) rfl ?_; intro a hs
              refine wqg hs rfl hg19 (fun w1 hw1 => y_load sc_I hs rfl (he27.below hw1).cell) rfl ?_; intro a hs
              refine wqg hs rfl hg19 (fun w1 hw1 => y_move hs rfl) rfl ?_; intro a hs
              obtain ⟨x30, hx31, hm⟩ := bindE hm
              have he32 := RdI.at_ (RdI.below hr29 hM.bel) hx31
              refine wqg hs rfl hg19 (fun w1 hw1 => y_index ht_I hs rfl rfl (he32.below hw1)) rfl ?_; intro a hs
              refine wqg hs rfl hg19 (fun w1 hw1 => y_load sc_int hs rfl (he32.below hw1).cell) rfl ?_; intro a hs
              refine wqg hs rfl hg19 (fun w1 hw1 => y_move hs rfl) rfl ?_; intro a hs
              obtain ⟨u34, he33, hr35⟩ := RdM.at_ hr_p0 hx26
              replace he33 := he33.below hM.bel
              refine wqg hs rfl hg19 (fun w1 hw1 => y_index ht_M hs rfl rfl (he33.below hw1)) rfl ?_; intro a hs
              refine wqg hs rfl hg19 (fun w1 hw1 => y_load sc_I hs rfl (he33.below hw1).cell) rfl ?_; intro a hs
              obtain ⟨x36, hx37, hm⟩ := bindE hm
              have he38 := RdI.at_ (RdI.below hr35 hM.bel) hx37
              refine wqg hs rfl hg19 (fun w1 hw1 => y_index ht_I hs rfl rfl (he38.below hw1)) rfl ?_; intro a hs
              refine wqg hs rfl hg19 (fun w1 hw1 => y_load sc_int hs rfl (he38.below hw1).cell) rfl ?_; intro a hs
              obtain ⟨n39, h40, hm⟩ := bindE hm
              refine wqg hs rfl hg19 (fun w1 hw1 => y_sub hs rfl rfl h40) rfl ?_; intro a hs
              refine wqg hs rfl hg19 (fun w1 hw1 => y_neq hs rfl rfl) rfl ?_; intro a hs
              have hm : some (n23 != n39) = some b17 := hm
              cases Option.some.inj hm
              refine wq hs (fun w1 hw1 => y_pickF hs rfl hg19 rfl) rfl ?_; intro a hs
              exact K _ (hs.sub ⟨rfl, rfl, rfl, rfl, rfl, rfl, rfl, rfl, rfl, trivial⟩)
          intro a hs
          simp only [List.drop_succ_cons, List.drop_zero]
          refine wpQuiet_nil ?_
          intro w hw
          replace hM := hM.quiet hw
          refine x_nt ?_
          refine x_cond hs rfl (fun hb => ?_) (fun hb => ?_)
          · replace hm := condT hb hm
            refine wp_seq ?_
            refine wp_region_lit ?_
            refine wl hs (y_assign hs rfl) rfl ?_; intro a hs
            refine wpList_nil ?_
            refine x_nt ?_
            refine wp_ret ?_
            refine x_rb ?_
            refine x_rt ?_
            refine x_rt ?_
            refine x_rb ?_
            refine x_rt ?_
            refine x_rb ?_
            refine x_rt ?_
            refine x_rt ?_
            refine x_rb ?_
            refine x_rt ?_
            refine x_rt ?_
            have hm : some (Sum.inl false) = some s11 := hm
            cases Option.some.inj hm
            have hm := hk12
            have hm : some (Sum.inl false) = some s2 := hm
            cases Option.some.inj hm
            have hm := hk3
            have hm : some false = some r := hm
            obtain rfl := Option.some.inj hm
            refine x_ret1 rfl hs rfl ⟨_, rfl, ?_⟩
            exact ⟨rfl, hM⟩
          · replace hm := condF hb hm
            refine wp_skip ?_
            refine x_nb ?_
            refine x_nt ?_
            refine wp_region_lit ?_
            refine wl hs (y_add hs rfl rfl hsj10) rfl ?_; intro a hs
            refine wl hs (y_move hs rfl) rfl ?_; intro a hs
            refine wpList_nil ?_
            exact ⟨_, by simp, q13, j10 + 1, rfl, hs.sub ⟨rfl, rfl, rfl, rfl, rfl, rfl, rfl, rfl, trivial⟩, hM, hm, drop_next hj10⟩
      rintro a w ⟨rfl, hs, hM⟩
      have hm := hk12
      refine x_nb ?_
      refine x_nt ?_
      refine wp_region_lit ?_
      refine wl hs (y_add hs rfl rfl hsj1) rfl ?_; intro a hs
      refine wl hs (y_move hs rfl) rfl ?_; intro a hs
      refine wpList_nil ?_
      exact ⟨_, by simp, q4, j1 + 1, rfl, hs.sub ⟨rfl, rfl, rfl, rfl, trivial⟩, hM, hm, drop_next hj1⟩
  rintro a w ⟨rfl, hs, hM⟩
  have hm := hk3
  refine x_nt ?_
  refine wp_seq ?_
  refine wp_region_lit ?_
  refine wl hs (y_assign hs rfl) rfl ?_; intro a hs
  refine wpList_nil ?_
  refine x_nt ?_
  refine wp_ret ?_
  have hm : some true = some r := hm
  obtain rfl := Option.some.inj hm
  refine x_ret1 rfl hs rfl ⟨_, rfl, ?_⟩
  exact ⟨rfl, hM⟩

set_option maxHeartbeats 4000000 in
theorem impl_isRankOne_any (v_p0 : Value) (p0 : List (List Int)) (W : World) (hr_p0 : RdM W v_p0 p0) {r : Bool} (hm : impl_isRankOne_m p0 = some r) : Calls Try.prog 60 [v_p0].toArray W fun e w => ∃ v, e = .returned v ∧ v = .bool r ∧ Mem W w [] := by
  refine x_enter Try.func60 rfl Try.ntmps60 rfl ?_
  intro a hs
  have hM := Mem.start W
  unfold impl_isRankOne_m at hm
  refine wp_seq ?_
  refine wp_region_lit ?_
  refine wl hs (y_assign hs rfl) rfl ?_; intro a hs
  refine wpList_nil ?_
  refine x_nt ?_
  refine wp_seq ?_
  refine wp_seq ?_
  refine wp_region_lit ?_
  refine wl hs (y_move hs rfl) rfl ?_; intro a hs
  refine wl hs (y_len hu_M hs rfl (RdM.below hr_p0 hM.bel)) rfl ?_; intro a hs
  refine wl hs (y_move hs rfl) rfl ?_; intro a hs
  refine wpList_nil ?_
  refine x_nt ?_
  obtain ⟨s2, hm, hk3⟩ := bindE hm
  refine x_mid (fun a w => Sum.inr () = s2 ∧ Fr a 54 [] ∧ Mem W w []) ?_ ?_
  · refine wp_block ?_
    refine x_loop (fun k a w => ∃ (q4 : List (List Int)) (j1 : Nat) , k = q4.length ∧ Fr a 54 [(0, v_p0), (7, v_p0), (8, .int .i64 (p0.length : Int)), (9, .int .i64 (j1 : Int))] ∧ Mem W w [] ∧ impl_isRankOne_l1 p0 q4 j1 = some s2 ∧ List.drop j1 p0 = q4) _ ⟨p0, 0, rfl, hs.sub ⟨rfl, rfl, rfl, rfl, trivial⟩, hM, hm, rfl⟩ ?_
    rintro k a w ⟨q4, j1, rfl, hs, hM, hm, hj1⟩
    rcases q4 with _ | ⟨x5, q4⟩
    · rewrite [impl_isRankOne_l1] at hm
      refine wp_seq ?_
      refine wp_region_lit ?_
      refine wl hs (y_lss hs rfl rfl) rfl ?_; intro a hs
      refine wpList_nil ?_
      refine x_nt ?_
      refine wp_seq ?_
      refine x_condF hs rfl (drop_f hj1) ?_
      refine wp_exit ?_
      refine x_et ?_
      refine x_et ?_
      refine x_eb ?_
      have hm : some (Sum.inr ()) = some s2 := hm
      exact ⟨Option.some.inj hm, hs.sub trivial, hM⟩
    · rewrite [impl_isRankOne_l1] at hm
      have hx6 := drop_idx hj1
      have hsj1 := ck_succ hj1 (RdS.len (RdM.below hr_p0 hM.bel))
      refine wp_seq ?_
      refine wp_region_lit ?_
      refine wl hs (y_lss hs rfl rfl) rfl ?_; intro a hs
      refine wpList_nil ?_
      refine x_nt ?_
      refine wp_seq ?_
      refine x_condT hs rfl (drop_t hj1) ?_
      refine wp_skip ?_
      refine x_nt ?_
      refine wp_seq ?_
      refine wp_block ?_
      refine wp_seq ?_
      refine wp_region_lit ?_
      obtain ⟨u8, he7, hr9⟩ := RdM.at_ hr_p0 hx6
      replace he7 := he7.below hM.bel
      refine wl hs (y_index ht_M hs rfl rfl he7) rfl ?_; intro a hs
      refine wl hs (y_load sc_I hs rfl he7.cell) rfl ?_; intro a hs
      refine wl hs (y_assign hs rfl) rfl ?_; intro a hs
      refine wpList_nil ?_
      refine x_nt ?_
      refine wp_seq ?_
      refine wp_region_lit ?_
      refine wl hs (y_move hs rfl) rfl ?_; intro a hs
      refine wl hs (y_len hu_I hs rfl (RdI.below hr9 hM.bel)) rfl ?_; intro a hs
      refine wl hs (y_move hs rfl) rfl ?_; intro a hs
      refine wpList_nil ?_
      refine x_nt ?_
      obtain ⟨s11, hm, hk12⟩ := bindE hm
      refine x_mid (fun a w => Sum.inr () = s11 ∧ Fr a 54 [(0, v_p0), (7, v_p0), (8, .int .i64 (p0.length : Int)), (9, .int .i64 (j1 : Int))] ∧ Mem W w []) ?_ ?_
      · refine wp_block ?_
        refine x_loop (fun k a w => ∃ (q13 : List Int) (j10 : Nat) , k = q13.length ∧ Fr a 54 [(0, v_p0), (4, u8), (7, v_p0), (8, .int .i64 (p0.length : Int)), (9, .int .i64 (j1 : Int)), (13, u8), (14, .int .i64 (x5.length : Int)), (15, .int .i64 (j10 : Int))] ∧ Mem W w [] ∧ impl_isRankOne_l2 p0 x5 q13 j10 = some s11 ∧ List.drop j10 x5 = q13) _ ⟨x5, 0, rfl, hs.sub ⟨rfl, rfl, rfl, rfl, rfl, rfl, rfl, rfl, trivial⟩, hM, hm, rfl⟩ ?_
        rintro k a w ⟨q13, j10, rfl, hs, hM, hm, hj10⟩
        rcases q13 with _ | ⟨x14, q13⟩
        · rewrite [impl_isRankOne_l2] at hm
          refine wp_seq ?_
          refine wp_region_lit ?_
          refine wl hs (y_lss hs rfl rfl) rfl ?_; intro a hs
          refine wpList_nil ?_
          refine x_nt ?_
          refine wp_seq ?_
          refine x_condF hs rfl (drop_f hj10) ?_
          refine wp_exit ?_
          refine x_et ?_
          refine x_et ?_
          refine x_eb ?_
          have hm : some (Sum.inr ()) = some s11 := hm
          exact ⟨Option.some.inj hm, hs.sub ⟨rfl, rfl, rfl, rfl, trivial⟩, hM⟩
        · rewrite [impl_isRankOne_l2] at hm
          have hx15 := drop_idx hj10
          have hsj10 := ck_succ hj10 (RdS.len (RdI.below hr9 hM.bel))
          refine wp_seq ?_
          refine wp_region_lit ?_
          refine wl hs (y_lss hs rfl rfl) rfl ?_; intro a hs
          refine wpList_nil ?_
          refine x_nt ?_
          refine wp_seq ?_
          refine x_condT hs rfl (drop_t hj10) ?_
          refine wp_skip ?_
          refine x_nt ?_
          refine wp_seq ?_
          refine wp_block ?_
          refine wp_seq ?_
          refine wp_region_lit ?_
          refine wl hs (y_move hs rfl) rfl ?_; intro a hs
          have he16 := RdI.at_ (RdI.below hr9 hM.bel) hx15
          refine wl hs (y_index ht_I hs rfl rfl he16) rfl ?_; intro a hs
          refine wl hs (y_load sc_int hs rfl he16.cell) rfl ?_; intro a hs
          refine wl hs (y_assign hs rfl) rfl ?_; intro a hs
          refine wl hs (y_assign hs rfl) rfl ?_; intro a hs
          refine wpList_nil ?_
          refine x_nt ?_
          refine wp_seq ?_
          refine x_regq hmix (by kernel_rfl) ?_
          refine wq hs (fun w1 hw1 => y_move hs rfl) rfl ?_; intro a hs
          obtain ⟨y17, h18, hm⟩ := bindE hm
          refine qcall (v := .bool y17) is_103 hs rfl rfl (fun w1 hw1 => q_of hw1 (impl_isFinite_any x14 w1  h18)) ?_; intro a hs
          refine wq hs (fun w1 hw1 => y_not hs rfl) rfl ?_; intro a hs
          refine wq hs (fun w1 hw1 => y_move hs rfl) rfl ?_; intro a hs
          obtain ⟨b19, hb20, hm⟩ := bindE hm
          refine wqguard (N := 54) (L' := [(31, .bool b19), (0, v_p0), (4, u8), (5, .int .i64 (j10 : Int)), (6, .int .i64 x14), (7, v_p0), (8, .int .i64 (p0.length : Int)), (9, .int .i64 (j1 : Int)), (13, u8), (14, .int .i64 (x5.length : Int)), (15, .int .i64 (j10 : Int))]) 8 ?_ ?_
          · intro K; rcases Bool.eq_false_or_eq_true (!y17) with hg21 | hg21
            · have hm := condT hg21 hb20
              refine wqs hs rfl hg21 rfl ?_; intro a hs
              refine wqs hs rfl hg21 rfl ?_; intro a hs
              refine wqs hs rfl hg21 rfl ?_; intro a hs
              refine wqs hs rfl hg21 rfl ?_; intro a hs
              refine wqs hs rfl hg21 rfl ?_; intro a hs
              refine wqs hs rfl hg21 rfl ?_; intro a hs
              refine wqs hs rfl hg21 rfl ?_; intro a hs
              have hm : some true = some b19 := hm
              cases Option.some.inj hm
              refine wq hs (fun w1 hw1 => y_pickT hs rfl hg21 rfl) rfl ?_; intro a hs
              exact K _ (hs.sub ⟨rfl, rfl, rfl, rfl, rfl, rfl, rfl, rfl, rfl, rfl, rfl, trivial⟩)
            · have hm := condF hg21 hb20
              refine wqg hs rfl hg21 (fun w1 hw1 => y_move hs rfl) rfl ?_; intro a hs
              obtain ⟨x22, hx23, hm⟩ := bindE hm
              obtain ⟨u25, he24, hr26⟩ := RdM.at_ hr_p0 hx23
              replace he24 := he24.below hM.bel
              refine wqg hs rfl hg21 (fun w1 hw1 => y_index ht_M hs rfl rfl (he24.below hw1)) rfl ?_; intro a hs
              refine wqg hs rfl hg21 (fun w1 hw1 => y_load sc_I hs rfl (he24.below hw1).cell) rfl ?_; intro a hs
              refine wqg hs rfl hg21 (fun w1 hw1 => y_move hs rfl) rfl ?_; intro a hs
              obtain ⟨x27, hx28, hm⟩ := bindE hm
              have he29 := RdI.at_ (RdI.below hr26 hM.bel) hx28
              refine wqg hs rfl hg21 (fun w1 hw1 => y_index ht_I hs rfl rfl (he29.below hw1)) rfl ?_; intro a hs
              refine wqg hs rfl hg21 (fun w1 hw1 => y_load sc_int hs rfl (he29.below hw1).cell) rfl ?_; intro a hs
              refine wqg hs rfl hg21 (fun w1 hw1 => y_eql hs rfl rfl) rfl ?_; intro a hs
              have hm : some (x27 == 1000000000) = some b19 := hm
              cases Option.some.inj hm
              refine wq hs (fun w1 hw1 => y_pickF hs rfl hg21 rfl) rfl ?_; intro a hs
              exact K _ (hs.sub ⟨rfl, rfl, rfl, rfl, rfl, rfl, rfl, rfl, rfl, rfl, rfl, trivial⟩)
          intro a hs
          simp only [List.drop_succ_cons, List.drop_zero]
          refine wq hs (fun w1 hw1 => y_move hs rfl) rfl ?_; intro a hs
          obtain ⟨b30, hb31, hm⟩ := bindE hm
          refine wqguard (N := 54) (L' := [(51, .bool b30), (0, v_p0), (4, u8), (7, v_p0), (8, .int .i64 (p0.length : Int)), (9, .int .i64 (j1 : Int)), (13, u8), (14, .int .i64 (x5.length : Int)), (15, .int .i64 (j10 : Int))]) 19 ?_ ?_
          · intro K; rcases Bool.eq_false_or_eq_true b19 with hg32 | hg32
            · have hm := condT hg32 hb31
              refine wqs hs rfl hg32 rfl ?_; intro a hs
              refine wqs hs rfl hg32 rfl ?_; intro a hs
              refine wqs hs rfl hg32 rfl ?_; intro a hs
              refine wqs hs rfl hg32 rfl ?_; intro a hs
              refine wqs hs rfl hg32 rfl ?_; intro a hs
              refine wqs hs rfl hg32 rfl ?_; intro a hs
              refine wqs hs rfl hg32 rfl ?_; intro a hs
              refine wqs hs rfl hg32 rfl ?_; intro a hs
              refine wqs hs rfl hg32 rfl ?_; intro a hs
              refine wqs hs rfl hg32 rfl ?_; intro a hs
              refine wqs hs rfl hg32 rfl ?_; intro a hs
              refine wqs hs rfl hg32 rfl ?_; intro a hs
              refine wqs hs rfl hg32 rfl ?_; intro a hs
              refine wqs hs rfl hg32 rfl ?_; intro a hs
              refine wqs hs rfl hg32 rfl ?_; intro a hs
              refine wqs hs rfl hg32 rfl ?_; intro a hs
              refine wqs hs rfl hg32 rfl ?_; intro a hs
              refine wqs hs rfl hg32 rfl ?_; intro a hs
              have hm : some true = some b30 := hm
              cases Option.some.inj hm
              refine wq hs (fun w1 hw1 => y_pickT hs rfl hg32 rfl) rfl ?_; intro a hs
              exact K _ (hs.sub ⟨rfl, rfl, rfl, rfl, rfl, rfl, rfl, rfl, rfl, trivial⟩)
            · have hm := condF hg32 hb31
              refine wqg hs rfl hg32 (fun w1 hw1 => y_move hs rfl) rfl ?_; intro a hs
              refine wqg hs rfl hg32 (fun w1 hw1 => y_move hs rfl) rfl ?_; intro a hs
              obtain ⟨x33, hx34, hm⟩ := bindE hm
              have he35 := RdI.at_ (RdI.below hr9 hM.bel) hx34
              refine wqg hs rfl hg32 (fun w1 hw1 => y_index ht_I hs rfl rfl (he35.below hw1)) rfl ?_; intro a hs
              refine wqg hs rfl hg32 (fun w1 hw1 => y_load sc_int hs rfl (he35.below hw1).cell) rfl ?_; intro a hs
              obtain ⟨n36, h37, hm⟩ := bindE hm
              refine wqg hs rfl hg32 (fun w1 hw1 => y_sub hs rfl rfl h37) rfl ?_; intro a hs
              refine wqg hs rfl hg32 (fun w1 hw1 => y_move hs rfl) rfl ?_; intro a hs
              obtain ⟨x38, hx39, hm⟩ := bindE hm
              obtain ⟨u41, he40, hr42⟩ := RdM.at_ hr_p0 hx39
              replace he40 := he40.below hM.bel
              refine wqg hs rfl hg32 (fun w1 hw1 => y_index ht_M hs rfl rfl (he40.below hw1)) rfl ?_; intro a hs
              refine wqg hs rfl hg32 (fun w1 hw1 => y_load sc_I hs rfl (he40.below hw1).cell) rfl ?_; intro a hs
              refine wqg hs rfl hg32 (fun w1 hw1 => y_move hs rfl) rfl ?_; intro a hs
              obtain ⟨x43, hx44, hm⟩ := bindE hm
              have he45 := RdI.at_ (RdI.below hr42 hM.bel) hx44
              refine wqg hs rfl hg32 (fun w1 hw1 => y_index ht_I hs rfl rfl (he45.below hw1)) rfl ?_; intro a hs
              refine wqg hs rfl hg32 (fun w1 hw1 => y_load sc_int hs rfl (he45.below hw1).cell) rfl ?_; intro a hs
              refine wqg hs rfl hg32 (fun w1 hw1 => y_move hs rfl) rfl ?_; intro a hs
              obtain ⟨u47, he46, hr48⟩ := RdM.at_ hr_p0 hx39
              replace he46 := he46.below hM.bel
              refine wqg hs rfl hg32 (fun w1 hw1 => y_index ht_M hs rfl rfl (he46.below hw1)) rfl ?_; intro a hs
              refine wqg hs rfl hg32 (fun w1 hw1 => y_load sc_I hs rfl (he46.below hw1).cell) rfl ?_; intro a hs
              obtain ⟨x49, hx50, hm⟩ := bindE hm
              have he51 := RdI.at_ (RdI.below hr48 hM.bel) hx50
              refine wqg hs rfl hg32 (fun w1 hw1 => y_index ht_I hs rfl rfl (he51.below hw1)) rfl ?_; intro a hs
              refine wqg hs rfl hg32 (fun w1 hw1 => y_load sc_int hs rfl (he51.below hw1).cell) rfl ?_; intro a hs
              obtain ⟨n52, h53, hm⟩ := bindE hm
              refine wqg hs rfl hg32 (fun w1 hw1 => y_sub hs rfl rfl h53) rfl ?_; intro a hs
              refine wqg hs rfl hg32 (fun w1 hw1 => y_neq hs rfl rfl) rfl ?_; intro a hs
              have hm : some (n36 != n52) = some b30 := hm
              cases Option.some.inj hm
              refine wq hs (fun w1 hw1 => y_pickF hs rfl hg32 rfl) rfl ?_; intro a hs
              exact K _ (hs.sub ⟨rfl, rfl, rfl, rfl, rfl, rfl, rfl, rfl, rfl, trivial⟩)
          intro a hs
          simp only [List.drop_succ_cons, List.drop_zero]
          refine wpQuiet_nil ?_
          intro w hw
          replace hM := hM.quiet hw
          refine x_nt ?_
          refine x_cond hs rfl (fun hb => ?_) (fun hb => ?_)
          · replace hm := condT hb hm
            refine wp_seq ?_
            refine wp_region_lit ?_
            refine wl hs (y_assign hs rfl) rfl ?_; intro a hs
            refine wpList_nil ?_
            refine x_nt ?_
            refine wp_ret ?_
            refine x_rb ?_
            refine x_rt ?_
            refine x_rt ?_
            refine x_rb ?_
            refine x_rt ?_
            refine x_rb ?_
            refine x_rt ?_
            refine x_rt ?_
            refine x_rb ?_
            refine x_rt ?_
            refine x_rt ?_
            have hm : some (Sum.inl false) = some s11 := hm
            cases Option.some.inj hm
            have hm := hk12
            have hm : some (Sum.inl false) = some s2 := hm
            cases Option.some.inj hm
            have hm := hk3
            have hm : some false = some r := hm
            obtain rfl := Option.some.inj hm
            refine x_ret1 rfl hs rfl ⟨_, rfl, ?_⟩
            exact ⟨rfl, hM⟩
          · replace hm := condF hb hm
            refine wp_skip ?_
            refine x_nb ?_
            refine x_nt ?_
            refine wp_region_lit ?_
            refine wl hs (y_add hs rfl rfl hsj10) rfl ?_; intro a hs
            refine wl hs (y_move hs rfl) rfl ?_; intro a hs
            refine wpList_nil ?_
            exact ⟨_, by simp, q13, j10 + 1, rfl, hs.sub ⟨rfl, rfl, rfl, rfl, rfl, rfl, rfl, rfl, trivial⟩, hM, hm, drop_next hj10⟩
      rintro a w ⟨rfl, hs, hM⟩
      have hm := hk12
      refine x_nb ?_
      refine x_nt ?_
      refine wp_region_lit ?_
      refine wl hs (y_add hs rfl rfl hsj1) rfl ?_; intro a hs
      refine wl hs (y_move hs rfl) rfl ?_; intro a hs
      refine wpList_nil ?_
      exact ⟨_, by simp, q4, j1 + 1, rfl, hs.sub ⟨rfl, rfl, rfl, rfl, trivial⟩, hM, hm, drop_next hj1⟩
  rintro a w ⟨rfl, hs, hM⟩
  have hm := hk3
  refine x_nt ?_
  refine wp_seq ?_
  refine wp_region_lit ?_
  refine wl hs (y_assign hs rfl) rfl ?_; intro a hs
  refine wpList_nil ?_
  refine x_nt ?_
  refine wp_ret ?_
  have hm : some true = some r := hm
  obtain rfl := Option.some.inj hm
  refine x_ret1 rfl hs rfl ⟨_, rfl, ?_⟩
  exact ⟨rfl, hM⟩

end Go.Proofs.Ytaagklbiebogfaa
