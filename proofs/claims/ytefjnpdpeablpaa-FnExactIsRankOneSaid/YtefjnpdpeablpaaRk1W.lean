/- The code of this unit computes what its mirrors say. Written by program (wip/gen). -/
import Derived.Test.YtefjnpdpeablpaaFacts
import Derived.Test.YtefjnpdpeablpaaRk1M
import Derived.Test.YtefjnpdpeablpaaNumW
import Derived.Test.YtefjnpdpeablpaaMatW
namespace Go.Proofs.Ytefjnpdpeablpaa
open Go.RowKit
set_option linter.unusedVariables false

theorem spec_rkOne_any (v_p0 : Value) (p0 : List (List Int)) (W : World) (hr_p0 : RdM W v_p0 p0) {r : Bool} (hm : spec_rkOne_m p0 = some r) : Calls Try.prog 55 [v_p0].toArray W fun e w => ∃ v, e = .returned v ∧ v = .bool r ∧ Mem W w [] := by
  refine x_enter Try.func55 rfl Try.ntmps55 rfl ?_
  intro a hs
  have hM := Mem.start W
  unfold spec_rkOne_m at hm
  refine wp_seq ?_
  refine wp_region_lit ?_
  refine wl hs (y_assign hs rfl) rfl ?_; intro a hs
  refine wpList_nil ?_
  refine x_nt ?_
  refine wp_seq ?_
  refine wp_seq ?_
  refine wp_region_lit ?_
  refine wl hs (y_move hs rfl) rfl ?_; intro a hs
  refine wl hs (y_len hu_M hs rfl (RdM.below hr_p0 hM.bel)) rfl ?_; intro a hs
  refine wl hs (y_move hs rfl) rfl ?_; intro a hs
  refine wpList_nil ?_
  refine x_nt ?_
  obtain ⟨s2, hm, hk3⟩ := bindE hm
  refine x_mid (fun a w => Sum.inr () = s2 ∧ Fr a 44 [] ∧ Mem W w []) ?_ ?_
  · refine wp_block ?_
    refine x_loop (fun k a w => ∃ (q4 : List (List Int)) (j1 : Nat) , k = q4.length ∧ Fr a 44 [(0, v_p0), (7, v_p0), (8, .int .i64 (p0.length : Int)), (9, .int .i64 (j1 : Int))] ∧ Mem W w [] ∧ spec_rkOne_l1 p0 q4 j1 = some s2 ∧ List.drop j1 p0 = q4) _ ⟨p0, 0, rfl, hs.sub ⟨rfl, rfl, rfl, rfl, trivial⟩, hM, hm, rfl⟩ ?_
    rintro k a w ⟨q4, j1, rfl, hs, hM, hm, hj⟩
    rcases q4 with _ | ⟨x5, q4⟩
    · rewrite [spec_rkOne_l1] at hm
      refine wp_seq ?_
      refine wp_region_lit ?_
      refine wl hs (y_lss hs rfl rfl) rfl ?_; intro a hs
      refine wpList_nil ?_
      refine x_nt ?_
      refine wp_seq ?_
      refine x_condF hs rfl (drop_f hj) ?_
      refine wp_exit ?_
      refine x_et ?_
      refine x_et ?_
      refine x_eb ?_
      have hm : some (Sum.inr ()) = some s2 := hm
      exact ⟨Option.some.inj hm, hs.sub trivial, hM⟩
    · rewrite [spec_rkOne_l1] at hm
      have hx6 := drop_idx hj
      have hjs := ck_succ hj (RdS.len (RdM.below hr_p0 hM.bel))
      refine wp_seq ?_
      refine wp_region_lit ?_
      refine wl hs (y_lss hs rfl rfl) rfl ?_; intro a hs
      refine wpList_nil ?_
      refine x_nt ?_
      refine wp_seq ?_
      refine x_condT hs rfl (drop_t hj) ?_
      refine wp_skip ?_
      refine x_nt ?_
      refine wp_seq ?_
      refine wp_block ?_
      refine wp_seq ?_
      refine wp_region_lit ?_
      obtain ⟨u8, he7, hr9⟩ := RdM.at_ hr_p0 hx6
      replace he7 := he7.below hM.bel
      refine wl hs (y_index ht_M hs rfl rfl he7) rfl ?_; intro a hs
      refine wl hs (y_load sc_I hs rfl he7.cell) rfl ?_; intro a hs
      refine wl hs (y_assign hs rfl) rfl ?_; intro a hs
      refine wpList_nil ?_
      refine x_nt ?_
      refine wp_seq ?_
      refine wp_region_lit ?_
      refine wl hs (y_move hs rfl) rfl ?_; intro a hs
      refine wl hs (y_len hu_I hs rfl (RdI.below hr9 hM.bel)) rfl ?_; intro a hs
      refine wl hs (y_move hs rfl) rfl ?_; intro a hs
      refine wpList_nil ?_
      refine x_nt ?_
      obtain ⟨s11, hm, hk12⟩ := bindE hm
      refine x_mid (fun a w => Sum.inr () = s11 ∧ Fr a 44 [(0, v_p0), (7, v_p0), (8, .int .i64 (p0.length : Int)), (9, .int .i64 (j1 : Int))] ∧ Mem W w []) ?_ ?_
      · refine wp_block ?_
        refine x_loop (fun k a w => ∃ (q13 : List Int) (j10 : Nat) , k = q13.length ∧ Fr a 44 [(0, v_p0), (4, u8), (7, v_p0), (8, .int .i64 (p0.length : Int)), (9, .int .i64 (j1 : Int)), (13, u8), (14, .int .i64 (x5.length : Int)), (15, .int .i64 (j10 : Int))] ∧ Mem W w [] ∧ spec_rkOne_l2 p0 x5 q13 j10 = some s11 ∧ List.drop j10 x5 = q13) _ ⟨x5, 0, rfl, hs.sub ⟨rfl, rfl, rfl, rfl, rfl, rfl, rfl, rfl, trivial⟩, hM, hm, rfl⟩ ?_
        rintro k a w ⟨q13, j10, rfl, hs, hM, hm, hj⟩
        rcases q13 with _ | ⟨x14, q13⟩
        · rewrite [spec_rkOne_l2] at hm
          refine wp_seq ?_
          refine wp_region_lit ?_
          refine wl hs (y_lss hs rfl rfl) rfl ?_; intro a hs
          refine wpList_nil ?_
          refine x_nt ?_
          refine wp_seq ?_
          refine x_condF hs rfl (drop_f hj) ?_
          refine wp_exit ?_
          refine x_et ?_
          refine x_et ?_
          refine x_eb ?_
          have hm : some (Sum.inr ()) = some s11 := hm
          exact ⟨Option.some.inj hm, hs.sub ⟨rfl, rfl, rfl, rfl, trivial⟩, hM⟩
        · rewrite [spec_rkOne_l2] at hm
          have hx15 := drop_idx hj
          have hjs := ck_succ hj (RdS.len (RdI.below hr9 hM.bel))
          refine wp_seq ?_
          refine wp_region_lit ?_
          refine wl hs (y_lss hs rfl rfl) rfl ?_; intro a hs
          refine wpList_nil ?_
          refine x_nt ?_
          refine wp_seq ?_
          refine x_condT hs rfl (drop_t hj) ?_
          refine wp_skip ?_
          refine x_nt ?_
          refine wp_seq ?_
          refine wp_block ?_
          refine wp_seq ?_
          refine wp_region_lit ?_
          refine wl hs (y_move hs rfl) rfl ?_; intro a hs
          have he16 := RdI.at_ (RdI.below hr9 hM.bel) hx15
          refine wl hs (y_index ht_I hs rfl rfl he16) rfl ?_; intro a hs
          refine wl hs (y_load sc_int hs rfl he16.cell) rfl ?_; intro a hs
          refine wl hs (y_assign hs rfl) rfl ?_; intro a hs
          refine wl hs (y_assign hs rfl) rfl ?_; intro a hs
          refine wpList_nil ?_
          refine x_nt ?_
          refine wp_seq ?_
          refine x_regq hmix (by kernel_rfl) ?_
          refine wq hs (fun w1 hw1 => y_move hs rfl) rfl ?_; intro a hs
          refine wq hs (fun w1 hw1 => y_eql hs rfl rfl) rfl ?_; intro a hs
          refine wq hs (fun w1 hw1 => y_move hs rfl) rfl ?_; intro a hs
          obtain ⟨b17, hb18, hm⟩ := bindE hm
          refine wqguard (N := 44) (L' := [(41, .bool b17), (0, v_p0), (4, u8), (7, v_p0), (8, .int .i64 (p0.length : Int)), (9, .int .i64 (j1 : Int)), (13, u8), (14, .int .i64 (x5.length : Int)), (15, .int .i64 (j10 : Int))]) 19 ?_ ?_
          · intro K; rcases Bool.eq_false_or_eq_true (x14 == 1000000000) with hg19 | hg19
            · have hm := condT hg19 hb18
              refine wqs hs rfl hg19 rfl ?_; intro a hs
              refine wqs hs rfl hg19 rfl ?_; intro a hs
              refine wqs hs rfl hg19 rfl ?_; intro a hs
              refine wqs hs rfl hg19 rfl ?_; intro a hs
              refine wqs hs rfl hg19 rfl ?_; intro a hs
              refine wqs hs rfl hg19 rfl ?_; intro a hs
              refine wqs hs rfl hg19 rfl ?_; intro a hs
              refine wqs hs rfl hg19 rfl ?_; intro a hs
              refine wqs hs rfl hg19 rfl ?_; intro a hs
              refine wqs hs rfl hg19 rfl ?_; intro a hs
              refine wqs hs rfl hg19 rfl ?_; intro a hs
              refine wqs hs rfl hg19 rfl ?_; intro a hs
              refine wqs hs rfl hg19 rfl ?_; intro a hs
              refine wqs hs rfl hg19 rfl ?_; intro a hs
              refine wqs hs rfl hg19 rfl ?_; intro a hs
              refine wqs hs rfl hg19 rfl ?_; intro a hs
              refine wqs hs rfl hg19 rfl ?_; intro a hs
              refine wqs hs rfl hg19 rfl ?_; intro a hs
              have hm : some true = some b17 := hm
              cases Option.some.inj hm
              refine wq hs (fun w1 hw1 => y_pickT hs rfl hg19 rfl) rfl ?_; intro a hs
              exact K _ (hs.sub ⟨rfl, rfl, rfl, rfl, rfl, rfl, rfl, rfl, rfl, trivial⟩)
            · have hm := condF hg19 hb18
              refine wqg hs rfl hg19 (fun w1 hw1 => y_move hs rfl) rfl ?_; intro a hs
              refine wqg hs rfl hg19 (fun w1 hw1 => y_move hs rfl) rfl ?_; intro a hs
              obtain ⟨x20, hx21, hm⟩ := bindE hm
              have he22 := RdI.at_ (RdI.below hr9 hM.bel) hx21
              refine wqg hs rfl hg19 (fun w1 hw1 => y_index ht_I hs rfl rfl (he22.below hw1)) rfl ?_; intro a hs
              refine wqg hs rfl hg19 (fun w1 hw1 => y_load sc_int hs rfl (he22.below hw1).cell) rfl ?_; intro a hs
              obtain ⟨n23, h24, hm⟩ := bindE hm
              refine wqg hs rfl hg19 (fun w1 hw1 => y_sub hs rfl rfl h24) rfl ?_; intro a hs
              refine wqg hs rfl hg19 (fun w1 hw1 => y_move hs rfl) rfl ?_; intro a hs
              obtain ⟨x25, hx26, hm⟩ := bindE hm
              obtain ⟨u28, he27, hr29⟩ := RdM.at_ hr_p0 hx26
              replace he27 := he27.below hM.bel
              refine wqg hs rfl hg19 (fun w1 hw1 => y_index ht_M hs rfl rfl (he27.below hw1)) rfl ?_; intro a hs
              refine wqg hs rfl hg19 (fun w1 hw1 => y_load sc_I hs rfl (he27.below hw1).cell) rfl ?_; intro a hs
              refine wqg hs rfl hg19 (fun w1 hw1 => y_move hs rfl) rfl ?_; intro a hs
              obtain ⟨x30, hx31, hm⟩ := bindE hm
              have he32 := RdI.at_ (RdI.below hr29 hM.bel) hx31
              refine wqg hs rfl hg19 (fun w1 hw1 => y_index ht_I hs rfl rfl (he32.below hw1)) rfl ?_; intro a hs
              refine wqg hs rfl hg19 (fun w1 hw1 => y_load sc_int hs rfl (he32.below hw1).cell) rfl ?_; intro a hs
              refine wqg hs rfl hg19 (fun w1 hw1 => y_move hs rfl) rfl ?_; intro a hs
              obtain ⟨u34, he33, hr35⟩ := RdM.at_ hr_p0 hx26
              replace he33 := he33.below hM.bel
              refine wqg hs rfl hg19 (fun w1 hw1 => y_index ht_M hs rfl rfl (he33.below hw1)) rfl ?_; intro a hs
              refine wqg hs rfl hg19 (fun w1 hw1 => y_load sc_I hs rfl (he33.below hw1).cell) rfl ?_; intro a hs
              obtain ⟨x36, hx37, hm⟩ := bindE hm
              have he38 := RdI.at_ (RdI.below hr35 hM.bel) hx37
              refine wqg hs rfl hg19 (fun w1 hw1 => y_index ht_I hs rfl rfl (he38.below hw1)) rfl ?_; intro a hs
              refine wqg hs rfl hg19 (fun w1 hw1 => y_load sc_int hs rfl (he38.below hw1).cell) rfl ?_; intro a hs
              obtain ⟨n39, h40, hm⟩ := bindE hm
              refine wqg hs rfl hg19 (fun w1 hw1 => y_sub hs rfl rfl h40) rfl ?_; intro a hs
              refine wqg hs rfl hg19 (fun w1 hw1 => y_neq hs rfl rfl) rfl ?_; intro a hs
              have hm : some (n23 != n39) = some b17 := hm
              cases Option.some.inj hm
              refine wq hs (fun w1 hw1 => y_pickF hs rfl hg19 rfl) rfl ?_; intro a hs
              exact K _ (hs.sub ⟨rfl, rfl, rfl, rfl, rfl, rfl, rfl, rfl, rfl, trivial⟩)
          intro a hs
          simp only [List.drop_succ_cons, List.drop_zero]
          refine wpQuiet_nil ?_
          intro w hw
          replace hM := hM.quiet hw
          refine x_nt ?_
          refine x_cond hs rfl (fun hb => ?_) (fun hb => ?_)
          · replace hm := condT hb hm
            refine wp_seq ?_
            refine wp_region_lit ?_
            refine wl hs (y_assign hs rfl) rfl ?_; intro a hs
            refine wpList_nil ?_
            refine x_nt ?_
            refine wp_ret ?_
            refine x_rb ?_
            refine x_rt ?_
            refine x_rt ?_
            refine x_rb ?_
            refine x_rt ?_
            refine x_rb ?_
            refine x_rt ?_
            refine x_rt ?_
            refine x_rb ?_
            refine x_rt ?_
            refine x_rt ?_
            have hm : some (Sum.inl false) = some s11 := hm
            cases Option.some.inj hm
            have hm := hk12
            have hm : some (Sum.inl false) = some s2 := hm
            cases Option.some.inj hm
            have hm := hk3
            have hm : some false = some r := hm
            obtain rfl := Option.some.inj hm
            refine x_ret1 rfl hs rfl ⟨_, rfl, ?_⟩
            exact ⟨rfl, hM⟩
          · replace hm := condF hb hm
            refine wp_skip ?_
            refine x_nb ?_
            refine x_nt ?_
            refine wp_region_lit ?_
            refine wl hs (y_add hs rfl rfl hjs) rfl ?_; intro a hs
            refine wl hs (y_move hs rfl) rfl ?_; intro a hs
            refine wpList_nil ?_
            exact ⟨_, by simp, q13, j10 + 1, rfl, hs.sub ⟨rfl, rfl, rfl, rfl, rfl, rfl, rfl, rfl, trivial⟩, hM, hm, drop_next hj⟩
      rintro a w ⟨rfl, hs, hM⟩
      have hm := hk12
      refine x_nb ?_
      refine x_nt ?_
      refine wp_region_lit ?_
      refine wl hs (y_add hs rfl rfl hjs) rfl ?_; intro a hs
      refine wl hs (y_move hs rfl) rfl ?_; intro a hs
      refine wpList_nil ?_
      exact ⟨_, by simp, q4, j1 + 1, rfl, hs.sub ⟨rfl, rfl, rfl, rfl, trivial⟩, hM, hm, drop_next hj⟩
  rintro a w ⟨rfl, hs, hM⟩
  have hm := hk3
  refine x_nt ?_
  refine wp_seq ?_
  refine wp_region_lit ?_
  refine wl hs (y_assign hs rfl) rfl ?_; intro a hs
  refine wpList_nil ?_
  refine x_nt ?_
  refine wp_ret ?_
  have hm : some true = some r := hm
  obtain rfl := Option.some.inj hm
  refine x_ret1 rfl hs rfl ⟨_, rfl, ?_⟩
  exact ⟨rfl, hM⟩

theorem impl_isRankOne_any (v_p0 : Value) (p0 : List (List Int)) (W : World) (hr_p0 : RdM W v_p0 p0) {r : Bool} (hm : impl_isRankOne_m p0 = some r) : Calls Try.prog 56 [v_p0].toArray W fun e w => ∃ v, e = .returned v ∧ v = .bool r ∧ Mem W w [] := by
  refine x_enter Try.func56 rfl Try.ntmps56 rfl ?_
  intro a hs
  have hM := Mem.start W
  unfold impl_isRankOne_m at hm
  refine wp_seq ?_
  refine wp_region_lit ?_
  refine wl hs (y_assign hs rfl) rfl ?_; intro a hs
  refine wpList_nil ?_
  refine x_nt ?_
  refine wp_seq ?_
  refine wp_seq ?_
  refine wp_region_lit ?_
  refine wl hs (y_move hs rfl) rfl ?_; intro a hs
  refine wl hs (y_len hu_M hs rfl (RdM.below hr_p0 hM.bel)) rfl ?_; intro a hs
  refine wl hs (y_move hs rfl) rfl ?_; intro a hs
  refine wpList_nil ?_
  refine x_nt ?_
  obtain ⟨s2, hm, hk3⟩ := bindE hm
  refine x_mid (fun a w => Sum.inr () = s2 ∧ Fr a 54 [] ∧ Mem W w []) ?_ ?_
  · refine wp_block ?_
    refine x_loop (fun k a w => ∃ (q4 : List (List Int)) (j1 : Nat) , k = q4.length ∧ Fr a 54 [(0, v_p0), (7, v_p0), (8, .int .i64 (p0.length : Int)), (9, .int .i64 (j1 : Int))] ∧ Mem W w [] ∧ impl_isRankOne_l1 p0 q4 j1 = some s2 ∧ List.drop j1 p0 = q4) _ ⟨p0, 0, rfl, hs.sub ⟨rfl, rfl, rfl, rfl, trivial⟩, hM, hm, rfl⟩ ?_
    rintro k a w ⟨q4, j1, rfl, hs, hM, hm, hj⟩
    rcases q4 with _ | ⟨x5, q4⟩
    · rewrite [impl_isRankOne_l1] at hm
      refine wp_seq ?_
      refine wp_region_lit ?_
      refine wl hs (y_lss hs rfl rfl) rfl ?_; intro a hs
      refine wpList_nil ?_
      refine x_nt ?_
      refine wp_seq ?_
      refine x_condF hs rfl (drop_f hj) ?_
      refine wp_exit ?_
      refine x_et ?_
      refine x_et ?_
      refine x_eb ?_
      have hm : some (Sum.inr ()) = some s2 := hm
      exact ⟨Option.some.inj hm, hs.sub trivial, hM⟩
    · rewrite [impl_isRankOne_l1] at hm
      have hx6 := drop_idx hj
      have hjs := ck_succ hj (RdS.len (RdM.below hr_p0 hM.bel))
      refine wp_seq ?_
      refine wp_region_lit ?_
      refine wl hs (y_lss hs rfl rfl) rfl ?_; intro a hs
      refine wpList_nil ?_
      refine x_nt ?_
      refine wp_seq ?_
      refine x_condT hs rfl (drop_t hj) ?_
      refine wp_skip ?_
      refine x_nt ?_
      refine wp_seq ?_
      refine wp_block ?_
      refine wp_seq ?_
      refine wp_region_lit ?_
      obtain ⟨u8, he7, hr9⟩ := RdM.at_ hr_p0 hx6
      replace he7 := he7.below hM.bel
      refine wl hs (y_index ht_M hs rfl rfl he7) rfl ?_; intro a hs
      refine wl hs (y_load sc_I hs rfl he7.cell) rfl ?_; intro a hs
      refine wl hs (y_assign hs rfl) rfl ?_; intro a hs
      refine wpList_nil ?_
      refine x_nt ?_
      refine wp_seq ?_
      refine wp_region_lit ?_
      refine wl hs (y_move hs rfl) rfl ?_; intro a hs
      refine wl hs (y_len hu_I hs rfl (RdI.below hr9 hM.bel)) rfl ?_; intro a hs
      refine wl hs (y_move hs rfl) rfl ?_; intro a hs
      refine wpList_nil ?_
      refine x_nt ?_
      obtain ⟨s11, hm, hk12⟩ := bindE hm
      refine x_mid (fun a w => Sum.inr () = s11 ∧ Fr a 54 [(0, v_p0), (7, v_p0), (8, .int .i64 (p0.length : Int)), (9, .int .i64 (j1 : Int))] ∧ Mem W w []) ?_ ?_
      · refine wp_block ?_
        refine x_loop (fun k a w => ∃ (q13 : List Int) (j10 : Nat) , k = q13.length ∧ Fr a 54 [(0, v_p0), (4, u8), (7, v_p0), (8, .int .i64 (p0.length : Int)), (9, .int .i64 (j1 : Int)), (13, u8), (14, .int .i64 (x5.length : Int)), (15, .int .i64 (j10 : Int))] ∧ Mem W w [] ∧ impl_isRankOne_l2 p0 x5 q13 j10 = some s11 ∧ List.drop j10 x5 = q13) _ ⟨x5, 0, rfl, hs.sub ⟨rfl, rfl, rfl, rfl, rfl, rfl, rfl, rfl, trivial⟩, hM, hm, rfl⟩ ?_
        rintro k a w ⟨q13, j10, rfl, hs, hM, hm, hj⟩
        rcases q13 with _ | ⟨x14, q13⟩
        · rewrite [impl_isRankOne_l2] at hm
          refine wp_seq ?_
          refine wp_region_lit ?_
          refine wl hs (y_lss hs rfl rfl) rfl ?_; intro a hs
          refine wpList_nil ?_
          refine x_nt ?_
          refine wp_seq ?_
          refine x_condF hs rfl (drop_f hj) ?_
          refine wp_exit ?_
          refine x_et ?_
          refine x_et ?_
          refine x_eb ?_
          have hm : some (Sum.inr ()) = some s11 := hm
          exact ⟨Option.some.inj hm, hs.sub ⟨rfl, rfl, rfl, rfl, trivial⟩, hM⟩
        · rewrite [impl_isRankOne_l2] at hm
          have hx15 := drop_idx hj
          have hjs := ck_succ hj (RdS.len (RdI.below hr9 hM.bel))
          refine wp_seq ?_
          refine wp_region_lit ?_
          refine wl hs (y_lss hs rfl rfl) rfl ?_; intro a hs
          refine wpList_nil ?_
          refine x_nt ?_
          refine wp_seq ?_
          refine x_condT hs rfl (drop_t hj) ?_
          refine wp_skip ?_
          refine x_nt ?_
          refine wp_seq ?_
          refine wp_block ?_
          refine wp_seq ?_
          refine wp_region_lit ?_
          refine wl hs (y_move hs rfl) rfl ?_; intro a hs
          have he16 := RdI.at_ (RdI.below hr9 hM.bel) hx15
          refine wl hs (y_index ht_I hs rfl rfl he16) rfl ?_; intro a hs
          refine wl hs (y_load sc_int hs rfl he16.cell) rfl ?_; intro a hs
          refine wl hs (y_assign hs rfl) rfl ?_; intro a hs
          refine wl hs (y_assign hs rfl) rfl ?_; intro a hs
          refine wpList_nil ?_
          refine x_nt ?_
          refine wp_seq ?_
          refine x_regq hmix (by kernel_rfl) ?_
          refine wq hs (fun w1 hw1 => y_move hs rfl) rfl ?_; intro a hs
          obtain ⟨y17, h18, hm⟩ := bindE hm
          refine qcall (v := .bool y17) is_84 hs rfl rfl (fun w1 hw1 => q_of hw1 (impl_isFinite_any x14 w1  h18)) ?_; intro a hs
          refine wq hs (fun w1 hw1 => y_not hs rfl) rfl ?_; intro a hs
          refine wq hs (fun w1 hw1 => y_move hs rfl) rfl ?_; intro a hs
          obtain ⟨b19, hb20, hm⟩ := bindE hm
          refine wqguard (N := 54) (L' := [(31, .bool b19), (0, v_p0), (4, u8), (5, .int .i64 (j10 : Int)), (6, .int .i64 x14), (7, v_p0), (8, .int .i64 (p0.length : Int)), (9, .int .i64 (j1 : Int)), (13, u8), (14, .int .i64 (x5.length : Int)), (15, .int .i64 (j10 : Int))]) 8 ?_ ?_
          · intro K; rcases Bool.eq_false_or_eq_true (!y17) with hg21 | hg21
            · have hm := condT hg21 hb20
              refine wqs hs rfl hg21 rfl ?_; intro a hs
              refine wqs hs rfl hg21 rfl ?_; intro a hs
              refine wqs hs rfl hg21 rfl ?_; intro a hs
              refine wqs hs rfl hg21 rfl ?_; intro a hs
              refine wqs hs rfl hg21 rfl ?_; intro a hs
              refine wqs hs rfl hg21 rfl ?_; intro a hs
              refine wqs hs rfl hg21 rfl ?_; intro a hs
              have hm : some true = some b19 := hm
              cases Option.some.inj hm
              refine wq hs (fun w1 hw1 => y_pickT hs rfl hg21 rfl) rfl ?_; intro a hs
              exact K _ (hs.sub ⟨rfl, rfl, rfl, rfl, rfl, rfl, rfl, rfl, rfl, rfl, rfl, trivial⟩)
            · have hm := condF hg21 hb20
              refine wqg hs rfl hg21 (fun w1 hw1 => y_move hs rfl) rfl ?_; intro a hs
              obtain ⟨x22, hx23, hm⟩ := bindE hm
              obtain ⟨u25, he24, hr26⟩ := RdM.at_ hr_p0 hx23
              replace he24 := he24.below hM.bel
              refine wqg hs rfl hg21 (fun w1 hw1 => y_index ht_M hs rfl rfl (he24.below hw1)) rfl ?_; intro a hs
              refine wqg hs rfl hg21 (fun w1 hw1 => y_load sc_I hs rfl (he24.below hw1).cell) rfl ?_; intro a hs
              refine wqg hs rfl hg21 (fun w1 hw1 => y_move hs rfl) rfl ?_; intro a hs
              obtain ⟨x27, hx28, hm⟩ := bindE hm
              have he29 := RdI.at_ (RdI.below hr26 hM.bel) hx28
              refine wqg hs rfl hg21 (fun w1 hw1 => y_index ht_I hs rfl rfl (he29.below hw1)) rfl ?_; intro a hs
              refine wqg hs rfl hg21 (fun w1 hw1 => y_load sc_int hs rfl (he29.below hw1).cell) rfl ?_; intro a hs
              refine wqg hs rfl hg21 (fun w1 hw1 => y_eql hs rfl rfl) rfl ?_; intro a hs
              have hm : some (x27 == 1000000000) = some b19 := hm
              cases Option.some.inj hm
              refine wq hs (fun w1 hw1 => y_pickF hs rfl hg21 rfl) rfl ?_; intro a hs
              exact K _ (hs.sub ⟨rfl, rfl, rfl, rfl, rfl, rfl, rfl, rfl, rfl, rfl, rfl, trivial⟩)
          intro a hs
          simp only [List.drop_succ_cons, List.drop_zero]
          refine wq hs (fun w1 hw1 => y_move hs rfl) rfl ?_; intro a hs
          obtain ⟨b30, hb31, hm⟩ := bindE hm
          refine wqguard (N := 54) (L' := [(51, .bool b30), (0, v_p0), (4, u8), (7, v_p0), (8, .int .i64 (p0.length : Int)), (9, .int .i64 (j1 : Int)), (13, u8), (14, .int .i64 (x5.length : Int)), (15, .int .i64 (j10 : Int))]) 19 ?_ ?_
          · intro K; rcases Bool.eq_false_or_eq_true b19 with hg32 | hg32
            · have hm := condT hg32 hb31
              refine wqs hs rfl hg32 rfl ?_; intro a hs
              refine wqs hs rfl hg32 rfl ?_; intro a hs
              refine wqs hs rfl hg32 rfl ?_; intro a hs
              refine wqs hs rfl hg32 rfl ?_; intro a hs
              refine wqs hs rfl hg32 rfl ?_; intro a hs
              refine wqs hs rfl hg32 rfl ?_; intro a hs
              refine wqs hs rfl hg32 rfl ?_; intro a hs
              refine wqs hs rfl hg32 rfl ?_; intro a hs
              refine wqs hs rfl hg32 rfl ?_; intro a hs
              refine wqs hs rfl hg32 rfl ?_; intro a hs
              refine wqs hs rfl hg32 rfl ?_; intro a hs
              refine wqs hs rfl hg32 rfl ?_; intro a hs
              refine wqs hs rfl hg32 rfl ?_; intro a hs
              refine wqs hs rfl hg32 rfl ?_; intro a hs
              refine wqs hs rfl hg32 rfl ?_; intro a hs
              refine wqs hs rfl hg32 rfl ?_; intro a hs
              refine wqs hs rfl hg32 rfl ?_; intro a hs
              refine wqs hs rfl hg32 rfl ?_; intro a hs
              have hm : some true = some b30 := hm
              cases Option.some.inj hm
              refine wq hs (fun w1 hw1 => y_pickT hs rfl hg32 rfl) rfl ?_; intro a hs
              exact K _ (hs.sub ⟨rfl, rfl, rfl, rfl, rfl, rfl, rfl, rfl, rfl, trivial⟩)
            · have hm := condF hg32 hb31
              refine wqg hs rfl hg32 (fun w1 hw1 => y_move hs rfl) rfl ?_; intro a hs
              refine wqg hs rfl hg32 (fun w1 hw1 => y_move hs rfl) rfl ?_; intro a hs
              obtain ⟨x33, hx34, hm⟩ := bindE hm
              have he35 := RdI.at_ (RdI.below hr9 hM.bel) hx34
              refine wqg hs rfl hg32 (fun w1 hw1 => y_index ht_I hs rfl rfl (he35.below hw1)) rfl ?_; intro a hs
              refine wqg hs rfl hg32 (fun w1 hw1 => y_load sc_int hs rfl (he35.below hw1).cell) rfl ?_; intro a hs
              obtain ⟨n36, h37, hm⟩ := bindE hm
              refine wqg hs rfl hg32 (fun w1 hw1 => y_sub hs rfl rfl h37) rfl ?_; intro a hs
              refine wqg hs rfl hg32 (fun w1 hw1 => y_move hs rfl) rfl ?_; intro a hs
              obtain ⟨x38, hx39, hm⟩ := bindE hm
              obtain ⟨u41, he40, hr42⟩ := RdM.at_ hr_p0 hx39
              replace he40 := he40.below hM.bel
              refine wqg hs rfl hg32 (fun w1 hw1 => y_index ht_M hs rfl rfl (he40.below hw1)) rfl ?_; intro a hs
              refine wqg hs rfl hg32 (fun w1 hw1 => y_load sc_I hs rfl (he40.below hw1).cell) rfl ?_; intro a hs
              refine wqg hs rfl hg32 (fun w1 hw1 => y_move hs rfl) rfl ?_; intro a hs
              obtain ⟨x43, hx44, hm⟩ := bindE hm
              have he45 := RdI.at_ (RdI.below hr42 hM.bel) hx44
              refine wqg hs rfl hg32 (fun w1 hw1 => y_index ht_I hs rfl rfl (he45.below hw1)) rfl ?_; intro a hs
              refine wqg hs rfl hg32 (fun w1 hw1 => y_load sc_int hs rfl (he45.below hw1).cell) rfl ?_; intro a hs
              refine wqg hs rfl hg32 (fun w1 hw1 => y_move hs rfl) rfl ?_; intro a hs
              obtain ⟨u47, he46, hr48⟩ := RdM.at_ hr_p0 hx39
              replace he46 := he46.below hM.bel
              refine wqg hs rfl hg32 (fun w1 hw1 => y_index ht_M hs rfl rfl (he46.below hw1)) rfl ?_; intro a hs
              refine wqg hs rfl hg32 (fun w1 hw1 => y_load sc_I hs rfl (he46.below hw1).cell) rfl ?_; intro a hs
              obtain ⟨x49, hx50, hm⟩ := bindE hm
              have he51 := RdI.at_ (RdI.below hr48 hM.bel) hx50
              refine wqg hs rfl hg32 (fun w1 hw1 => y_index ht_I hs rfl rfl (he51.below hw1)) rfl ?_; intro a hs
              refine wqg hs rfl hg32 (fun w1 hw1 => y_load sc_int hs rfl (he51.below hw1).cell) rfl ?_; intro a hs
              obtain ⟨n52, h53, hm⟩ := bindE hm
              refine wqg hs rfl hg32 (fun w1 hw1 => y_sub hs rfl rfl h53) rfl ?_; intro a hs
              refine wqg hs rfl hg32 (fun w1 hw1 => y_neq hs rfl rfl) rfl ?_; intro a hs
              have hm : some (n36 != n52) = some b30 := hm
              cases Option.some.inj hm
              refine wq hs (fun w1 hw1 => y_pickF hs rfl hg32 rfl) rfl ?_; intro a hs
              exact K _ (hs.sub ⟨rfl, rfl, rfl, rfl, rfl, rfl, rfl, rfl, rfl, trivial⟩)
          intro a hs
          simp only [List.drop_succ_cons, List.drop_zero]
          refine wpQuiet_nil ?_
          intro w hw
          replace hM := hM.quiet hw
          refine x_nt ?_
          refine x_cond hs rfl (fun hb => ?_) (fun hb => ?_)
          · replace hm := condT hb hm
            refine wp_seq ?_
            refine wp_region_lit ?_
            refine wl hs (y_assign hs rfl) rfl ?_; intro a hs
            refine wpList_nil ?_
            refine x_nt ?_
            refine wp_ret ?_
            refine x_rb ?_
            refine x_rt ?_
            refine x_rt ?_
            refine x_rb ?_
            refine x_rt ?_
            refine x_rb ?_
            refine x_rt ?_
            refine x_rt ?_
            refine x_rb ?_
            refine x_rt ?_
            refine x_rt ?_
            have hm : some (Sum.inl false) = some s11 := hm
            cases Option.some.inj hm
            have hm := hk12
            have hm : some (Sum.inl false) = some s2 := hm
            cases Option.some.inj hm
            have hm := hk3
            have hm : some false = some r := hm
            obtain rfl := Option.some.inj hm
            refine x_ret1 rfl hs rfl ⟨_, rfl, ?_⟩
            exact ⟨rfl, hM⟩
          · replace hm := condF hb hm
            refine wp_skip ?_
            refine x_nb ?_
            refine x_nt ?_
            refine wp_region_lit ?_
            refine wl hs (y_add hs rfl rfl hjs) rfl ?_; intro a hs
            refine wl hs (y_move hs rfl) rfl ?_; intro a hs
            refine wpList_nil ?_
            exact ⟨_, by simp, q13, j10 + 1, rfl, hs.sub ⟨rfl, rfl, rfl, rfl, rfl, rfl, rfl, rfl, trivial⟩, hM, hm, drop_next hj⟩
      rintro a w ⟨rfl, hs, hM⟩
      have hm := hk12
      refine x_nb ?_
      refine x_nt ?_
      refine wp_region_lit ?_
      refine wl hs (y_add hs rfl rfl hjs) rfl ?_; intro a hs
      refine wl hs (y_move hs rfl) rfl ?_; intro a hs
      refine wpList_nil ?_
      exact ⟨_, by simp, q4, j1 + 1, rfl, hs.sub ⟨rfl, rfl, rfl, rfl, trivial⟩, hM, hm, drop_next hj⟩
  rintro a w ⟨rfl, hs, hM⟩
  have hm := hk3
  refine x_nt ?_
  refine wp_seq ?_
  refine wp_region_lit ?_
  refine wl hs (y_assign hs rfl) rfl ?_; intro a hs
  refine wpList_nil ?_
  refine x_nt ?_
  refine wp_ret ?_
  have hm : some true = some r := hm
  obtain rfl := Option.some.inj hm
  refine x_ret1 rfl hs rfl ⟨_, rfl, ?_⟩
  exact ⟨rfl, hM⟩

theorem spec_IsRankOne_any (v_p0 : Value) (p0 : List (List Int)) (W : World) (hr_p0 : RdM W v_p0 p0) {r : Bool × Bool} (hm : spec_IsRankOne_m p0 = some r) : Calls Try.prog 25 [v_p0].toArray W fun e w => ∃ v, e = .returned v ∧ v = .tuple #[.bool r.1, .bool r.2] ∧ Mem W w [] := by
  refine x_enter Try.func25 rfl Try.ntmps25 rfl ?_
  intro a hs
  have hM := Mem.start W
  unfold spec_IsRankOne_m at hm
  refine wp_seq ?_
  refine wp_region_lit ?_
  refine wl hs (y_assign hs rfl) rfl ?_; intro a hs
  refine wl hs (y_assign hs rfl) rfl ?_; intro a hs
  refine wpList_nil ?_
  refine x_nt ?_
  refine wp_seq ?_
  refine wp_seq ?_
  refine wp_region_lit ?_
  refine wl hs (y_move hs rfl) rfl ?_; intro a hs
  obtain ⟨y1, h2, hm⟩ := bindE hm
  refine wcall is_50 hs rfl rfl (spec_mxGood_any v_p0 p0 _ (RdM.below hr_p0 hM.bel) h2) ?_; rintro a _ w hs ⟨rfl, hX⟩
  have hM : Mem W w [] := hM.call hX
  refine wl hs (y_not hs rfl) rfl ?_; intro a hs
  refine wpList_nil ?_
  refine x_nt ?_
  refine x_cond hs rfl (fun hb => ?_) (fun hb => ?_)
  · replace hm := condT hb hm
    refine wp_seq ?_
    refine wp_region_lit ?_
    refine wl hs (y_assign hs rfl) rfl ?_; intro a hs
    refine wl hs (y_assign hs rfl) rfl ?_; intro a hs
    refine wpList_nil ?_
    refine x_nt ?_
    refine wp_ret ?_
    refine x_rt ?_
    have hm : some (false, false) = some r := hm
    obtain rfl := Option.some.inj hm
    refine x_ret2 rfl hs rfl rfl ⟨_, rfl, ?_⟩
    exact ⟨rfl, hM⟩
  · replace hm := condF hb hm
    refine wp_skip ?_
    refine x_nt ?_
    refine wp_seq ?_
    refine wp_region_lit ?_
    refine wl hs (y_move hs rfl) rfl ?_; intro a hs
    obtain ⟨y3, h4, hm⟩ := bindE hm
    refine wcall is_55 hs rfl rfl (spec_rkOne_any v_p0 p0 _ (RdM.below hr_p0 hM.bel) h4) ?_; rintro a _ w hs ⟨rfl, hX⟩
    have hM : Mem W w [] := hM.call hX
    refine wl hs (y_assign hs rfl) rfl ?_; intro a hs
    refine wl hs (y_assign hs rfl) rfl ?_; intro a hs
    refine wpList_nil ?_
    refine x_nt ?_
    refine wp_ret ?_
    have hm : some (y3, true) = some r := hm
    obtain rfl := Option.some.inj hm
    refine x_ret2 rfl hs rfl rfl ⟨_, rfl, ?_⟩
    exact ⟨rfl, hM⟩

theorem impl_IsRankOne_any (v_p0 : Value) (p0 : List (List Int)) (W : World) (hr_p0 : RdM W v_p0 p0) {r : Bool × Bool} (hm : impl_IsRankOne_m p0 = some r) : Calls Try.prog 26 [v_p0].toArray W fun e w => ∃ v, e = .returned v ∧ v = .tuple #[.bool r.1, .bool r.2] ∧ Mem W w [] := by
  refine x_enter Try.func26 rfl Try.ntmps26 rfl ?_
  intro a hs
  have hM := Mem.start W
  unfold impl_IsRankOne_m at hm
  refine wp_seq ?_
  refine wp_region_lit ?_
  refine wl hs (y_assign hs rfl) rfl ?_; intro a hs
  refine wl hs (y_assign hs rfl) rfl ?_; intro a hs
  refine wpList_nil ?_
  refine x_nt ?_
  refine wp_seq ?_
  refine wp_seq ?_
  refine wp_region_lit ?_
  refine wl hs (y_move hs rfl) rfl ?_; intro a hs
  obtain ⟨y1, h2, hm⟩ := bindE hm
  refine wcall is_51 hs rfl rfl (impl_isMatrix_any v_p0 p0 _ (RdM.below hr_p0 hM.bel) h2) ?_; rintro a _ w hs ⟨rfl, hX⟩
  have hM : Mem W w [] := hM.call hX
  refine wl hs (y_not hs rfl) rfl ?_; intro a hs
  refine wpList_nil ?_
  refine x_nt ?_
  refine x_cond hs rfl (fun hb => ?_) (fun hb => ?_)
  · replace hm := condT hb hm
    refine wp_seq ?_
    refine wp_region_lit ?_
    refine wl hs (y_assign hs rfl) rfl ?_; intro a hs
    refine wl hs (y_assign hs rfl) rfl ?_; intro a hs
    refine wpList_nil ?_
    refine x_nt ?_
    refine wp_ret ?_
    refine x_rt ?_
    have hm : some (false, false) = some r := hm
    obtain rfl := Option.some.inj hm
    refine x_ret2 rfl hs rfl rfl ⟨_, rfl, ?_⟩
    exact ⟨rfl, hM⟩
  · replace hm := condF hb hm
    refine wp_skip ?_
    refine x_nt ?_
    refine wp_seq ?_
    refine wp_region_lit ?_
    refine wl hs (y_move hs rfl) rfl ?_; intro a hs
    obtain ⟨y3, h4, hm⟩ := bindE hm
    refine wcall is_56 hs rfl rfl (impl_isRankOne_any v_p0 p0 _ (RdM.below hr_p0 hM.bel) h4) ?_; rintro a _ w hs ⟨rfl, hX⟩
    have hM : Mem W w [] := hM.call hX
    refine wl hs (y_assign hs rfl) rfl ?_; intro a hs
    refine wl hs (y_assign hs rfl) rfl ?_; intro a hs
    refine wpList_nil ?_
    refine x_nt ?_
    refine wp_ret ?_
    have hm : some (y3, true) = some r := hm
    obtain rfl := Option.some.inj hm
    refine x_ret2 rfl hs rfl rfl ⟨_, rfl, ?_⟩
    exact ⟨rfl, hM⟩

theorem spec_OuterProduct_any (v_p0 : Value) (p0 : List Int) (v_p1 : Value) (p1 : List Int) (W : World) (hr_p0 : RdI W v_p0 p0) (hr_p1 : RdI W v_p1 p1) {r : (List (List Int)) × Bool} (hm : spec_OuterProduct_m p0 p1 = some r) : Calls Try.prog 39 [v_p0, v_p1].toArray W fun e w => ∃ v, e = .returned v ∧ ∃ v0, ∃ vs0, v = .tuple #[v0, .bool r.2] ∧ Mem W w [aMat 34 3 v0 vs0 r.1] := by
  refine x_enter Try.func39 rfl Try.ntmps39 rfl ?_
  intro a hs
  have hM := Mem.start W
  unfold spec_OuterProduct_m at hm
  refine wp_seq ?_
  refine wp_region_lit ?_
  refine wl hs (y_assign hs rfl) rfl ?_; intro a hs
  refine wl hs (y_assign hs rfl) rfl ?_; intro a hs
  refine wpList_nil ?_
  refine x_nt ?_
  refine wp_seq ?_
  refine wp_seq ?_
  refine wp_region_lit ?_
  refine wl hs (y_move hs rfl) rfl ?_; intro a hs
  obtain ⟨y1, h2, hm⟩ := bindE hm
  refine wcall is_71 hs rfl rfl (spec_mxVector_any v_p0 p0 _ (RdI.below hr_p0 hM.bel) h2) ?_; rintro a _ w hs ⟨rfl, hX⟩
  have hM : Mem W w [] := hM.call hX
  refine wl hs (y_not hs rfl) rfl ?_; intro a hs
  refine wl hs (y_move hs rfl) rfl ?_; intro a hs
  obtain ⟨b3, hb4, hm⟩ := bindE hm
  refine wlguard (N := 56) (L' := [(19, .bool b3), (0, v_p0), (1, v_p1)]) (fun w => Mem W w []) 4 ?_ ?_
  · intro K; rcases Bool.eq_false_or_eq_true (!y1) with hg5 | hg5
    · have hm := condT hg5 hb4
      refine wls hs rfl hg5 rfl ?_; intro a hs
      refine wls hs rfl hg5 rfl ?_; intro a hs
      refine wls hs rfl hg5 rfl ?_; intro a hs
      have hm : some true = some b3 := hm
      cases Option.some.inj hm
      refine wl hs (y_pickT hs rfl hg5 rfl) rfl ?_; intro a hs
      exact K _ _ (hs.sub ⟨rfl, rfl, rfl, trivial⟩) hM
    · have hm := condF hg5 hb4
      refine wlg hs rfl hg5 (y_move hs rfl) rfl ?_; intro a hs
      obtain ⟨y6, h7, hm⟩ := bindE hm
      refine wcallg is_71 hs rfl hg5 rfl rfl (spec_mxVector_any v_p1 p1 _ (RdI.below hr_p1 hM.bel) h7) ?_; rintro a _ w hs ⟨rfl, hX⟩
      have hM : Mem W w [] := hM.call hX
      refine wlg hs rfl hg5 (y_not hs rfl) rfl ?_; intro a hs
      have hm : some (!y6) = some b3 := hm
      cases Option.some.inj hm
      refine wl hs (y_pickF hs rfl hg5 rfl) rfl ?_; intro a hs
      exact K _ _ (hs.sub ⟨rfl, rfl, rfl, trivial⟩) hM
  intro a w hs hM
  simp only [List.drop_succ_cons, List.drop_zero]
  refine wl hs (y_move hs rfl) rfl ?_; intro a hs
  obtain ⟨b8, hb9, hm⟩ := bindE hm
  refine wlguard (N := 56) (L' := [(23, .bool b8), (0, v_p0), (1, v_p1)]) (fun w => Mem W w []) 3 ?_ ?_
  · intro K; rcases Bool.eq_false_or_eq_true b3 with hg10 | hg10
    · have hm := condT hg10 hb9
      refine wls hs rfl hg10 rfl ?_; intro a hs
      refine wls hs rfl hg10 rfl ?_; intro a hs
      have hm : some true = some b8 := hm
      cases Option.some.inj hm
      refine wl hs (y_pickT hs rfl hg10 rfl) rfl ?_; intro a hs
      exact K _ _ (hs.sub ⟨rfl, rfl, rfl, trivial⟩) hM
    · have hm := condF hg10 hb9
      refine wlg hs rfl hg10 (y_move hs rfl) rfl ?_; intro a hs
      obtain ⟨y11, h12, hm⟩ := bindE hm
      refine wcallg is_72 hs rfl hg10 rfl rfl (spec_l1Has_any v_p0 p0 1000000000 _ (RdI.below hr_p0 hM.bel) h12) ?_; rintro a _ w hs ⟨rfl, hX⟩
      have hM : Mem W w [] := hM.call hX
      have hm : some y11 = some b8 := hm
      cases Option.some.inj hm
      refine wl hs (y_pickF hs rfl hg10 rfl) rfl ?_; intro a hs
      exact K _ _ (hs.sub ⟨rfl, rfl, rfl, trivial⟩) hM
  intro a w hs hM
  simp only [List.drop_succ_cons, List.drop_zero]
  refine wl hs (y_move hs rfl) rfl ?_; intro a hs
  obtain ⟨b13, hb14, hm⟩ := bindE hm
  refine wlguard (N := 56) (L' := [(27, .bool b13), (0, v_p0), (1, v_p1)]) (fun w => Mem W w []) 3 ?_ ?_
  · intro K; rcases Bool.eq_false_or_eq_true b8 with hg15 | hg15
    · have hm := condT hg15 hb14
      refine wls hs rfl hg15 rfl ?_; intro a hs
      refine wls hs rfl hg15 rfl ?_; intro a hs
      have hm : some true = some b13 := hm
      cases Option.some.inj hm
      refine wl hs (y_pickT hs rfl hg15 rfl) rfl ?_; intro a hs
      exact K _ _ (hs.sub ⟨rfl, rfl, rfl, trivial⟩) hM
    · have hm := condF hg15 hb14
      refine wlg hs rfl hg15 (y_move hs rfl) rfl ?_; intro a hs
      obtain ⟨y16, h17, hm⟩ := bindE hm
      refine wcallg is_72 hs rfl hg15 rfl rfl (spec_l1Has_any v_p1 p1 1000000000 _ (RdI.below hr_p1 hM.bel) h17) ?_; rintro a _ w hs ⟨rfl, hX⟩
      have hM : Mem W w [] := hM.call hX
      have hm : some y16 = some b13 := hm
      cases Option.some.inj hm
      refine wl hs (y_pickF hs rfl hg15 rfl) rfl ?_; intro a hs
      exact K _ _ (hs.sub ⟨rfl, rfl, rfl, trivial⟩) hM
  intro a w hs hM
  simp only [List.drop_succ_cons, List.drop_zero]
  refine wpList_nil ?_
  refine x_nt ?_
  refine x_cond hs rfl (fun hb => ?_) (fun hb => ?_)
  · replace hm := condT hb hm
    refine wp_seq ?_
    refine wp_region_lit ?_
    refine wl hs (y_assign hs rfl) rfl ?_; intro a hs
    refine wl hs (y_assign hs rfl) rfl ?_; intro a hs
    refine wpList_nil ?_
    refine x_nt ?_
    refine wp_ret ?_
    refine x_rt ?_
    have hm : some ([], false) = some r := hm
    obtain rfl := Option.some.inj hm
    refine x_ret2 rfl hs rfl rfl ⟨_, rfl, ?_⟩
    have hM := hM.nilM 34 3
    exact ⟨_, _, rfl, hM⟩
  · replace hm := condF hb hm
    refine wp_skip ?_
    refine x_nt ?_
    refine wp_seq ?_
    refine wp_region_lit ?_
    refine wl hs (y_assign hs rfl) rfl ?_; intro a hs
    have hM := hM.nilM 34 3
    refine wpList_nil ?_
    refine x_nt ?_
    refine wp_seq ?_
    refine wp_seq ?_
    refine wp_region_lit ?_
    refine wl hs (y_move hs rfl) rfl ?_; intro a hs
    refine wl hs (y_len hu_I hs rfl (RdI.below hr_p0 hM.bel)) rfl ?_; intro a hs
    refine wl hs (y_move hs rfl) rfl ?_; intro a hs
    refine wpList_nil ?_
    refine x_nt ?_
    obtain ⟨s27, hm, hk28⟩ := bindE hm
    refine x_mid (fun a w => ∃ (v24 : Value), ∃ (vs25 : List Value), ∃ (l26 : List (List Int)), l26 = s27 ∧ Fr a 56 [(6, v24)] ∧ Mem W w [aMat 34 3 v24 vs25 l26]) ?_ ?_
    · refine wp_block ?_
      refine x_loop (fun k a w => ∃ (q29 : List Int) (j23 : Nat) (v20 : Value) (vs21 : List Value) (l22 : List (List Int)) , k = q29.length ∧ Fr a 56 [(1, v_p1), (6, v20), (28, v_p0), (29, .int .i64 (p0.length : Int)), (30, .int .i64 (j23 : Int))] ∧ Mem W w [aMat 34 3 v20 vs21 l22] ∧ spec_OuterProduct_l1 p1 q29 j23 l22 = some s27 ∧ List.drop j23 p0 = q29) _ ⟨p0, 0, (.slice none 0 0), [], [], rfl, hs.sub ⟨rfl, rfl, rfl, rfl, rfl, trivial⟩, hM, hm, rfl⟩ ?_
      rintro k a w ⟨q29, j23, v20, vs21, l22, rfl, hs, hM, hm, hj⟩
      rcases q29 with _ | ⟨x30, q29⟩
      · rewrite [spec_OuterProduct_l1] at hm
        refine wp_seq ?_
        refine wp_region_lit ?_
        refine wl hs (y_lss hs rfl rfl) rfl ?_; intro a hs
        refine wpList_nil ?_
        refine x_nt ?_
        refine wp_seq ?_
        refine x_condF hs rfl (drop_f hj) ?_
        refine wp_exit ?_
        refine x_et ?_
        refine x_et ?_
        refine x_eb ?_
        have hm : some l22 = some s27 := hm
        exact ⟨v20, vs21, l22, Option.some.inj hm, hs.sub ⟨rfl, trivial⟩, hM⟩
      · rewrite [spec_OuterProduct_l1] at hm
        have hx31 := drop_idx hj
        have hjs := ck_succ hj (RdS.len (RdI.below hr_p0 hM.bel))
        refine wp_seq ?_
        refine wp_region_lit ?_
        refine wl hs (y_lss hs rfl rfl) rfl ?_; intro a hs
        refine wpList_nil ?_
        refine x_nt ?_
        refine wp_seq ?_
        refine x_condT hs rfl (drop_t hj) ?_
        refine wp_skip ?_
        refine x_nt ?_
        refine wp_seq ?_
        refine wp_block ?_
        refine wp_seq ?_
        refine wp_region_lit ?_
        have he32 := RdI.at_ (RdI.below hr_p0 hM.bel) hx31
        refine wl hs (y_index ht_I hs rfl rfl he32) rfl ?_; intro a hs
        refine wl hs (y_load sc_int hs rfl he32.cell) rfl ?_; intro a hs
        refine wl hs (y_assign hs rfl) rfl ?_; intro a hs
        refine wpList_nil ?_
        refine x_nt ?_
        refine wp_seq ?_
        refine wp_region_lit ?_
        refine wl hs (y_assign hs rfl) rfl ?_; intro a hs
        have hM := hM.nilI 3
        refine wpList_nil ?_
        refine x_nt ?_
        refine wp_seq ?_
        refine wp_seq ?_
        refine wp_region_lit ?_
        refine wl hs (y_move hs rfl) rfl ?_; intro a hs
        refine wl hs (y_len hu_I hs rfl (RdI.below hr_p1 hM.bel)) rfl ?_; intro a hs
        refine wl hs (y_move hs rfl) rfl ?_; intro a hs
        refine wpList_nil ?_
        refine x_nt ?_
        obtain ⟨s39, hm, hk40⟩ := bindE hm
        refine x_mid (fun a w => ∃ (v37 : Value), ∃ (l38 : List Int), l38 = s39 ∧ Fr a 56 [(1, v_p1), (6, v20), (9, v37), (28, v_p0), (29, .int .i64 (p0.length : Int)), (30, .int .i64 (j23 : Int))] ∧ Mem W w [aInts 3 v37 l38, aMat 34 3 v20 vs21 l22]) ?_ ?_
        · refine wp_block ?_
          refine x_loop (fun k a w => ∃ (q41 : List Int) (j36 : Nat) (v34 : Value) (l35 : List Int) , k = q41.length ∧ Fr a 56 [(1, v_p1), (6, v20), (8, .int .i64 x30), (9, v34), (28, v_p0), (29, .int .i64 (p0.length : Int)), (30, .int .i64 (j23 : Int)), (34, v_p1), (35, .int .i64 (p1.length : Int)), (36, .int .i64 (j36 : Int))] ∧ Mem W w [aInts 3 v34 l35, aMat 34 3 v20 vs21 l22] ∧ spec_OuterProduct_l2 x30 q41 j36 l35 = some s39 ∧ List.drop j36 p1 = q41) _ ⟨p1, 0, (.slice none 0 0), [], rfl, hs.sub ⟨rfl, rfl, rfl, rfl, rfl, rfl, rfl, rfl, rfl, rfl, trivial⟩, hM, hm, rfl⟩ ?_
          rintro k a w ⟨q41, j36, v34, l35, rfl, hs, hM, hm, hj⟩
          rcases q41 with _ | ⟨x42, q41⟩
          · rewrite [spec_OuterProduct_l2] at hm
            refine wp_seq ?_
            refine wp_region_lit ?_
            refine wl hs (y_lss hs rfl rfl) rfl ?_; intro a hs
            refine wpList_nil ?_
            refine x_nt ?_
            refine wp_seq ?_
            refine x_condF hs rfl (drop_f hj) ?_
            refine wp_exit ?_
            refine x_et ?_
            refine x_et ?_
            refine x_eb ?_
            have hm : some l35 = some s39 := hm
            exact ⟨v34, l35, Option.some.inj hm, hs.sub ⟨rfl, rfl, rfl, rfl, rfl, rfl, trivial⟩, hM⟩
          · rewrite [spec_OuterProduct_l2] at hm
            have hx43 := drop_idx hj
            have hjs := ck_succ hj (RdS.len (RdI.below hr_p1 hM.bel))
            refine wp_seq ?_
            refine wp_region_lit ?_
            refine wl hs (y_lss hs rfl rfl) rfl ?_; intro a hs
            refine wpList_nil ?_
            refine x_nt ?_
            refine wp_seq ?_
            refine x_condT hs rfl (drop_t hj) ?_
            refine wp_skip ?_
            refine x_nt ?_
            refine wp_seq ?_
            refine wp_block ?_
            refine wp_seq ?_
            refine wp_region_lit ?_
            have he44 := RdI.at_ (RdI.below hr_p1 hM.bel) hx43
            refine wl hs (y_index ht_I hs rfl rfl he44) rfl ?_; intro a hs
            refine wl hs (y_load sc_int hs rfl he44.cell) rfl ?_; intro a hs
            refine wl hs (y_assign hs rfl) rfl ?_; intro a hs
            refine wpList_nil ?_
            refine x_nt ?_
            refine wp_region_lit ?_
            refine wl hs (y_move hs rfl) rfl ?_; intro a hs
            refine wl hs (y_move hs rfl) rfl ?_; intro a hs
            refine wl hs (y_move hs rfl) rfl ?_; intro a hs
            obtain ⟨n45, h46, hm⟩ := bindE hm
            refine wl hs (y_add hs rfl rfl h46) rfl ?_; intro a hs
            obtain ⟨l47, h48, hm⟩ := bindE hm
            refine wappI hu_I he_int hs hM rfl rfl h48 rfl rfl rfl ?_; intro a v49 w u50 hs hM
            have hM : Mem W w [aInts 3 v49 l47, aMat 34 3 v20 vs21 l22] := hM
            refine wl hs (y_assign hs rfl) rfl ?_; intro a hs
            refine wpList_nil ?_
            refine x_nb ?_
            refine x_nt ?_
            refine wp_region_lit ?_
            refine wl hs (y_add hs rfl rfl hjs) rfl ?_; intro a hs
            refine wl hs (y_move hs rfl) rfl ?_; intro a hs
            refine wpList_nil ?_
            exact ⟨_, by simp, q41, j36 + 1, v49, l47, rfl, hs.sub ⟨rfl, rfl, rfl, rfl, rfl, rfl, rfl, rfl, rfl, rfl, trivial⟩, hM, hm, drop_next hj⟩
        rintro a w ⟨v37, l38, rfl, hs, hM⟩
        have hm := hk40
        refine x_nt ?_
        refine wp_region_lit ?_
        refine wl hs (y_move hs rfl) rfl ?_; intro a hs
        refine wl hs (y_move hs rfl) rfl ?_; intro a hs
        obtain ⟨l51, h52, hm⟩ := bindE hm
        refine wappM hu_M he_I hs (hM.front 1 rfl) rfl rfl h52 rfl rfl rfl ?_; intro a v53 w u54 hs hM
        have hM : Mem W w [aMat 34 3 v53 (vs21 ++ [v37]) l51] := hM
        refine wl hs (y_assign hs rfl) rfl ?_; intro a hs
        refine wpList_nil ?_
        refine x_nb ?_
        refine x_nt ?_
        refine wp_region_lit ?_
        refine wl hs (y_add hs rfl rfl hjs) rfl ?_; intro a hs
        refine wl hs (y_move hs rfl) rfl ?_; intro a hs
        refine wpList_nil ?_
        exact ⟨_, by simp, q29, j23 + 1, v53, (vs21 ++ [v37]), l51, rfl, hs.sub ⟨rfl, rfl, rfl, rfl, rfl, trivial⟩, hM, hm, drop_next hj⟩
    rintro a w ⟨v24, vs25, l26, rfl, hs, hM⟩
    have hm := hk28
    refine x_nt ?_
    refine wp_seq ?_
    refine wp_seq ?_
    refine wp_region_lit ?_
    refine wl hs (y_move hs rfl) rfl ?_; intro a hs
    obtain ⟨y55, h56, hm⟩ := bindE hm
    refine wcall is_50 hs rfl rfl (spec_mxGood_any v24 l26 _ (hM.rdM 0 rfl) h56) ?_; rintro a _ w hs ⟨rfl, hX⟩
    have hM : Mem W w [aMat 34 3 v24 vs25 l26] := hM.call hX
    refine wl hs (y_not hs rfl) rfl ?_; intro a hs
    refine wpList_nil ?_
    refine x_nt ?_
    refine x_cond hs rfl (fun hb => ?_) (fun hb => ?_)
    · replace hm := condT hb hm
      refine wp_seq ?_
      refine wp_region_lit ?_
      refine wl hs (y_assign hs rfl) rfl ?_; intro a hs
      refine wl hs (y_assign hs rfl) rfl ?_; intro a hs
      refine wpList_nil ?_
      refine x_nt ?_
      refine wp_ret ?_
      refine x_rt ?_
      have hm : some ([], false) = some r := hm
      obtain rfl := Option.some.inj hm
      refine x_ret2 rfl hs rfl rfl ⟨_, rfl, ?_⟩
      have hM := hM.nilM 34 3
      exact ⟨_, _, rfl, (hM.keep_ 1)⟩
    · replace hm := condF hb hm
      refine wp_skip ?_
      refine x_nt ?_
      refine wp_seq ?_
      refine wp_region_lit ?_
      refine wl hs (y_move hs rfl) rfl ?_; intro a hs
      refine wl hs (y_assign hs rfl) rfl ?_; intro a hs
      refine wl hs (y_assign hs rfl) rfl ?_; intro a hs
      refine wpList_nil ?_
      refine x_nt ?_
      refine wp_ret ?_
      have hm : some (l26, true) = some r := hm
      obtain rfl := Option.some.inj hm
      refine x_ret2 rfl hs rfl rfl ⟨_, rfl, ?_⟩
      exact ⟨_, _, rfl, hM⟩

theorem impl_OuterProduct_any (v_p0 : Value) (p0 : List Int) (v_p1 : Value) (p1 : List Int) (W : World) (hr_p0 : RdI W v_p0 p0) (hr_p1 : RdI W v_p1 p1) {r : (List (List Int)) × Bool} (hm : impl_OuterProduct_m p0 p1 = some r) : Calls Try.prog 40 [v_p0, v_p1].toArray W fun e w => ∃ v, e = .returned v ∧ ∃ v0, ∃ vs0, v = .tuple #[v0, .bool r.2] ∧ Mem W w [aMat 34 3 v0 vs0 r.1] := by
  refine x_enter Try.func40 rfl Try.ntmps40 rfl ?_
  intro a hs
  have hM := Mem.start W
  unfold impl_OuterProduct_m at hm
  refine wp_seq ?_
  refine wp_region_lit ?_
  refine wl hs (y_assign hs rfl) rfl ?_; intro a hs
  refine wl hs (y_assign hs rfl) rfl ?_; intro a hs
  refine wpList_nil ?_
  refine x_nt ?_
  refine wp_seq ?_
  refine wp_seq ?_
  refine wp_region_lit ?_
  refine wl hs (y_move hs rfl) rfl ?_; intro a hs
  obtain ⟨y1, h2, hm⟩ := bindE hm
  refine wcall is_73 hs rfl rfl (impl_isFiniteVector_any v_p0 p0 _ (RdI.below hr_p0 hM.bel) h2) ?_; rintro a _ w hs ⟨rfl, hX⟩
  have hM : Mem W w [] := hM.call hX
  refine wl hs (y_not hs rfl) rfl ?_; intro a hs
  refine wl hs (y_move hs rfl) rfl ?_; intro a hs
  obtain ⟨b3, hb4, hm⟩ := bindE hm
  refine wlguard (N := 35) (L' := [(16, .bool b3), (0, v_p0), (1, v_p1)]) (fun w => Mem W w []) 4 ?_ ?_
  · intro K; rcases Bool.eq_false_or_eq_true (!y1) with hg5 | hg5
    · have hm := condT hg5 hb4
      refine wls hs rfl hg5 rfl ?_; intro a hs
      refine wls hs rfl hg5 rfl ?_; intro a hs
      refine wls hs rfl hg5 rfl ?_; intro a hs
      have hm : some true = some b3 := hm
      cases Option.some.inj hm
      refine wl hs (y_pickT hs rfl hg5 rfl) rfl ?_; intro a hs
      exact K _ _ (hs.sub ⟨rfl, rfl, rfl, trivial⟩) hM
    · have hm := condF hg5 hb4
      refine wlg hs rfl hg5 (y_move hs rfl) rfl ?_; intro a hs
      obtain ⟨y6, h7, hm⟩ := bindE hm
      refine wcallg is_73 hs rfl hg5 rfl rfl (impl_isFiniteVector_any v_p1 p1 _ (RdI.below hr_p1 hM.bel) h7) ?_; rintro a _ w hs ⟨rfl, hX⟩
      have hM : Mem W w [] := hM.call hX
      refine wlg hs rfl hg5 (y_not hs rfl) rfl ?_; intro a hs
      have hm : some (!y6) = some b3 := hm
      cases Option.some.inj hm
      refine wl hs (y_pickF hs rfl hg5 rfl) rfl ?_; intro a hs
      exact K _ _ (hs.sub ⟨rfl, rfl, rfl, trivial⟩) hM
  intro a w hs hM
  simp only [List.drop_succ_cons, List.drop_zero]
  refine wpList_nil ?_
  refine x_nt ?_
  refine x_cond hs rfl (fun hb => ?_) (fun hb => ?_)
  · replace hm := condT hb hm
    refine wp_seq ?_
    refine wp_region_lit ?_
    refine wl hs (y_assign hs rfl) rfl ?_; intro a hs
    refine wl hs (y_assign hs rfl) rfl ?_; intro a hs
    refine wpList_nil ?_
    refine x_nt ?_
    refine wp_ret ?_
    refine x_rt ?_
    have hm : some ([], false) = some r := hm
    obtain rfl := Option.some.inj hm
    refine x_ret2 rfl hs rfl rfl ⟨_, rfl, ?_⟩
    have hM := hM.nilM 34 3
    exact ⟨_, _, rfl, hM⟩
  · replace hm := condF hb hm
    refine wp_skip ?_
    refine x_nt ?_
    refine wp_seq ?_
    refine wp_region_lit ?_
    refine wmem hs (x_new0M (ti := 3) ht_M hM) rfl ?_; intro a v10 w hs hM
    have hM : Mem W w [aMat 34 3 v10 ([]) ([])] := hM
    refine wl hs (y_assign hs rfl) rfl ?_; intro a hs
    refine wpList_nil ?_
    refine x_nt ?_
    refine wp_seq ?_
    refine wp_seq ?_
    refine wp_region_lit ?_
    refine wl hs (y_move hs rfl) rfl ?_; intro a hs
    refine wl hs (y_len hu_I hs rfl (RdI.below hr_p0 hM.bel)) rfl ?_; intro a hs
    refine wl hs (y_move hs rfl) rfl ?_; intro a hs
    refine wpList_nil ?_
    refine x_nt ?_
    obtain ⟨s18, hm, hk19⟩ := bindE hm
    refine x_mid (fun a w => ∃ (v15 : Value), ∃ (vs16 : List Value), ∃ (l17 : List (List Int)), l17 = s18 ∧ Fr a 35 [(6, v15)] ∧ Mem W w [aMat 34 3 v15 vs16 l17]) ?_ ?_
    · refine wp_block ?_
      refine x_loop (fun k a w => ∃ (q20 : List Int) (j14 : Nat) (v11 : Value) (vs12 : List Value) (l13 : List (List Int)) , k = q20.length ∧ Fr a 35 [(1, v_p1), (6, v11), (18, v_p0), (19, .int .i64 (p0.length : Int)), (20, .int .i64 (j14 : Int))] ∧ Mem W w [aMat 34 3 v11 vs12 l13] ∧ impl_OuterProduct_l1 p1 q20 j14 l13 = some s18 ∧ List.drop j14 p0 = q20) _ ⟨p0, 0, v10, [], [], rfl, hs.sub ⟨rfl, rfl, rfl, rfl, rfl, trivial⟩, hM, hm, rfl⟩ ?_
      rintro k a w ⟨q20, j14, v11, vs12, l13, rfl, hs, hM, hm, hj⟩
      rcases q20 with _ | ⟨x21, q20⟩
      · rewrite [impl_OuterProduct_l1] at hm
        refine wp_seq ?_
        refine wp_region_lit ?_
        refine wl hs (y_lss hs rfl rfl) rfl ?_; intro a hs
        refine wpList_nil ?_
        refine x_nt ?_
        refine wp_seq ?_
        refine x_condF hs rfl (drop_f hj) ?_
        refine wp_exit ?_
        refine x_et ?_
        refine x_et ?_
        refine x_eb ?_
        have hm : some l13 = some s18 := hm
        exact ⟨v11, vs12, l13, Option.some.inj hm, hs.sub ⟨rfl, trivial⟩, hM⟩
      · rewrite [impl_OuterProduct_l1] at hm
        have hx22 := drop_idx hj
        have hjs := ck_succ hj (RdS.len (RdI.below hr_p0 hM.bel))
        refine wp_seq ?_
        refine wp_region_lit ?_
        refine wl hs (y_lss hs rfl rfl) rfl ?_; intro a hs
        refine wpList_nil ?_
        refine x_nt ?_
        refine wp_seq ?_
        refine x_condT hs rfl (drop_t hj) ?_
        refine wp_skip ?_
        refine x_nt ?_
        refine wp_seq ?_
        refine wp_block ?_
        refine wp_seq ?_
        refine wp_region_lit ?_
        have he23 := RdI.at_ (RdI.below hr_p0 hM.bel) hx22
        refine wl hs (y_index ht_I hs rfl rfl he23) rfl ?_; intro a hs
        refine wl hs (y_load sc_int hs rfl he23.cell) rfl ?_; intro a hs
        refine wl hs (y_assign hs rfl) rfl ?_; intro a hs
        refine wpList_nil ?_
        refine x_nt ?_
        refine wp_region_lit ?_
        refine wl hs (y_move hs rfl) rfl ?_; intro a hs
        refine wl hs (y_move hs rfl) rfl ?_; intro a hs
        refine wl hs (y_move hs rfl) rfl ?_; intro a hs
        obtain ⟨y24, h25, hm⟩ := bindE hm
        refine wcall is_74 hs rfl rfl (impl_shifted_any v_p1 p1 x21 _ (RdI.below hr_p1 hM.bel) h25) ?_; rintro a v26 w hs hX
        have hM : Mem W w [aInts 3 v26 y24, aMat 34 3 v11 vs12 l13] := hM.call hX
        obtain ⟨l28, h29, hm⟩ := bindE hm
        refine wappM hu_M he_I hs (hM.front 1 rfl) rfl rfl h29 rfl rfl rfl ?_; intro a v30 w u31 hs hM
        have hM : Mem W w [aMat 34 3 v30 (vs12 ++ [v26]) l28] := hM
        refine wl hs (y_assign hs rfl) rfl ?_; intro a hs
        refine wpList_nil ?_
        refine x_nb ?_
        refine x_nt ?_
        refine wp_region_lit ?_
        refine wl hs (y_add hs rfl rfl hjs) rfl ?_; intro a hs
        refine wl hs (y_move hs rfl) rfl ?_; intro a hs
        refine wpList_nil ?_
        exact ⟨_, by simp, q20, j14 + 1, v30, (vs12 ++ [v26]), l28, rfl, hs.sub ⟨rfl, rfl, rfl, rfl, rfl, trivial⟩, hM, hm, drop_next hj⟩
    rintro a w ⟨v15, vs16, l17, rfl, hs, hM⟩
    have hm := hk19
    refine x_nt ?_
    refine wp_seq ?_
    refine wp_region_lit ?_
    refine wl hs (y_move hs rfl) rfl ?_; intro a hs
    obtain ⟨y32, h33, hm⟩ := bindE hm
    refine wcall is_75 hs rfl rfl (impl_toldMatrix_any v15 l17 _ (hM.rdM 0 rfl) h33) ?_; rintro a _ w hs ⟨rfl, hX⟩
    have hM : Mem W w [aMat 34 3 v15 vs16 l17] := hM.call hX
    have hM : Mem W w [aMat 34 3 (cond y32.1 v15 (.slice none 0 0)) (cond y32.1 vs16 []) (cond y32.1 l17 [])] := (hM).condM y32.1
    refine wl hs (y_extract hs rfl rfl) rfl ?_; intro a hs
    refine wl hs (y_extract hs rfl rfl) rfl ?_; intro a hs
    refine wl hs (y_assign hs rfl) rfl ?_; intro a hs
    refine wl hs (y_assign hs rfl) rfl ?_; intro a hs
    refine wpList_nil ?_
    refine x_nt ?_
    refine wp_ret ?_
    have hm : some ((cond y32.1 l17 []), y32.2) = some r := hm
    obtain rfl := Option.some.inj hm
    refine x_ret2 rfl hs rfl rfl ⟨_, rfl, ?_⟩
    exact ⟨_, _, rfl, hM⟩

end Go.Proofs.Ytefjnpdpeablpaa
