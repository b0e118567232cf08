/- The code of this unit computes what its mirrors say. Written by program (wip/gen). -/
import Derived.Test.YtaagklbiebogfaaFacts
import Derived.Test.YtaagklbiebogfaaLinM
import Derived.Test.YtaagklbiebogfaaNumW
import Derived.Test.YtaagklbiebogfaaMatW
import Derived.Test.YtaagklbiebogfaaLy1W
namespace Go.Proofs.Ytaagklbiebogfaa
open Go.RowKit
set_option linter.unusedVariables false

set_option maxHeartbeats 4000000 in
theorem spec_lyLeast_any (v_p0 : Value) (p0 : List (List Int)) (v_p1 : Value) (p1 : List Int) (W : World) (hr_p0 : RdM W v_p0 p0) (hr_p1 : RdI W v_p1 p1) {r : List Int} (hm : spec_lyLeast_m p0 p1 = some r) : Calls Try.prog 83 [v_p0, v_p1].toArray W fun e w => ∃ v, e = .returned v ∧ Mem W w [aInts 3 v r] := by
  refine x_enter Try.func83 rfl Try.ntmps83 rfl ?_
  intro a hs
  have hM := Mem.start W
  unfold spec_lyLeast_m at hm
  refine wp_seq ?_
  refine wp_region_lit ?_
  refine wl hs (y_assign hs rfl) rfl ?_; intro a hs
  refine wpList_nil ?_
  refine x_nt ?_
  refine wp_seq ?_
  refine wp_region_lit ?_
  refine wl hs (y_assign hs rfl) rfl ?_; intro a hs
  have hM := hM.nilI 3
  refine wpList_nil ?_
  refine x_nt ?_
  refine wp_seq ?_
  refine wp_seq ?_
  refine wp_region_lit ?_
  refine wl hs (y_move hs rfl) rfl ?_; intro a hs
  obtain ⟨x2, hx3, hm⟩ := bindE hm
  obtain ⟨u5, he4, hr6⟩ := RdM.at_ hr_p0 hx3
  replace he4 := he4.below hM.bel
  refine wl hs (y_index ht_M hs rfl rfl he4) rfl ?_; intro a hs
  refine wl hs (y_load sc_I hs rfl he4.cell) rfl ?_; intro a hs
  refine wl hs (y_len hu_I hs rfl (RdI.below hr6 hM.bel)) rfl ?_; intro a hs
  refine wl hs (y_move hs rfl) rfl ?_; intro a hs
  refine wpList_nil ?_
  refine x_nt ?_
  obtain ⟨s12, hm, hk13⟩ := bindE hm
  refine x_mid (fun a w => ∃ (v10 : Value), ∃ (l11 : List Int), l11 = s12 ∧ Fr a 62 [(5, v10)] ∧ Mem W w [aInts 3 v10 l11]) ?_ ?_
  · refine wp_block ?_
    refine x_loop (fun k a w => ∃ (q14 : List Int) (j7 : Nat) (v8 : Value) (l9 : List Int) , k = q14.length ∧ Fr a 62 [(0, v_p0), (1, v_p1), (5, v8), (14, .int .i64 (x2.length : Int)), (15, .int .i64 (j7 : Int))] ∧ Mem W w [aInts 3 v8 l9] ∧ spec_lyLeast_l1 p0 p1 q14 j7 l9 = some s12 ∧ List.drop j7 x2 = q14) _ ⟨x2, 0, (.slice none 0 0), [], rfl, hs.sub ⟨rfl, rfl, rfl, rfl, rfl, trivial⟩, hM, hm, rfl⟩ ?_
    rintro k a w ⟨q14, j7, v8, l9, rfl, hs, hM, hm, hj7⟩
    rcases q14 with _ | ⟨x15, q14⟩
    · rewrite [spec_lyLeast_l1] at hm
      refine wp_seq ?_
      refine wp_region_lit ?_
      refine wl hs (y_lss hs rfl rfl) rfl ?_; intro a hs
      refine wpList_nil ?_
      refine x_nt ?_
      refine wp_seq ?_
      refine x_condF hs rfl (drop_f hj7) ?_
      refine wp_exit ?_
      refine x_et ?_
      refine x_et ?_
      refine x_eb ?_
      have hm : some l9 = some s12 := hm
      exact ⟨v8, l9, Option.some.inj hm, hs.sub ⟨rfl, trivial⟩, hM⟩
    · rewrite [spec_lyLeast_l1] at hm
      have hx16 := drop_idx hj7
      have hsj7 := ck_succ hj7 (RdS.len (RdI.below hr6 hM.bel))
      refine wp_seq ?_
      refine wp_region_lit ?_
      refine wl hs (y_lss hs rfl rfl) rfl ?_; intro a hs
      refine wpList_nil ?_
      refine x_nt ?_
      refine wp_seq ?_
      refine x_condT hs rfl (drop_t hj7) ?_
      refine wp_skip ?_
      refine x_nt ?_
      refine wp_seq ?_
      refine wp_block ?_
      refine wp_seq ?_
      refine wp_region_lit ?_
      refine wl hs (y_move hs rfl) rfl ?_; intro a hs
      refine wl hs (y_assign hs rfl) rfl ?_; intro a hs
      refine wpList_nil ?_
      refine x_nt ?_
      refine wp_seq ?_
      refine wp_region_lit ?_
      refine wl hs (y_assign hs rfl) rfl ?_; intro a hs
      refine wl hs (y_assign hs rfl) rfl ?_; intro a hs
      refine wpList_nil ?_
      refine x_nt ?_
      refine wp_seq ?_
      refine wp_seq ?_
      refine wp_region_lit ?_
      refine wl hs (y_move hs rfl) rfl ?_; intro a hs
      refine wl hs (y_len hu_M hs rfl (RdM.below hr_p0 hM.bel)) rfl ?_; intro a hs
      refine wl hs (y_move hs rfl) rfl ?_; intro a hs
      refine wpList_nil ?_
      refine x_nt ?_
      obtain ⟨s21, hm, hk22⟩ := bindE hm
      refine x_mid (fun a w => ∃ (n20 : Int), n20 = s21 ∧ Fr a 62 [(0, v_p0), (1, v_p1), (5, v8), (8, .int .i64 n20), (14, .int .i64 (x2.length : Int)), (15, .int .i64 (j7 : Int))] ∧ Mem W w [aInts 3 v8 l9]) ?_ ?_
      · refine wp_block ?_
        refine x_loop (fun k a w => ∃ (q23 : List (List Int)) (j17 : Nat) (b18 : Bool) (n19 : Int) , k = q23.length ∧ Fr a 62 [(0, v_p0), (1, v_p1), (5, v8), (6, .int .i64 (j7 : Int)), (7, .bool b18), (8, .int .i64 n19), (14, .int .i64 (x2.length : Int)), (15, .int .i64 (j7 : Int)), (18, v_p0), (19, .int .i64 (p0.length : Int)), (20, .int .i64 (j17 : Int))] ∧ Mem W w [aInts 3 v8 l9] ∧ spec_lyLeast_l2 p1 j7 q23 j17 b18 n19 = some s21 ∧ List.drop j17 p0 = q23) _ ⟨p0, 0, true, 0, rfl, hs.sub ⟨rfl, rfl, rfl, rfl, rfl, rfl, rfl, rfl, rfl, rfl, rfl, trivial⟩, hM, hm, rfl⟩ ?_
        rintro k a w ⟨q23, j17, b18, n19, rfl, hs, hM, hm, hj17⟩
        rcases q23 with _ | ⟨x24, q23⟩
        · rewrite [spec_lyLeast_l2] at hm
          refine wp_seq ?_
          refine wp_region_lit ?_
          refine wl hs (y_lss hs rfl rfl) rfl ?_; intro a hs
          refine wpList_nil ?_
          refine x_nt ?_
          refine wp_seq ?_
          refine x_condF hs rfl (drop_f hj17) ?_
          refine wp_exit ?_
          refine x_et ?_
          refine x_et ?_
          refine x_eb ?_
          have hm : some n19 = some s21 := hm
          exact ⟨n19, Option.some.inj hm, hs.sub ⟨rfl, rfl, rfl, rfl, rfl, rfl, trivial⟩, hM⟩
        · rewrite [spec_lyLeast_l2] at hm
          have hx25 := drop_idx hj17
          have hsj17 := ck_succ hj17 (RdS.len (RdM.below hr_p0 hM.bel))
          refine wp_seq ?_
          refine wp_region_lit ?_
          refine wl hs (y_lss hs rfl rfl) rfl ?_; intro a hs
          refine wpList_nil ?_
          refine x_nt ?_
          refine wp_seq ?_
          refine x_condT hs rfl (drop_t hj17) ?_
          refine wp_skip ?_
          refine x_nt ?_
          refine wp_seq ?_
          refine wp_block ?_
          refine wp_seq ?_
          refine wp_region_lit ?_
          refine wl hs (y_move hs rfl) rfl ?_; intro a hs
          obtain ⟨u27, he26, hr28⟩ := RdM.at_ hr_p0 hx25
          replace he26 := he26.below hM.bel
          refine wl hs (y_index ht_M hs rfl rfl he26) rfl ?_; intro a hs
          refine wl hs (y_load sc_I hs rfl he26.cell) rfl ?_; intro a hs
          refine wl hs (y_assign hs rfl) rfl ?_; intro a hs
          refine wl hs (y_assign hs rfl) rfl ?_; intro a hs
          refine wpList_nil ?_
          refine x_nt ?_
          refine wp_seq ?_
          refine x_regq hmix (by kernel_rfl) ?_
          refine wq hs (fun w1 hw1 => y_move hs rfl) rfl ?_; intro a hs
          refine wq hs (fun w1 hw1 => y_move hs rfl) rfl ?_; intro a hs
          obtain ⟨x29, hx30, hm⟩ := bindE hm
          have he31 := RdI.at_ (RdI.below hr28 hM.bel) hx30
          refine wq hs (fun w1 hw1 => y_index ht_I hs rfl rfl (he31.below hw1)) rfl ?_; intro a hs
          refine wq hs (fun w1 hw1 => y_load sc_int hs rfl (he31.below hw1).cell) rfl ?_; intro a hs
          refine wq hs (fun w1 hw1 => y_neq hs rfl rfl) rfl ?_; intro a hs
          refine wq hs (fun w1 hw1 => y_move hs rfl) rfl ?_; intro a hs
          obtain ⟨b32, hb33, hm⟩ := bindE hm
          refine wqguard (N := 62) (L' := [(45, .bool b32), (0, v_p0), (1, v_p1), (5, v8), (6, .int .i64 (j7 : Int)), (7, .bool b18), (8, .int .i64 n19), (9, .int .i64 (j17 : Int)), (10, u27), (14, .int .i64 (x2.length : Int)), (15, .int .i64 (j7 : Int)), (18, v_p0), (19, .int .i64 (p0.length : Int)), (20, .int .i64 (j17 : Int))]) 15 ?_ ?_
          · intro K; rcases Bool.eq_false_or_eq_true (x29 != 1000000000) with hg34 | hg34
            · have hm := condT hg34 hb33
              refine wqg hs rfl hg34 (fun w1 hw1 => y_move hs rfl) rfl ?_; intro a hs
              refine wqg hs rfl hg34 (fun w1 hw1 => y_move hs rfl) rfl ?_; intro a hs
              obtain ⟨b35, hb36, hm⟩ := bindE hm
              refine wqguard (N := 62) (L' := [(44, .bool b35), (0, v_p0), (1, v_p1), (5, v8), (6, .int .i64 (j7 : Int)), (7, .bool b18), (8, .int .i64 n19), (9, .int .i64 (j17 : Int)), (10, u27), (14, .int .i64 (x2.length : Int)), (15, .int .i64 (j7 : Int)), (18, v_p0), (19, .int .i64 (p0.length : Int)), (20, .int .i64 (j17 : Int)), (30, .bool (x29 != 1000000000))]) 12 ?_ ?_
              · intro K; rcases Bool.eq_false_or_eq_true b18 with hg37 | hg37
                · have hm := condT hg37 hb36
                  refine wqs hs rfl hg37 rfl ?_; intro a hs
                  refine wqs hs rfl hg37 rfl ?_; intro a hs
                  refine wqs hs rfl hg37 rfl ?_; intro a hs
                  refine wqs hs rfl hg37 rfl ?_; intro a hs
                  refine wqs hs rfl hg37 rfl ?_; intro a hs
                  refine wqs hs rfl hg37 rfl ?_; intro a hs
                  refine wqs hs rfl hg37 rfl ?_; intro a hs
                  refine wqs hs rfl hg37 rfl ?_; intro a hs
                  refine wqs hs rfl hg37 rfl ?_; intro a hs
                  refine wqs hs rfl hg37 rfl ?_; intro a hs
                  refine wqs hs rfl hg37 rfl ?_; intro a hs
                  have hm : some true = some b35 := hm
                  cases Option.some.inj hm
                  refine wqg hs rfl hg34 (fun w1 hw1 => y_pickT hs rfl hg37 rfl) rfl ?_; intro a hs
                  exact K _ (hs.sub ⟨rfl, rfl, rfl, rfl, rfl, rfl, rfl, rfl, rfl, rfl, rfl, rfl, rfl, rfl, rfl, trivial⟩)
                · have hm := condF hg37 hb36
                  refine wqg hs rfl hg37 (fun w1 hw1 => y_move hs rfl) rfl ?_; intro a hs
                  refine wqg hs rfl hg37 (fun w1 hw1 => y_move hs rfl) rfl ?_; intro a hs
                  obtain ⟨x38, hx39, hm⟩ := bindE hm
                  have he40 := RdI.at_ (RdI.below hr_p1 hM.bel) hx39
                  refine wqg hs rfl hg37 (fun w1 hw1 => y_index ht_I hs rfl rfl (he40.below hw1)) rfl ?_; intro a hs
                  refine wqg hs rfl hg37 (fun w1 hw1 => y_load sc_int hs rfl (he40.below hw1).cell) rfl ?_; intro a hs
                  refine wqg hs rfl hg37 (fun w1 hw1 => y_move hs rfl) rfl ?_; intro a hs
                  refine wqg hs rfl hg37 (fun w1 hw1 => y_move hs rfl) rfl ?_; intro a hs
                  have he41 := RdI.at_ (RdI.below hr28 hM.bel) hx30
                  refine wqg hs rfl hg37 (fun w1 hw1 => y_index ht_I hs rfl rfl (he41.below hw1)) rfl ?_; intro a hs
                  refine wqg hs rfl hg37 (fun w1 hw1 => y_load sc_int hs rfl (he41.below hw1).cell) rfl ?_; intro a hs
                  obtain ⟨n42, h43, hm⟩ := bindE hm
                  refine wqg hs rfl hg37 (fun w1 hw1 => y_sub hs rfl rfl h43) rfl ?_; intro a hs
                  refine wqg hs rfl hg37 (fun w1 hw1 => y_move hs rfl) rfl ?_; intro a hs
                  refine wqg hs rfl hg37 (fun w1 hw1 => y_gtr hs rfl rfl) rfl ?_; intro a hs
                  have hm : some (decide (n42 > n19)) = some b35 := hm
                  cases Option.some.inj hm
                  refine wqg hs rfl hg34 (fun w1 hw1 => y_pickF hs rfl hg37 rfl) rfl ?_; intro a hs
                  exact K _ (hs.sub ⟨rfl, rfl, rfl, rfl, rfl, rfl, rfl, rfl, rfl, rfl, rfl, rfl, rfl, rfl, rfl, trivial⟩)
              intro a hs
              simp only [List.drop_succ_cons, List.drop_zero]
              have hm : some b35 = some b32 := hm
              cases Option.some.inj hm
              refine wq hs (fun w1 hw1 => y_pickT hs rfl hg34 rfl) rfl ?_; intro a hs
              exact K _ (hs.sub ⟨rfl, rfl, rfl, rfl, rfl, rfl, rfl, rfl, rfl, rfl, rfl, rfl, rfl, rfl, trivial⟩)
            · have hm := condF hg34 hb33
              refine wqs hs rfl hg34 rfl ?_; intro a hs
              refine wqs hs rfl hg34 rfl ?_; intro a hs
              refine wqu hs rfl rfl ?_; intro a hs
              refine wqu hs rfl rfl ?_; intro a hs
              refine wqu hs rfl rfl ?_; intro a hs
              refine wqu hs rfl rfl ?_; intro a hs
              refine wqu hs rfl rfl ?_; intro a hs
              refine wqu hs rfl rfl ?_; intro a hs
              refine wqu hs rfl rfl ?_; intro a hs
              refine wqu hs rfl rfl ?_; intro a hs
              refine wqu hs rfl rfl ?_; intro a hs
              refine wqu hs rfl rfl ?_; intro a hs
              refine wqu hs rfl rfl ?_; intro a hs
              refine wqs hs rfl hg34 rfl ?_; intro a hs
              have hm : some false = some b32 := hm
              cases Option.some.inj hm
              refine wq hs (fun w1 hw1 => y_pickF hs rfl hg34 rfl) rfl ?_; intro a hs
              exact K _ (hs.sub ⟨rfl, rfl, rfl, rfl, rfl, rfl, rfl, rfl, rfl, rfl, rfl, rfl, rfl, rfl, trivial⟩)
          intro a hs
          simp only [List.drop_succ_cons, List.drop_zero]
          refine wpQuiet_nil ?_
          intro w hw
          replace hM := hM.quiet hw
          refine x_nt ?_
          refine x_cond hs rfl (fun hb => ?_) (fun hb => ?_)
          · replace hm := condT hb hm
            refine wp_seq ?_
            refine x_regq hmix (by kernel_rfl) ?_
            refine wq hs (fun w1 hw1 => y_move hs rfl) rfl ?_; intro a hs
            refine wq hs (fun w1 hw1 => y_move hs rfl) rfl ?_; intro a hs
            obtain ⟨x44, hx45, hm⟩ := bindE hm
            have he46 := RdI.at_ (RdI.below hr_p1 hM.bel) hx45
            refine wq hs (fun w1 hw1 => y_index ht_I hs rfl rfl (he46.below hw1)) rfl ?_; intro a hs
            refine wq hs (fun w1 hw1 => y_load sc_int hs rfl (he46.below hw1).cell) rfl ?_; intro a hs
            refine wq hs (fun w1 hw1 => y_move hs rfl) rfl ?_; intro a hs
            refine wq hs (fun w1 hw1 => y_move hs rfl) rfl ?_; intro a hs
            have he47 := RdI.at_ (RdI.below hr28 hM.bel) hx30
            refine wq hs (fun w1 hw1 => y_index ht_I hs rfl rfl (he47.below hw1)) rfl ?_; intro a hs
            refine wq hs (fun w1 hw1 => y_load sc_int hs rfl (he47.below hw1).cell) rfl ?_; intro a hs
            obtain ⟨n48, h49, hm⟩ := bindE hm
            refine wq hs (fun w1 hw1 => y_sub hs rfl rfl h49) rfl ?_; intro a hs
            refine wq hs (fun w1 hw1 => y_assign hs rfl) rfl ?_; intro a hs
            refine wpQuiet_nil ?_
            intro w hw
            replace hM := hM.quiet hw
            refine x_nt ?_
            refine wp_region_lit ?_
            refine wl hs (y_assign hs rfl) rfl ?_; intro a hs
            refine wpList_nil ?_
            refine x_nb ?_
            refine x_nt ?_
            refine wp_region_lit ?_
            refine wl hs (y_add hs rfl rfl hsj17) rfl ?_; intro a hs
            refine wl hs (y_move hs rfl) rfl ?_; intro a hs
            refine wpList_nil ?_
            exact ⟨_, by simp, q23, j17 + 1, false, n48, rfl, hs.sub ⟨rfl, rfl, rfl, rfl, rfl, rfl, rfl, rfl, rfl, rfl, rfl, trivial⟩, hM, hm, drop_next hj17⟩
          · replace hm := condF hb hm
            refine wp_skip ?_
            refine x_nb ?_
            refine x_nt ?_
            refine wp_region_lit ?_
            refine wl hs (y_add hs rfl rfl hsj17) rfl ?_; intro a hs
            refine wl hs (y_move hs rfl) rfl ?_; intro a hs
            refine wpList_nil ?_
            exact ⟨_, by simp, q23, j17 + 1, b18, n19, rfl, hs.sub ⟨rfl, rfl, rfl, rfl, rfl, rfl, rfl, rfl, rfl, rfl, rfl, trivial⟩, hM, hm, drop_next hj17⟩
      rintro a w ⟨n20, rfl, hs, hM⟩
      have hm := hk22
      refine x_nt ?_
      refine wp_region_lit ?_
      refine wl hs (y_move hs rfl) rfl ?_; intro a hs
      refine wl hs (y_move hs rfl) rfl ?_; intro a hs
      obtain ⟨l50, h51, hm⟩ := bindE hm
      refine wappI hu_I he_int hs hM rfl rfl h51 rfl rfl rfl ?_; intro a v52 w u53 hs hM
      have hM : Mem W w [aInts 3 v52 l50] := hM
      refine wl hs (y_assign hs rfl) rfl ?_; intro a hs
      refine wpList_nil ?_
      refine x_nb ?_
      refine x_nt ?_
      refine wp_region_lit ?_
      refine wl hs (y_add hs rfl rfl hsj7) rfl ?_; intro a hs
      refine wl hs (y_move hs rfl) rfl ?_; intro a hs
      refine wpList_nil ?_
      exact ⟨_, by simp, q14, j7 + 1, v52, l50, rfl, hs.sub ⟨rfl, rfl, rfl, rfl, rfl, trivial⟩, hM, hm, drop_next hj7⟩
  rintro a w ⟨v10, l11, rfl, hs, hM⟩
  have hm := hk13
  refine x_nt ?_
  refine wp_seq ?_
  refine wp_region_lit ?_
  refine wl hs (y_move hs rfl) rfl ?_; intro a hs
  refine wl hs (y_assign hs rfl) rfl ?_; intro a hs
  refine wpList_nil ?_
  refine x_nt ?_
  refine wp_ret ?_
  have hm : some l11 = some r := hm
  obtain rfl := Option.some.inj hm
  refine x_ret1 rfl hs rfl ⟨_, rfl, ?_⟩
  exact hM

theorem spec_lyAsked_any (v_p0 : Value) (p0 : List (List Int)) (v_p1 : Value) (p1 : List Int) (W : World) (hr_p0 : RdM W v_p0 p0) (hr_p1 : RdI W v_p1 p1) {r : Bool} (hm : spec_lyAsked_m p0 p1 = some r) : Calls Try.prog 82 [v_p0, v_p1].toArray W fun e w => ∃ v, e = .returned v ∧ v = .bool r ∧ Mem W w [] := by
  refine x_enter Try.func82 rfl Try.ntmps82 rfl ?_
  intro a hs
  have hM := Mem.start W
  unfold spec_lyAsked_m at hm
  refine wp_seq ?_
  refine wp_region_lit ?_
  refine wl hs (y_assign hs rfl) rfl ?_; intro a hs
  refine wpList_nil ?_
  refine x_nt ?_
  refine wp_seq ?_
  refine wp_region_lit ?_
  refine wl hs (y_move hs rfl) rfl ?_; intro a hs
  refine wl hs (y_move hs rfl) rfl ?_; intro a hs
  obtain ⟨y1, h2, hm⟩ := bindE hm
  refine wcall is_113 hs rfl rfl (spec_lyGood_any v_p0 p0 v_p1 p1 _ (RdM.below hr_p0 hM.bel) (RdI.below hr_p1 hM.bel) h2) ?_; rintro a _ w hs ⟨rfl, hX⟩
  have hM : Mem W w [] := hM.call hX
  refine wl hs (y_move hs rfl) rfl ?_; intro a hs
  obtain ⟨b3, hb4, hm⟩ := bindE hm
  refine wlguard (N := 14) (L' := [(13, .bool b3), (4, .bool false)]) (fun w => Mem W w []) 5 ?_ ?_
  · intro K; rcases Bool.eq_false_or_eq_true y1 with hg5 | hg5
    · have hm := condT hg5 hb4
      refine wlg hs rfl hg5 (y_move hs rfl) rfl ?_; intro a hs
      refine wlg hs rfl hg5 (y_move hs rfl) rfl ?_; intro a hs
      obtain ⟨y6, h7, hm⟩ := bindE hm
      refine wcallg is_83 hs rfl hg5 rfl rfl (spec_lyLeast_any v_p0 p0 v_p1 p1 _ (RdM.below hr_p0 hM.bel) (RdI.below hr_p1 hM.bel) h7) ?_; rintro a v8 w hs hX
      have hM : Mem W w [aInts 3 v8 y6] := hM.call hX
      obtain ⟨y10, h11, hm⟩ := bindE hm
      refine wcallg is_114 hs rfl hg5 rfl rfl (spec_l1All_any v8 y6 (-1000000) 1000000 _ (hM.rdI 0 rfl) h11) ?_; rintro a _ w hs ⟨rfl, hX⟩
      have hM : Mem W w [aInts 3 v8 y6] := hM.call hX
      have hm : some y10 = some b3 := hm
      cases Option.some.inj hm
      refine wl hs (y_pickT hs rfl hg5 rfl) rfl ?_; intro a hs
      exact K _ _ (hs.sub ⟨rfl, rfl, trivial⟩) hM.none_
    · have hm := condF hg5 hb4
      refine wls hs rfl hg5 rfl ?_; intro a hs
      refine wls hs rfl hg5 rfl ?_; intro a hs
      refine wls hs rfl hg5 rfl ?_; intro a hs
      refine wls hs rfl hg5 rfl ?_; intro a hs
      have hm : some false = some b3 := hm
      cases Option.some.inj hm
      refine wl hs (y_pickF hs rfl hg5 rfl) rfl ?_; intro a hs
      exact K _ _ (hs.sub ⟨rfl, rfl, trivial⟩) hM
  intro a w hs hM
  simp only [List.drop_succ_cons, List.drop_zero]
  refine wl hs (y_assign hs rfl) rfl ?_; intro a hs
  refine wpList_nil ?_
  refine x_nt ?_
  refine wp_ret ?_
  have hm : some b3 = some r := hm
  obtain rfl := Option.some.inj hm
  refine x_ret1 rfl hs rfl ⟨_, rfl, ?_⟩
  exact ⟨rfl, hM⟩

theorem spec_LeastSolution_any (v_p0 : Value) (p0 : List (List Int)) (v_p1 : Value) (p1 : List Int) (W : World) (hr_p0 : RdM W v_p0 p0) (hr_p1 : RdI W v_p1 p1) {r : (List Int) × Bool} (hm : spec_LeastSolution_m p0 p1 = some r) : Calls Try.prog 38 [v_p0, v_p1].toArray W fun e w => ∃ v, e = .returned v ∧ ∃ v0, v = .tuple #[v0, .bool r.2] ∧ Mem W w [aInts 3 v0 r.1] := by
  refine x_enter Try.func38 rfl Try.ntmps38 rfl ?_
  intro a hs
  have hM := Mem.start W
  unfold spec_LeastSolution_m at hm
  refine wp_seq ?_
  refine wp_region_lit ?_
  refine wl hs (y_assign hs rfl) rfl ?_; intro a hs
  refine wl hs (y_assign hs rfl) rfl ?_; intro a hs
  refine wpList_nil ?_
  refine x_nt ?_
  refine wp_seq ?_
  refine wp_seq ?_
  refine wp_region_lit ?_
  refine wl hs (y_move hs rfl) rfl ?_; intro a hs
  refine wl hs (y_move hs rfl) rfl ?_; intro a hs
  obtain ⟨y1, h2, hm⟩ := bindE hm
  refine wcall is_82 hs rfl rfl (spec_lyAsked_any v_p0 p0 v_p1 p1 _ (RdM.below hr_p0 hM.bel) (RdI.below hr_p1 hM.bel) h2) ?_; rintro a _ w hs ⟨rfl, hX⟩
  have hM : Mem W w [] := hM.call hX
  refine wl hs (y_not hs rfl) rfl ?_; intro a hs
  refine wpList_nil ?_
  refine x_nt ?_
  refine x_cond hs rfl (fun hb => ?_) (fun hb => ?_)
  · replace hm := condT hb hm
    refine wp_seq ?_
    refine wp_region_lit ?_
    refine wl hs (y_assign hs rfl) rfl ?_; intro a hs
    refine wl hs (y_assign hs rfl) rfl ?_; intro a hs
    refine wpList_nil ?_
    refine x_nt ?_
    refine wp_ret ?_
    refine x_rt ?_
    have hm : some ([], false) = some r := hm
    obtain rfl := Option.some.inj hm
    refine x_ret2 rfl hs rfl rfl ⟨_, rfl, ?_⟩
    have hM := hM.nilI 3
    exact ⟨_, rfl, hM⟩
  · replace hm := condF hb hm
    refine wp_skip ?_
    refine x_nt ?_
    refine wp_seq ?_
    refine wp_region_lit ?_
    refine wl hs (y_move hs rfl) rfl ?_; intro a hs
    refine wl hs (y_move hs rfl) rfl ?_; intro a hs
    obtain ⟨y4, h5, hm⟩ := bindE hm
    refine wcall is_83 hs rfl rfl (spec_lyLeast_any v_p0 p0 v_p1 p1 _ (RdM.below hr_p0 hM.bel) (RdI.below hr_p1 hM.bel) h5) ?_; rintro a v6 w hs hX
    have hM : Mem W w [aInts 3 v6 y4] := hM.call hX
    refine wl hs (y_assign hs rfl) rfl ?_; intro a hs
    refine wl hs (y_assign hs rfl) rfl ?_; intro a hs
    refine wpList_nil ?_
    refine x_nt ?_
    refine wp_ret ?_
    have hm : some (y4, true) = some r := hm
    obtain rfl := Option.some.inj hm
    refine x_ret2 rfl hs rfl rfl ⟨_, rfl, ?_⟩
    exact ⟨_, rfl, hM⟩

set_option maxHeartbeats 4000000 in
theorem impl_leastSolution_any (v_p0 : Value) (p0 : List (List Int)) (v_p1 : Value) (p1 : List Int) (W : World) (hr_p0 : RdM W v_p0 p0) (hr_p1 : RdI W v_p1 p1) {r : List Int} (hm : impl_leastSolution_m p0 p1 = some r) : Calls Try.prog 116 [v_p0, v_p1].toArray W fun e w => ∃ v, e = .returned v ∧ Mem W w [aInts 3 v r] := by
  refine x_enter Try.func116 rfl Try.ntmps116 rfl ?_
  intro a hs
  have hM := Mem.start W
  unfold impl_leastSolution_m at hm
  refine wp_seq ?_
  refine wp_region_lit ?_
  refine wl hs (y_assign hs rfl) rfl ?_; intro a hs
  refine wpList_nil ?_
  refine x_nt ?_
  refine wp_seq ?_
  refine wp_region_lit ?_
  refine wmem hs (x_new0I ht_I hM) rfl ?_; intro a v2 w hs hM
  have hM : Mem W w [aInts 3 v2 ([])] := hM
  refine wl hs (y_assign hs rfl) rfl ?_; intro a hs
  refine wpList_nil ?_
  refine x_nt ?_
  refine wp_seq ?_
  refine wp_seq ?_
  refine wp_region_lit ?_
  refine wl hs (y_move hs rfl) rfl ?_; intro a hs
  obtain ⟨y3, h4, hm⟩ := bindE hm
  refine wcall is_62 hs rfl rfl (impl_transposed_any v_p0 p0 _ (RdM.below hr_p0 hM.bel) h4) ?_; rintro a v5 w hs ⟨vs7, hX⟩
  have hM : Mem W w [aMat 24 3 v5 vs7 y3, aInts 3 v2 ([])] := hM.call hX
  refine wl hs (y_len hu_M hs rfl (hM.rdM 0 rfl)) rfl ?_; intro a hs
  refine wl hs (y_move hs rfl) rfl ?_; intro a hs
  refine wpList_nil ?_
  refine x_nt ?_
  obtain ⟨s13, hm, hk14⟩ := bindE hm
  refine x_mid (fun a w => ∃ (v11 : Value), ∃ (l12 : List Int), l12 = s13 ∧ Fr a 56 [(5, v11)] ∧ Mem W w [aInts 3 v11 l12]) ?_ ?_
  · refine wp_block ?_
    refine x_loop (fun k a w => ∃ (q15 : List (List Int)) (j8 : Nat) (v9 : Value) (l10 : List Int) , k = q15.length ∧ Fr a 56 [(1, v_p1), (5, v9), (14, v5), (15, .int .i64 (y3.length : Int)), (16, .int .i64 (j8 : Int))] ∧ Mem W w [aMat 24 3 v5 vs7 y3, aInts 3 v9 l10] ∧ impl_leastSolution_l1 p1 q15 j8 l10 = some s13 ∧ List.drop j8 y3 = q15) _ ⟨y3, 0, v2, [], rfl, hs.sub ⟨rfl, rfl, rfl, rfl, rfl, trivial⟩, hM, hm, rfl⟩ ?_
    rintro k a w ⟨q15, j8, v9, l10, rfl, hs, hM, hm, hj8⟩
    rcases q15 with _ | ⟨x16, q15⟩
    · rewrite [impl_leastSolution_l1] at hm
      refine wp_seq ?_
      refine wp_region_lit ?_
      refine wl hs (y_lss hs rfl rfl) rfl ?_; intro a hs
      refine wpList_nil ?_
      refine x_nt ?_
      refine wp_seq ?_
      refine x_condF hs rfl (drop_f hj8) ?_
      refine wp_exit ?_
      refine x_et ?_
      refine x_et ?_
      refine x_eb ?_
      have hm : some l10 = some s13 := hm
      exact ⟨v9, l10, Option.some.inj hm, hs.sub ⟨rfl, trivial⟩, hM.drop⟩
    · rewrite [impl_leastSolution_l1] at hm
      have hx17 := drop_idx hj8
      have hsj8 := ck_succ hj8 (RdS.len (hM.rdM 0 rfl))
      refine wp_seq ?_
      refine wp_region_lit ?_
      refine wl hs (y_lss hs rfl rfl) rfl ?_; intro a hs
      refine wpList_nil ?_
      refine x_nt ?_
      refine wp_seq ?_
      refine x_condT hs rfl (drop_t hj8) ?_
      refine wp_skip ?_
      refine x_nt ?_
      refine wp_seq ?_
      refine wp_block ?_
      refine wp_seq ?_
      refine wp_region_lit ?_
      obtain ⟨u19, hv20, he18⟩ := hM.atM 0 rfl hx17
      refine wl hs (y_index ht_M hs rfl rfl he18) rfl ?_; intro a hs
      refine wl hs (y_load sc_I hs rfl he18.cell) rfl ?_; intro a hs
      refine wl hs (y_assign hs rfl) rfl ?_; intro a hs
      refine wpList_nil ?_
      refine x_nt ?_
      refine wp_seq ?_
      refine wp_region_lit ?_
      refine wl hs (y_assign hs rfl) rfl ?_; intro a hs
      refine wl hs (y_assign hs rfl) rfl ?_; intro a hs
      refine wpList_nil ?_
      refine x_nt ?_
      refine wp_seq ?_
      refine wp_seq ?_
      refine wp_region_lit ?_
      refine wl hs (y_move hs rfl) rfl ?_; intro a hs
      refine wl hs (y_len hu_I hs rfl (hM.rdRow 0 rfl rfl hv20 (idx_spec hx17).2.2)) rfl ?_; intro a hs
      refine wl hs (y_move hs rfl) rfl ?_; intro a hs
      refine wpList_nil ?_
      refine x_nt ?_
      obtain ⟨s25, hm, hk26⟩ := bindE hm
      refine x_mid (fun a w => ∃ (n24 : Int), n24 = s25 ∧ Fr a 56 [(1, v_p1), (5, v9), (8, .int .i64 n24), (14, v5), (15, .int .i64 (y3.length : Int)), (16, .int .i64 (j8 : Int))] ∧ Mem W w [aMat 24 3 v5 vs7 y3, aInts 3 v9 l10]) ?_ ?_
      · refine wp_block ?_
        refine x_loop (fun k a w => ∃ (q27 : List Int) (j21 : Nat) (n22 : Int) (b23 : Bool) , k = q27.length ∧ Fr a 56 [(1, v_p1), (5, v9), (8, .int .i64 n22), (9, .bool b23), (14, v5), (15, .int .i64 (y3.length : Int)), (16, .int .i64 (j8 : Int)), (20, u19), (21, .int .i64 (x16.length : Int)), (22, .int .i64 (j21 : Int))] ∧ Mem W w [aMat 24 3 v5 vs7 y3, aInts 3 v9 l10] ∧ impl_leastSolution_l2 p1 q27 j21 n22 b23 = some s25 ∧ List.drop j21 x16 = q27) _ ⟨x16, 0, 0, false, rfl, hs.sub ⟨rfl, rfl, rfl, rfl, rfl, rfl, rfl, rfl, rfl, rfl, trivial⟩, hM, hm, rfl⟩ ?_
        rintro k a w ⟨q27, j21, n22, b23, rfl, hs, hM, hm, hj21⟩
        rcases q27 with _ | ⟨x28, q27⟩
        · rewrite [impl_leastSolution_l2] at hm
          refine wp_seq ?_
          refine wp_region_lit ?_
          refine wl hs (y_lss hs rfl rfl) rfl ?_; intro a hs
          refine wpList_nil ?_
          refine x_nt ?_
          refine wp_seq ?_
          refine x_condF hs rfl (drop_f hj21) ?_
          refine wp_exit ?_
          refine x_et ?_
          refine x_et ?_
          refine x_eb ?_
          have hm : some n22 = some s25 := hm
          exact ⟨n22, Option.some.inj hm, hs.sub ⟨rfl, rfl, rfl, rfl, rfl, rfl, trivial⟩, hM⟩
        · rewrite [impl_leastSolution_l2] at hm
          have hx29 := drop_idx hj21
          have hsj21 := ck_succ hj21 (RdS.len (hM.rdRow 0 rfl rfl hv20 (idx_spec hx17).2.2))
          refine wp_seq ?_
          refine wp_region_lit ?_
          refine wl hs (y_lss hs rfl rfl) rfl ?_; intro a hs
          refine wpList_nil ?_
          refine x_nt ?_
          refine wp_seq ?_
          refine x_condT hs rfl (drop_t hj21) ?_
          refine wp_skip ?_
          refine x_nt ?_
          refine wp_seq ?_
          refine wp_block ?_
          refine wp_seq ?_
          refine wp_region_lit ?_
          refine wl hs (y_move hs rfl) rfl ?_; intro a hs
          have he30 := RdI.at_ (hM.rdRow 0 rfl rfl hv20 (idx_spec hx17).2.2) hx29
          refine wl hs (y_index ht_I hs rfl rfl he30) rfl ?_; intro a hs
          refine wl hs (y_load sc_int hs rfl he30.cell) rfl ?_; intro a hs
          refine wl hs (y_assign hs rfl) rfl ?_; intro a hs
          refine wl hs (y_assign hs rfl) rfl ?_; intro a hs
          refine wpList_nil ?_
          refine x_nt ?_
          refine wp_seq ?_
          refine wp_region_lit ?_
          refine wl hs (y_move hs rfl) rfl ?_; intro a hs
          refine wl hs (y_neq hs rfl rfl) rfl ?_; intro a hs
          refine wl hs (y_move hs rfl) rfl ?_; intro a hs
          obtain ⟨b31, hb32, hm⟩ := bindE hm
          refine wlguard (N := 56) (L' := [(42, .bool b31), (1, v_p1), (5, v9), (8, .int .i64 n22), (9, .bool b23), (10, .int .i64 (j21 : Int)), (11, .int .i64 x28), (14, v5), (15, .int .i64 (y3.length : Int)), (16, .int .i64 (j8 : Int)), (20, u19), (21, .int .i64 (x16.length : Int)), (22, .int .i64 (j21 : Int))]) (fun w => Mem W w [aMat 24 3 v5 vs7 y3, aInts 3 v9 l10]) 13 ?_ ?_
          · intro K; rcases Bool.eq_false_or_eq_true (x28 != 1000000000) with hg33 | hg33
            · have hm := condT hg33 hb32
              refine wlg hs rfl hg33 (y_move hs rfl) rfl ?_; intro a hs
              refine wlg hs rfl hg33 (y_not hs rfl) rfl ?_; intro a hs
              refine wlg hs rfl hg33 (y_move hs rfl) rfl ?_; intro a hs
              obtain ⟨b34, hb35, hm⟩ := bindE hm
              refine wlguard (N := 56) (L' := [(41, .bool b34), (1, v_p1), (5, v9), (8, .int .i64 n22), (9, .bool b23), (10, .int .i64 (j21 : Int)), (11, .int .i64 x28), (14, v5), (15, .int .i64 (y3.length : Int)), (16, .int .i64 (j8 : Int)), (20, u19), (21, .int .i64 (x16.length : Int)), (22, .int .i64 (j21 : Int)), (29, .bool (x28 != 1000000000))]) (fun w => Mem W w [aMat 24 3 v5 vs7 y3, aInts 3 v9 l10]) 9 ?_ ?_
              · intro K; rcases Bool.eq_false_or_eq_true (!b23) with hg36 | hg36
                · have hm := condT hg36 hb35
                  refine wls hs rfl hg36 rfl ?_; intro a hs
                  refine wls hs rfl hg36 rfl ?_; intro a hs
                  refine wls hs rfl hg36 rfl ?_; intro a hs
                  refine wls hs rfl hg36 rfl ?_; intro a hs
                  refine wls hs rfl hg36 rfl ?_; intro a hs
                  refine wls hs rfl hg36 rfl ?_; intro a hs
                  refine wls hs rfl hg36 rfl ?_; intro a hs
                  refine wls hs rfl hg36 rfl ?_; intro a hs
                  have hm : some true = some b34 := hm
                  cases Option.some.inj hm
                  refine wlg hs rfl hg33 (y_pickT hs rfl hg36 rfl) rfl ?_; intro a hs
                  exact K _ _ (hs.sub ⟨rfl, rfl, rfl, rfl, rfl, rfl, rfl, rfl, rfl, rfl, rfl, rfl, rfl, rfl, trivial⟩) hM
                · have hm := condF hg36 hb35
                  refine wlg hs rfl hg36 (y_move hs rfl) rfl ?_; intro a hs
                  refine wlg hs rfl hg36 (y_move hs rfl) rfl ?_; intro a hs
                  obtain ⟨x37, hx38, hm⟩ := bindE hm
                  have he39 := RdI.at_ (RdI.below hr_p1 hM.bel) hx38
                  refine wlg hs rfl hg36 (y_index ht_I hs rfl rfl he39) rfl ?_; intro a hs
                  refine wlg hs rfl hg36 (y_load sc_int hs rfl he39.cell) rfl ?_; intro a hs
                  refine wlg hs rfl hg36 (y_move hs rfl) rfl ?_; intro a hs
                  obtain ⟨n40, h41, hm⟩ := bindE hm
                  refine wlg hs rfl hg36 (y_sub hs rfl rfl h41) rfl ?_; intro a hs
                  refine wlg hs rfl hg36 (y_move hs rfl) rfl ?_; intro a hs
                  refine wlg hs rfl hg36 (y_gtr hs rfl rfl) rfl ?_; intro a hs
                  have hm : some (decide (n40 > n22)) = some b34 := hm
                  cases Option.some.inj hm
                  refine wlg hs rfl hg33 (y_pickF hs rfl hg36 rfl) rfl ?_; intro a hs
                  exact K _ _ (hs.sub ⟨rfl, rfl, rfl, rfl, rfl, rfl, rfl, rfl, rfl, rfl, rfl, rfl, rfl, rfl, trivial⟩) hM
              intro a w hs hM
              simp only [List.drop_succ_cons, List.drop_zero]
              have hm : some b34 = some b31 := hm
              cases Option.some.inj hm
              refine wl hs (y_pickT hs rfl hg33 rfl) rfl ?_; intro a hs
              exact K _ _ (hs.sub ⟨rfl, rfl, rfl, rfl, rfl, rfl, rfl, rfl, rfl, rfl, rfl, rfl, rfl, trivial⟩) hM
            · have hm := condF hg33 hb32
              refine wls hs rfl hg33 rfl ?_; intro a hs
              refine wls hs rfl hg33 rfl ?_; intro a hs
              refine wls hs rfl hg33 rfl ?_; intro a hs
              refine wlu hs rfl rfl ?_; intro a hs
              refine wlu hs rfl rfl ?_; intro a hs
              refine wlu hs rfl rfl ?_; intro a hs
              refine wlu hs rfl rfl ?_; intro a hs
              refine wlu hs rfl rfl ?_; intro a hs
              refine wlu hs rfl rfl ?_; intro a hs
              refine wlu hs rfl rfl ?_; intro a hs
              refine wlu hs rfl rfl ?_; intro a hs
              refine wls hs rfl hg33 rfl ?_; intro a hs
              have hm : some false = some b31 := hm
              cases Option.some.inj hm
              refine wl hs (y_pickF hs rfl hg33 rfl) rfl ?_; intro a hs
              exact K _ _ (hs.sub ⟨rfl, rfl, rfl, rfl, rfl, rfl, rfl, rfl, rfl, rfl, rfl, rfl, rfl, trivial⟩) hM
          intro a w hs hM
          simp only [List.drop_succ_cons, List.drop_zero]
          refine wpList_nil ?_
          refine x_nt ?_
          refine x_cond hs rfl (fun hb => ?_) (fun hb => ?_)
          · replace hm := condT hb hm
            refine wp_region_lit ?_
            refine wl hs (y_move hs rfl) rfl ?_; intro a hs
            refine wl hs (y_move hs rfl) rfl ?_; intro a hs
            obtain ⟨x42, hx43, hm⟩ := bindE hm
            have he44 := RdI.at_ (RdI.below hr_p1 hM.bel) hx43
            refine wl hs (y_index ht_I hs rfl rfl he44) rfl ?_; intro a hs
            refine wl hs (y_load sc_int hs rfl he44.cell) rfl ?_; intro a hs
            refine wl hs (y_move hs rfl) rfl ?_; intro a hs
            obtain ⟨n45, h46, hm⟩ := bindE hm
            refine wl hs (y_sub hs rfl rfl h46) rfl ?_; intro a hs
            refine wl hs (y_assign hs rfl) rfl ?_; intro a hs
            refine wl hs (y_assign hs rfl) rfl ?_; intro a hs
            refine wpList_nil ?_
            refine x_nb ?_
            refine x_nt ?_
            refine wp_region_lit ?_
            refine wl hs (y_add hs rfl rfl hsj21) rfl ?_; intro a hs
            refine wl hs (y_move hs rfl) rfl ?_; intro a hs
            refine wpList_nil ?_
            exact ⟨_, by simp, q27, j21 + 1, n45, true, rfl, hs.sub ⟨rfl, rfl, rfl, rfl, rfl, rfl, rfl, rfl, rfl, rfl, trivial⟩, hM, hm, drop_next hj21⟩
          · replace hm := condF hb hm
            refine wp_skip ?_
            refine x_nb ?_
            refine x_nt ?_
            refine wp_region_lit ?_
            refine wl hs (y_add hs rfl rfl hsj21) rfl ?_; intro a hs
            refine wl hs (y_move hs rfl) rfl ?_; intro a hs
            refine wpList_nil ?_
            exact ⟨_, by simp, q27, j21 + 1, n22, b23, rfl, hs.sub ⟨rfl, rfl, rfl, rfl, rfl, rfl, rfl, rfl, rfl, rfl, trivial⟩, hM, hm, drop_next hj21⟩
      rintro a w ⟨n24, rfl, hs, hM⟩
      have hm := hk26
      refine x_nt ?_
      refine wp_region_lit ?_
      refine wl hs (y_move hs rfl) rfl ?_; intro a hs
      refine wl hs (y_move hs rfl) rfl ?_; intro a hs
      obtain ⟨l47, h48, hm⟩ := bindE hm
      refine wappI hu_I he_int hs (hM.front 1 rfl) rfl rfl h48 rfl rfl rfl ?_; intro a v49 w u50 hs hM
      have hM : Mem W w [aInts 3 v49 l47, aMat 24 3 v5 vs7 y3] := hM
      refine wl hs (y_assign hs rfl) rfl ?_; intro a hs
      refine wpList_nil ?_
      refine x_nb ?_
      refine x_nt ?_
      refine wp_region_lit ?_
      refine wl hs (y_add hs rfl rfl hsj8) rfl ?_; intro a hs
      refine wl hs (y_move hs rfl) rfl ?_; intro a hs
      refine wpList_nil ?_
      exact ⟨_, by simp, q15, j8 + 1, v49, l47, rfl, hs.sub ⟨rfl, rfl, rfl, rfl, rfl, trivial⟩, (hM.front 1 rfl), hm, drop_next hj8⟩
  rintro a w ⟨v11, l12, rfl, hs, hM⟩
  have hm := hk14
  refine x_nt ?_
  refine wp_seq ?_
  refine wp_region_lit ?_
  refine wl hs (y_move hs rfl) rfl ?_; intro a hs
  refine wl hs (y_assign hs rfl) rfl ?_; intro a hs
  refine wpList_nil ?_
  refine x_nt ?_
  refine wp_ret ?_
  have hm : some l12 = some r := hm
  obtain rfl := Option.some.inj hm
  refine x_ret1 rfl hs rfl ⟨_, rfl, ?_⟩
  exact hM

end Go.Proofs.Ytaagklbiebogfaa
