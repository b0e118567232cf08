/- The code of this unit computes what its mirrors say. Written by program (wip/gen). -/
import Derived.Test.YtaagklbiebogfaaFacts
import Derived.Test.YtaagklbiebogfaaLy1M
import Derived.Test.YtaagklbiebogfaaNumW
import Derived.Test.YtaagklbiebogfaaMatW
namespace Go.Proofs.Ytaagklbiebogfaa
open Go.RowKit
set_option linter.unusedVariables false

set_option maxHeartbeats 4000000 in
theorem spec_lyGood_any (v_p0 : Value) (p0 : List (List Int)) (v_p1 : Value) (p1 : List Int) (W : World) (hr_p0 : RdM W v_p0 p0) (hr_p1 : RdI W v_p1 p1) {r : Bool} (hm : spec_lyGood_m p0 p1 = some r) : Calls Try.prog 113 [v_p0, v_p1].toArray W fun e w => ∃ v, e = .returned v ∧ v = .bool r ∧ Mem W w [] := by
  refine x_enter Try.func113 rfl Try.ntmps113 rfl ?_
  intro a hs
  have hM := Mem.start W
  unfold spec_lyGood_m at hm
  refine wp_seq ?_
  refine wp_region_lit ?_
  refine wl hs (y_assign hs rfl) rfl ?_; intro a hs
  refine wpList_nil ?_
  refine x_nt ?_
  refine wp_seq ?_
  refine wp_seq ?_
  refine wp_region_lit ?_
  refine wl hs (y_move hs rfl) rfl ?_; intro a hs
  obtain ⟨y1, h2, hm⟩ := bindE hm
  refine wcall is_57 hs rfl rfl (spec_mxGood_any v_p0 p0 _ (RdM.below hr_p0 hM.bel) h2) ?_; rintro a _ w hs ⟨rfl, hX⟩
  have hM : Mem W w [] := hM.call hX
  refine wl hs (y_not hs rfl) rfl ?_; intro a hs
  refine wl hs (y_move hs rfl) rfl ?_; intro a hs
  obtain ⟨b3, hb4, hm⟩ := bindE hm
  refine wlguard (N := 49) (L' := [(18, .bool b3), (0, v_p0), (1, v_p1)]) (fun w => Mem W w []) 6 ?_ ?_
  · intro K; rcases Bool.eq_false_or_eq_true (!y1) with hg5 | hg5
    · have hm := condT hg5 hb4
      refine wls hs rfl hg5 rfl ?_; intro a hs
      refine wls hs rfl hg5 rfl ?_; intro a hs
      refine wls hs rfl hg5 rfl ?_; intro a hs
      refine wls hs rfl hg5 rfl ?_; intro a hs
      refine wls hs rfl hg5 rfl ?_; intro a hs
      have hm : some true = some b3 := hm
      cases Option.some.inj hm
      refine wl hs (y_pickT hs rfl hg5 rfl) rfl ?_; intro a hs
      exact K _ _ (hs.sub ⟨rfl, rfl, rfl, trivial⟩) hM
    · have hm := condF hg5 hb4
      refine wlg hs rfl hg5 (y_move hs rfl) rfl ?_; intro a hs
      refine wlg hs rfl hg5 (y_len hu_I hs rfl (RdI.below hr_p1 hM.bel)) rfl ?_; intro a hs
      refine wlg hs rfl hg5 (y_move hs rfl) rfl ?_; intro a hs
      refine wlg hs rfl hg5 (y_len hu_M hs rfl (RdM.below hr_p0 hM.bel)) rfl ?_; intro a hs
      refine wlg hs rfl hg5 (y_neq hs rfl rfl) rfl ?_; intro a hs
      have hm : some ((p1.length : Int) != (p0.length : Int)) = some b3 := hm
      cases Option.some.inj hm
      refine wl hs (y_pickF hs rfl hg5 rfl) rfl ?_; intro a hs
      exact K _ _ (hs.sub ⟨rfl, rfl, rfl, trivial⟩) hM
  intro a w hs hM
  simp only [List.drop_succ_cons, List.drop_zero]
  refine wl hs (y_move hs rfl) rfl ?_; intro a hs
  obtain ⟨b6, hb7, hm⟩ := bindE hm
  refine wlguard (N := 49) (L' := [(23, .bool b6), (0, v_p0)]) (fun w => Mem W w []) 4 ?_ ?_
  · intro K; rcases Bool.eq_false_or_eq_true b3 with hg8 | hg8
    · have hm := condT hg8 hb7
      refine wls hs rfl hg8 rfl ?_; intro a hs
      refine wls hs rfl hg8 rfl ?_; intro a hs
      refine wls hs rfl hg8 rfl ?_; intro a hs
      have hm : some true = some b6 := hm
      cases Option.some.inj hm
      refine wl hs (y_pickT hs rfl hg8 rfl) rfl ?_; intro a hs
      exact K _ _ (hs.sub ⟨rfl, rfl, trivial⟩) hM
    · have hm := condF hg8 hb7
      refine wlg hs rfl hg8 (y_move hs rfl) rfl ?_; intro a hs
      obtain ⟨y9, h10, hm⟩ := bindE hm
      refine wcallg is_114 hs rfl hg8 rfl rfl (spec_l1All_any v_p1 p1 (-1000000) 1000000 _ (RdI.below hr_p1 hM.bel) h10) ?_; rintro a _ w hs ⟨rfl, hX⟩
      have hM : Mem W w [] := hM.call hX
      refine wlg hs rfl hg8 (y_not hs rfl) rfl ?_; intro a hs
      have hm : some (!y9) = some b6 := hm
      cases Option.some.inj hm
      refine wl hs (y_pickF hs rfl hg8 rfl) rfl ?_; intro a hs
      exact K _ _ (hs.sub ⟨rfl, rfl, trivial⟩) hM
  intro a w hs hM
  simp only [List.drop_succ_cons, List.drop_zero]
  refine wpList_nil ?_
  refine x_nt ?_
  refine x_cond hs rfl (fun hb => ?_) (fun hb => ?_)
  · replace hm := condT hb hm
    refine wp_seq ?_
    refine wp_region_lit ?_
    refine wl hs (y_assign hs rfl) rfl ?_; intro a hs
    refine wpList_nil ?_
    refine x_nt ?_
    refine wp_ret ?_
    refine x_rt ?_
    have hm : some false = some r := hm
    obtain rfl := Option.some.inj hm
    refine x_ret1 rfl hs rfl ⟨_, rfl, ?_⟩
    exact ⟨rfl, hM⟩
  · replace hm := condF hb hm
    refine wp_skip ?_
    refine x_nt ?_
    refine wp_seq ?_
    refine wp_seq ?_
    refine wp_region_lit ?_
    refine wl hs (y_move hs rfl) rfl ?_; intro a hs
    obtain ⟨x11, hx12, hm⟩ := bindE hm
    obtain ⟨u14, he13, hr15⟩ := RdM.at_ hr_p0 hx12
    replace he13 := he13.below hM.bel
    refine wl hs (y_index ht_M hs rfl rfl he13) rfl ?_; intro a hs
    refine wl hs (y_load sc_I hs rfl he13.cell) rfl ?_; intro a hs
    refine wl hs (y_len hu_I hs rfl (RdI.below hr15 hM.bel)) rfl ?_; intro a hs
    refine wl hs (y_move hs rfl) rfl ?_; intro a hs
    refine wpList_nil ?_
    refine x_nt ?_
    obtain ⟨s17, hm, hk18⟩ := bindE hm
    refine x_mid (fun a w => Sum.inr () = s17 ∧ Fr a 49 [] ∧ Mem W w []) ?_ ?_
    · refine wp_block ?_
      refine x_loop (fun k a w => ∃ (q19 : List Int) (j16 : Nat) , k = q19.length ∧ Fr a 49 [(0, v_p0), (27, .int .i64 (x11.length : Int)), (28, .int .i64 (j16 : Int))] ∧ Mem W w [] ∧ spec_lyGood_l1 p0 q19 j16 = some s17 ∧ List.drop j16 x11 = q19) _ ⟨x11, 0, rfl, hs.sub ⟨rfl, rfl, rfl, trivial⟩, hM, hm, rfl⟩ ?_
      rintro k a w ⟨q19, j16, rfl, hs, hM, hm, hj16⟩
      rcases q19 with _ | ⟨x20, q19⟩
      · rewrite [spec_lyGood_l1] at hm
        refine wp_seq ?_
        refine wp_region_lit ?_
        refine wl hs (y_lss hs rfl rfl) rfl ?_; intro a hs
        refine wpList_nil ?_
        refine x_nt ?_
        refine wp_seq ?_
        refine x_condF hs rfl (drop_f hj16) ?_
        refine wp_exit ?_
        refine x_et ?_
        refine x_et ?_
        refine x_eb ?_
        have hm : some (Sum.inr ()) = some s17 := hm
        exact ⟨Option.some.inj hm, hs.sub trivial, hM⟩
      · rewrite [spec_lyGood_l1] at hm
        have hx21 := drop_idx hj16
        have hsj16 := ck_succ hj16 (RdS.len (RdI.below hr15 hM.bel))
        refine wp_seq ?_
        refine wp_region_lit ?_
        refine wl hs (y_lss hs rfl rfl) rfl ?_; intro a hs
        refine wpList_nil ?_
        refine x_nt ?_
        refine wp_seq ?_
        refine x_condT hs rfl (drop_t hj16) ?_
        refine wp_skip ?_
        refine x_nt ?_
        refine wp_seq ?_
        refine wp_block ?_
        refine wp_seq ?_
        refine wp_region_lit ?_
        refine wl hs (y_move hs rfl) rfl ?_; intro a hs
        refine wl hs (y_assign hs rfl) rfl ?_; intro a hs
        refine wpList_nil ?_
        refine x_nt ?_
        refine wp_seq ?_
        refine wp_region_lit ?_
        refine wl hs (y_assign hs rfl) rfl ?_; intro a hs
        refine wpList_nil ?_
        refine x_nt ?_
        refine wp_seq ?_
        refine wp_seq ?_
        refine wp_region_lit ?_
        refine wl hs (y_move hs rfl) rfl ?_; intro a hs
        refine wl hs (y_len hu_M hs rfl (RdM.below hr_p0 hM.bel)) rfl ?_; intro a hs
        refine wl hs (y_move hs rfl) rfl ?_; intro a hs
        refine wpList_nil ?_
        refine x_nt ?_
        obtain ⟨s25, hm, hk26⟩ := bindE hm
        refine x_mid (fun a w => ∃ (b24 : Bool), b24 = s25 ∧ Fr a 49 [(0, v_p0), (6, .bool b24), (27, .int .i64 (x11.length : Int)), (28, .int .i64 (j16 : Int))] ∧ Mem W w []) ?_ ?_
        · refine wp_block ?_
          refine x_loop (fun k a w => ∃ (q27 : List (List Int)) (j22 : Nat) (b23 : Bool) , k = q27.length ∧ Fr a 49 [(0, v_p0), (5, .int .i64 (j16 : Int)), (6, .bool b23), (27, .int .i64 (x11.length : Int)), (28, .int .i64 (j16 : Int)), (31, v_p0), (32, .int .i64 (p0.length : Int)), (33, .int .i64 (j22 : Int))] ∧ Mem W w [] ∧ spec_lyGood_l2 j16 q27 j22 b23 = some s25 ∧ List.drop j22 p0 = q27) _ ⟨p0, 0, false, rfl, hs.sub ⟨rfl, rfl, rfl, rfl, rfl, rfl, rfl, rfl, trivial⟩, hM, hm, rfl⟩ ?_
          rintro k a w ⟨q27, j22, b23, rfl, hs, hM, hm, hj22⟩
          rcases q27 with _ | ⟨x28, q27⟩
          · rewrite [spec_lyGood_l2] at hm
            refine wp_seq ?_
            refine wp_region_lit ?_
            refine wl hs (y_lss hs rfl rfl) rfl ?_; intro a hs
            refine wpList_nil ?_
            refine x_nt ?_
            refine wp_seq ?_
            refine x_condF hs rfl (drop_f hj22) ?_
            refine wp_exit ?_
            refine x_et ?_
            refine x_et ?_
            refine x_eb ?_
            have hm : some b23 = some s25 := hm
            exact ⟨b23, Option.some.inj hm, hs.sub ⟨rfl, rfl, rfl, rfl, trivial⟩, hM⟩
          · rewrite [spec_lyGood_l2] at hm
            have hx29 := drop_idx hj22
            have hsj22 := ck_succ hj22 (RdS.len (RdM.below hr_p0 hM.bel))
            refine wp_seq ?_
            refine wp_region_lit ?_
            refine wl hs (y_lss hs rfl rfl) rfl ?_; intro a hs
            refine wpList_nil ?_
            refine x_nt ?_
            refine wp_seq ?_
            refine x_condT hs rfl (drop_t hj22) ?_
            refine wp_skip ?_
            refine x_nt ?_
            refine wp_seq ?_
            refine wp_block ?_
            refine wp_seq ?_
            refine wp_region_lit ?_
            obtain ⟨u31, he30, hr32⟩ := RdM.at_ hr_p0 hx29
            replace he30 := he30.below hM.bel
            refine wl hs (y_index ht_M hs rfl rfl he30) rfl ?_; intro a hs
            refine wl hs (y_load sc_I hs rfl he30.cell) rfl ?_; intro a hs
            refine wl hs (y_assign hs rfl) rfl ?_; intro a hs
            refine wpList_nil ?_
            refine x_nt ?_
            refine wp_region_lit ?_
            refine wl hs (y_move hs rfl) rfl ?_; intro a hs
            refine wl hs (y_move hs rfl) rfl ?_; intro a hs
            obtain ⟨b33, hb34, hm⟩ := bindE hm
            refine wlguard (N := 49) (L' := [(44, .bool b33), (0, v_p0), (5, .int .i64 (j16 : Int)), (6, .bool b23), (27, .int .i64 (x11.length : Int)), (28, .int .i64 (j16 : Int)), (31, v_p0), (32, .int .i64 (p0.length : Int)), (33, .int .i64 (j22 : Int))]) (fun w => Mem W w []) 6 ?_ ?_
            · intro K; rcases Bool.eq_false_or_eq_true b23 with hg35 | hg35
              · have hm := condT hg35 hb34
                refine wls hs rfl hg35 rfl ?_; intro a hs
                refine wls hs rfl hg35 rfl ?_; intro a hs
                refine wls hs rfl hg35 rfl ?_; intro a hs
                refine wls hs rfl hg35 rfl ?_; intro a hs
                refine wls hs rfl hg35 rfl ?_; intro a hs
                have hm : some true = some b33 := hm
                cases Option.some.inj hm
                refine wl hs (y_pickT hs rfl hg35 rfl) rfl ?_; intro a hs
                exact K _ _ (hs.sub ⟨rfl, rfl, rfl, rfl, rfl, rfl, rfl, rfl, rfl, trivial⟩) hM
              · have hm := condF hg35 hb34
                refine wlg hs rfl hg35 (y_move hs rfl) rfl ?_; intro a hs
                refine wlg hs rfl hg35 (y_move hs rfl) rfl ?_; intro a hs
                obtain ⟨x36, hx37, hm⟩ := bindE hm
                have he38 := RdI.at_ (RdI.below hr32 hM.bel) hx37
                refine wlg hs rfl hg35 (y_index ht_I hs rfl rfl he38) rfl ?_; intro a hs
                refine wlg hs rfl hg35 (y_load sc_int hs rfl he38.cell) rfl ?_; intro a hs
                refine wlg hs rfl hg35 (y_neq hs rfl rfl) rfl ?_; intro a hs
                have hm : some (x36 != 1000000000) = some b33 := hm
                cases Option.some.inj hm
                refine wl hs (y_pickF hs rfl hg35 rfl) rfl ?_; intro a hs
                exact K _ _ (hs.sub ⟨rfl, rfl, rfl, rfl, rfl, rfl, rfl, rfl, rfl, trivial⟩) hM
            intro a w hs hM
            simp only [List.drop_succ_cons, List.drop_zero]
            refine wl hs (y_assign hs rfl) rfl ?_; intro a hs
            refine wpList_nil ?_
            refine x_nb ?_
            refine x_nt ?_
            refine wp_region_lit ?_
            refine wl hs (y_add hs rfl rfl hsj22) rfl ?_; intro a hs
            refine wl hs (y_move hs rfl) rfl ?_; intro a hs
            refine wpList_nil ?_
            exact ⟨_, by simp, q27, j22 + 1, b33, rfl, hs.sub ⟨rfl, rfl, rfl, rfl, rfl, rfl, rfl, rfl, trivial⟩, hM, hm, drop_next hj22⟩
        rintro a w ⟨b24, rfl, hs, hM⟩
        have hm := hk26
        refine x_nt ?_
        refine wp_seq ?_
        refine wp_region_lit ?_
        refine wl hs (y_move hs rfl) rfl ?_; intro a hs
        refine wl hs (y_not hs rfl) rfl ?_; intro a hs
        refine wpList_nil ?_
        refine x_nt ?_
        refine x_cond hs rfl (fun hb => ?_) (fun hb => ?_)
        · replace hm := condT hb hm
          refine wp_seq ?_
          refine wp_region_lit ?_
          refine wl hs (y_assign hs rfl) rfl ?_; intro a hs
          refine wpList_nil ?_
          refine x_nt ?_
          refine wp_ret ?_
          refine x_rb ?_
          refine x_rt ?_
          refine x_rt ?_
          refine x_rb ?_
          refine x_rt ?_
          refine x_rt ?_
          have hm : some (Sum.inl false) = some s17 := hm
          cases Option.some.inj hm
          have hm := hk18
          have hm : some false = some r := hm
          obtain rfl := Option.some.inj hm
          refine x_ret1 rfl hs rfl ⟨_, rfl, ?_⟩
          exact ⟨rfl, hM⟩
        · replace hm := condF hb hm
          refine wp_skip ?_
          refine x_nb ?_
          refine x_nt ?_
          refine wp_region_lit ?_
          refine wl hs (y_add hs rfl rfl hsj16) rfl ?_; intro a hs
          refine wl hs (y_move hs rfl) rfl ?_; intro a hs
          refine wpList_nil ?_
          exact ⟨_, by simp, q19, j16 + 1, rfl, hs.sub ⟨rfl, rfl, rfl, trivial⟩, hM, hm, drop_next hj16⟩
    rintro a w ⟨rfl, hs, hM⟩
    have hm := hk18
    refine x_nt ?_
    refine wp_seq ?_
    refine wp_region_lit ?_
    refine wl hs (y_assign hs rfl) rfl ?_; intro a hs
    refine wpList_nil ?_
    refine x_nt ?_
    refine wp_ret ?_
    have hm : some true = some r := hm
    obtain rfl := Option.some.inj hm
    refine x_ret1 rfl hs rfl ⟨_, rfl, ?_⟩
    exact ⟨rfl, hM⟩

theorem impl_isSystem_1_any (v_p0 : Value) (p0 : List Int) (W : World) (hr_p0 : RdI W v_p0 p0) {r : Bool} (hm : impl_isSystem_1_m p0 = some r) : Calls Try.prog 142 [v_p0].toArray W fun e w => ∃ v, e = .returned v ∧ v = .bool r ∧ Mem W w [] := by
  refine x_enter Try.func142 rfl Try.ntmps142 rfl ?_
  intro a hs
  have hM := Mem.start W
  unfold impl_isSystem_1_m at hm
  refine wp_seq ?_
  refine wp_region_lit ?_
  refine wl hs (y_assign hs rfl) rfl ?_; intro a hs
  refine wpList_nil ?_
  refine x_nt ?_
  refine wp_seq ?_
  refine wp_region_lit ?_
  refine wl hs (y_move hs rfl) rfl ?_; intro a hs
  obtain ⟨y1, h2, hm⟩ := bindE hm
  refine wcall is_143 hs rfl rfl (impl_sumOf_any v_p0 p0 _ (RdI.below hr_p0 hM.bel) h2) ?_; rintro a _ w hs ⟨rfl, hX⟩
  have hM : Mem W w [] := hM.call hX
  refine wl hs (y_eql hs rfl rfl) rfl ?_; intro a hs
  refine wl hs (y_assign hs rfl) rfl ?_; intro a hs
  refine wpList_nil ?_
  refine x_nt ?_
  refine wp_ret ?_
  have hm : some (y1 == 1000000000) = some r := hm
  obtain rfl := Option.some.inj hm
  refine x_ret1 rfl hs rfl ⟨_, rfl, ?_⟩
  exact ⟨rfl, hM⟩

theorem slices_IndexFunc_int_int_impl_isSystem_1_any (v_p0 : Value) (p0 : List (List Int)) (W : World) (hr_p0 : RdM W v_p0 p0) {r : Int} (hm : slices_IndexFunc_int_int_impl_isSystem_1_m p0 = some r) : Calls Try.prog 133 [v_p0, .func (.func 142) #[] #[]].toArray W fun e w => ∃ v, e = .returned v ∧ v = .int .i64 r ∧ Mem W w [] := by
  refine x_enter Try.func133 rfl Try.ntmps133 rfl ?_
  intro a hs
  have hM := Mem.start W
  unfold slices_IndexFunc_int_int_impl_isSystem_1_m at hm
  refine wp_seq ?_
  refine wp_region_lit ?_
  refine wl hs (y_assign hs rfl) rfl ?_; intro a hs
  refine wpList_nil ?_
  refine x_nt ?_
  refine wp_seq ?_
  refine wp_seq ?_
  refine wp_region_lit ?_
  refine wl hs (y_move hs rfl) rfl ?_; intro a hs
  refine wl hs (y_len hu_M hs rfl (RdM.below hr_p0 hM.bel)) rfl ?_; intro a hs
  refine wl hs (y_move hs rfl) rfl ?_; intro a hs
  refine wpList_nil ?_
  refine x_nt ?_
  obtain ⟨s2, hm, hk3⟩ := bindE hm
  refine x_mid (fun a w => Sum.inr () = s2 ∧ Fr a 19 [] ∧ Mem W w []) ?_ ?_
  · refine wp_block ?_
    refine x_loop (fun k a w => ∃ (q4 : List (List Int)) (j1 : Nat) , k = q4.length ∧ Fr a 19 [(0, v_p0), (1, .func (.func 142) #[] #[]), (7, .int .i64 (p0.length : Int)), (8, .int .i64 (j1 : Int))] ∧ Mem W w [] ∧ slices_IndexFunc_int_int_impl_isSystem_1_l1 q4 j1 = some s2 ∧ List.drop j1 p0 = q4) _ ⟨p0, 0, rfl, hs.sub ⟨rfl, rfl, rfl, rfl, trivial⟩, hM, hm, rfl⟩ ?_
    rintro k a w ⟨q4, j1, rfl, hs, hM, hm, hj1⟩
    rcases q4 with _ | ⟨x5, q4⟩
    · rewrite [slices_IndexFunc_int_int_impl_isSystem_1_l1] at hm
      refine wp_seq ?_
      refine wp_region_lit ?_
      refine wl hs (y_lss hs rfl rfl) rfl ?_; intro a hs
      refine wpList_nil ?_
      refine x_nt ?_
      refine wp_seq ?_
      refine x_condF hs rfl (drop_f hj1) ?_
      refine wp_exit ?_
      refine x_et ?_
      refine x_et ?_
      refine x_eb ?_
      have hm : some (Sum.inr ()) = some s2 := hm
      exact ⟨Option.some.inj hm, hs.sub trivial, hM⟩
    · rewrite [slices_IndexFunc_int_int_impl_isSystem_1_l1] at hm
      have hx6 := drop_idx hj1
      have hsj1 := ck_succ hj1 (RdS.len (RdM.below hr_p0 hM.bel))
      refine wp_seq ?_
      refine wp_region_lit ?_
      refine wl hs (y_lss hs rfl rfl) rfl ?_; intro a hs
      refine wpList_nil ?_
      refine x_nt ?_
      refine wp_seq ?_
      refine x_condT hs rfl (drop_t hj1) ?_
      refine wp_skip ?_
      refine x_nt ?_
      refine wp_seq ?_
      refine wp_block ?_
      refine wp_seq ?_
      refine wp_region_lit ?_
      refine wl hs (y_move hs rfl) rfl ?_; intro a hs
      refine wl hs (y_assign hs rfl) rfl ?_; intro a hs
      refine wpList_nil ?_
      refine x_nt ?_
      refine wp_seq ?_
      refine wp_region_lit ?_
      refine wl hs (y_move hs rfl) rfl ?_; intro a hs
      refine wl hs (y_move hs rfl) rfl ?_; intro a hs
      refine wl hs (y_move hs rfl) rfl ?_; intro a hs
      obtain ⟨u8, he7, hr9⟩ := RdM.at_ hr_p0 hx6
      replace he7 := he7.below hM.bel
      refine wl hs (y_index ht_M hs rfl rfl he7) rfl ?_; intro a hs
      refine wl hs (y_load sc_I hs rfl he7.cell) rfl ?_; intro a hs
      obtain ⟨y10, h11, hm⟩ := bindE hm
      refine wcallv is_142 hs rfl rfl rfl (impl_isSystem_1_any u8 x5 _ (RdI.below hr9 hM.bel) h11) ?_; rintro a _ w hs ⟨rfl, hX⟩
      have hM : Mem W w [] := hM.call hX
      refine wpList_nil ?_
      refine x_nt ?_
      refine x_cond hs rfl (fun hb => ?_) (fun hb => ?_)
      · replace hm := condT hb hm
        refine wp_seq ?_
        refine wp_region_lit ?_
        refine wl hs (y_move hs rfl) rfl ?_; intro a hs
        refine wl hs (y_assign hs rfl) rfl ?_; intro a hs
        refine wpList_nil ?_
        refine x_nt ?_
        refine wp_ret ?_
        refine x_rb ?_
        refine x_rt ?_
        refine x_rt ?_
        refine x_rb ?_
        refine x_rt ?_
        refine x_rt ?_
        have hm : some (Sum.inl (j1 : Int)) = some s2 := hm
        cases Option.some.inj hm
        have hm := hk3
        have hm : some (j1 : Int) = some r := hm
        obtain rfl := Option.some.inj hm
        refine x_ret1 rfl hs rfl ⟨_, rfl, ?_⟩
        exact ⟨rfl, hM⟩
      · replace hm := condF hb hm
        refine wp_skip ?_
        refine x_nb ?_
        refine x_nt ?_
        refine wp_region_lit ?_
        refine wl hs (y_add hs rfl rfl hsj1) rfl ?_; intro a hs
        refine wl hs (y_move hs rfl) rfl ?_; intro a hs
        refine wpList_nil ?_
        exact ⟨_, by simp, q4, j1 + 1, rfl, hs.sub ⟨rfl, rfl, rfl, rfl, trivial⟩, hM, hm, drop_next hj1⟩
  rintro a w ⟨rfl, hs, hM⟩
  have hm := hk3
  refine x_nt ?_
  refine wp_seq ?_
  refine wp_region_lit ?_
  refine wl hs (y_assign hs rfl) rfl ?_; intro a hs
  refine wpList_nil ?_
  refine x_nt ?_
  refine wp_ret ?_
  have hm : some (-1) = some r := hm
  obtain rfl := Option.some.inj hm
  refine x_ret1 rfl hs rfl ⟨_, rfl, ?_⟩
  exact ⟨rfl, hM⟩

theorem slices_ContainsFunc_int_int_impl_isSystem_1_any (v_p0 : Value) (p0 : List (List Int)) (W : World) (hr_p0 : RdM W v_p0 p0) {r : Bool} (hm : slices_ContainsFunc_int_int_impl_isSystem_1_m p0 = some r) : Calls Try.prog 100 [v_p0, .func (.func 142) #[] #[]].toArray W fun e w => ∃ v, e = .returned v ∧ v = .bool r ∧ Mem W w [] := by
  refine x_enter Try.func100 rfl Try.ntmps100 rfl ?_
  intro a hs
  have hM := Mem.start W
  unfold slices_ContainsFunc_int_int_impl_isSystem_1_m at hm
  refine wp_seq ?_
  refine wp_region_lit ?_
  refine wl hs (y_assign hs rfl) rfl ?_; intro a hs
  refine wpList_nil ?_
  refine x_nt ?_
  refine wp_seq ?_
  refine wp_region_lit ?_
  refine wl hs (y_move hs rfl) rfl ?_; intro a hs
  refine wl hs (y_move hs rfl) rfl ?_; intro a hs
  obtain ⟨y1, h2, hm⟩ := bindE hm
  refine wcall is_133 hs rfl rfl (slices_IndexFunc_int_int_impl_isSystem_1_any v_p0 p0 _ (RdM.below hr_p0 hM.bel) h2) ?_; rintro a _ w hs ⟨rfl, hX⟩
  have hM : Mem W w [] := hM.call hX
  refine wl hs (y_geq hs rfl rfl) rfl ?_; intro a hs
  refine wl hs (y_assign hs rfl) rfl ?_; intro a hs
  refine wpList_nil ?_
  refine x_nt ?_
  refine wp_ret ?_
  have hm : some (decide (y1 ≥ 0)) = some r := hm
  obtain rfl := Option.some.inj hm
  refine x_ret1 rfl hs rfl ⟨_, rfl, ?_⟩
  exact ⟨rfl, hM⟩

theorem impl_isSystem_any (v_p0 : Value) (p0 : List (List Int)) (v_p1 : Value) (p1 : List Int) (W : World) (hr_p0 : RdM W v_p0 p0) (hr_p1 : RdI W v_p1 p1) {r : Bool} (hm : impl_isSystem_m p0 p1 = some r) : Calls Try.prog 115 [v_p0, v_p1].toArray W fun e w => ∃ v, e = .returned v ∧ v = .bool r ∧ Mem W w [] := by
  refine x_enter Try.func115 rfl Try.ntmps115 rfl ?_
  intro a hs
  have hM := Mem.start W
  unfold impl_isSystem_m at hm
  refine wp_seq ?_
  refine wp_region_lit ?_
  refine wl hs (y_assign hs rfl) rfl ?_; intro a hs
  refine wpList_nil ?_
  refine x_nt ?_
  refine wp_seq ?_
  refine wp_seq ?_
  refine wp_region_lit ?_
  refine wl hs (y_move hs rfl) rfl ?_; intro a hs
  obtain ⟨y1, h2, hm⟩ := bindE hm
  refine wcall is_59 hs rfl rfl (impl_isMatrix_any v_p0 p0 _ (RdM.below hr_p0 hM.bel) h2) ?_; rintro a _ w hs ⟨rfl, hX⟩
  have hM : Mem W w [] := hM.call hX
  refine wl hs (y_not hs rfl) rfl ?_; intro a hs
  refine wl hs (y_move hs rfl) rfl ?_; intro a hs
  obtain ⟨b3, hb4, hm⟩ := bindE hm
  refine wlguard (N := 18) (L' := [(13, .bool b3), (0, v_p0)]) (fun w => Mem W w []) 5 ?_ ?_
  · intro K; rcases Bool.eq_false_or_eq_true (!y1) with hg5 | hg5
    · have hm := condT hg5 hb4
      refine wls hs rfl hg5 rfl ?_; intro a hs
      refine wls hs rfl hg5 rfl ?_; intro a hs
      refine wls hs rfl hg5 rfl ?_; intro a hs
      refine wls hs rfl hg5 rfl ?_; intro a hs
      have hm : some true = some b3 := hm
      cases Option.some.inj hm
      refine wl hs (y_pickT hs rfl hg5 rfl) rfl ?_; intro a hs
      exact K _ _ (hs.sub ⟨rfl, rfl, trivial⟩) hM
    · have hm := condF hg5 hb4
      refine wlg hs rfl hg5 (y_move hs rfl) rfl ?_; intro a hs
      refine wlg hs rfl hg5 (y_move hs rfl) rfl ?_; intro a hs
      obtain ⟨y6, h7, hm⟩ := bindE hm
      refine wcallg is_141 hs rfl hg5 rfl rfl (impl_areOnePerVertex_any v_p0 p0 v_p1 p1 _ (RdM.below hr_p0 hM.bel) (RdI.below hr_p1 hM.bel) h7) ?_; rintro a _ w hs ⟨rfl, hX⟩
      have hM : Mem W w [] := hM.call hX
      refine wlg hs rfl hg5 (y_not hs rfl) rfl ?_; intro a hs
      have hm : some (!y6) = some b3 := hm
      cases Option.some.inj hm
      refine wl hs (y_pickF hs rfl hg5 rfl) rfl ?_; intro a hs
      exact K _ _ (hs.sub ⟨rfl, rfl, trivial⟩) hM
  intro a w hs hM
  simp only [List.drop_succ_cons, List.drop_zero]
  refine wpList_nil ?_
  refine x_nt ?_
  refine x_cond hs rfl (fun hb => ?_) (fun hb => ?_)
  · replace hm := condT hb hm
    refine wp_seq ?_
    refine wp_region_lit ?_
    refine wl hs (y_assign hs rfl) rfl ?_; intro a hs
    refine wpList_nil ?_
    refine x_nt ?_
    refine wp_ret ?_
    refine x_rt ?_
    have hm : some false = some r := hm
    obtain rfl := Option.some.inj hm
    refine x_ret1 rfl hs rfl ⟨_, rfl, ?_⟩
    exact ⟨rfl, hM⟩
  · replace hm := condF hb hm
    refine wp_skip ?_
    refine x_nt ?_
    refine wp_seq ?_
    refine wp_region_lit ?_
    refine wl hs (y_move hs rfl) rfl ?_; intro a hs
    obtain ⟨y8, h9, hm⟩ := bindE hm
    refine wcall is_62 hs rfl rfl (impl_transposed_any v_p0 p0 _ (RdM.below hr_p0 hM.bel) h9) ?_; rintro a v10 w hs ⟨vs12, hX⟩
    have hM : Mem W w [aMat 24 3 v10 vs12 y8] := hM.call hX
    obtain ⟨y13, h14, hm⟩ := bindE hm
    refine wcall is_100 hs rfl rfl (slices_ContainsFunc_int_int_impl_isSystem_1_any v10 y8 _ (hM.rdM 0 rfl) h14) ?_; rintro a _ w hs ⟨rfl, hX⟩
    have hM : Mem W w [aMat 24 3 v10 vs12 y8] := hM.call hX
    refine wl hs (y_not hs rfl) rfl ?_; intro a hs
    refine wl hs (y_assign hs rfl) rfl ?_; intro a hs
    refine wpList_nil ?_
    refine x_nt ?_
    refine wp_ret ?_
    have hm : some (!y13) = some r := hm
    obtain rfl := Option.some.inj hm
    refine x_ret1 rfl hs rfl ⟨_, rfl, ?_⟩
    exact ⟨rfl, hM.none_⟩

end Go.Proofs.Ytaagklbiebogfaa
