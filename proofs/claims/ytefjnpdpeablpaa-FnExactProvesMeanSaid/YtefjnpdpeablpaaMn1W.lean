/- The code of this unit computes what its mirrors say. Written by program (wip/gen). -/
import Derived.Test.YtefjnpdpeablpaaFacts
import Derived.Test.YtefjnpdpeablpaaMn1M
import Derived.Test.YtefjnpdpeablpaaNumW
import Derived.Test.YtefjnpdpeablpaaMatW
namespace Go.Proofs.Ytefjnpdpeablpaa
open Go.RowKit
set_option linter.unusedVariables false

theorem spec_mnVector_any (v_p0 : Value) (p0 : List (List Int)) (v_p1 : Value) (p1 : List Int) (W : World) (hr_p0 : RdM W v_p0 p0) (hr_p1 : RdI W v_p1 p1) {r : Bool} (hm : spec_mnVector_m p0 p1 = some r) : Calls Try.prog 57 [v_p0, v_p1].toArray W fun e w => ∃ v, e = .returned v ∧ v = .bool r ∧ Mem W w [] := by
  refine x_enter Try.func57 rfl Try.ntmps57 rfl ?_
  intro a hs
  have hM := Mem.start W
  unfold spec_mnVector_m at hm
  refine wp_seq ?_
  refine wp_region_lit ?_
  refine wl hs (y_assign hs rfl) rfl ?_; intro a hs
  refine wpList_nil ?_
  refine x_nt ?_
  refine wp_seq ?_
  refine wp_region_lit ?_
  refine wl hs (y_move hs rfl) rfl ?_; intro a hs
  obtain ⟨y1, h2, hm⟩ := bindE hm
  refine wcall is_52 hs rfl rfl (spec_mxSquare_any v_p0 p0 _ (RdM.below hr_p0 hM.bel) h2) ?_; rintro a _ w hs ⟨rfl, hX⟩
  have hM : Mem W w [] := hM.call hX
  refine wl hs (y_move hs rfl) rfl ?_; intro a hs
  obtain ⟨b3, hb4, hm⟩ := bindE hm
  refine wlguard (N := 18) (L' := [(13, .bool b3), (1, v_p1), (4, .bool false)]) (fun w => Mem W w []) 6 ?_ ?_
  · intro K; rcases Bool.eq_false_or_eq_true y1 with hg5 | hg5
    · have hm := condT hg5 hb4
      refine wlg hs rfl hg5 (y_move hs rfl) rfl ?_; intro a hs
      refine wlg hs rfl hg5 (y_len hu_I hs rfl (RdI.below hr_p1 hM.bel)) rfl ?_; intro a hs
      refine wlg hs rfl hg5 (y_move hs rfl) rfl ?_; intro a hs
      refine wlg hs rfl hg5 (y_len hu_M hs rfl (RdM.below hr_p0 hM.bel)) rfl ?_; intro a hs
      refine wlg hs rfl hg5 (y_eql hs rfl rfl) rfl ?_; intro a hs
      have hm : some ((p1.length : Int) == (p0.length : Int)) = some b3 := hm
      cases Option.some.inj hm
      refine wl hs (y_pickT hs rfl hg5 rfl) rfl ?_; intro a hs
      exact K _ _ (hs.sub ⟨rfl, rfl, rfl, trivial⟩) hM
    · have hm := condF hg5 hb4
      refine wls hs rfl hg5 rfl ?_; intro a hs
      refine wls hs rfl hg5 rfl ?_; intro a hs
      refine wls hs rfl hg5 rfl ?_; intro a hs
      refine wls hs rfl hg5 rfl ?_; intro a hs
      refine wls hs rfl hg5 rfl ?_; intro a hs
      have hm : some false = some b3 := hm
      cases Option.some.inj hm
      refine wl hs (y_pickF hs rfl hg5 rfl) rfl ?_; intro a hs
      exact K _ _ (hs.sub ⟨rfl, rfl, rfl, trivial⟩) hM
  intro a w hs hM
  simp only [List.drop_succ_cons, List.drop_zero]
  refine wl hs (y_move hs rfl) rfl ?_; intro a hs
  obtain ⟨b6, hb7, hm⟩ := bindE hm
  refine wlguard (N := 18) (L' := [(17, .bool b6), (4, .bool false)]) (fun w => Mem W w []) 3 ?_ ?_
  · intro K; rcases Bool.eq_false_or_eq_true b3 with hg8 | hg8
    · have hm := condT hg8 hb7
      refine wlg hs rfl hg8 (y_move hs rfl) rfl ?_; intro a hs
      obtain ⟨y9, h10, hm⟩ := bindE hm
      refine wcallg is_85 hs rfl hg8 rfl rfl (spec_l1All_any v_p1 p1 (-1000000) 1000000 _ (RdI.below hr_p1 hM.bel) h10) ?_; rintro a _ w hs ⟨rfl, hX⟩
      have hM : Mem W w [] := hM.call hX
      have hm : some y9 = some b6 := hm
      cases Option.some.inj hm
      refine wl hs (y_pickT hs rfl hg8 rfl) rfl ?_; intro a hs
      exact K _ _ (hs.sub ⟨rfl, rfl, trivial⟩) hM
    · have hm := condF hg8 hb7
      refine wls hs rfl hg8 rfl ?_; intro a hs
      refine wls hs rfl hg8 rfl ?_; intro a hs
      have hm : some false = some b6 := hm
      cases Option.some.inj hm
      refine wl hs (y_pickF hs rfl hg8 rfl) rfl ?_; intro a hs
      exact K _ _ (hs.sub ⟨rfl, rfl, trivial⟩) hM
  intro a w hs hM
  simp only [List.drop_succ_cons, List.drop_zero]
  refine wl hs (y_assign hs rfl) rfl ?_; intro a hs
  refine wpList_nil ?_
  refine x_nt ?_
  refine wp_ret ?_
  have hm : some b6 = some r := hm
  obtain rfl := Option.some.inj hm
  refine x_ret1 rfl hs rfl ⟨_, rfl, ?_⟩
  exact ⟨rfl, hM⟩

theorem impl_isQuestion_any (v_p0 : Value) (p0 : List (List Int)) (p1 : Int) (v_p2 : Value) (p2 : List Int) (W : World) (hr_p0 : RdM W v_p0 p0) (hr_p2 : RdI W v_p2 p2) {r : Bool} (hm : impl_isQuestion_m p0 p1 p2 = some r) : Calls Try.prog 59 [v_p0, .int .i64 p1, v_p2].toArray W fun e w => ∃ v, e = .returned v ∧ v = .bool r ∧ Mem W w [] := by
  refine x_enter Try.func59 rfl Try.ntmps59 rfl ?_
  intro a hs
  have hM := Mem.start W
  unfold impl_isQuestion_m at hm
  refine wp_seq ?_
  refine wp_region_lit ?_
  refine wl hs (y_assign hs rfl) rfl ?_; intro a hs
  refine wpList_nil ?_
  refine x_nt ?_
  refine wp_seq ?_
  refine wp_region_lit ?_
  refine wl hs (y_move hs rfl) rfl ?_; intro a hs
  obtain ⟨y1, h2, hm⟩ := bindE hm
  refine wcall is_54 hs rfl rfl (impl_isSquare_any v_p0 p0 _ (RdM.below hr_p0 hM.bel) h2) ?_; rintro a _ w hs ⟨rfl, hX⟩
  have hM : Mem W w [] := hM.call hX
  refine wl hs (y_move hs rfl) rfl ?_; intro a hs
  obtain ⟨b3, hb4, hm⟩ := bindE hm
  refine wlguard (N := 18) (L' := [(12, .bool b3), (0, v_p0), (2, v_p2), (6, .bool false)]) (fun w => Mem W w []) 3 ?_ ?_
  · intro K; rcases Bool.eq_false_or_eq_true y1 with hg5 | hg5
    · have hm := condT hg5 hb4
      refine wlg hs rfl hg5 (y_move hs rfl) rfl ?_; intro a hs
      obtain ⟨y6, h7, hm⟩ := bindE hm
      refine wcallg is_84 hs rfl hg5 rfl rfl (impl_isFinite_any p1 _  h7) ?_; rintro a _ w hs ⟨rfl, hX⟩
      have hM : Mem W w [] := hM.call hX
      have hm : some y6 = some b3 := hm
      cases Option.some.inj hm
      refine wl hs (y_pickT hs rfl hg5 rfl) rfl ?_; intro a hs
      exact K _ _ (hs.sub ⟨rfl, rfl, rfl, rfl, trivial⟩) hM
    · have hm := condF hg5 hb4
      refine wls hs rfl hg5 rfl ?_; intro a hs
      refine wls hs rfl hg5 rfl ?_; intro a hs
      have hm : some false = some b3 := hm
      cases Option.some.inj hm
      refine wl hs (y_pickF hs rfl hg5 rfl) rfl ?_; intro a hs
      exact K _ _ (hs.sub ⟨rfl, rfl, rfl, rfl, trivial⟩) hM
  intro a w hs hM
  simp only [List.drop_succ_cons, List.drop_zero]
  refine wl hs (y_move hs rfl) rfl ?_; intro a hs
  obtain ⟨b8, hb9, hm⟩ := bindE hm
  refine wlguard (N := 18) (L' := [(17, .bool b8), (6, .bool false)]) (fun w => Mem W w []) 4 ?_ ?_
  · intro K; rcases Bool.eq_false_or_eq_true b3 with hg10 | hg10
    · have hm := condT hg10 hb9
      refine wlg hs rfl hg10 (y_move hs rfl) rfl ?_; intro a hs
      refine wlg hs rfl hg10 (y_move hs rfl) rfl ?_; intro a hs
      obtain ⟨y11, h12, hm⟩ := bindE hm
      refine wcallg is_62 hs rfl hg10 rfl rfl (impl_areOnePerVertex_any v_p0 p0 v_p2 p2 _ (RdM.below hr_p0 hM.bel) (RdI.below hr_p2 hM.bel) h12) ?_; rintro a _ w hs ⟨rfl, hX⟩
      have hM : Mem W w [] := hM.call hX
      have hm : some y11 = some b8 := hm
      cases Option.some.inj hm
      refine wl hs (y_pickT hs rfl hg10 rfl) rfl ?_; intro a hs
      exact K _ _ (hs.sub ⟨rfl, rfl, trivial⟩) hM
    · have hm := condF hg10 hb9
      refine wls hs rfl hg10 rfl ?_; intro a hs
      refine wls hs rfl hg10 rfl ?_; intro a hs
      refine wls hs rfl hg10 rfl ?_; intro a hs
      have hm : some false = some b8 := hm
      cases Option.some.inj hm
      refine wl hs (y_pickF hs rfl hg10 rfl) rfl ?_; intro a hs
      exact K _ _ (hs.sub ⟨rfl, rfl, trivial⟩) hM
  intro a w hs hM
  simp only [List.drop_succ_cons, List.drop_zero]
  refine wl hs (y_assign hs rfl) rfl ?_; intro a hs
  refine wpList_nil ?_
  refine x_nt ?_
  refine wp_ret ?_
  have hm : some b8 = some r := hm
  obtain rfl := Option.some.inj hm
  refine x_ret1 rfl hs rfl ⟨_, rfl, ?_⟩
  exact ⟨rfl, hM⟩

theorem spec_ProvesMean_any (v_p0 : Value) (p0 : List (List Int)) (p1 : Int) (v_p2 : Value) (p2 : List Int) (W : World) (hr_p0 : RdM W v_p0 p0) (hr_p2 : RdI W v_p2 p2) {r : Bool × Bool} (hm : spec_ProvesMean_m p0 p1 p2 = some r) : Calls Try.prog 27 [v_p0, .int .i64 p1, v_p2].toArray W fun e w => ∃ v, e = .returned v ∧ v = .tuple #[.bool r.1, .bool r.2] ∧ Mem W w [] := by
  refine x_enter Try.func27 rfl Try.ntmps27 rfl ?_
  intro a hs
  have hM := Mem.start W
  unfold spec_ProvesMean_m at hm
  refine wp_seq ?_
  refine wp_region_lit ?_
  refine wl hs (y_assign hs rfl) rfl ?_; intro a hs
  refine wl hs (y_assign hs rfl) rfl ?_; intro a hs
  refine wpList_nil ?_
  refine x_nt ?_
  refine wp_seq ?_
  refine wp_seq ?_
  refine wp_region_lit ?_
  refine wl hs (y_move hs rfl) rfl ?_; intro a hs
  refine wl hs (y_move hs rfl) rfl ?_; intro a hs
  obtain ⟨y1, h2, hm⟩ := bindE hm
  refine wcall is_57 hs rfl rfl (spec_mnVector_any v_p0 p0 v_p2 p2 _ (RdM.below hr_p0 hM.bel) (RdI.below hr_p2 hM.bel) h2) ?_; rintro a _ w hs ⟨rfl, hX⟩
  have hM : Mem W w [] := hM.call hX
  refine wl hs (y_not hs rfl) rfl ?_; intro a hs
  refine wl hs (y_move hs rfl) rfl ?_; intro a hs
  obtain ⟨b3, hb4, hm⟩ := bindE hm
  refine wlguard (N := 54) (L' := [(20, .bool b3), (0, v_p0), (1, .int .i64 p1), (2, v_p2)]) (fun w => Mem W w []) 4 ?_ ?_
  · intro K; rcases Bool.eq_false_or_eq_true (!y1) with hg5 | hg5
    · have hm := condT hg5 hb4
      refine wls hs rfl hg5 rfl ?_; intro a hs
      refine wls hs rfl hg5 rfl ?_; intro a hs
      refine wls hs rfl hg5 rfl ?_; intro a hs
      have hm : some true = some b3 := hm
      cases Option.some.inj hm
      refine wl hs (y_pickT hs rfl hg5 rfl) rfl ?_; intro a hs
      exact K _ _ (hs.sub ⟨rfl, rfl, rfl, rfl, trivial⟩) hM
    · have hm := condF hg5 hb4
      refine wlg hs rfl hg5 (y_move hs rfl) rfl ?_; intro a hs
      obtain ⟨y6, h7, hm⟩ := bindE hm
      refine wcallg is_58 hs rfl hg5 rfl rfl (spec_poFinite_any p1 _  h7) ?_; rintro a _ w hs ⟨rfl, hX⟩
      have hM : Mem W w [] := hM.call hX
      refine wlg hs rfl hg5 (y_not hs rfl) rfl ?_; intro a hs
      have hm : some (!y6) = some b3 := hm
      cases Option.some.inj hm
      refine wl hs (y_pickF hs rfl hg5 rfl) rfl ?_; intro a hs
      exact K _ _ (hs.sub ⟨rfl, rfl, rfl, rfl, trivial⟩) hM
  intro a w hs hM
  simp only [List.drop_succ_cons, List.drop_zero]
  refine wpList_nil ?_
  refine x_nt ?_
  refine x_cond hs rfl (fun hb => ?_) (fun hb => ?_)
  · replace hm := condT hb hm
    refine wp_seq ?_
    refine wp_region_lit ?_
    refine wl hs (y_assign hs rfl) rfl ?_; intro a hs
    refine wl hs (y_assign hs rfl) rfl ?_; intro a hs
    refine wpList_nil ?_
    refine x_nt ?_
    refine wp_ret ?_
    refine x_rt ?_
    have hm : some (false, false) = some r := hm
    obtain rfl := Option.some.inj hm
    refine x_ret2 rfl hs rfl rfl ⟨_, rfl, ?_⟩
    exact ⟨rfl, hM⟩
  · replace hm := condF hb hm
    refine wp_skip ?_
    refine x_nt ?_
    refine wp_seq ?_
    refine wp_seq ?_
    refine wp_region_lit ?_
    refine wl hs (y_move hs rfl) rfl ?_; intro a hs
    refine wl hs (y_len hu_M hs rfl (RdM.below hr_p0 hM.bel)) rfl ?_; intro a hs
    refine wl hs (y_move hs rfl) rfl ?_; intro a hs
    refine wpList_nil ?_
    refine x_nt ?_
    obtain ⟨s9, hm, hk10⟩ := bindE hm
    refine x_mid (fun a w => Sum.inr () = s9 ∧ Fr a 54 [] ∧ Mem W w []) ?_ ?_
    · refine wp_block ?_
      refine x_loop (fun k a w => ∃ (q11 : List (List Int)) (j8 : Nat) , k = q11.length ∧ Fr a 54 [(1, .int .i64 p1), (2, v_p2), (21, v_p0), (22, .int .i64 (p0.length : Int)), (23, .int .i64 (j8 : Int))] ∧ Mem W w [] ∧ spec_ProvesMean_l1 p1 p2 q11 j8 = some s9 ∧ List.drop j8 p0 = q11) _ ⟨p0, 0, rfl, hs.sub ⟨rfl, rfl, rfl, rfl, rfl, trivial⟩, hM, hm, rfl⟩ ?_
      rintro k a w ⟨q11, j8, rfl, hs, hM, hm, hj⟩
      rcases q11 with _ | ⟨x12, q11⟩
      · rewrite [spec_ProvesMean_l1] at hm
        refine wp_seq ?_
        refine wp_region_lit ?_
        refine wl hs (y_lss hs rfl rfl) rfl ?_; intro a hs
        refine wpList_nil ?_
        refine x_nt ?_
        refine wp_seq ?_
        refine x_condF hs rfl (drop_f hj) ?_
        refine wp_exit ?_
        refine x_et ?_
        refine x_et ?_
        refine x_eb ?_
        have hm : some (Sum.inr ()) = some s9 := hm
        exact ⟨Option.some.inj hm, hs.sub trivial, hM⟩
      · rewrite [spec_ProvesMean_l1] at hm
        have hx13 := drop_idx hj
        have hjs := ck_succ hj (RdS.len (RdM.below hr_p0 hM.bel))
        refine wp_seq ?_
        refine wp_region_lit ?_
        refine wl hs (y_lss hs rfl rfl) rfl ?_; intro a hs
        refine wpList_nil ?_
        refine x_nt ?_
        refine wp_seq ?_
        refine x_condT hs rfl (drop_t hj) ?_
        refine wp_skip ?_
        refine x_nt ?_
        refine wp_seq ?_
        refine wp_block ?_
        refine wp_seq ?_
        refine wp_region_lit ?_
        refine wl hs (y_move hs rfl) rfl ?_; intro a hs
        obtain ⟨u15, he14, hr16⟩ := RdM.at_ hr_p0 hx13
        replace he14 := he14.below hM.bel
        refine wl hs (y_index ht_M hs rfl rfl he14) rfl ?_; intro a hs
        refine wl hs (y_load sc_I hs rfl he14.cell) rfl ?_; intro a hs
        refine wl hs (y_assign hs rfl) rfl ?_; intro a hs
        refine wl hs (y_assign hs rfl) rfl ?_; intro a hs
        refine wpList_nil ?_
        refine x_nt ?_
        refine wp_seq ?_
        refine wp_region_lit ?_
        refine wl hs (y_move hs rfl) rfl ?_; intro a hs
        refine wl hs (y_len hu_I hs rfl (RdI.below hr16 hM.bel)) rfl ?_; intro a hs
        refine wl hs (y_move hs rfl) rfl ?_; intro a hs
        refine wpList_nil ?_
        refine x_nt ?_
        obtain ⟨s18, hm, hk19⟩ := bindE hm
        refine x_mid (fun a w => Sum.inr () = s18 ∧ Fr a 54 [(1, .int .i64 p1), (2, v_p2), (21, v_p0), (22, .int .i64 (p0.length : Int)), (23, .int .i64 (j8 : Int))] ∧ Mem W w []) ?_ ?_
        · refine wp_block ?_
          refine x_loop (fun k a w => ∃ (q20 : List Int) (j17 : Nat) , k = q20.length ∧ Fr a 54 [(1, .int .i64 p1), (2, v_p2), (8, .int .i64 (j8 : Int)), (21, v_p0), (22, .int .i64 (p0.length : Int)), (23, .int .i64 (j8 : Int)), (28, u15), (29, .int .i64 (x12.length : Int)), (30, .int .i64 (j17 : Int))] ∧ Mem W w [] ∧ spec_ProvesMean_l2 p1 p2 j8 q20 j17 = some s18 ∧ List.drop j17 x12 = q20) _ ⟨x12, 0, rfl, hs.sub ⟨rfl, rfl, rfl, rfl, rfl, rfl, rfl, rfl, rfl, trivial⟩, hM, hm, rfl⟩ ?_
          rintro k a w ⟨q20, j17, rfl, hs, hM, hm, hj⟩
          rcases q20 with _ | ⟨x21, q20⟩
          · rewrite [spec_ProvesMean_l2] at hm
            refine wp_seq ?_
            refine wp_region_lit ?_
            refine wl hs (y_lss hs rfl rfl) rfl ?_; intro a hs
            refine wpList_nil ?_
            refine x_nt ?_
            refine wp_seq ?_
            refine x_condF hs rfl (drop_f hj) ?_
            refine wp_exit ?_
            refine x_et ?_
            refine x_et ?_
            refine x_eb ?_
            have hm : some (Sum.inr ()) = some s18 := hm
            exact ⟨Option.some.inj hm, hs.sub ⟨rfl, rfl, rfl, rfl, rfl, trivial⟩, hM⟩
          · rewrite [spec_ProvesMean_l2] at hm
            have hx22 := drop_idx hj
            have hjs := ck_succ hj (RdS.len (RdI.below hr16 hM.bel))
            refine wp_seq ?_
            refine wp_region_lit ?_
            refine wl hs (y_lss hs rfl rfl) rfl ?_; intro a hs
            refine wpList_nil ?_
            refine x_nt ?_
            refine wp_seq ?_
            refine x_condT hs rfl (drop_t hj) ?_
            refine wp_skip ?_
            refine x_nt ?_
            refine wp_seq ?_
            refine wp_block ?_
            refine wp_seq ?_
            refine wp_region_lit ?_
            refine wl hs (y_move hs rfl) rfl ?_; intro a hs
            have he23 := RdI.at_ (RdI.below hr16 hM.bel) hx22
            refine wl hs (y_index ht_I hs rfl rfl he23) rfl ?_; intro a hs
            refine wl hs (y_load sc_int hs rfl he23.cell) rfl ?_; intro a hs
            refine wl hs (y_assign hs rfl) rfl ?_; intro a hs
            refine wl hs (y_assign hs rfl) rfl ?_; intro a hs
            refine wpList_nil ?_
            refine x_nt ?_
            refine wp_seq ?_
            refine x_regq hmix (by kernel_rfl) ?_
            refine wq hs (fun w1 hw1 => y_move hs rfl) rfl ?_; intro a hs
            refine wq hs (fun w1 hw1 => y_neq hs rfl rfl) rfl ?_; intro a hs
            refine wq hs (fun w1 hw1 => y_move hs rfl) rfl ?_; intro a hs
            obtain ⟨b24, hb25, hm⟩ := bindE hm
            refine wqguard (N := 54) (L' := [(51, .bool b24), (1, .int .i64 p1), (2, v_p2), (8, .int .i64 (j8 : Int)), (21, v_p0), (22, .int .i64 (p0.length : Int)), (23, .int .i64 (j8 : Int)), (28, u15), (29, .int .i64 (x12.length : Int)), (30, .int .i64 (j17 : Int))]) 14 ?_ ?_
            · intro K; rcases Bool.eq_false_or_eq_true (x21 != 1000000000) with hg26 | hg26
              · have hm := condT hg26 hb25
                refine wqg hs rfl hg26 (fun w1 hw1 => y_move hs rfl) rfl ?_; intro a hs
                refine wqg hs rfl hg26 (fun w1 hw1 => y_move hs rfl) rfl ?_; intro a hs
                refine wqg hs rfl hg26 (fun w1 hw1 => y_move hs rfl) rfl ?_; intro a hs
                obtain ⟨x27, hx28, hm⟩ := bindE hm
                have he29 := RdI.at_ (RdI.below hr_p2 hM.bel) hx28
                refine wqg hs rfl hg26 (fun w1 hw1 => y_index ht_I hs rfl rfl (he29.below hw1)) rfl ?_; intro a hs
                refine wqg hs rfl hg26 (fun w1 hw1 => y_load sc_int hs rfl (he29.below hw1).cell) rfl ?_; intro a hs
                obtain ⟨n30, h31, hm⟩ := bindE hm
                refine wqg hs rfl hg26 (fun w1 hw1 => y_add hs rfl rfl h31) rfl ?_; intro a hs
                refine wqg hs rfl hg26 (fun w1 hw1 => y_move hs rfl) rfl ?_; intro a hs
                refine wqg hs rfl hg26 (fun w1 hw1 => y_move hs rfl) rfl ?_; intro a hs
                refine wqg hs rfl hg26 (fun w1 hw1 => y_move hs rfl) rfl ?_; intro a hs
                obtain ⟨x32, hx33, hm⟩ := bindE hm
                have he34 := RdI.at_ (RdI.below hr_p2 hM.bel) hx33
                refine wqg hs rfl hg26 (fun w1 hw1 => y_index ht_I hs rfl rfl (he34.below hw1)) rfl ?_; intro a hs
                refine wqg hs rfl hg26 (fun w1 hw1 => y_load sc_int hs rfl (he34.below hw1).cell) rfl ?_; intro a hs
                obtain ⟨n35, h36, hm⟩ := bindE hm
                refine wqg hs rfl hg26 (fun w1 hw1 => y_add hs rfl rfl h36) rfl ?_; intro a hs
                refine wqg hs rfl hg26 (fun w1 hw1 => y_lss hs rfl rfl) rfl ?_; intro a hs
                have hm : some (decide (n30 < n35)) = some b24 := hm
                cases Option.some.inj hm
                refine wq hs (fun w1 hw1 => y_pickT hs rfl hg26 rfl) rfl ?_; intro a hs
                exact K _ (hs.sub ⟨rfl, rfl, rfl, rfl, rfl, rfl, rfl, rfl, rfl, rfl, trivial⟩)
              · have hm := condF hg26 hb25
                refine wqs hs rfl hg26 rfl ?_; intro a hs
                refine wqs hs rfl hg26 rfl ?_; intro a hs
                refine wqs hs rfl hg26 rfl ?_; intro a hs
                refine wqs hs rfl hg26 rfl ?_; intro a hs
                refine wqs hs rfl hg26 rfl ?_; intro a hs
                refine wqs hs rfl hg26 rfl ?_; intro a hs
                refine wqs hs rfl hg26 rfl ?_; intro a hs
                refine wqs hs rfl hg26 rfl ?_; intro a hs
                refine wqs hs rfl hg26 rfl ?_; intro a hs
                refine wqs hs rfl hg26 rfl ?_; intro a hs
                refine wqs hs rfl hg26 rfl ?_; intro a hs
                refine wqs hs rfl hg26 rfl ?_; intro a hs
                refine wqs hs rfl hg26 rfl ?_; intro a hs
                have hm : some false = some b24 := hm
                cases Option.some.inj hm
                refine wq hs (fun w1 hw1 => y_pickF hs rfl hg26 rfl) rfl ?_; intro a hs
                exact K _ (hs.sub ⟨rfl, rfl, rfl, rfl, rfl, rfl, rfl, rfl, rfl, rfl, trivial⟩)
            intro a hs
            simp only [List.drop_succ_cons, List.drop_zero]
            refine wpQuiet_nil ?_
            intro w hw
            replace hM := hM.quiet hw
            refine x_nt ?_
            refine x_cond hs rfl (fun hb => ?_) (fun hb => ?_)
            · replace hm := condT hb hm
              refine wp_seq ?_
              refine wp_region_lit ?_
              refine wl hs (y_assign hs rfl) rfl ?_; intro a hs
              refine wl hs (y_assign hs rfl) rfl ?_; intro a hs
              refine wpList_nil ?_
              refine x_nt ?_
              refine wp_ret ?_
              refine x_rb ?_
              refine x_rt ?_
              refine x_rt ?_
              refine x_rb ?_
              refine x_rt ?_
              refine x_rb ?_
              refine x_rt ?_
              refine x_rt ?_
              refine x_rb ?_
              refine x_rt ?_
              refine x_rt ?_
              have hm : some (Sum.inl (false, true)) = some s18 := hm
              cases Option.some.inj hm
              have hm := hk19
              have hm : some (Sum.inl (false, true)) = some s9 := hm
              cases Option.some.inj hm
              have hm := hk10
              have hm : some (false, true) = some r := hm
              obtain rfl := Option.some.inj hm
              refine x_ret2 rfl hs rfl rfl ⟨_, rfl, ?_⟩
              exact ⟨rfl, hM⟩
            · replace hm := condF hb hm
              refine wp_skip ?_
              refine x_nb ?_
              refine x_nt ?_
              refine wp_region_lit ?_
              refine wl hs (y_add hs rfl rfl hjs) rfl ?_; intro a hs
              refine wl hs (y_move hs rfl) rfl ?_; intro a hs
              refine wpList_nil ?_
              exact ⟨_, by simp, q20, j17 + 1, rfl, hs.sub ⟨rfl, rfl, rfl, rfl, rfl, rfl, rfl, rfl, rfl, trivial⟩, hM, hm, drop_next hj⟩
        rintro a w ⟨rfl, hs, hM⟩
        have hm := hk19
        refine x_nb ?_
        refine x_nt ?_
        refine wp_region_lit ?_
        refine wl hs (y_add hs rfl rfl hjs) rfl ?_; intro a hs
        refine wl hs (y_move hs rfl) rfl ?_; intro a hs
        refine wpList_nil ?_
        exact ⟨_, by simp, q11, j8 + 1, rfl, hs.sub ⟨rfl, rfl, rfl, rfl, rfl, trivial⟩, hM, hm, drop_next hj⟩
    rintro a w ⟨rfl, hs, hM⟩
    have hm := hk10
    refine x_nt ?_
    refine wp_seq ?_
    refine wp_region_lit ?_
    refine wl hs (y_assign hs rfl) rfl ?_; intro a hs
    refine wl hs (y_assign hs rfl) rfl ?_; intro a hs
    refine wpList_nil ?_
    refine x_nt ?_
    refine wp_ret ?_
    have hm : some (true, true) = some r := hm
    obtain rfl := Option.some.inj hm
    refine x_ret2 rfl hs rfl rfl ⟨_, rfl, ?_⟩
    exact ⟨rfl, hM⟩

theorem impl_ProvesMean_any (v_p0 : Value) (p0 : List (List Int)) (p1 : Int) (v_p2 : Value) (p2 : List Int) (W : World) (hr_p0 : RdM W v_p0 p0) (hr_p2 : RdI W v_p2 p2) {r : Bool × Bool} (hm : impl_ProvesMean_m p0 p1 p2 = some r) : Calls Try.prog 29 [v_p0, .int .i64 p1, v_p2].toArray W fun e w => ∃ v, e = .returned v ∧ v = .tuple #[.bool r.1, .bool r.2] ∧ Mem W w [] := by
  refine x_enter Try.func29 rfl Try.ntmps29 rfl ?_
  intro a hs
  have hM := Mem.start W
  unfold impl_ProvesMean_m at hm
  refine wp_seq ?_
  refine wp_region_lit ?_
  refine wl hs (y_assign hs rfl) rfl ?_; intro a hs
  refine wl hs (y_assign hs rfl) rfl ?_; intro a hs
  refine wpList_nil ?_
  refine x_nt ?_
  refine wp_seq ?_
  refine wp_seq ?_
  refine wp_region_lit ?_
  refine wl hs (y_move hs rfl) rfl ?_; intro a hs
  refine wl hs (y_move hs rfl) rfl ?_; intro a hs
  refine wl hs (y_move hs rfl) rfl ?_; intro a hs
  obtain ⟨y1, h2, hm⟩ := bindE hm
  refine wcall is_59 hs rfl rfl (impl_isQuestion_any v_p0 p0 p1 v_p2 p2 _ (RdM.below hr_p0 hM.bel) (RdI.below hr_p2 hM.bel) h2) ?_; rintro a _ w hs ⟨rfl, hX⟩
  have hM : Mem W w [] := hM.call hX
  refine wl hs (y_not hs rfl) rfl ?_; intro a hs
  refine wpList_nil ?_
  refine x_nt ?_
  refine x_cond hs rfl (fun hb => ?_) (fun hb => ?_)
  · replace hm := condT hb hm
    refine wp_seq ?_
    refine wp_region_lit ?_
    refine wl hs (y_assign hs rfl) rfl ?_; intro a hs
    refine wl hs (y_assign hs rfl) rfl ?_; intro a hs
    refine wpList_nil ?_
    refine x_nt ?_
    refine wp_ret ?_
    refine x_rt ?_
    have hm : some (false, false) = some r := hm
    obtain rfl := Option.some.inj hm
    refine x_ret2 rfl hs rfl rfl ⟨_, rfl, ?_⟩
    exact ⟨rfl, hM⟩
  · replace hm := condF hb hm
    refine wp_skip ?_
    refine x_nt ?_
    refine wp_seq ?_
    refine wp_seq ?_
    refine wp_region_lit ?_
    refine wl hs (y_move hs rfl) rfl ?_; intro a hs
    refine wl hs (y_len hu_M hs rfl (RdM.below hr_p0 hM.bel)) rfl ?_; intro a hs
    refine wl hs (y_move hs rfl) rfl ?_; intro a hs
    refine wpList_nil ?_
    refine x_nt ?_
    obtain ⟨s4, hm, hk5⟩ := bindE hm
    refine x_mid (fun a w => Sum.inr () = s4 ∧ Fr a 50 [] ∧ Mem W w []) ?_ ?_
    · refine wp_block ?_
      refine x_loop (fun k a w => ∃ (q6 : List (List Int)) (j3 : Nat) , k = q6.length ∧ Fr a 50 [(1, .int .i64 p1), (2, v_p2), (17, v_p0), (18, .int .i64 (p0.length : Int)), (19, .int .i64 (j3 : Int))] ∧ Mem W w [] ∧ impl_ProvesMean_l1 p1 p2 q6 j3 = some s4 ∧ List.drop j3 p0 = q6) _ ⟨p0, 0, rfl, hs.sub ⟨rfl, rfl, rfl, rfl, rfl, trivial⟩, hM, hm, rfl⟩ ?_
      rintro k a w ⟨q6, j3, rfl, hs, hM, hm, hj⟩
      rcases q6 with _ | ⟨x7, q6⟩
      · rewrite [impl_ProvesMean_l1] at hm
        refine wp_seq ?_
        refine wp_region_lit ?_
        refine wl hs (y_lss hs rfl rfl) rfl ?_; intro a hs
        refine wpList_nil ?_
        refine x_nt ?_
        refine wp_seq ?_
        refine x_condF hs rfl (drop_f hj) ?_
        refine wp_exit ?_
        refine x_et ?_
        refine x_et ?_
        refine x_eb ?_
        have hm : some (Sum.inr ()) = some s4 := hm
        exact ⟨Option.some.inj hm, hs.sub trivial, hM⟩
      · rewrite [impl_ProvesMean_l1] at hm
        have hx8 := drop_idx hj
        have hjs := ck_succ hj (RdS.len (RdM.below hr_p0 hM.bel))
        refine wp_seq ?_
        refine wp_region_lit ?_
        refine wl hs (y_lss hs rfl rfl) rfl ?_; intro a hs
        refine wpList_nil ?_
        refine x_nt ?_
        refine wp_seq ?_
        refine x_condT hs rfl (drop_t hj) ?_
        refine wp_skip ?_
        refine x_nt ?_
        refine wp_seq ?_
        refine wp_block ?_
        refine wp_seq ?_
        refine wp_region_lit ?_
        refine wl hs (y_move hs rfl) rfl ?_; intro a hs
        obtain ⟨u10, he9, hr11⟩ := RdM.at_ hr_p0 hx8
        replace he9 := he9.below hM.bel
        refine wl hs (y_index ht_M hs rfl rfl he9) rfl ?_; intro a hs
        refine wl hs (y_load sc_I hs rfl he9.cell) rfl ?_; intro a hs
        refine wl hs (y_assign hs rfl) rfl ?_; intro a hs
        refine wl hs (y_assign hs rfl) rfl ?_; intro a hs
        refine wpList_nil ?_
        refine x_nt ?_
        refine wp_seq ?_
        refine wp_region_lit ?_
        refine wl hs (y_move hs rfl) rfl ?_; intro a hs
        refine wl hs (y_len hu_I hs rfl (RdI.below hr11 hM.bel)) rfl ?_; intro a hs
        refine wl hs (y_move hs rfl) rfl ?_; intro a hs
        refine wpList_nil ?_
        refine x_nt ?_
        obtain ⟨s13, hm, hk14⟩ := bindE hm
        refine x_mid (fun a w => Sum.inr () = s13 ∧ Fr a 50 [(1, .int .i64 p1), (2, v_p2), (17, v_p0), (18, .int .i64 (p0.length : Int)), (19, .int .i64 (j3 : Int))] ∧ Mem W w []) ?_ ?_
        · refine wp_block ?_
          refine x_loop (fun k a w => ∃ (q15 : List Int) (j12 : Nat) , k = q15.length ∧ Fr a 50 [(1, .int .i64 p1), (2, v_p2), (8, .int .i64 (j3 : Int)), (17, v_p0), (18, .int .i64 (p0.length : Int)), (19, .int .i64 (j3 : Int)), (24, u10), (25, .int .i64 (x7.length : Int)), (26, .int .i64 (j12 : Int))] ∧ Mem W w [] ∧ impl_ProvesMean_l2 p1 p2 j3 q15 j12 = some s13 ∧ List.drop j12 x7 = q15) _ ⟨x7, 0, rfl, hs.sub ⟨rfl, rfl, rfl, rfl, rfl, rfl, rfl, rfl, rfl, trivial⟩, hM, hm, rfl⟩ ?_
          rintro k a w ⟨q15, j12, rfl, hs, hM, hm, hj⟩
          rcases q15 with _ | ⟨x16, q15⟩
          · rewrite [impl_ProvesMean_l2] at hm
            refine wp_seq ?_
            refine wp_region_lit ?_
            refine wl hs (y_lss hs rfl rfl) rfl ?_; intro a hs
            refine wpList_nil ?_
            refine x_nt ?_
            refine wp_seq ?_
            refine x_condF hs rfl (drop_f hj) ?_
            refine wp_exit ?_
            refine x_et ?_
            refine x_et ?_
            refine x_eb ?_
            have hm : some (Sum.inr ()) = some s13 := hm
            exact ⟨Option.some.inj hm, hs.sub ⟨rfl, rfl, rfl, rfl, rfl, trivial⟩, hM⟩
          · rewrite [impl_ProvesMean_l2] at hm
            have hx17 := drop_idx hj
            have hjs := ck_succ hj (RdS.len (RdI.below hr11 hM.bel))
            refine wp_seq ?_
            refine wp_region_lit ?_
            refine wl hs (y_lss hs rfl rfl) rfl ?_; intro a hs
            refine wpList_nil ?_
            refine x_nt ?_
            refine wp_seq ?_
            refine x_condT hs rfl (drop_t hj) ?_
            refine wp_skip ?_
            refine x_nt ?_
            refine wp_seq ?_
            refine wp_block ?_
            refine wp_seq ?_
            refine wp_region_lit ?_
            refine wl hs (y_move hs rfl) rfl ?_; intro a hs
            have he18 := RdI.at_ (RdI.below hr11 hM.bel) hx17
            refine wl hs (y_index ht_I hs rfl rfl he18) rfl ?_; intro a hs
            refine wl hs (y_load sc_int hs rfl he18.cell) rfl ?_; intro a hs
            refine wl hs (y_assign hs rfl) rfl ?_; intro a hs
            refine wl hs (y_assign hs rfl) rfl ?_; intro a hs
            refine wpList_nil ?_
            refine x_nt ?_
            refine wp_seq ?_
            refine x_regq hmix (by kernel_rfl) ?_
            refine wq hs (fun w1 hw1 => y_move hs rfl) rfl ?_; intro a hs
            refine wq hs (fun w1 hw1 => y_neq hs rfl rfl) rfl ?_; intro a hs
            refine wq hs (fun w1 hw1 => y_move hs rfl) rfl ?_; intro a hs
            obtain ⟨b19, hb20, hm⟩ := bindE hm
            refine wqguard (N := 50) (L' := [(47, .bool b19), (1, .int .i64 p1), (2, v_p2), (8, .int .i64 (j3 : Int)), (17, v_p0), (18, .int .i64 (p0.length : Int)), (19, .int .i64 (j3 : Int)), (24, u10), (25, .int .i64 (x7.length : Int)), (26, .int .i64 (j12 : Int))]) 14 ?_ ?_
            · intro K; rcases Bool.eq_false_or_eq_true (x16 != 1000000000) with hg21 | hg21
              · have hm := condT hg21 hb20
                refine wqg hs rfl hg21 (fun w1 hw1 => y_move hs rfl) rfl ?_; intro a hs
                refine wqg hs rfl hg21 (fun w1 hw1 => y_move hs rfl) rfl ?_; intro a hs
                refine wqg hs rfl hg21 (fun w1 hw1 => y_move hs rfl) rfl ?_; intro a hs
                obtain ⟨x22, hx23, hm⟩ := bindE hm
                have he24 := RdI.at_ (RdI.below hr_p2 hM.bel) hx23
                refine wqg hs rfl hg21 (fun w1 hw1 => y_index ht_I hs rfl rfl (he24.below hw1)) rfl ?_; intro a hs
                refine wqg hs rfl hg21 (fun w1 hw1 => y_load sc_int hs rfl (he24.below hw1).cell) rfl ?_; intro a hs
                obtain ⟨n25, h26, hm⟩ := bindE hm
                refine wqg hs rfl hg21 (fun w1 hw1 => y_add hs rfl rfl h26) rfl ?_; intro a hs
                refine wqg hs rfl hg21 (fun w1 hw1 => y_move hs rfl) rfl ?_; intro a hs
                refine wqg hs rfl hg21 (fun w1 hw1 => y_move hs rfl) rfl ?_; intro a hs
                refine wqg hs rfl hg21 (fun w1 hw1 => y_move hs rfl) rfl ?_; intro a hs
                obtain ⟨x27, hx28, hm⟩ := bindE hm
                have he29 := RdI.at_ (RdI.below hr_p2 hM.bel) hx28
                refine wqg hs rfl hg21 (fun w1 hw1 => y_index ht_I hs rfl rfl (he29.below hw1)) rfl ?_; intro a hs
                refine wqg hs rfl hg21 (fun w1 hw1 => y_load sc_int hs rfl (he29.below hw1).cell) rfl ?_; intro a hs
                obtain ⟨n30, h31, hm⟩ := bindE hm
                refine wqg hs rfl hg21 (fun w1 hw1 => y_add hs rfl rfl h31) rfl ?_; intro a hs
                refine wqg hs rfl hg21 (fun w1 hw1 => y_lss hs rfl rfl) rfl ?_; intro a hs
                have hm : some (decide (n25 < n30)) = some b19 := hm
                cases Option.some.inj hm
                refine wq hs (fun w1 hw1 => y_pickT hs rfl hg21 rfl) rfl ?_; intro a hs
                exact K _ (hs.sub ⟨rfl, rfl, rfl, rfl, rfl, rfl, rfl, rfl, rfl, rfl, trivial⟩)
              · have hm := condF hg21 hb20
                refine wqs hs rfl hg21 rfl ?_; intro a hs
                refine wqs hs rfl hg21 rfl ?_; intro a hs
                refine wqs hs rfl hg21 rfl ?_; intro a hs
                refine wqs hs rfl hg21 rfl ?_; intro a hs
                refine wqs hs rfl hg21 rfl ?_; intro a hs
                refine wqs hs rfl hg21 rfl ?_; intro a hs
                refine wqs hs rfl hg21 rfl ?_; intro a hs
                refine wqs hs rfl hg21 rfl ?_; intro a hs
                refine wqs hs rfl hg21 rfl ?_; intro a hs
                refine wqs hs rfl hg21 rfl ?_; intro a hs
                refine wqs hs rfl hg21 rfl ?_; intro a hs
                refine wqs hs rfl hg21 rfl ?_; intro a hs
                refine wqs hs rfl hg21 rfl ?_; intro a hs
                have hm : some false = some b19 := hm
                cases Option.some.inj hm
                refine wq hs (fun w1 hw1 => y_pickF hs rfl hg21 rfl) rfl ?_; intro a hs
                exact K _ (hs.sub ⟨rfl, rfl, rfl, rfl, rfl, rfl, rfl, rfl, rfl, rfl, trivial⟩)
            intro a hs
            simp only [List.drop_succ_cons, List.drop_zero]
            refine wpQuiet_nil ?_
            intro w hw
            replace hM := hM.quiet hw
            refine x_nt ?_
            refine x_cond hs rfl (fun hb => ?_) (fun hb => ?_)
            · replace hm := condT hb hm
              refine wp_seq ?_
              refine wp_region_lit ?_
              refine wl hs (y_assign hs rfl) rfl ?_; intro a hs
              refine wl hs (y_assign hs rfl) rfl ?_; intro a hs
              refine wpList_nil ?_
              refine x_nt ?_
              refine wp_ret ?_
              refine x_rb ?_
              refine x_rt ?_
              refine x_rt ?_
              refine x_rb ?_
              refine x_rt ?_
              refine x_rb ?_
              refine x_rt ?_
              refine x_rt ?_
              refine x_rb ?_
              refine x_rt ?_
              refine x_rt ?_
              have hm : some (Sum.inl (false, true)) = some s13 := hm
              cases Option.some.inj hm
              have hm := hk14
              have hm : some (Sum.inl (false, true)) = some s4 := hm
              cases Option.some.inj hm
              have hm := hk5
              have hm : some (false, true) = some r := hm
              obtain rfl := Option.some.inj hm
              refine x_ret2 rfl hs rfl rfl ⟨_, rfl, ?_⟩
              exact ⟨rfl, hM⟩
            · replace hm := condF hb hm
              refine wp_skip ?_
              refine x_nb ?_
              refine x_nt ?_
              refine wp_region_lit ?_
              refine wl hs (y_add hs rfl rfl hjs) rfl ?_; intro a hs
              refine wl hs (y_move hs rfl) rfl ?_; intro a hs
              refine wpList_nil ?_
              exact ⟨_, by simp, q15, j12 + 1, rfl, hs.sub ⟨rfl, rfl, rfl, rfl, rfl, rfl, rfl, rfl, rfl, trivial⟩, hM, hm, drop_next hj⟩
        rintro a w ⟨rfl, hs, hM⟩
        have hm := hk14
        refine x_nb ?_
        refine x_nt ?_
        refine wp_region_lit ?_
        refine wl hs (y_add hs rfl rfl hjs) rfl ?_; intro a hs
        refine wl hs (y_move hs rfl) rfl ?_; intro a hs
        refine wpList_nil ?_
        exact ⟨_, by simp, q6, j3 + 1, rfl, hs.sub ⟨rfl, rfl, rfl, rfl, rfl, trivial⟩, hM, hm, drop_next hj⟩
    rintro a w ⟨rfl, hs, hM⟩
    have hm := hk5
    refine x_nt ?_
    refine wp_seq ?_
    refine wp_region_lit ?_
    refine wl hs (y_assign hs rfl) rfl ?_; intro a hs
    refine wl hs (y_assign hs rfl) rfl ?_; intro a hs
    refine wpList_nil ?_
    refine x_nt ?_
    refine wp_ret ?_
    have hm : some (true, true) = some r := hm
    obtain rfl := Option.some.inj hm
    refine x_ret2 rfl hs rfl rfl ⟨_, rfl, ?_⟩
    exact ⟨rfl, hM⟩

end Go.Proofs.Ytefjnpdpeablpaa
