/- The code of this unit computes what its mirrors say. Written by program (wip/gen). -/
import Derived.Test.YtcglmncmnlkpmaaDoorFacts
import Derived.Test.YtcglmncmnlkpmaaDoorMatM
import Derived.Test.YtcglmncmnlkpmaaDoorNumW
namespace Go.Proofs.YtcglmncmnlkpmaaDoor
open Go.RowKit
set_option linter.unusedVariables false

theorem impl_isVector_any (v_p0 : Value) (p0 : List Int) (W : World) (hr_p0 : RdI W v_p0 p0) {r : Bool} (hm : impl_isVector_m p0 = some r) : Calls Tryd.prog 34 [v_p0].toArray W fun e w => ∃ v, e = .returned v ∧ v = .bool r ∧ Mem W w [] := by
  refine x_enter Tryd.func34 rfl Tryd.ntmps34 rfl ?_
  intro a hs
  have hM := Mem.start W
  unfold impl_isVector_m at hm
  refine wp_seq ?_
  refine wp_region_lit ?_
  refine wl hs (y_assign hs rfl) rfl ?_; intro a hs
  refine wpList_nil ?_
  refine x_nt ?_
  refine wp_seq ?_
  refine wp_region_lit ?_
  refine wl hs (y_move hs rfl) rfl ?_; intro a hs
  refine wl hs (y_len hu_I hs rfl (RdI.below hr_p0 hM.bel)) rfl ?_; intro a hs
  obtain ⟨y1, h2, hm⟩ := bindE hm
  refine wcall is_31 hs rfl rfl (impl_within_any (p0.length : Int) 1 6 _  h2) ?_; rintro a _ w hs ⟨rfl, hX⟩
  have hM : Mem W w [] := hM.call hX
  refine wl hs (y_move hs rfl) rfl ?_; intro a hs
  obtain ⟨b3, hb4, hm⟩ := bindE hm
  refine wlguard (N := 10) (L' := [(9, .bool b3), (2, .bool false)]) (fun w => Mem W w []) 3 ?_ ?_
  · intro K; rcases Bool.eq_false_or_eq_true y1 with hg5 | hg5
    · have hm := condT hg5 hb4
      refine wlg hs rfl hg5 (y_move hs rfl) rfl ?_; intro a hs
      obtain ⟨y6, h7, hm⟩ := bindE hm
      refine wcallg is_45 hs rfl hg5 rfl rfl (impl_areNumbers_any v_p0 p0 _ (RdI.below hr_p0 hM.bel) h7) ?_; rintro a _ w hs ⟨rfl, hX⟩
      have hM : Mem W w [] := hM.call hX
      have hm : some y6 = some b3 := hm
      cases Option.some.inj hm
      refine wl hs (y_pickT hs rfl hg5 rfl) rfl ?_; intro a hs
      exact K _ _ (hs.sub ⟨rfl, rfl, trivial⟩) hM
    · have hm := condF hg5 hb4
      refine wls hs rfl hg5 rfl ?_; intro a hs
      refine wls hs rfl hg5 rfl ?_; intro a hs
      have hm : some false = some b3 := hm
      cases Option.some.inj hm
      refine wl hs (y_pickF hs rfl hg5 rfl) rfl ?_; intro a hs
      exact K _ _ (hs.sub ⟨rfl, rfl, trivial⟩) hM
  intro a w hs hM
  simp only [List.drop_succ_cons, List.drop_zero]
  refine wl hs (y_assign hs rfl) rfl ?_; intro a hs
  refine wpList_nil ?_
  refine x_nt ?_
  refine wp_ret ?_
  have hm : some b3 = some r := hm
  obtain rfl := Option.some.inj hm
  refine x_ret1 rfl hs rfl ⟨_, rfl, ?_⟩
  exact ⟨rfl, hM⟩

theorem impl_isMatrix_1_any (v_p0 : Value) (p0 : List Int) (g_p1 : Nat) (v_p1 : Value) (p1 : List (List Int)) (W : World) (hr_p0 : RdI W v_p0 p0) (hr_p1 : RdM W v_p1 p1) (hc_p1 : W.cell? ⟨g_p1, 0, none⟩ = some (v_p1)) (hg_p1 : g_p1 < W.heap.size) {r : Bool} (hm : impl_isMatrix_1_m p0 p1 = some r) : Calls Tryd.prog 33 [v_p0, .pointer (some ⟨g_p1, 0, none⟩)].toArray W fun e w => ∃ v, e = .returned v ∧ v = .bool r ∧ Mem W w [] := by
  refine x_enter Tryd.func33 rfl Tryd.ntmps33 rfl ?_
  intro a hs
  have hM := Mem.start W
  unfold impl_isMatrix_1_m at hm
  refine wp_seq ?_
  refine wp_region_lit ?_
  refine wl hs (y_assign hs rfl) rfl ?_; intro a hs
  refine wpList_nil ?_
  refine x_nt ?_
  refine wp_seq ?_
  refine wp_region_lit ?_
  refine wl hs (y_move hs rfl) rfl ?_; intro a hs
  obtain ⟨y1, h2, hm⟩ := bindE hm
  refine wcall is_34 hs rfl rfl (impl_isVector_any v_p0 p0 _ (RdI.below hr_p0 hM.bel) h2) ?_; rintro a _ w hs ⟨rfl, hX⟩
  have hM : Mem W w [] := hM.call hX
  refine wl hs (y_not hs rfl) rfl ?_; intro a hs
  refine wl hs (y_move hs rfl) rfl ?_; intro a hs
  obtain ⟨b3, hb4, hm⟩ := bindE hm
  refine wlguard (N := 16) (L' := [(15, .bool b3), (3, .bool false)]) (fun w => Mem W w []) 8 ?_ ?_
  · intro K; rcases Bool.eq_false_or_eq_true (!y1) with hg5 | hg5
    · have hm := condT hg5 hb4
      refine wls hs rfl hg5 rfl ?_; intro a hs
      refine wls hs rfl hg5 rfl ?_; intro a hs
      refine wls hs rfl hg5 rfl ?_; intro a hs
      refine wls hs rfl hg5 rfl ?_; intro a hs
      refine wls hs rfl hg5 rfl ?_; intro a hs
      refine wls hs rfl hg5 rfl ?_; intro a hs
      refine wls hs rfl hg5 rfl ?_; intro a hs
      have hm : some true = some b3 := hm
      cases Option.some.inj hm
      refine wl hs (y_pickT hs rfl hg5 rfl) rfl ?_; intro a hs
      exact K _ _ (hs.sub ⟨rfl, rfl, trivial⟩) hM
    · have hm := condF hg5 hb4
      refine wlg hs rfl hg5 (y_move hs rfl) rfl ?_; intro a hs
      refine wlg hs rfl hg5 (y_len hu_I hs rfl (RdI.below hr_p0 hM.bel)) rfl ?_; intro a hs
      refine wlg hs rfl hg5 (y_load sc_M hs rfl ((hM.bel.cell (p := ⟨g_p1, 0, none⟩) hg_p1).trans hc_p1)) rfl ?_; intro a hs
      obtain ⟨x6, hx7, hm⟩ := bindE hm
      obtain ⟨u9, he8, hr10⟩ := RdM.at_ hr_p1 hx7
      replace he8 := he8.below hM.bel
      refine wlg hs rfl hg5 (y_index ht_M hs rfl rfl he8) rfl ?_; intro a hs
      refine wlg hs rfl hg5 (y_load sc_I hs rfl he8.cell) rfl ?_; intro a hs
      refine wlg hs rfl hg5 (y_len hu_I hs rfl (RdI.below hr10 hM.bel)) rfl ?_; intro a hs
      refine wlg hs rfl hg5 (y_neq hs rfl rfl) rfl ?_; intro a hs
      have hm : some ((p0.length : Int) != (x6.length : Int)) = some b3 := hm
      cases Option.some.inj hm
      refine wl hs (y_pickF hs rfl hg5 rfl) rfl ?_; intro a hs
      exact K _ _ (hs.sub ⟨rfl, rfl, trivial⟩) hM
  intro a w hs hM
  simp only [List.drop_succ_cons, List.drop_zero]
  refine wl hs (y_assign hs rfl) rfl ?_; intro a hs
  refine wpList_nil ?_
  refine x_nt ?_
  refine wp_ret ?_
  have hm : some b3 = some r := hm
  obtain rfl := Option.some.inj hm
  refine x_ret1 rfl hs rfl ⟨_, rfl, ?_⟩
  exact ⟨rfl, hM⟩

theorem slices_IndexFunc_int_int_impl_isMatrix_1_any (v_p0 : Value) (p0 : List (List Int)) (g_p10 : Nat) (v_p10 : Value) (p10 : List (List Int)) (W : World) (hr_p0 : RdM W v_p0 p0) (hr_p10 : RdM W v_p10 p10) (hc_p10 : W.cell? ⟨g_p10, 0, none⟩ = some (v_p10)) (hg_p10 : g_p10 < W.heap.size) {r : Int} (hm : slices_IndexFunc_int_int_impl_isMatrix_1_m p0 p10 = some r) : Calls Tryd.prog 44 [v_p0, .func (.func 33) #[] #[.pointer (some ⟨g_p10, 0, none⟩)]].toArray W fun e w => ∃ v, e = .returned v ∧ v = .int .i64 r ∧ Mem W w [] := by
  refine x_enter Tryd.func44 rfl Tryd.ntmps44 rfl ?_
  intro a hs
  have hM := Mem.start W
  unfold slices_IndexFunc_int_int_impl_isMatrix_1_m at hm
  refine wp_seq ?_
  refine wp_region_lit ?_
  refine wl hs (y_assign hs rfl) rfl ?_; intro a hs
  refine wpList_nil ?_
  refine x_nt ?_
  refine wp_seq ?_
  refine wp_seq ?_
  refine wp_region_lit ?_
  refine wl hs (y_move hs rfl) rfl ?_; intro a hs
  refine wl hs (y_len hu_M hs rfl (RdM.below hr_p0 hM.bel)) rfl ?_; intro a hs
  refine wl hs (y_move hs rfl) rfl ?_; intro a hs
  refine wpList_nil ?_
  refine x_nt ?_
  obtain ⟨s2, hm, hk3⟩ := bindE hm
  refine x_mid (fun a w => Sum.inr () = s2 ∧ Fr a 19 [] ∧ Mem W w []) ?_ ?_
  · refine wp_block ?_
    refine x_loop (fun k a w => ∃ (q4 : List (List Int)) (j1 : Nat) , k = q4.length ∧ Fr a 19 [(0, v_p0), (1, .func (.func 33) #[] #[.pointer (some ⟨g_p10, 0, none⟩)]), (7, .int .i64 (p0.length : Int)), (8, .int .i64 (j1 : Int))] ∧ Mem W w [] ∧ slices_IndexFunc_int_int_impl_isMatrix_1_l1 p10 q4 j1 = some s2 ∧ List.drop j1 p0 = q4) _ ⟨p0, 0, rfl, hs.sub ⟨rfl, rfl, rfl, rfl, trivial⟩, hM, hm, rfl⟩ ?_
    rintro k a w ⟨q4, j1, rfl, hs, hM, hm, hj1⟩
    rcases q4 with _ | ⟨x5, q4⟩
    · rewrite [slices_IndexFunc_int_int_impl_isMatrix_1_l1] at hm
      refine wp_seq ?_
      refine wp_region_lit ?_
      refine wl hs (y_lss hs rfl rfl) rfl ?_; intro a hs
      refine wpList_nil ?_
      refine x_nt ?_
      refine wp_seq ?_
      refine x_condF hs rfl (drop_f hj1) ?_
      refine wp_exit ?_
      refine x_et ?_
      refine x_et ?_
      refine x_eb ?_
      have hm : some (Sum.inr ()) = some s2 := hm
      exact ⟨Option.some.inj hm, hs.sub trivial, hM⟩
    · rewrite [slices_IndexFunc_int_int_impl_isMatrix_1_l1] at hm
      have hx6 := drop_idx hj1
      have hsj1 := ck_succ hj1 (RdS.len (RdM.below hr_p0 hM.bel))
      refine wp_seq ?_
      refine wp_region_lit ?_
      refine wl hs (y_lss hs rfl rfl) rfl ?_; intro a hs
      refine wpList_nil ?_
      refine x_nt ?_
      refine wp_seq ?_
      refine x_condT hs rfl (drop_t hj1) ?_
      refine wp_skip ?_
      refine x_nt ?_
      refine wp_seq ?_
      refine wp_block ?_
      refine wp_seq ?_
      refine wp_region_lit ?_
      refine wl hs (y_move hs rfl) rfl ?_; intro a hs
      refine wl hs (y_assign hs rfl) rfl ?_; intro a hs
      refine wpList_nil ?_
      refine x_nt ?_
      refine wp_seq ?_
      refine wp_region_lit ?_
      refine wl hs (y_move hs rfl) rfl ?_; intro a hs
      refine wl hs (y_move hs rfl) rfl ?_; intro a hs
      refine wl hs (y_move hs rfl) rfl ?_; intro a hs
      obtain ⟨u8, he7, hr9⟩ := RdM.at_ hr_p0 hx6
      replace he7 := he7.below hM.bel
      refine wl hs (y_index ht_M hs rfl rfl he7) rfl ?_; intro a hs
      refine wl hs (y_load sc_I hs rfl he7.cell) rfl ?_; intro a hs
      obtain ⟨y10, h11, hm⟩ := bindE hm
      refine wcallv is_33 hs rfl rfl rfl (impl_isMatrix_1_any u8 x5 g_p10 v_p10 p10 _ (RdI.below hr9 hM.bel) (RdM.below hr_p10 hM.bel) ((hM.bel.cell (p := ⟨g_p10, 0, none⟩) hg_p10).trans hc_p10) (Nat.lt_of_lt_of_le hg_p10 hM.bel.size) h11) ?_; rintro a _ w hs ⟨rfl, hX⟩
      have hM : Mem W w [] := hM.call hX
      refine wpList_nil ?_
      refine x_nt ?_
      refine x_cond hs rfl (fun hb => ?_) (fun hb => ?_)
      · replace hm := condT hb hm
        refine wp_seq ?_
        refine wp_region_lit ?_
        refine wl hs (y_move hs rfl) rfl ?_; intro a hs
        refine wl hs (y_assign hs rfl) rfl ?_; intro a hs
        refine wpList_nil ?_
        refine x_nt ?_
        refine wp_ret ?_
        refine x_rb ?_
        refine x_rt ?_
        refine x_rt ?_
        refine x_rb ?_
        refine x_rt ?_
        refine x_rt ?_
        have hm : some (Sum.inl (j1 : Int)) = some s2 := hm
        cases Option.some.inj hm
        have hm := hk3
        have hm : some (j1 : Int) = some r := hm
        obtain rfl := Option.some.inj hm
        refine x_ret1 rfl hs rfl ⟨_, rfl, ?_⟩
        exact ⟨rfl, hM⟩
      · replace hm := condF hb hm
        refine wp_skip ?_
        refine x_nb ?_
        refine x_nt ?_
        refine wp_region_lit ?_
        refine wl hs (y_add hs rfl rfl hsj1) rfl ?_; intro a hs
        refine wl hs (y_move hs rfl) rfl ?_; intro a hs
        refine wpList_nil ?_
        exact ⟨_, by simp, q4, j1 + 1, rfl, hs.sub ⟨rfl, rfl, rfl, rfl, trivial⟩, hM, hm, drop_next hj1⟩
  rintro a w ⟨rfl, hs, hM⟩
  have hm := hk3
  refine x_nt ?_
  refine wp_seq ?_
  refine wp_region_lit ?_
  refine wl hs (y_assign hs rfl) rfl ?_; intro a hs
  refine wpList_nil ?_
  refine x_nt ?_
  refine wp_ret ?_
  have hm : some (-1) = some r := hm
  obtain rfl := Option.some.inj hm
  refine x_ret1 rfl hs rfl ⟨_, rfl, ?_⟩
  exact ⟨rfl, hM⟩

theorem slices_ContainsFunc_int_int_impl_isMatrix_1_any (v_p0 : Value) (p0 : List (List Int)) (g_p10 : Nat) (v_p10 : Value) (p10 : List (List Int)) (W : World) (hr_p0 : RdM W v_p0 p0) (hr_p10 : RdM W v_p10 p10) (hc_p10 : W.cell? ⟨g_p10, 0, none⟩ = some (v_p10)) (hg_p10 : g_p10 < W.heap.size) {r : Bool} (hm : slices_ContainsFunc_int_int_impl_isMatrix_1_m p0 p10 = some r) : Calls Tryd.prog 32 [v_p0, .func (.func 33) #[] #[.pointer (some ⟨g_p10, 0, none⟩)]].toArray W fun e w => ∃ v, e = .returned v ∧ v = .bool r ∧ Mem W w [] := by
  refine x_enter Tryd.func32 rfl Tryd.ntmps32 rfl ?_
  intro a hs
  have hM := Mem.start W
  unfold slices_ContainsFunc_int_int_impl_isMatrix_1_m at hm
  refine wp_seq ?_
  refine wp_region_lit ?_
  refine wl hs (y_assign hs rfl) rfl ?_; intro a hs
  refine wpList_nil ?_
  refine x_nt ?_
  refine wp_seq ?_
  refine wp_region_lit ?_
  refine wl hs (y_move hs rfl) rfl ?_; intro a hs
  refine wl hs (y_move hs rfl) rfl ?_; intro a hs
  obtain ⟨y1, h2, hm⟩ := bindE hm
  refine wcall is_44 hs rfl rfl (slices_IndexFunc_int_int_impl_isMatrix_1_any v_p0 p0 g_p10 v_p10 p10 _ (RdM.below hr_p0 hM.bel) (RdM.below hr_p10 hM.bel) ((hM.bel.cell (p := ⟨g_p10, 0, none⟩) hg_p10).trans hc_p10) (Nat.lt_of_lt_of_le hg_p10 hM.bel.size) h2) ?_; rintro a _ w hs ⟨rfl, hX⟩
  have hM : Mem W w [] := hM.call hX
  refine wl hs (y_geq hs rfl rfl) rfl ?_; intro a hs
  refine wl hs (y_assign hs rfl) rfl ?_; intro a hs
  refine wpList_nil ?_
  refine x_nt ?_
  refine wp_ret ?_
  have hm : some (decide (y1 ≥ 0)) = some r := hm
  obtain rfl := Option.some.inj hm
  refine x_ret1 rfl hs rfl ⟨_, rfl, ?_⟩
  exact ⟨rfl, hM⟩

theorem impl_isMatrix_any (v_p0 : Value) (p0 : List (List Int)) (W : World) (hr_p0 : RdM W v_p0 p0) {r : Bool} (hm : impl_isMatrix_m p0 = some r) : Calls Tryd.prog 18 [v_p0].toArray W fun e w => ∃ v, e = .returned v ∧ v = .bool r ∧ Mem W w [] := by
  refine x_enter Tryd.func18 rfl Tryd.ntmps18 rfl ?_
  intro a hs
  have hM := Mem.start W
  unfold impl_isMatrix_m at hm
  refine wp_seq ?_
  refine wp_region_lit ?_
  refine wmem hs (x_box (RdS.one hr_p0) hs rfl hM) rfl ?_; rintro a _ w hs ⟨g2, rfl, hM⟩
  have hM : Mem W w [aBlk g2 22 [v_p0]] := hM
  refine wl hs (y_assign hs rfl) rfl ?_; intro a hs
  refine wpList_nil ?_
  refine x_nt ?_
  refine wp_seq ?_
  refine wp_seq ?_
  refine wp_region_lit ?_
  refine wl hs (y_load sc_M hs rfl (hM.cellBlk 0 rfl 0 rfl)) rfl ?_; intro a hs
  refine wl hs (y_len hu_M hs rfl (RdM.below hr_p0 hM.bel)) rfl ?_; intro a hs
  obtain ⟨y3, h4, hm⟩ := bindE hm
  refine wcall is_31 hs rfl rfl (impl_within_any (p0.length : Int) 1 6 _  h4) ?_; rintro a _ w hs ⟨rfl, hX⟩
  have hM : Mem W w [aBlk g2 22 [v_p0]] := hM.call hX
  refine wl hs (y_not hs rfl) rfl ?_; intro a hs
  refine wpList_nil ?_
  refine x_nt ?_
  refine x_cond hs rfl (fun hb => ?_) (fun hb => ?_)
  · replace hm := condT hb hm
    refine wp_seq ?_
    refine wp_region_lit ?_
    refine wl hs (y_assign hs rfl) rfl ?_; intro a hs
    refine wpList_nil ?_
    refine x_nt ?_
    refine wp_ret ?_
    refine x_rt ?_
    have hm : some false = some r := hm
    obtain rfl := Option.some.inj hm
    refine x_ret1 rfl hs rfl ⟨_, rfl, ?_⟩
    exact ⟨rfl, hM.none_⟩
  · replace hm := condF hb hm
    refine wp_skip ?_
    refine x_nt ?_
    refine wp_seq ?_
    refine wp_region_lit ?_
    refine wl hs (y_load sc_M hs rfl (hM.cellBlk 0 rfl 0 rfl)) rfl ?_; intro a hs
    refine wl hs (y_makeFunc hs rfl) rfl ?_; intro a hs
    obtain ⟨y5, h6, hm⟩ := bindE hm
    refine wcall is_32 hs rfl rfl (slices_ContainsFunc_int_int_impl_isMatrix_1_any v_p0 p0 g2 v_p0 p0 _ (RdM.below hr_p0 hM.bel) (RdM.below hr_p0 hM.bel) (hM.cellBlk 0 rfl 0 rfl) (hM.ltBlk 0 rfl) h6) ?_; rintro a _ w hs ⟨rfl, hX⟩
    have hM : Mem W w [aBlk g2 22 [v_p0]] := hM.call hX
    refine wl hs (y_not hs rfl) rfl ?_; intro a hs
    refine wl hs (y_assign hs rfl) rfl ?_; intro a hs
    refine wpList_nil ?_
    refine x_nt ?_
    refine wp_ret ?_
    have hm : some (!y5) = some r := hm
    obtain rfl := Option.some.inj hm
    refine x_ret1 rfl hs rfl ⟨_, rfl, ?_⟩
    exact ⟨rfl, hM.none_⟩

theorem spec_mxVector_any (v_p0 : Value) (p0 : List Int) (W : World) (hr_p0 : RdI W v_p0 p0) {r : Bool} (hm : spec_mxVector_m p0 = some r) : Calls Tryd.prog 29 [v_p0].toArray W fun e w => ∃ v, e = .returned v ∧ v = .bool r ∧ Mem W w [] := by
  refine x_enter Tryd.func29 rfl Tryd.ntmps29 rfl ?_
  intro a hs
  have hM := Mem.start W
  unfold spec_mxVector_m at hm
  refine wp_seq ?_
  refine wp_region_lit ?_
  refine wl hs (y_assign hs rfl) rfl ?_; intro a hs
  refine wpList_nil ?_
  refine x_nt ?_
  refine wp_seq ?_
  refine wp_seq ?_
  refine wp_region_lit ?_
  refine wl hs (y_move hs rfl) rfl ?_; intro a hs
  refine wl hs (y_len hu_I hs rfl (RdI.below hr_p0 hM.bel)) rfl ?_; intro a hs
  refine wl hs (y_move hs rfl) rfl ?_; intro a hs
  refine wpList_nil ?_
  refine x_nt ?_
  obtain ⟨s2, hm, hk3⟩ := bindE hm
  refine x_mid (fun a w => Sum.inr () = s2 ∧ Fr a 18 [(0, v_p0)] ∧ Mem W w []) ?_ ?_
  · refine wp_block ?_
    refine x_loop (fun k a w => ∃ (q4 : List Int) (j1 : Nat) , k = q4.length ∧ Fr a 18 [(0, v_p0), (5, v_p0), (6, .int .i64 (p0.length : Int)), (7, .int .i64 (j1 : Int))] ∧ Mem W w [] ∧ spec_mxVector_l1 q4 j1 = some s2 ∧ List.drop j1 p0 = q4) _ ⟨p0, 0, rfl, hs.sub ⟨rfl, rfl, rfl, rfl, trivial⟩, hM, hm, rfl⟩ ?_
    rintro k a w ⟨q4, j1, rfl, hs, hM, hm, hj1⟩
    rcases q4 with _ | ⟨x5, q4⟩
    · rewrite [spec_mxVector_l1] at hm
      refine wp_seq ?_
      refine wp_region_lit ?_
      refine wl hs (y_lss hs rfl rfl) rfl ?_; intro a hs
      refine wpList_nil ?_
      refine x_nt ?_
      refine wp_seq ?_
      refine x_condF hs rfl (drop_f hj1) ?_
      refine wp_exit ?_
      refine x_et ?_
      refine x_et ?_
      refine x_eb ?_
      have hm : some (Sum.inr ()) = some s2 := hm
      exact ⟨Option.some.inj hm, hs.sub ⟨rfl, trivial⟩, hM⟩
    · rewrite [spec_mxVector_l1] at hm
      have hx6 := drop_idx hj1
      have hsj1 := ck_succ hj1 (RdS.len (RdI.below hr_p0 hM.bel))
      refine wp_seq ?_
      refine wp_region_lit ?_
      refine wl hs (y_lss hs rfl rfl) rfl ?_; intro a hs
      refine wpList_nil ?_
      refine x_nt ?_
      refine wp_seq ?_
      refine x_condT hs rfl (drop_t hj1) ?_
      refine wp_skip ?_
      refine x_nt ?_
      refine wp_seq ?_
      refine wp_block ?_
      refine wp_seq ?_
      refine wp_region_lit ?_
      have he7 := RdI.at_ (RdI.below hr_p0 hM.bel) hx6
      refine wl hs (y_index ht_I hs rfl rfl he7) rfl ?_; intro a hs
      refine wl hs (y_load sc_int hs rfl he7.cell) rfl ?_; intro a hs
      refine wl hs (y_assign hs rfl) rfl ?_; intro a hs
      refine wpList_nil ?_
      refine x_nt ?_
      refine wp_seq ?_
      refine wp_region_lit ?_
      refine wl hs (y_move hs rfl) rfl ?_; intro a hs
      obtain ⟨y8, h9, hm⟩ := bindE hm
      refine wcall is_39 hs rfl rfl (spec_nuGood_any x5 _  h9) ?_; rintro a _ w hs ⟨rfl, hX⟩
      have hM : Mem W w [] := hM.call hX
      refine wl hs (y_not hs rfl) rfl ?_; intro a hs
      refine wpList_nil ?_
      refine x_nt ?_
      refine x_cond hs rfl (fun hb => ?_) (fun hb => ?_)
      · replace hm := condT hb hm
        refine wp_seq ?_
        refine wp_region_lit ?_
        refine wl hs (y_assign hs rfl) rfl ?_; intro a hs
        refine wpList_nil ?_
        refine x_nt ?_
        refine wp_ret ?_
        refine x_rb ?_
        refine x_rt ?_
        refine x_rt ?_
        refine x_rb ?_
        refine x_rt ?_
        refine x_rt ?_
        have hm : some (Sum.inl false) = some s2 := hm
        cases Option.some.inj hm
        have hm := hk3
        have hm : some false = some r := hm
        obtain rfl := Option.some.inj hm
        refine x_ret1 rfl hs rfl ⟨_, rfl, ?_⟩
        exact ⟨rfl, hM⟩
      · replace hm := condF hb hm
        refine wp_skip ?_
        refine x_nb ?_
        refine x_nt ?_
        refine wp_region_lit ?_
        refine wl hs (y_add hs rfl rfl hsj1) rfl ?_; intro a hs
        refine wl hs (y_move hs rfl) rfl ?_; intro a hs
        refine wpList_nil ?_
        exact ⟨_, by simp, q4, j1 + 1, rfl, hs.sub ⟨rfl, rfl, rfl, rfl, trivial⟩, hM, hm, drop_next hj1⟩
  rintro a w ⟨rfl, hs, hM⟩
  have hm := hk3
  refine x_nt ?_
  refine wp_seq ?_
  refine wp_region_lit ?_
  refine wl hs (y_move hs rfl) rfl ?_; intro a hs
  refine wl hs (y_len hu_I hs rfl (RdI.below hr_p0 hM.bel)) rfl ?_; intro a hs
  obtain ⟨y10, h11, hm⟩ := bindE hm
  refine wcall is_28 hs rfl rfl (spec_l1In_any (p0.length : Int) 1 6 _  h11) ?_; rintro a _ w hs ⟨rfl, hX⟩
  have hM : Mem W w [] := hM.call hX
  refine wl hs (y_assign hs rfl) rfl ?_; intro a hs
  refine wpList_nil ?_
  refine x_nt ?_
  refine wp_ret ?_
  have hm : some y10 = some r := hm
  obtain rfl := Option.some.inj hm
  refine x_ret1 rfl hs rfl ⟨_, rfl, ?_⟩
  exact ⟨rfl, hM⟩

set_option maxHeartbeats 4000000 in
theorem spec_mxGood_any (v_p0 : Value) (p0 : List (List Int)) (W : World) (hr_p0 : RdM W v_p0 p0) {r : Bool} (hm : spec_mxGood_m p0 = some r) : Calls Tryd.prog 15 [v_p0].toArray W fun e w => ∃ v, e = .returned v ∧ v = .bool r ∧ Mem W w [] := by
  refine x_enter Tryd.func15 rfl Tryd.ntmps15 rfl ?_
  intro a hs
  have hM := Mem.start W
  unfold spec_mxGood_m at hm
  refine wp_seq ?_
  refine wp_region_lit ?_
  refine wl hs (y_assign hs rfl) rfl ?_; intro a hs
  refine wpList_nil ?_
  refine x_nt ?_
  refine wp_seq ?_
  refine wp_seq ?_
  refine wp_region_lit ?_
  refine wl hs (y_move hs rfl) rfl ?_; intro a hs
  refine wl hs (y_len hu_M hs rfl (RdM.below hr_p0 hM.bel)) rfl ?_; intro a hs
  obtain ⟨y1, h2, hm⟩ := bindE hm
  refine wcall is_28 hs rfl rfl (spec_l1In_any (p0.length : Int) 1 6 _  h2) ?_; rintro a _ w hs ⟨rfl, hX⟩
  have hM : Mem W w [] := hM.call hX
  refine wl hs (y_not hs rfl) rfl ?_; intro a hs
  refine wl hs (y_move hs rfl) rfl ?_; intro a hs
  obtain ⟨b3, hb4, hm⟩ := bindE hm
  refine wlguard (N := 36) (L' := [(16, .bool b3), (0, v_p0)]) (fun w => Mem W w []) 7 ?_ ?_
  · intro K; rcases Bool.eq_false_or_eq_true (!y1) with hg5 | hg5
    · have hm := condT hg5 hb4
      refine wls hs rfl hg5 rfl ?_; intro a hs
      refine wls hs rfl hg5 rfl ?_; intro a hs
      refine wls hs rfl hg5 rfl ?_; intro a hs
      refine wls hs rfl hg5 rfl ?_; intro a hs
      refine wls hs rfl hg5 rfl ?_; intro a hs
      refine wls hs rfl hg5 rfl ?_; intro a hs
      have hm : some true = some b3 := hm
      cases Option.some.inj hm
      refine wl hs (y_pickT hs rfl hg5 rfl) rfl ?_; intro a hs
      exact K _ _ (hs.sub ⟨rfl, rfl, trivial⟩) hM
    · have hm := condF hg5 hb4
      refine wlg hs rfl hg5 (y_move hs rfl) rfl ?_; intro a hs
      obtain ⟨x6, hx7, hm⟩ := bindE hm
      obtain ⟨u9, he8, hr10⟩ := RdM.at_ hr_p0 hx7
      replace he8 := he8.below hM.bel
      refine wlg hs rfl hg5 (y_index ht_M hs rfl rfl he8) rfl ?_; intro a hs
      refine wlg hs rfl hg5 (y_load sc_I hs rfl he8.cell) rfl ?_; intro a hs
      refine wlg hs rfl hg5 (y_len hu_I hs rfl (RdI.below hr10 hM.bel)) rfl ?_; intro a hs
      obtain ⟨y11, h12, hm⟩ := bindE hm
      refine wcallg is_28 hs rfl hg5 rfl rfl (spec_l1In_any (x6.length : Int) 1 6 _  h12) ?_; rintro a _ w hs ⟨rfl, hX⟩
      have hM : Mem W w [] := hM.call hX
      refine wlg hs rfl hg5 (y_not hs rfl) rfl ?_; intro a hs
      have hm : some (!y11) = some b3 := hm
      cases Option.some.inj hm
      refine wl hs (y_pickF hs rfl hg5 rfl) rfl ?_; intro a hs
      exact K _ _ (hs.sub ⟨rfl, rfl, trivial⟩) hM
  intro a w hs hM
  simp only [List.drop_succ_cons, List.drop_zero]
  refine wpList_nil ?_
  refine x_nt ?_
  refine x_cond hs rfl (fun hb => ?_) (fun hb => ?_)
  · replace hm := condT hb hm
    refine wp_seq ?_
    refine wp_region_lit ?_
    refine wl hs (y_assign hs rfl) rfl ?_; intro a hs
    refine wpList_nil ?_
    refine x_nt ?_
    refine wp_ret ?_
    refine x_rt ?_
    have hm : some false = some r := hm
    obtain rfl := Option.some.inj hm
    refine x_ret1 rfl hs rfl ⟨_, rfl, ?_⟩
    exact ⟨rfl, hM⟩
  · replace hm := condF hb hm
    refine wp_skip ?_
    refine x_nt ?_
    refine wp_seq ?_
    refine wp_seq ?_
    refine wp_region_lit ?_
    refine wl hs (y_move hs rfl) rfl ?_; intro a hs
    refine wl hs (y_len hu_M hs rfl (RdM.below hr_p0 hM.bel)) rfl ?_; intro a hs
    refine wl hs (y_move hs rfl) rfl ?_; intro a hs
    refine wpList_nil ?_
    refine x_nt ?_
    obtain ⟨s14, hm, hk15⟩ := bindE hm
    refine x_mid (fun a w => Sum.inr () = s14 ∧ Fr a 36 [] ∧ Mem W w []) ?_ ?_
    · refine wp_block ?_
      refine x_loop (fun k a w => ∃ (q16 : List (List Int)) (j13 : Nat) , k = q16.length ∧ Fr a 36 [(0, v_p0), (17, v_p0), (18, .int .i64 (p0.length : Int)), (19, .int .i64 (j13 : Int))] ∧ Mem W w [] ∧ spec_mxGood_l1 p0 q16 j13 = some s14 ∧ List.drop j13 p0 = q16) _ ⟨p0, 0, rfl, hs.sub ⟨rfl, rfl, rfl, rfl, trivial⟩, hM, hm, rfl⟩ ?_
      rintro k a w ⟨q16, j13, rfl, hs, hM, hm, hj13⟩
      rcases q16 with _ | ⟨x17, q16⟩
      · rewrite [spec_mxGood_l1] at hm
        refine wp_seq ?_
        refine wp_region_lit ?_
        refine wl hs (y_lss hs rfl rfl) rfl ?_; intro a hs
        refine wpList_nil ?_
        refine x_nt ?_
        refine wp_seq ?_
        refine x_condF hs rfl (drop_f hj13) ?_
        refine wp_exit ?_
        refine x_et ?_
        refine x_et ?_
        refine x_eb ?_
        have hm : some (Sum.inr ()) = some s14 := hm
        exact ⟨Option.some.inj hm, hs.sub trivial, hM⟩
      · rewrite [spec_mxGood_l1] at hm
        have hx18 := drop_idx hj13
        have hsj13 := ck_succ hj13 (RdS.len (RdM.below hr_p0 hM.bel))
        refine wp_seq ?_
        refine wp_region_lit ?_
        refine wl hs (y_lss hs rfl rfl) rfl ?_; intro a hs
        refine wpList_nil ?_
        refine x_nt ?_
        refine wp_seq ?_
        refine x_condT hs rfl (drop_t hj13) ?_
        refine wp_skip ?_
        refine x_nt ?_
        refine wp_seq ?_
        refine wp_block ?_
        refine wp_seq ?_
        refine wp_region_lit ?_
        obtain ⟨u20, he19, hr21⟩ := RdM.at_ hr_p0 hx18
        replace he19 := he19.below hM.bel
        refine wl hs (y_index ht_M hs rfl rfl he19) rfl ?_; intro a hs
        refine wl hs (y_load sc_I hs rfl he19.cell) rfl ?_; intro a hs
        refine wl hs (y_assign hs rfl) rfl ?_; intro a hs
        refine wpList_nil ?_
        refine x_nt ?_
        refine wp_seq ?_
        refine wp_region_lit ?_
        refine wl hs (y_move hs rfl) rfl ?_; intro a hs
        refine wl hs (y_len hu_I hs rfl (RdI.below hr21 hM.bel)) rfl ?_; intro a hs
        refine wl hs (y_move hs rfl) rfl ?_; intro a hs
        obtain ⟨x22, hx23, hm⟩ := bindE hm
        obtain ⟨u25, he24, hr26⟩ := RdM.at_ hr_p0 hx23
        replace he24 := he24.below hM.bel
        refine wl hs (y_index ht_M hs rfl rfl he24) rfl ?_; intro a hs
        refine wl hs (y_load sc_I hs rfl he24.cell) rfl ?_; intro a hs
        refine wl hs (y_len hu_I hs rfl (RdI.below hr26 hM.bel)) rfl ?_; intro a hs
        refine wl hs (y_neq hs rfl rfl) rfl ?_; intro a hs
        refine wl hs (y_move hs rfl) rfl ?_; intro a hs
        obtain ⟨b27, hb28, hm⟩ := bindE hm
        refine wlguard (N := 36) (L' := [(34, .bool b27), (0, v_p0), (17, v_p0), (18, .int .i64 (p0.length : Int)), (19, .int .i64 (j13 : Int))]) (fun w => Mem W w []) 4 ?_ ?_
        · intro K; rcases Bool.eq_false_or_eq_true ((x17.length : Int) != (x22.length : Int)) with hg29 | hg29
          · have hm := condT hg29 hb28
            refine wls hs rfl hg29 rfl ?_; intro a hs
            refine wls hs rfl hg29 rfl ?_; intro a hs
            refine wls hs rfl hg29 rfl ?_; intro a hs
            have hm : some true = some b27 := hm
            cases Option.some.inj hm
            refine wl hs (y_pickT hs rfl hg29 rfl) rfl ?_; intro a hs
            exact K _ _ (hs.sub ⟨rfl, rfl, rfl, rfl, rfl, trivial⟩) hM
          · have hm := condF hg29 hb28
            refine wlg hs rfl hg29 (y_move hs rfl) rfl ?_; intro a hs
            obtain ⟨y30, h31, hm⟩ := bindE hm
            refine wcallg is_29 hs rfl hg29 rfl rfl (spec_mxVector_any u20 x17 _ (RdI.below hr21 hM.bel) h31) ?_; rintro a _ w hs ⟨rfl, hX⟩
            have hM : Mem W w [] := hM.call hX
            refine wlg hs rfl hg29 (y_not hs rfl) rfl ?_; intro a hs
            have hm : some (!y30) = some b27 := hm
            cases Option.some.inj hm
            refine wl hs (y_pickF hs rfl hg29 rfl) rfl ?_; intro a hs
            exact K _ _ (hs.sub ⟨rfl, rfl, rfl, rfl, rfl, trivial⟩) hM
        intro a w hs hM
        simp only [List.drop_succ_cons, List.drop_zero]
        refine wpList_nil ?_
        refine x_nt ?_
        refine x_cond hs rfl (fun hb => ?_) (fun hb => ?_)
        · replace hm := condT hb hm
          refine wp_seq ?_
          refine wp_region_lit ?_
          refine wl hs (y_assign hs rfl) rfl ?_; intro a hs
          refine wpList_nil ?_
          refine x_nt ?_
          refine wp_ret ?_
          refine x_rb ?_
          refine x_rt ?_
          refine x_rt ?_
          refine x_rb ?_
          refine x_rt ?_
          refine x_rt ?_
          have hm : some (Sum.inl false) = some s14 := hm
          cases Option.some.inj hm
          have hm := hk15
          have hm : some false = some r := hm
          obtain rfl := Option.some.inj hm
          refine x_ret1 rfl hs rfl ⟨_, rfl, ?_⟩
          exact ⟨rfl, hM⟩
        · replace hm := condF hb hm
          refine wp_skip ?_
          refine x_nb ?_
          refine x_nt ?_
          refine wp_region_lit ?_
          refine wl hs (y_add hs rfl rfl hsj13) rfl ?_; intro a hs
          refine wl hs (y_move hs rfl) rfl ?_; intro a hs
          refine wpList_nil ?_
          exact ⟨_, by simp, q16, j13 + 1, rfl, hs.sub ⟨rfl, rfl, rfl, rfl, trivial⟩, hM, hm, drop_next hj13⟩
    rintro a w ⟨rfl, hs, hM⟩
    have hm := hk15
    refine x_nt ?_
    refine wp_seq ?_
    refine wp_region_lit ?_
    refine wl hs (y_assign hs rfl) rfl ?_; intro a hs
    refine wpList_nil ?_
    refine x_nt ?_
    refine wp_ret ?_
    have hm : some true = some r := hm
    obtain rfl := Option.some.inj hm
    refine x_ret1 rfl hs rfl ⟨_, rfl, ?_⟩
    exact ⟨rfl, hM⟩

theorem impl_toldMatrix_any (v_p0 : Value) (p0 : List (List Int)) (W : World) (hr_p0 : RdM W v_p0 p0) {r : Bool × Bool} (hm : impl_toldMatrix_m p0 = some r) : Calls Tryd.prog 25 [v_p0].toArray W fun e w => ∃ v, e = .returned v ∧ v = .tuple #[cond r.1 v_p0 (.slice none 0 0), .bool r.2] ∧ Mem W w [] := by
  refine x_enter Tryd.func25 rfl Tryd.ntmps25 rfl ?_
  intro a hs
  have hM := Mem.start W
  unfold impl_toldMatrix_m at hm
  refine wp_seq ?_
  refine wp_region_lit ?_
  refine wl hs (y_assign hs rfl) rfl ?_; intro a hs
  refine wl hs (y_assign hs rfl) rfl ?_; intro a hs
  refine wpList_nil ?_
  refine x_nt ?_
  refine wp_seq ?_
  refine wp_seq ?_
  refine wp_region_lit ?_
  refine wl hs (y_move hs rfl) rfl ?_; intro a hs
  obtain ⟨y1, h2, hm⟩ := bindE hm
  refine wcall is_18 hs rfl rfl (impl_isMatrix_any v_p0 p0 _ (RdM.below hr_p0 hM.bel) h2) ?_; rintro a _ w hs ⟨rfl, hX⟩
  have hM : Mem W w [] := hM.call hX
  refine wl hs (y_not hs rfl) rfl ?_; intro a hs
  refine wpList_nil ?_
  refine x_nt ?_
  refine x_cond hs rfl (fun hb => ?_) (fun hb => ?_)
  · replace hm := condT hb hm
    refine wp_seq ?_
    refine wp_region_lit ?_
    refine wl hs (y_assign hs rfl) rfl ?_; intro a hs
    refine wl hs (y_assign hs rfl) rfl ?_; intro a hs
    refine wpList_nil ?_
    refine x_nt ?_
    refine wp_ret ?_
    refine x_rt ?_
    have hm : some (false, false) = some r := hm
    obtain rfl := Option.some.inj hm
    refine x_ret2 rfl hs rfl rfl ⟨_, rfl, ?_⟩
    exact ⟨rfl, hM⟩
  · replace hm := condF hb hm
    refine wp_skip ?_
    refine x_nt ?_
    refine wp_seq ?_
    refine wp_region_lit ?_
    refine wl hs (y_move hs rfl) rfl ?_; intro a hs
    refine wl hs (y_assign hs rfl) rfl ?_; intro a hs
    refine wl hs (y_assign hs rfl) rfl ?_; intro a hs
    refine wpList_nil ?_
    refine x_nt ?_
    refine wp_ret ?_
    have hm : some (true, true) = some r := hm
    obtain rfl := Option.some.inj hm
    refine x_ret2 rfl hs rfl rfl ⟨_, rfl, ?_⟩
    exact ⟨rfl, hM⟩

end Go.Proofs.YtcglmncmnlkpmaaDoor
