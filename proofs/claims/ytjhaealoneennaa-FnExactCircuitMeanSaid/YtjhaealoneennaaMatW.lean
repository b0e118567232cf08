/- The code of this unit computes what its mirrors say. Written by program (wip/gen). -/
import Derived.Test.YtjhaealoneennaaFacts
import Derived.Test.YtjhaealoneennaaMatM
import Derived.Test.YtjhaealoneennaaNumW
namespace Go.Proofs.Ytjhaealoneennaa
open Go.RowKit
set_option linter.unusedVariables false

theorem impl_isVector_any (v_p0 : Value) (p0 : List Int) (W : World) (hr_p0 : RdI W v_p0 p0) {r : Bool} (hm : impl_isVector_m p0 = some r) : Calls Try.prog 119 [v_p0].toArray W fun e w => ∃ v, e = .returned v ∧ v = .bool r ∧ Mem W w [] := by
  refine x_enter Try.func119 rfl Try.ntmps119 rfl ?_
  intro a hs
  have hM := Mem.start W
  unfold impl_isVector_m at hm
  refine wp_seq ?_
  refine wp_region_lit ?_
  refine wl hs (y_assign hs rfl) rfl ?_; intro a hs
  refine wpList_nil ?_
  refine x_nt ?_
  refine wp_seq ?_
  refine wp_region_lit ?_
  refine wl hs (y_move hs rfl) rfl ?_; intro a hs
  refine wl hs (y_len hu_I hs rfl (RdI.below hr_p0 hM.bel)) rfl ?_; intro a hs
  obtain ⟨y1, h2, hm⟩ := bindE hm
  refine wcall is_96 hs rfl rfl (impl_within_any (p0.length : Int) 1 6 _  h2) ?_; rintro a _ w hs ⟨rfl, hX⟩
  have hM : Mem W w [] := hM.call hX
  refine wl hs (y_move hs rfl) rfl ?_; intro a hs
  obtain ⟨b3, hb4, hm⟩ := bindE hm
  refine wlguard (N := 10) (L' := [(9, .bool b3), (2, .bool false)]) (fun w => Mem W w []) 3 ?_ ?_
  · intro K; rcases Bool.eq_false_or_eq_true y1 with hg5 | hg5
    · have hm := condT hg5 hb4
      refine wlg hs rfl hg5 (y_move hs rfl) rfl ?_; intro a hs
      obtain ⟨y6, h7, hm⟩ := bindE hm
      refine wcallg is_93 hs rfl hg5 rfl rfl (impl_areNumbers_any v_p0 p0 _ (RdI.below hr_p0 hM.bel) h7) ?_; rintro a _ w hs ⟨rfl, hX⟩
      have hM : Mem W w [] := hM.call hX
      have hm : some y6 = some b3 := hm
      cases Option.some.inj hm
      refine wl hs (y_pickT hs rfl hg5 rfl) rfl ?_; intro a hs
      exact K _ _ (hs.sub ⟨rfl, rfl, trivial⟩) hM
    · have hm := condF hg5 hb4
      refine wls hs rfl hg5 rfl ?_; intro a hs
      refine wls hs rfl hg5 rfl ?_; intro a hs
      have hm : some false = some b3 := hm
      cases Option.some.inj hm
      refine wl hs (y_pickF hs rfl hg5 rfl) rfl ?_; intro a hs
      exact K _ _ (hs.sub ⟨rfl, rfl, trivial⟩) hM
  intro a w hs hM
  simp only [List.drop_succ_cons, List.drop_zero]
  refine wl hs (y_assign hs rfl) rfl ?_; intro a hs
  refine wpList_nil ?_
  refine x_nt ?_
  refine wp_ret ?_
  have hm : some b3 = some r := hm
  obtain rfl := Option.some.inj hm
  refine x_ret1 rfl hs rfl ⟨_, rfl, ?_⟩
  exact ⟨rfl, hM⟩

theorem impl_isMatrix_1_any (v_p0 : Value) (p0 : List Int) (g_p1 : Nat) (v_p1 : Value) (p1 : List (List Int)) (W : World) (hr_p0 : RdI W v_p0 p0) (hr_p1 : RdM W v_p1 p1) (hc_p1 : W.cell? ⟨g_p1, 0, none⟩ = some (v_p1)) (hg_p1 : g_p1 < W.heap.size) {r : Bool} (hm : impl_isMatrix_1_m p0 p1 = some r) : Calls Try.prog 118 [v_p0, .pointer (some ⟨g_p1, 0, none⟩)].toArray W fun e w => ∃ v, e = .returned v ∧ v = .bool r ∧ Mem W w [] := by
  refine x_enter Try.func118 rfl Try.ntmps118 rfl ?_
  intro a hs
  have hM := Mem.start W
  unfold impl_isMatrix_1_m at hm
  refine wp_seq ?_
  refine wp_region_lit ?_
  refine wl hs (y_assign hs rfl) rfl ?_; intro a hs
  refine wpList_nil ?_
  refine x_nt ?_
  refine wp_seq ?_
  refine wp_region_lit ?_
  refine wl hs (y_move hs rfl) rfl ?_; intro a hs
  obtain ⟨y1, h2, hm⟩ := bindE hm
  refine wcall is_119 hs rfl rfl (impl_isVector_any v_p0 p0 _ (RdI.below hr_p0 hM.bel) h2) ?_; rintro a _ w hs ⟨rfl, hX⟩
  have hM : Mem W w [] := hM.call hX
  refine wl hs (y_not hs rfl) rfl ?_; intro a hs
  refine wl hs (y_move hs rfl) rfl ?_; intro a hs
  obtain ⟨b3, hb4, hm⟩ := bindE hm
  refine wlguard (N := 16) (L' := [(15, .bool b3), (3, .bool false)]) (fun w => Mem W w []) 8 ?_ ?_
  · intro K; rcases Bool.eq_false_or_eq_true (!y1) with hg5 | hg5
    · have hm := condT hg5 hb4
      refine wls hs rfl hg5 rfl ?_; intro a hs
      refine wls hs rfl hg5 rfl ?_; intro a hs
      refine wls hs rfl hg5 rfl ?_; intro a hs
      refine wls hs rfl hg5 rfl ?_; intro a hs
      refine wls hs rfl hg5 rfl ?_; intro a hs
      refine wls hs rfl hg5 rfl ?_; intro a hs
      refine wls hs rfl hg5 rfl ?_; intro a hs
      have hm : some true = some b3 := hm
      cases Option.some.inj hm
      refine wl hs (y_pickT hs rfl hg5 rfl) rfl ?_; intro a hs
      exact K _ _ (hs.sub ⟨rfl, rfl, trivial⟩) hM
    · have hm := condF hg5 hb4
      refine wlg hs rfl hg5 (y_move hs rfl) rfl ?_; intro a hs
      refine wlg hs rfl hg5 (y_len hu_I hs rfl (RdI.below hr_p0 hM.bel)) rfl ?_; intro a hs
      refine wlg hs rfl hg5 (y_load sc_M hs rfl ((hM.bel.cell (p := ⟨g_p1, 0, none⟩) hg_p1).trans hc_p1)) rfl ?_; intro a hs
      obtain ⟨x6, hx7, hm⟩ := bindE hm
      obtain ⟨u9, he8, hr10⟩ := RdM.at_ hr_p1 hx7
      replace he8 := he8.below hM.bel
      refine wlg hs rfl hg5 (y_index ht_M hs rfl rfl he8) rfl ?_; intro a hs
      refine wlg hs rfl hg5 (y_load sc_I hs rfl he8.cell) rfl ?_; intro a hs
      refine wlg hs rfl hg5 (y_len hu_I hs rfl (RdI.below hr10 hM.bel)) rfl ?_; intro a hs
      refine wlg hs rfl hg5 (y_neq hs rfl rfl) rfl ?_; intro a hs
      have hm : some ((p0.length : Int) != (x6.length : Int)) = some b3 := hm
      cases Option.some.inj hm
      refine wl hs (y_pickF hs rfl hg5 rfl) rfl ?_; intro a hs
      exact K _ _ (hs.sub ⟨rfl, rfl, trivial⟩) hM
  intro a w hs hM
  simp only [List.drop_succ_cons, List.drop_zero]
  refine wl hs (y_assign hs rfl) rfl ?_; intro a hs
  refine wpList_nil ?_
  refine x_nt ?_
  refine wp_ret ?_
  have hm : some b3 = some r := hm
  obtain rfl := Option.some.inj hm
  refine x_ret1 rfl hs rfl ⟨_, rfl, ?_⟩
  exact ⟨rfl, hM⟩

theorem slices_IndexFunc_int_int_impl_isMatrix_1_any (v_p0 : Value) (p0 : List (List Int)) (g_p10 : Nat) (v_p10 : Value) (p10 : List (List Int)) (W : World) (hr_p0 : RdM W v_p0 p0) (hr_p10 : RdM W v_p10 p10) (hc_p10 : W.cell? ⟨g_p10, 0, none⟩ = some (v_p10)) (hg_p10 : g_p10 < W.heap.size) {r : Int} (hm : slices_IndexFunc_int_int_impl_isMatrix_1_m p0 p10 = some r) : Calls Try.prog 60 [v_p0, .func (.func 118) #[] #[.pointer (some ⟨g_p10, 0, none⟩)]].toArray W fun e w => ∃ v, e = .returned v ∧ v = .int .i64 r ∧ Mem W w [] := by
  refine x_enter Try.func60 rfl Try.ntmps60 rfl ?_
  intro a hs
  have hM := Mem.start W
  unfold slices_IndexFunc_int_int_impl_isMatrix_1_m at hm
  refine wp_seq ?_
  refine wp_region_lit ?_
  refine wl hs (y_assign hs rfl) rfl ?_; intro a hs
  refine wpList_nil ?_
  refine x_nt ?_
  refine wp_seq ?_
  refine wp_seq ?_
  refine wp_region_lit ?_
  refine wl hs (y_move hs rfl) rfl ?_; intro a hs
  refine wl hs (y_len hu_M hs rfl (RdM.below hr_p0 hM.bel)) rfl ?_; intro a hs
  refine wl hs (y_move hs rfl) rfl ?_; intro a hs
  refine wpList_nil ?_
  refine x_nt ?_
  obtain ⟨s2, hm, hk3⟩ := bindE hm
  refine x_mid (fun a w => Sum.inr () = s2 ∧ Fr a 19 [] ∧ Mem W w []) ?_ ?_
  · refine wp_block ?_
    refine x_loop (fun k a w => ∃ (q4 : List (List Int)) (j1 : Nat) , k = q4.length ∧ Fr a 19 [(0, v_p0), (1, .func (.func 118) #[] #[.pointer (some ⟨g_p10, 0, none⟩)]), (7, .int .i64 (p0.length : Int)), (8, .int .i64 (j1 : Int))] ∧ Mem W w [] ∧ slices_IndexFunc_int_int_impl_isMatrix_1_l1 p10 q4 j1 = some s2 ∧ List.drop j1 p0 = q4) _ ⟨p0, 0, rfl, hs.sub ⟨rfl, rfl, rfl, rfl, trivial⟩, hM, hm, rfl⟩ ?_
    rintro k a w ⟨q4, j1, rfl, hs, hM, hm, hj1⟩
    rcases q4 with _ | ⟨x5, q4⟩
    · rewrite [slices_IndexFunc_int_int_impl_isMatrix_1_l1] at hm
      refine wp_seq ?_
      refine wp_region_lit ?_
      refine wl hs (y_lss hs rfl rfl) rfl ?_; intro a hs
      refine wpList_nil ?_
      refine x_nt ?_
      refine wp_seq ?_
      refine x_condF hs rfl (drop_f hj1) ?_
      refine wp_exit ?_
      refine x_et ?_
      refine x_et ?_
      refine x_eb ?_
      have hm : some (Sum.inr ()) = some s2 := hm
      exact ⟨Option.some.inj hm, hs.sub trivial, hM⟩
    · rewrite [slices_IndexFunc_int_int_impl_isMatrix_1_l1] at hm
      have hx6 := drop_idx hj1
      have hsj1 := ck_succ hj1 (RdS.len (RdM.below hr_p0 hM.bel))
      refine wp_seq ?_
      refine wp_region_lit ?_
      refine wl hs (y_lss hs rfl rfl) rfl ?_; intro a hs
      refine wpList_nil ?_
      refine x_nt ?_
      refine wp_seq ?_
      refine x_condT hs rfl (drop_t hj1) ?_
      refine wp_skip ?_
      refine x_nt ?_
      refine wp_seq ?_
      refine wp_block ?_
      refine wp_seq ?_
      refine wp_region_lit ?_
      refine wl hs (y_move hs rfl) rfl ?_; intro a hs
      refine wl hs (y_assign hs rfl) rfl ?_; intro a hs
      refine wpList_nil ?_
      refine x_nt ?_
      refine wp_seq ?_
      refine wp_region_lit ?_
      refine wl hs (y_move hs rfl) rfl ?_; intro a hs
      refine wl hs (y_move hs rfl) rfl ?_; intro a hs
      refine wl hs (y_move hs rfl) rfl ?_; intro a hs
      obtain ⟨u8, he7, hr9⟩ := RdM.at_ hr_p0 hx6
      replace he7 := he7.below hM.bel
      refine wl hs (y_index ht_M hs rfl rfl he7) rfl ?_; intro a hs
      refine wl hs (y_load sc_I hs rfl he7.cell) rfl ?_; intro a hs
      obtain ⟨y10, h11, hm⟩ := bindE hm
      refine wcallv is_118 hs rfl rfl rfl (impl_isMatrix_1_any u8 x5 g_p10 v_p10 p10 _ (RdI.below hr9 hM.bel) (RdM.below hr_p10 hM.bel) ((hM.bel.cell (p := ⟨g_p10, 0, none⟩) hg_p10).trans hc_p10) (Nat.lt_of_lt_of_le hg_p10 hM.bel.size) h11) ?_; rintro a _ w hs ⟨rfl, hX⟩
      have hM : Mem W w [] := hM.call hX
      refine wpList_nil ?_
      refine x_nt ?_
      refine x_cond hs rfl (fun hb => ?_) (fun hb => ?_)
      · replace hm := condT hb hm
        refine wp_seq ?_
        refine wp_region_lit ?_
        refine wl hs (y_move hs rfl) rfl ?_; intro a hs
        refine wl hs (y_assign hs rfl) rfl ?_; intro a hs
        refine wpList_nil ?_
        refine x_nt ?_
        refine wp_ret ?_
        refine x_rb ?_
        refine x_rt ?_
        refine x_rt ?_
        refine x_rb ?_
        refine x_rt ?_
        refine x_rt ?_
        have hm : some (Sum.inl (j1 : Int)) = some s2 := hm
        cases Option.some.inj hm
        have hm := hk3
        have hm : some (j1 : Int) = some r := hm
        obtain rfl := Option.some.inj hm
        refine x_ret1 rfl hs rfl ⟨_, rfl, ?_⟩
        exact ⟨rfl, hM⟩
      · replace hm := condF hb hm
        refine wp_skip ?_
        refine x_nb ?_
        refine x_nt ?_
        refine wp_region_lit ?_
        refine wl hs (y_add hs rfl rfl hsj1) rfl ?_; intro a hs
        refine wl hs (y_move hs rfl) rfl ?_; intro a hs
        refine wpList_nil ?_
        exact ⟨_, by simp, q4, j1 + 1, rfl, hs.sub ⟨rfl, rfl, rfl, rfl, trivial⟩, hM, hm, drop_next hj1⟩
  rintro a w ⟨rfl, hs, hM⟩
  have hm := hk3
  refine x_nt ?_
  refine wp_seq ?_
  refine wp_region_lit ?_
  refine wl hs (y_assign hs rfl) rfl ?_; intro a hs
  refine wpList_nil ?_
  refine x_nt ?_
  refine wp_ret ?_
  have hm : some (-1) = some r := hm
  obtain rfl := Option.some.inj hm
  refine x_ret1 rfl hs rfl ⟨_, rfl, ?_⟩
  exact ⟨rfl, hM⟩

theorem slices_ContainsFunc_int_int_impl_isMatrix_1_any (v_p0 : Value) (p0 : List (List Int)) (g_p10 : Nat) (v_p10 : Value) (p10 : List (List Int)) (W : World) (hr_p0 : RdM W v_p0 p0) (hr_p10 : RdM W v_p10 p10) (hc_p10 : W.cell? ⟨g_p10, 0, none⟩ = some (v_p10)) (hg_p10 : g_p10 < W.heap.size) {r : Bool} (hm : slices_ContainsFunc_int_int_impl_isMatrix_1_m p0 p10 = some r) : Calls Try.prog 101 [v_p0, .func (.func 118) #[] #[.pointer (some ⟨g_p10, 0, none⟩)]].toArray W fun e w => ∃ v, e = .returned v ∧ v = .bool r ∧ Mem W w [] := by
  refine x_enter Try.func101 rfl Try.ntmps101 rfl ?_
  intro a hs
  have hM := Mem.start W
  unfold slices_ContainsFunc_int_int_impl_isMatrix_1_m at hm
  refine wp_seq ?_
  refine wp_region_lit ?_
  refine wl hs (y_assign hs rfl) rfl ?_; intro a hs
  refine wpList_nil ?_
  refine x_nt ?_
  refine wp_seq ?_
  refine wp_region_lit ?_
  refine wl hs (y_move hs rfl) rfl ?_; intro a hs
  refine wl hs (y_move hs rfl) rfl ?_; intro a hs
  obtain ⟨y1, h2, hm⟩ := bindE hm
  refine wcall is_60 hs rfl rfl (slices_IndexFunc_int_int_impl_isMatrix_1_any v_p0 p0 g_p10 v_p10 p10 _ (RdM.below hr_p0 hM.bel) (RdM.below hr_p10 hM.bel) ((hM.bel.cell (p := ⟨g_p10, 0, none⟩) hg_p10).trans hc_p10) (Nat.lt_of_lt_of_le hg_p10 hM.bel.size) h2) ?_; rintro a _ w hs ⟨rfl, hX⟩
  have hM : Mem W w [] := hM.call hX
  refine wl hs (y_geq hs rfl rfl) rfl ?_; intro a hs
  refine wl hs (y_assign hs rfl) rfl ?_; intro a hs
  refine wpList_nil ?_
  refine x_nt ?_
  refine wp_ret ?_
  have hm : some (decide (y1 ≥ 0)) = some r := hm
  obtain rfl := Option.some.inj hm
  refine x_ret1 rfl hs rfl ⟨_, rfl, ?_⟩
  exact ⟨rfl, hM⟩

theorem impl_isMatrix_any (v_p0 : Value) (p0 : List (List Int)) (W : World) (hr_p0 : RdM W v_p0 p0) {r : Bool} (hm : impl_isMatrix_m p0 = some r) : Calls Try.prog 91 [v_p0].toArray W fun e w => ∃ v, e = .returned v ∧ v = .bool r ∧ Mem W w [] := by
  refine x_enter Try.func91 rfl Try.ntmps91 rfl ?_
  intro a hs
  have hM := Mem.start W
  unfold impl_isMatrix_m at hm
  refine wp_seq ?_
  refine wp_region_lit ?_
  refine wmem hs (x_box (RdS.one hr_p0) hs rfl hM) rfl ?_; rintro a _ w hs ⟨g2, rfl, hM⟩
  have hM : Mem W w [aBlk g2 22 [v_p0]] := hM
  refine wl hs (y_assign hs rfl) rfl ?_; intro a hs
  refine wpList_nil ?_
  refine x_nt ?_
  refine wp_seq ?_
  refine wp_seq ?_
  refine wp_region_lit ?_
  refine wl hs (y_load sc_M hs rfl (hM.cellBlk 0 rfl 0 rfl)) rfl ?_; intro a hs
  refine wl hs (y_len hu_M hs rfl (RdM.below hr_p0 hM.bel)) rfl ?_; intro a hs
  obtain ⟨y3, h4, hm⟩ := bindE hm
  refine wcall is_96 hs rfl rfl (impl_within_any (p0.length : Int) 1 6 _  h4) ?_; rintro a _ w hs ⟨rfl, hX⟩
  have hM : Mem W w [aBlk g2 22 [v_p0]] := hM.call hX
  refine wl hs (y_not hs rfl) rfl ?_; intro a hs
  refine wpList_nil ?_
  refine x_nt ?_
  refine x_cond hs rfl (fun hb => ?_) (fun hb => ?_)
  · replace hm := condT hb hm
    refine wp_seq ?_
    refine wp_region_lit ?_
    refine wl hs (y_assign hs rfl) rfl ?_; intro a hs
    refine wpList_nil ?_
    refine x_nt ?_
    refine wp_ret ?_
    refine x_rt ?_
    have hm : some false = some r := hm
    obtain rfl := Option.some.inj hm
    refine x_ret1 rfl hs rfl ⟨_, rfl, ?_⟩
    exact ⟨rfl, hM.none_⟩
  · replace hm := condF hb hm
    refine wp_skip ?_
    refine x_nt ?_
    refine wp_seq ?_
    refine wp_region_lit ?_
    refine wl hs (y_load sc_M hs rfl (hM.cellBlk 0 rfl 0 rfl)) rfl ?_; intro a hs
    refine wl hs (y_makeFunc hs rfl) rfl ?_; intro a hs
    obtain ⟨y5, h6, hm⟩ := bindE hm
    refine wcall is_101 hs rfl rfl (slices_ContainsFunc_int_int_impl_isMatrix_1_any v_p0 p0 g2 v_p0 p0 _ (RdM.below hr_p0 hM.bel) (RdM.below hr_p0 hM.bel) (hM.cellBlk 0 rfl 0 rfl) (hM.ltBlk 0 rfl) h6) ?_; rintro a _ w hs ⟨rfl, hX⟩
    have hM : Mem W w [aBlk g2 22 [v_p0]] := hM.call hX
    refine wl hs (y_not hs rfl) rfl ?_; intro a hs
    refine wl hs (y_assign hs rfl) rfl ?_; intro a hs
    refine wpList_nil ?_
    refine x_nt ?_
    refine wp_ret ?_
    have hm : some (!y5) = some r := hm
    obtain rfl := Option.some.inj hm
    refine x_ret1 rfl hs rfl ⟨_, rfl, ?_⟩
    exact ⟨rfl, hM.none_⟩

theorem impl_isSquare_any (v_p0 : Value) (p0 : List (List Int)) (W : World) (hr_p0 : RdM W v_p0 p0) {r : Bool} (hm : impl_isSquare_m p0 = some r) : Calls Try.prog 50 [v_p0].toArray W fun e w => ∃ v, e = .returned v ∧ v = .bool r ∧ Mem W w [] := by
  refine x_enter Try.func50 rfl Try.ntmps50 rfl ?_
  intro a hs
  have hM := Mem.start W
  unfold impl_isSquare_m at hm
  refine wp_seq ?_
  refine wp_region_lit ?_
  refine wl hs (y_assign hs rfl) rfl ?_; intro a hs
  refine wpList_nil ?_
  refine x_nt ?_
  refine wp_seq ?_
  refine wp_region_lit ?_
  refine wl hs (y_move hs rfl) rfl ?_; intro a hs
  obtain ⟨y1, h2, hm⟩ := bindE hm
  refine wcall is_91 hs rfl rfl (impl_isMatrix_any v_p0 p0 _ (RdM.below hr_p0 hM.bel) h2) ?_; rintro a _ w hs ⟨rfl, hX⟩
  have hM : Mem W w [] := hM.call hX
  refine wl hs (y_move hs rfl) rfl ?_; intro a hs
  obtain ⟨b3, hb4, hm⟩ := bindE hm
  refine wlguard (N := 14) (L' := [(13, .bool b3), (2, .bool false)]) (fun w => Mem W w []) 8 ?_ ?_
  · intro K; rcases Bool.eq_false_or_eq_true y1 with hg5 | hg5
    · have hm := condT hg5 hb4
      refine wlg hs rfl hg5 (y_move hs rfl) rfl ?_; intro a hs
      refine wlg hs rfl hg5 (y_len hu_M hs rfl (RdM.below hr_p0 hM.bel)) rfl ?_; intro a hs
      refine wlg hs rfl hg5 (y_move hs rfl) rfl ?_; intro a hs
      obtain ⟨x6, hx7, hm⟩ := bindE hm
      obtain ⟨u9, he8, hr10⟩ := RdM.at_ hr_p0 hx7
      replace he8 := he8.below hM.bel
      refine wlg hs rfl hg5 (y_index ht_M hs rfl rfl he8) rfl ?_; intro a hs
      refine wlg hs rfl hg5 (y_load sc_I hs rfl he8.cell) rfl ?_; intro a hs
      refine wlg hs rfl hg5 (y_len hu_I hs rfl (RdI.below hr10 hM.bel)) rfl ?_; intro a hs
      refine wlg hs rfl hg5 (y_eql hs rfl rfl) rfl ?_; intro a hs
      have hm : some ((p0.length : Int) == (x6.length : Int)) = some b3 := hm
      cases Option.some.inj hm
      refine wl hs (y_pickT hs rfl hg5 rfl) rfl ?_; intro a hs
      exact K _ _ (hs.sub ⟨rfl, rfl, trivial⟩) hM
    · have hm := condF hg5 hb4
      refine wls hs rfl hg5 rfl ?_; intro a hs
      refine wls hs rfl hg5 rfl ?_; intro a hs
      refine wls hs rfl hg5 rfl ?_; intro a hs
      refine wls hs rfl hg5 rfl ?_; intro a hs
      refine wls hs rfl hg5 rfl ?_; intro a hs
      refine wls hs rfl hg5 rfl ?_; intro a hs
      refine wls hs rfl hg5 rfl ?_; intro a hs
      have hm : some false = some b3 := hm
      cases Option.some.inj hm
      refine wl hs (y_pickF hs rfl hg5 rfl) rfl ?_; intro a hs
      exact K _ _ (hs.sub ⟨rfl, rfl, trivial⟩) hM
  intro a w hs hM
  simp only [List.drop_succ_cons, List.drop_zero]
  refine wl hs (y_assign hs rfl) rfl ?_; intro a hs
  refine wpList_nil ?_
  refine x_nt ?_
  refine wp_ret ?_
  have hm : some b3 = some r := hm
  obtain rfl := Option.some.inj hm
  refine x_ret1 rfl hs rfl ⟨_, rfl, ?_⟩
  exact ⟨rfl, hM⟩

theorem spec_mxVector_any (v_p0 : Value) (p0 : List Int) (W : World) (hr_p0 : RdI W v_p0 p0) {r : Bool} (hm : spec_mxVector_m p0 = some r) : Calls Try.prog 116 [v_p0].toArray W fun e w => ∃ v, e = .returned v ∧ v = .bool r ∧ Mem W w [] := by
  refine x_enter Try.func116 rfl Try.ntmps116 rfl ?_
  intro a hs
  have hM := Mem.start W
  unfold spec_mxVector_m at hm
  refine wp_seq ?_
  refine wp_region_lit ?_
  refine wl hs (y_assign hs rfl) rfl ?_; intro a hs
  refine wpList_nil ?_
  refine x_nt ?_
  refine wp_seq ?_
  refine wp_seq ?_
  refine wp_region_lit ?_
  refine wl hs (y_move hs rfl) rfl ?_; intro a hs
  refine wl hs (y_len hu_I hs rfl (RdI.below hr_p0 hM.bel)) rfl ?_; intro a hs
  refine wl hs (y_move hs rfl) rfl ?_; intro a hs
  refine wpList_nil ?_
  refine x_nt ?_
  obtain ⟨s2, hm, hk3⟩ := bindE hm
  refine x_mid (fun a w => Sum.inr () = s2 ∧ Fr a 18 [(0, v_p0)] ∧ Mem W w []) ?_ ?_
  · refine wp_block ?_
    refine x_loop (fun k a w => ∃ (q4 : List Int) (j1 : Nat) , k = q4.length ∧ Fr a 18 [(0, v_p0), (5, v_p0), (6, .int .i64 (p0.length : Int)), (7, .int .i64 (j1 : Int))] ∧ Mem W w [] ∧ spec_mxVector_l1 q4 j1 = some s2 ∧ List.drop j1 p0 = q4) _ ⟨p0, 0, rfl, hs.sub ⟨rfl, rfl, rfl, rfl, trivial⟩, hM, hm, rfl⟩ ?_
    rintro k a w ⟨q4, j1, rfl, hs, hM, hm, hj1⟩
    rcases q4 with _ | ⟨x5, q4⟩
    · rewrite [spec_mxVector_l1] at hm
      refine wp_seq ?_
      refine wp_region_lit ?_
      refine wl hs (y_lss hs rfl rfl) rfl ?_; intro a hs
      refine wpList_nil ?_
      refine x_nt ?_
      refine wp_seq ?_
      refine x_condF hs rfl (drop_f hj1) ?_
      refine wp_exit ?_
      refine x_et ?_
      refine x_et ?_
      refine x_eb ?_
      have hm : some (Sum.inr ()) = some s2 := hm
      exact ⟨Option.some.inj hm, hs.sub ⟨rfl, trivial⟩, hM⟩
    · rewrite [spec_mxVector_l1] at hm
      have hx6 := drop_idx hj1
      have hsj1 := ck_succ hj1 (RdS.len (RdI.below hr_p0 hM.bel))
      refine wp_seq ?_
      refine wp_region_lit ?_
      refine wl hs (y_lss hs rfl rfl) rfl ?_; intro a hs
      refine wpList_nil ?_
      refine x_nt ?_
      refine wp_seq ?_
      refine x_condT hs rfl (drop_t hj1) ?_
      refine wp_skip ?_
      refine x_nt ?_
      refine wp_seq ?_
      refine wp_block ?_
      refine wp_seq ?_
      refine wp_region_lit ?_
      have he7 := RdI.at_ (RdI.below hr_p0 hM.bel) hx6
      refine wl hs (y_index ht_I hs rfl rfl he7) rfl ?_; intro a hs
      refine wl hs (y_load sc_int hs rfl he7.cell) rfl ?_; intro a hs
      refine wl hs (y_assign hs rfl) rfl ?_; intro a hs
      refine wpList_nil ?_
      refine x_nt ?_
      refine wp_seq ?_
      refine wp_region_lit ?_
      refine wl hs (y_move hs rfl) rfl ?_; intro a hs
      obtain ⟨y8, h9, hm⟩ := bindE hm
      refine wcall is_130 hs rfl rfl (spec_nuGood_any x5 _  h9) ?_; rintro a _ w hs ⟨rfl, hX⟩
      have hM : Mem W w [] := hM.call hX
      refine wl hs (y_not hs rfl) rfl ?_; intro a hs
      refine wpList_nil ?_
      refine x_nt ?_
      refine x_cond hs rfl (fun hb => ?_) (fun hb => ?_)
      · replace hm := condT hb hm
        refine wp_seq ?_
        refine wp_region_lit ?_
        refine wl hs (y_assign hs rfl) rfl ?_; intro a hs
        refine wpList_nil ?_
        refine x_nt ?_
        refine wp_ret ?_
        refine x_rb ?_
        refine x_rt ?_
        refine x_rt ?_
        refine x_rb ?_
        refine x_rt ?_
        refine x_rt ?_
        have hm : some (Sum.inl false) = some s2 := hm
        cases Option.some.inj hm
        have hm := hk3
        have hm : some false = some r := hm
        obtain rfl := Option.some.inj hm
        refine x_ret1 rfl hs rfl ⟨_, rfl, ?_⟩
        exact ⟨rfl, hM⟩
      · replace hm := condF hb hm
        refine wp_skip ?_
        refine x_nb ?_
        refine x_nt ?_
        refine wp_region_lit ?_
        refine wl hs (y_add hs rfl rfl hsj1) rfl ?_; intro a hs
        refine wl hs (y_move hs rfl) rfl ?_; intro a hs
        refine wpList_nil ?_
        exact ⟨_, by simp, q4, j1 + 1, rfl, hs.sub ⟨rfl, rfl, rfl, rfl, trivial⟩, hM, hm, drop_next hj1⟩
  rintro a w ⟨rfl, hs, hM⟩
  have hm := hk3
  refine x_nt ?_
  refine wp_seq ?_
  refine wp_region_lit ?_
  refine wl hs (y_move hs rfl) rfl ?_; intro a hs
  refine wl hs (y_len hu_I hs rfl (RdI.below hr_p0 hM.bel)) rfl ?_; intro a hs
  obtain ⟨y10, h11, hm⟩ := bindE hm
  refine wcall is_55 hs rfl rfl (spec_l1In_any (p0.length : Int) 1 6 _  h11) ?_; rintro a _ w hs ⟨rfl, hX⟩
  have hM : Mem W w [] := hM.call hX
  refine wl hs (y_assign hs rfl) rfl ?_; intro a hs
  refine wpList_nil ?_
  refine x_nt ?_
  refine wp_ret ?_
  have hm : some y10 = some r := hm
  obtain rfl := Option.some.inj hm
  refine x_ret1 rfl hs rfl ⟨_, rfl, ?_⟩
  exact ⟨rfl, hM⟩

set_option maxHeartbeats 4000000 in
theorem spec_mxGood_any (v_p0 : Value) (p0 : List (List Int)) (W : World) (hr_p0 : RdM W v_p0 p0) {r : Bool} (hm : spec_mxGood_m p0 = some r) : Calls Try.prog 87 [v_p0].toArray W fun e w => ∃ v, e = .returned v ∧ v = .bool r ∧ Mem W w [] := by
  refine x_enter Try.func87 rfl Try.ntmps87 rfl ?_
  intro a hs
  have hM := Mem.start W
  unfold spec_mxGood_m at hm
  refine wp_seq ?_
  refine wp_region_lit ?_
  refine wl hs (y_assign hs rfl) rfl ?_; intro a hs
  refine wpList_nil ?_
  refine x_nt ?_
  refine wp_seq ?_
  refine wp_seq ?_
  refine wp_region_lit ?_
  refine wl hs (y_move hs rfl) rfl ?_; intro a hs
  refine wl hs (y_len hu_M hs rfl (RdM.below hr_p0 hM.bel)) rfl ?_; intro a hs
  obtain ⟨y1, h2, hm⟩ := bindE hm
  refine wcall is_55 hs rfl rfl (spec_l1In_any (p0.length : Int) 1 6 _  h2) ?_; rintro a _ w hs ⟨rfl, hX⟩
  have hM : Mem W w [] := hM.call hX
  refine wl hs (y_not hs rfl) rfl ?_; intro a hs
  refine wl hs (y_move hs rfl) rfl ?_; intro a hs
  obtain ⟨b3, hb4, hm⟩ := bindE hm
  refine wlguard (N := 36) (L' := [(16, .bool b3), (0, v_p0)]) (fun w => Mem W w []) 7 ?_ ?_
  · intro K; rcases Bool.eq_false_or_eq_true (!y1) with hg5 | hg5
    · have hm := condT hg5 hb4
      refine wls hs rfl hg5 rfl ?_; intro a hs
      refine wls hs rfl hg5 rfl ?_; intro a hs
      refine wls hs rfl hg5 rfl ?_; intro a hs
      refine wls hs rfl hg5 rfl ?_; intro a hs
      refine wls hs rfl hg5 rfl ?_; intro a hs
      refine wls hs rfl hg5 rfl ?_; intro a hs
      have hm : some true = some b3 := hm
      cases Option.some.inj hm
      refine wl hs (y_pickT hs rfl hg5 rfl) rfl ?_; intro a hs
      exact K _ _ (hs.sub ⟨rfl, rfl, trivial⟩) hM
    · have hm := condF hg5 hb4
      refine wlg hs rfl hg5 (y_move hs rfl) rfl ?_; intro a hs
      obtain ⟨x6, hx7, hm⟩ := bindE hm
      obtain ⟨u9, he8, hr10⟩ := RdM.at_ hr_p0 hx7
      replace he8 := he8.below hM.bel
      refine wlg hs rfl hg5 (y_index ht_M hs rfl rfl he8) rfl ?_; intro a hs
      refine wlg hs rfl hg5 (y_load sc_I hs rfl he8.cell) rfl ?_; intro a hs
      refine wlg hs rfl hg5 (y_len hu_I hs rfl (RdI.below hr10 hM.bel)) rfl ?_; intro a hs
      obtain ⟨y11, h12, hm⟩ := bindE hm
      refine wcallg is_55 hs rfl hg5 rfl rfl (spec_l1In_any (x6.length : Int) 1 6 _  h12) ?_; rintro a _ w hs ⟨rfl, hX⟩
      have hM : Mem W w [] := hM.call hX
      refine wlg hs rfl hg5 (y_not hs rfl) rfl ?_; intro a hs
      have hm : some (!y11) = some b3 := hm
      cases Option.some.inj hm
      refine wl hs (y_pickF hs rfl hg5 rfl) rfl ?_; intro a hs
      exact K _ _ (hs.sub ⟨rfl, rfl, trivial⟩) hM
  intro a w hs hM
  simp only [List.drop_succ_cons, List.drop_zero]
  refine wpList_nil ?_
  refine x_nt ?_
  refine x_cond hs rfl (fun hb => ?_) (fun hb => ?_)
  · replace hm := condT hb hm
    refine wp_seq ?_
    refine wp_region_lit ?_
    refine wl hs (y_assign hs rfl) rfl ?_; intro a hs
    refine wpList_nil ?_
    refine x_nt ?_
    refine wp_ret ?_
    refine x_rt ?_
    have hm : some false = some r := hm
    obtain rfl := Option.some.inj hm
    refine x_ret1 rfl hs rfl ⟨_, rfl, ?_⟩
    exact ⟨rfl, hM⟩
  · replace hm := condF hb hm
    refine wp_skip ?_
    refine x_nt ?_
    refine wp_seq ?_
    refine wp_seq ?_
    refine wp_region_lit ?_
    refine wl hs (y_move hs rfl) rfl ?_; intro a hs
    refine wl hs (y_len hu_M hs rfl (RdM.below hr_p0 hM.bel)) rfl ?_; intro a hs
    refine wl hs (y_move hs rfl) rfl ?_; intro a hs
    refine wpList_nil ?_
    refine x_nt ?_
    obtain ⟨s14, hm, hk15⟩ := bindE hm
    refine x_mid (fun a w => Sum.inr () = s14 ∧ Fr a 36 [] ∧ Mem W w []) ?_ ?_
    · refine wp_block ?_
      refine x_loop (fun k a w => ∃ (q16 : List (List Int)) (j13 : Nat) , k = q16.length ∧ Fr a 36 [(0, v_p0), (17, v_p0), (18, .int .i64 (p0.length : Int)), (19, .int .i64 (j13 : Int))] ∧ Mem W w [] ∧ spec_mxGood_l1 p0 q16 j13 = some s14 ∧ List.drop j13 p0 = q16) _ ⟨p0, 0, rfl, hs.sub ⟨rfl, rfl, rfl, rfl, trivial⟩, hM, hm, rfl⟩ ?_
      rintro k a w ⟨q16, j13, rfl, hs, hM, hm, hj13⟩
      rcases q16 with _ | ⟨x17, q16⟩
      · rewrite [spec_mxGood_l1] at hm
        refine wp_seq ?_
        refine wp_region_lit ?_
        refine wl hs (y_lss hs rfl rfl) rfl ?_; intro a hs
        refine wpList_nil ?_
        refine x_nt ?_
        refine wp_seq ?_
        refine x_condF hs rfl (drop_f hj13) ?_
        refine wp_exit ?_
        refine x_et ?_
        refine x_et ?_
        refine x_eb ?_
        have hm : some (Sum.inr ()) = some s14 := hm
        exact ⟨Option.some.inj hm, hs.sub trivial, hM⟩
      · rewrite [spec_mxGood_l1] at hm
        have hx18 := drop_idx hj13
        have hsj13 := ck_succ hj13 (RdS.len (RdM.below hr_p0 hM.bel))
        refine wp_seq ?_
        refine wp_region_lit ?_
        refine wl hs (y_lss hs rfl rfl) rfl ?_; intro a hs
        refine wpList_nil ?_
        refine x_nt ?_
        refine wp_seq ?_
        refine x_condT hs rfl (drop_t hj13) ?_
        refine wp_skip ?_
        refine x_nt ?_
        refine wp_seq ?_
        refine wp_block ?_
        refine wp_seq ?_
        refine wp_region_lit ?_
        obtain ⟨u20, he19, hr21⟩ := RdM.at_ hr_p0 hx18
        replace he19 := he19.below hM.bel
        refine wl hs (y_index ht_M hs rfl rfl he19) rfl ?_; intro a hs
        refine wl hs (y_load sc_I hs rfl he19.cell) rfl ?_; intro a hs
        refine wl hs (y_assign hs rfl) rfl ?_; intro a hs
        refine wpList_nil ?_
        refine x_nt ?_
        refine wp_seq ?_
        refine wp_region_lit ?_
        refine wl hs (y_move hs rfl) rfl ?_; intro a hs
        refine wl hs (y_len hu_I hs rfl (RdI.below hr21 hM.bel)) rfl ?_; intro a hs
        refine wl hs (y_move hs rfl) rfl ?_; intro a hs
        obtain ⟨x22, hx23, hm⟩ := bindE hm
        obtain ⟨u25, he24, hr26⟩ := RdM.at_ hr_p0 hx23
        replace he24 := he24.below hM.bel
        refine wl hs (y_index ht_M hs rfl rfl he24) rfl ?_; intro a hs
        refine wl hs (y_load sc_I hs rfl he24.cell) rfl ?_; intro a hs
        refine wl hs (y_len hu_I hs rfl (RdI.below hr26 hM.bel)) rfl ?_; intro a hs
        refine wl hs (y_neq hs rfl rfl) rfl ?_; intro a hs
        refine wl hs (y_move hs rfl) rfl ?_; intro a hs
        obtain ⟨b27, hb28, hm⟩ := bindE hm
        refine wlguard (N := 36) (L' := [(34, .bool b27), (0, v_p0), (17, v_p0), (18, .int .i64 (p0.length : Int)), (19, .int .i64 (j13 : Int))]) (fun w => Mem W w []) 4 ?_ ?_
        · intro K; rcases Bool.eq_false_or_eq_true ((x17.length : Int) != (x22.length : Int)) with hg29 | hg29
          · have hm := condT hg29 hb28
            refine wls hs rfl hg29 rfl ?_; intro a hs
            refine wls hs rfl hg29 rfl ?_; intro a hs
            refine wls hs rfl hg29 rfl ?_; intro a hs
            have hm : some true = some b27 := hm
            cases Option.some.inj hm
            refine wl hs (y_pickT hs rfl hg29 rfl) rfl ?_; intro a hs
            exact K _ _ (hs.sub ⟨rfl, rfl, rfl, rfl, rfl, trivial⟩) hM
          · have hm := condF hg29 hb28
            refine wlg hs rfl hg29 (y_move hs rfl) rfl ?_; intro a hs
            obtain ⟨y30, h31, hm⟩ := bindE hm
            refine wcallg is_116 hs rfl hg29 rfl rfl (spec_mxVector_any u20 x17 _ (RdI.below hr21 hM.bel) h31) ?_; rintro a _ w hs ⟨rfl, hX⟩
            have hM : Mem W w [] := hM.call hX
            refine wlg hs rfl hg29 (y_not hs rfl) rfl ?_; intro a hs
            have hm : some (!y30) = some b27 := hm
            cases Option.some.inj hm
            refine wl hs (y_pickF hs rfl hg29 rfl) rfl ?_; intro a hs
            exact K _ _ (hs.sub ⟨rfl, rfl, rfl, rfl, rfl, trivial⟩) hM
        intro a w hs hM
        simp only [List.drop_succ_cons, List.drop_zero]
        refine wpList_nil ?_
        refine x_nt ?_
        refine x_cond hs rfl (fun hb => ?_) (fun hb => ?_)
        · replace hm := condT hb hm
          refine wp_seq ?_
          refine wp_region_lit ?_
          refine wl hs (y_assign hs rfl) rfl ?_; intro a hs
          refine wpList_nil ?_
          refine x_nt ?_
          refine wp_ret ?_
          refine x_rb ?_
          refine x_rt ?_
          refine x_rt ?_
          refine x_rb ?_
          refine x_rt ?_
          refine x_rt ?_
          have hm : some (Sum.inl false) = some s14 := hm
          cases Option.some.inj hm
          have hm := hk15
          have hm : some false = some r := hm
          obtain rfl := Option.some.inj hm
          refine x_ret1 rfl hs rfl ⟨_, rfl, ?_⟩
          exact ⟨rfl, hM⟩
        · replace hm := condF hb hm
          refine wp_skip ?_
          refine x_nb ?_
          refine x_nt ?_
          refine wp_region_lit ?_
          refine wl hs (y_add hs rfl rfl hsj13) rfl ?_; intro a hs
          refine wl hs (y_move hs rfl) rfl ?_; intro a hs
          refine wpList_nil ?_
          exact ⟨_, by simp, q16, j13 + 1, rfl, hs.sub ⟨rfl, rfl, rfl, rfl, trivial⟩, hM, hm, drop_next hj13⟩
    rintro a w ⟨rfl, hs, hM⟩
    have hm := hk15
    refine x_nt ?_
    refine wp_seq ?_
    refine wp_region_lit ?_
    refine wl hs (y_assign hs rfl) rfl ?_; intro a hs
    refine wpList_nil ?_
    refine x_nt ?_
    refine wp_ret ?_
    have hm : some true = some r := hm
    obtain rfl := Option.some.inj hm
    refine x_ret1 rfl hs rfl ⟨_, rfl, ?_⟩
    exact ⟨rfl, hM⟩

theorem spec_mxSquare_any (v_p0 : Value) (p0 : List (List Int)) (W : World) (hr_p0 : RdM W v_p0 p0) {r : Bool} (hm : spec_mxSquare_m p0 = some r) : Calls Try.prog 46 [v_p0].toArray W fun e w => ∃ v, e = .returned v ∧ v = .bool r ∧ Mem W w [] := by
  refine x_enter Try.func46 rfl Try.ntmps46 rfl ?_
  intro a hs
  have hM := Mem.start W
  unfold spec_mxSquare_m at hm
  refine wp_seq ?_
  refine wp_region_lit ?_
  refine wl hs (y_assign hs rfl) rfl ?_; intro a hs
  refine wpList_nil ?_
  refine x_nt ?_
  refine wp_seq ?_
  refine wp_region_lit ?_
  refine wl hs (y_move hs rfl) rfl ?_; intro a hs
  obtain ⟨y1, h2, hm⟩ := bindE hm
  refine wcall is_87 hs rfl rfl (spec_mxGood_any v_p0 p0 _ (RdM.below hr_p0 hM.bel) h2) ?_; rintro a _ w hs ⟨rfl, hX⟩
  have hM : Mem W w [] := hM.call hX
  refine wl hs (y_move hs rfl) rfl ?_; intro a hs
  obtain ⟨b3, hb4, hm⟩ := bindE hm
  refine wlguard (N := 14) (L' := [(13, .bool b3), (2, .bool false)]) (fun w => Mem W w []) 8 ?_ ?_
  · intro K; rcases Bool.eq_false_or_eq_true y1 with hg5 | hg5
    · have hm := condT hg5 hb4
      refine wlg hs rfl hg5 (y_move hs rfl) rfl ?_; intro a hs
      refine wlg hs rfl hg5 (y_len hu_M hs rfl (RdM.below hr_p0 hM.bel)) rfl ?_; intro a hs
      refine wlg hs rfl hg5 (y_move hs rfl) rfl ?_; intro a hs
      obtain ⟨x6, hx7, hm⟩ := bindE hm
      obtain ⟨u9, he8, hr10⟩ := RdM.at_ hr_p0 hx7
      replace he8 := he8.below hM.bel
      refine wlg hs rfl hg5 (y_index ht_M hs rfl rfl he8) rfl ?_; intro a hs
      refine wlg hs rfl hg5 (y_load sc_I hs rfl he8.cell) rfl ?_; intro a hs
      refine wlg hs rfl hg5 (y_len hu_I hs rfl (RdI.below hr10 hM.bel)) rfl ?_; intro a hs
      refine wlg hs rfl hg5 (y_eql hs rfl rfl) rfl ?_; intro a hs
      have hm : some ((p0.length : Int) == (x6.length : Int)) = some b3 := hm
      cases Option.some.inj hm
      refine wl hs (y_pickT hs rfl hg5 rfl) rfl ?_; intro a hs
      exact K _ _ (hs.sub ⟨rfl, rfl, trivial⟩) hM
    · have hm := condF hg5 hb4
      refine wls hs rfl hg5 rfl ?_; intro a hs
      refine wls hs rfl hg5 rfl ?_; intro a hs
      refine wls hs rfl hg5 rfl ?_; intro a hs
      refine wls hs rfl hg5 rfl ?_; intro a hs
      refine wls hs rfl hg5 rfl ?_; intro a hs
      refine wls hs rfl hg5 rfl ?_; intro a hs
      refine wls hs rfl hg5 rfl ?_; intro a hs
      have hm : some false = some b3 := hm
      cases Option.some.inj hm
      refine wl hs (y_pickF hs rfl hg5 rfl) rfl ?_; intro a hs
      exact K _ _ (hs.sub ⟨rfl, rfl, trivial⟩) hM
  intro a w hs hM
  simp only [List.drop_succ_cons, List.drop_zero]
  refine wl hs (y_assign hs rfl) rfl ?_; intro a hs
  refine wpList_nil ?_
  refine x_nt ?_
  refine wp_ret ?_
  have hm : some b3 = some r := hm
  obtain rfl := Option.some.inj hm
  refine x_ret1 rfl hs rfl ⟨_, rfl, ?_⟩
  exact ⟨rfl, hM⟩

theorem impl_toldList_any (v_p0 : Value) (p0 : List Int) (W : World) (hr_p0 : RdI W v_p0 p0) {r : Bool × Bool} (hm : impl_toldList_m p0 = some r) : Calls Try.prog 54 [v_p0].toArray W fun e w => ∃ v, e = .returned v ∧ v = .tuple #[cond r.1 v_p0 (.slice none 0 0), .bool r.2] ∧ Mem W w [] := by
  refine x_enter Try.func54 rfl Try.ntmps54 rfl ?_
  intro a hs
  have hM := Mem.start W
  unfold impl_toldList_m at hm
  refine wp_seq ?_
  refine wp_region_lit ?_
  refine wl hs (y_assign hs rfl) rfl ?_; intro a hs
  refine wl hs (y_assign hs rfl) rfl ?_; intro a hs
  refine wpList_nil ?_
  refine x_nt ?_
  refine wp_seq ?_
  refine wp_seq ?_
  refine wp_region_lit ?_
  refine wl hs (y_move hs rfl) rfl ?_; intro a hs
  obtain ⟨y1, h2, hm⟩ := bindE hm
  refine wcall is_93 hs rfl rfl (impl_areNumbers_any v_p0 p0 _ (RdI.below hr_p0 hM.bel) h2) ?_; rintro a _ w hs ⟨rfl, hX⟩
  have hM : Mem W w [] := hM.call hX
  refine wl hs (y_not hs rfl) rfl ?_; intro a hs
  refine wpList_nil ?_
  refine x_nt ?_
  refine x_cond hs rfl (fun hb => ?_) (fun hb => ?_)
  · replace hm := condT hb hm
    refine wp_seq ?_
    refine wp_region_lit ?_
    refine wl hs (y_assign hs rfl) rfl ?_; intro a hs
    refine wl hs (y_assign hs rfl) rfl ?_; intro a hs
    refine wpList_nil ?_
    refine x_nt ?_
    refine wp_ret ?_
    refine x_rt ?_
    have hm : some (false, false) = some r := hm
    obtain rfl := Option.some.inj hm
    refine x_ret2 rfl hs rfl rfl ⟨_, rfl, ?_⟩
    exact ⟨rfl, hM⟩
  · replace hm := condF hb hm
    refine wp_skip ?_
    refine x_nt ?_
    refine wp_seq ?_
    refine wp_region_lit ?_
    refine wl hs (y_move hs rfl) rfl ?_; intro a hs
    refine wl hs (y_assign hs rfl) rfl ?_; intro a hs
    refine wl hs (y_assign hs rfl) rfl ?_; intro a hs
    refine wpList_nil ?_
    refine x_nt ?_
    refine wp_ret ?_
    have hm : some (true, true) = some r := hm
    obtain rfl := Option.some.inj hm
    refine x_ret2 rfl hs rfl rfl ⟨_, rfl, ?_⟩
    exact ⟨rfl, hM⟩

set_option maxHeartbeats 4000000 in
theorem impl_unit_any (p0 : Int) (W : World)  {r : List (List Int)} (hm : impl_unit_m p0 = some r) : Calls Try.prog 97 [.int .i64 p0].toArray W fun e w => ∃ v, e = .returned v ∧ ∃ vs0, Mem W w [aMat 24 3 v vs0 r] := by
  refine x_enter Try.func97 rfl Try.ntmps97 rfl ?_
  intro a hs
  have hM := Mem.start W
  unfold impl_unit_m at hm
  refine wp_seq ?_
  refine wp_region_lit ?_
  refine wl hs (y_assign hs rfl) rfl ?_; intro a hs
  refine wpList_nil ?_
  refine x_nt ?_
  refine wp_seq ?_
  refine wp_region_lit ?_
  refine wmem hs (x_new0M (ti := 3) ht_M hM) rfl ?_; intro a v2 w hs hM
  have hM : Mem W w [aMat 24 3 v2 ([]) ([])] := hM
  refine wl hs (y_assign hs rfl) rfl ?_; intro a hs
  refine wpList_nil ?_
  refine x_nt ?_
  refine wp_seq ?_
  refine wp_seq ?_
  refine wp_region_lit ?_
  refine wl hs (y_move hs rfl) rfl ?_; intro a hs
  refine wl hs (y_move hs rfl) rfl ?_; intro a hs
  refine wpList_nil ?_
  refine x_nt ?_
  obtain ⟨s10, hm, hk11⟩ := bindE hm
  refine x_mid (fun a w => ∃ (v7 : Value), ∃ (vs8 : List Value), ∃ (l9 : List (List Int)), l9 = s10 ∧ Fr a 33 [(3, v7)] ∧ Mem W w [aMat 24 3 v7 vs8 l9]) ?_ ?_
  · refine wp_block ?_
    obtain ⟨nck, hnck, hm⟩ := bindE hm
    refine x_loop (fun k a w => ∃ (q12 : Nat) (j3 : Nat) (v4 : Value) (vs5 : List Value) (l6 : List (List Int)) , q12 = k ∧ Fr a 33 [(0, .int .i64 p0), (3, v4), (8, .int .i64 p0), (9, .int .i64 (j3 : Int))] ∧ Mem W w [aMat 24 3 v4 vs5 l6] ∧ impl_unit_l1 p0 q12 j3 l6 = some s10 ∧ (p0 - (j3 : Int)).toNat = q12) _ ⟨(p0 - (0 : Nat) : Int).toNat, 0, v2, [], [], rfl, hs.sub ⟨rfl, rfl, rfl, rfl, trivial⟩, hM, hm, rfl⟩ ?_
    rintro k a w ⟨q12, j3, v4, vs5, l6, rfl, hs, hM, hm, hj3⟩
    rcases q12 with _ | q12
    · rewrite [impl_unit_l1] at hm
      refine wp_seq ?_
      refine wp_region_lit ?_
      refine wl hs (y_lss hs rfl rfl) rfl ?_; intro a hs
      refine wpList_nil ?_
      refine x_nt ?_
      refine wp_seq ?_
      refine x_condF hs rfl (cnt_f hj3) ?_
      refine wp_exit ?_
      refine x_et ?_
      refine x_et ?_
      refine x_eb ?_
      have hm : some l6 = some s10 := hm
      exact ⟨v4, vs5, l6, Option.some.inj hm, hs.sub ⟨rfl, trivial⟩, hM⟩
    · rewrite [impl_unit_l1] at hm
      have hsj3 := cnt_succ hj3 hnck
      refine wp_seq ?_
      refine wp_region_lit ?_
      refine wl hs (y_lss hs rfl rfl) rfl ?_; intro a hs
      refine wpList_nil ?_
      refine x_nt ?_
      refine wp_seq ?_
      refine x_condT hs rfl (cnt_t hj3) ?_
      refine wp_skip ?_
      refine x_nt ?_
      refine wp_seq ?_
      refine wp_block ?_
      refine wp_seq ?_
      refine wp_region_lit ?_
      refine wl hs (y_move hs rfl) rfl ?_; intro a hs
      refine wl hs (y_assign hs rfl) rfl ?_; intro a hs
      refine wpList_nil ?_
      refine x_nt ?_
      refine wp_seq ?_
      refine wp_region_lit ?_
      refine wmem hs (x_new0I ht_I hM) rfl ?_; intro a v14 w hs hM
      have hM : Mem W w [aInts 3 v14 ([]), aMat 24 3 v4 vs5 l6] := hM
      refine wl hs (y_assign hs rfl) rfl ?_; intro a hs
      refine wpList_nil ?_
      refine x_nt ?_
      refine wp_seq ?_
      refine wp_seq ?_
      refine wp_region_lit ?_
      refine wl hs (y_move hs rfl) rfl ?_; intro a hs
      refine wl hs (y_move hs rfl) rfl ?_; intro a hs
      refine wpList_nil ?_
      refine x_nt ?_
      obtain ⟨s20, hm, hk21⟩ := bindE hm
      refine x_mid (fun a w => ∃ (v18 : Value), ∃ (l19 : List Int), l19 = s20 ∧ Fr a 33 [(0, .int .i64 p0), (3, v4), (5, v18), (8, .int .i64 p0), (9, .int .i64 (j3 : Int))] ∧ Mem W w [aInts 3 v18 l19, aMat 24 3 v4 vs5 l6]) ?_ ?_
      · refine wp_block ?_
        obtain ⟨nck, hnck, hm⟩ := bindE hm
        refine x_loop (fun k a w => ∃ (q22 : Nat) (j15 : Nat) (v16 : Value) (l17 : List Int) , q22 = k ∧ Fr a 33 [(0, .int .i64 p0), (3, v4), (4, .int .i64 (j3 : Int)), (5, v16), (8, .int .i64 p0), (9, .int .i64 (j3 : Int)), (13, .int .i64 p0), (14, .int .i64 (j15 : Int))] ∧ Mem W w [aInts 3 v16 l17, aMat 24 3 v4 vs5 l6] ∧ impl_unit_l2 j3 q22 j15 l17 = some s20 ∧ (p0 - (j15 : Int)).toNat = q22) _ ⟨(p0 - (0 : Nat) : Int).toNat, 0, v14, [], rfl, hs.sub ⟨rfl, rfl, rfl, rfl, rfl, rfl, rfl, rfl, trivial⟩, hM, hm, rfl⟩ ?_
        rintro k a w ⟨q22, j15, v16, l17, rfl, hs, hM, hm, hj15⟩
        rcases q22 with _ | q22
        · rewrite [impl_unit_l2] at hm
          refine wp_seq ?_
          refine wp_region_lit ?_
          refine wl hs (y_lss hs rfl rfl) rfl ?_; intro a hs
          refine wpList_nil ?_
          refine x_nt ?_
          refine wp_seq ?_
          refine x_condF hs rfl (cnt_f hj15) ?_
          refine wp_exit ?_
          refine x_et ?_
          refine x_et ?_
          refine x_eb ?_
          have hm : some l17 = some s20 := hm
          exact ⟨v16, l17, Option.some.inj hm, hs.sub ⟨rfl, rfl, rfl, rfl, rfl, trivial⟩, hM⟩
        · rewrite [impl_unit_l2] at hm
          have hsj15 := cnt_succ hj15 hnck
          refine wp_seq ?_
          refine wp_region_lit ?_
          refine wl hs (y_lss hs rfl rfl) rfl ?_; intro a hs
          refine wpList_nil ?_
          refine x_nt ?_
          refine wp_seq ?_
          refine x_condT hs rfl (cnt_t hj15) ?_
          refine wp_skip ?_
          refine x_nt ?_
          refine wp_seq ?_
          refine wp_block ?_
          refine wp_seq ?_
          refine wp_region_lit ?_
          refine wl hs (y_move hs rfl) rfl ?_; intro a hs
          refine wl hs (y_assign hs rfl) rfl ?_; intro a hs
          refine wpList_nil ?_
          refine x_nt ?_
          refine wp_seq ?_
          refine wp_region_lit ?_
          refine wl hs (y_move hs rfl) rfl ?_; intro a hs
          refine wl hs (y_move hs rfl) rfl ?_; intro a hs
          refine wl hs (y_eql hs rfl rfl) rfl ?_; intro a hs
          refine wpList_nil ?_
          refine x_nt ?_
          refine x_cond hs rfl (fun hb => ?_) (fun hb => ?_)
          · replace hm := condT hb hm
            refine wp_region_lit ?_
            refine wl hs (y_move hs rfl) rfl ?_; intro a hs
            obtain ⟨l23, h24, hm⟩ := bindE hm
            refine wappI hu_I he_int hs hM rfl rfl h24 rfl rfl rfl ?_; intro a v25 w u26 hs hM
            have hM : Mem W w [aInts 3 v25 l23, aMat 24 3 v4 vs5 l6] := hM
            refine wl hs (y_assign hs rfl) rfl ?_; intro a hs
            refine wpList_nil ?_
            refine x_nb ?_
            refine x_nt ?_
            refine wp_region_lit ?_
            refine wl hs (y_add hs rfl rfl hsj15) rfl ?_; intro a hs
            refine wl hs (y_move hs rfl) rfl ?_; intro a hs
            refine wpList_nil ?_
            exact ⟨_, Nat.lt_succ_self _, q22, j15 + 1, v25, l23, rfl, hs.sub ⟨rfl, rfl, rfl, rfl, rfl, rfl, rfl, rfl, trivial⟩, hM, hm, cnt_next hj15⟩
          · replace hm := condF hb hm
            refine wp_region_lit ?_
            refine wl hs (y_move hs rfl) rfl ?_; intro a hs
            obtain ⟨l27, h28, hm⟩ := bindE hm
            refine wappI hu_I he_int hs hM rfl rfl h28 rfl rfl rfl ?_; intro a v29 w u30 hs hM
            have hM : Mem W w [aInts 3 v29 l27, aMat 24 3 v4 vs5 l6] := hM
            refine wl hs (y_assign hs rfl) rfl ?_; intro a hs
            refine wpList_nil ?_
            refine x_nb ?_
            refine x_nt ?_
            refine wp_region_lit ?_
            refine wl hs (y_add hs rfl rfl hsj15) rfl ?_; intro a hs
            refine wl hs (y_move hs rfl) rfl ?_; intro a hs
            refine wpList_nil ?_
            exact ⟨_, Nat.lt_succ_self _, q22, j15 + 1, v29, l27, rfl, hs.sub ⟨rfl, rfl, rfl, rfl, rfl, rfl, rfl, rfl, trivial⟩, hM, hm, cnt_next hj15⟩
      rintro a w ⟨v18, l19, rfl, hs, hM⟩
      have hm := hk21
      refine x_nt ?_
      refine wp_region_lit ?_
      refine wl hs (y_move hs rfl) rfl ?_; intro a hs
      refine wl hs (y_move hs rfl) rfl ?_; intro a hs
      obtain ⟨l31, h32, hm⟩ := bindE hm
      refine wappM hu_M he_I hs (hM.front 1 rfl) rfl rfl h32 rfl rfl rfl ?_; intro a v33 w u34 hs hM
      have hM : Mem W w [aMat 24 3 v33 (vs5 ++ [v18]) l31] := hM
      refine wl hs (y_assign hs rfl) rfl ?_; intro a hs
      refine wpList_nil ?_
      refine x_nb ?_
      refine x_nt ?_
      refine wp_region_lit ?_
      refine wl hs (y_add hs rfl rfl hsj3) rfl ?_; intro a hs
      refine wl hs (y_move hs rfl) rfl ?_; intro a hs
      refine wpList_nil ?_
      exact ⟨_, Nat.lt_succ_self _, q12, j3 + 1, v33, (vs5 ++ [v18]), l31, rfl, hs.sub ⟨rfl, rfl, rfl, rfl, trivial⟩, hM, hm, cnt_next hj3⟩
  rintro a w ⟨v7, vs8, l9, rfl, hs, hM⟩
  have hm := hk11
  refine x_nt ?_
  refine wp_seq ?_
  refine wp_region_lit ?_
  refine wl hs (y_move hs rfl) rfl ?_; intro a hs
  refine wl hs (y_assign hs rfl) rfl ?_; intro a hs
  refine wpList_nil ?_
  refine x_nt ?_
  refine wp_ret ?_
  have hm : some l9 = some r := hm
  obtain rfl := Option.some.inj hm
  refine x_ret1 rfl hs rfl ⟨_, rfl, ?_⟩
  exact ⟨_, hM⟩

set_option maxHeartbeats 4000000 in
theorem impl_transposed_any (v_p0 : Value) (p0 : List (List Int)) (W : World) (hr_p0 : RdM W v_p0 p0) {r : List (List Int)} (hm : impl_transposed_m p0 = some r) : Calls Try.prog 52 [v_p0].toArray W fun e w => ∃ v, e = .returned v ∧ ∃ vs0, Mem W w [aMat 24 3 v vs0 r] := by
  refine x_enter Try.func52 rfl Try.ntmps52 rfl ?_
  intro a hs
  have hM := Mem.start W
  unfold impl_transposed_m at hm
  refine wp_seq ?_
  refine wp_region_lit ?_
  refine wl hs (y_assign hs rfl) rfl ?_; intro a hs
  refine wpList_nil ?_
  refine x_nt ?_
  refine wp_seq ?_
  refine wp_region_lit ?_
  refine wl hs (y_move hs rfl) rfl ?_; intro a hs
  obtain ⟨x1, hx2, hm⟩ := bindE hm
  obtain ⟨u4, he3, hr5⟩ := RdM.at_ hr_p0 hx2
  replace he3 := he3.below hM.bel
  refine wl hs (y_index ht_M hs rfl rfl he3) rfl ?_; intro a hs
  refine wl hs (y_load sc_I hs rfl he3.cell) rfl ?_; intro a hs
  refine wl hs (y_len hu_I hs rfl (RdI.below hr5 hM.bel)) rfl ?_; intro a hs
  obtain ⟨_, h8, hm⟩ := bindE hm
  refine wmem hs (x_makeM (ti := 3) hu_M he_I hs rfl hM h8) rfl ?_; intro a v7 w hs hM
  have hM : Mem W w [aMat 24 3 v7 (List.replicate ((x1.length : Int)).toNat (.slice none 0 0)) (List.replicate ((x1.length : Int)).toNat ([] : List Int))] := hM
  refine wl hs (y_assign hs rfl) rfl ?_; intro a hs
  refine wpList_nil ?_
  refine x_nt ?_
  refine wp_seq ?_
  refine wp_seq ?_
  refine wp_region_lit ?_
  refine wl hs (y_move hs rfl) rfl ?_; intro a hs
  refine wl hs (y_len hu_M hs rfl (RdM.below hr_p0 hM.bel)) rfl ?_; intro a hs
  refine wl hs (y_move hs rfl) rfl ?_; intro a hs
  refine wpList_nil ?_
  refine x_nt ?_
  obtain ⟨s14, hm, hk15⟩ := bindE hm
  refine x_mid (fun a w => ∃ (vs12 : List Value), ∃ (l13 : List (List Int)), l13 = s14 ∧ Fr a 39 [(3, v7)] ∧ Mem W w [aMat 24 3 v7 vs12 l13]) ?_ ?_
  · refine wp_block ?_
    refine x_loop (fun k a w => ∃ (q16 : List (List Int)) (j9 : Nat) (vs10 : List Value) (l11 : List (List Int)) , k = q16.length ∧ Fr a 39 [(3, v7), (13, v_p0), (14, .int .i64 (p0.length : Int)), (15, .int .i64 (j9 : Int))] ∧ Mem W w [aMat 24 3 v7 vs10 l11] ∧ impl_transposed_l1 q16 j9 l11 = some s14 ∧ List.drop j9 p0 = q16) _ ⟨p0, 0, (List.replicate ((x1.length : Int)).toNat (.slice none 0 0)), (List.replicate ((x1.length : Int)).toNat ([] : List Int)), rfl, hs.sub ⟨rfl, rfl, rfl, rfl, trivial⟩, hM, hm, rfl⟩ ?_
    rintro k a w ⟨q16, j9, vs10, l11, rfl, hs, hM, hm, hj9⟩
    rcases q16 with _ | ⟨x17, q16⟩
    · rewrite [impl_transposed_l1] at hm
      refine wp_seq ?_
      refine wp_region_lit ?_
      refine wl hs (y_lss hs rfl rfl) rfl ?_; intro a hs
      refine wpList_nil ?_
      refine x_nt ?_
      refine wp_seq ?_
      refine x_condF hs rfl (drop_f hj9) ?_
      refine wp_exit ?_
      refine x_et ?_
      refine x_et ?_
      refine x_eb ?_
      have hm : some l11 = some s14 := hm
      exact ⟨vs10, l11, Option.some.inj hm, hs.sub ⟨rfl, trivial⟩, hM⟩
    · rewrite [impl_transposed_l1] at hm
      have hx18 := drop_idx hj9
      have hsj9 := ck_succ hj9 (RdS.len (RdM.below hr_p0 hM.bel))
      refine wp_seq ?_
      refine wp_region_lit ?_
      refine wl hs (y_lss hs rfl rfl) rfl ?_; intro a hs
      refine wpList_nil ?_
      refine x_nt ?_
      refine wp_seq ?_
      refine x_condT hs rfl (drop_t hj9) ?_
      refine wp_skip ?_
      refine x_nt ?_
      refine wp_seq ?_
      refine wp_block ?_
      refine wp_seq ?_
      refine wp_region_lit ?_
      obtain ⟨u20, he19, hr21⟩ := RdM.at_ hr_p0 hx18
      replace he19 := he19.below hM.bel
      refine wl hs (y_index ht_M hs rfl rfl he19) rfl ?_; intro a hs
      refine wl hs (y_load sc_I hs rfl he19.cell) rfl ?_; intro a hs
      refine wl hs (y_assign hs rfl) rfl ?_; intro a hs
      refine wpList_nil ?_
      refine x_nt ?_
      refine wp_seq ?_
      refine wp_region_lit ?_
      refine wl hs (y_move hs rfl) rfl ?_; intro a hs
      refine wl hs (y_len hu_I hs rfl (RdI.below hr21 hM.bel)) rfl ?_; intro a hs
      refine wl hs (y_move hs rfl) rfl ?_; intro a hs
      refine wpList_nil ?_
      refine x_nt ?_
      obtain ⟨s27, hm, hk28⟩ := bindE hm
      refine x_mid (fun a w => ∃ (vs25 : List Value), ∃ (l26 : List (List Int)), l26 = s27 ∧ Fr a 39 [(3, v7), (13, v_p0), (14, .int .i64 (p0.length : Int)), (15, .int .i64 (j9 : Int))] ∧ Mem W w [aMat 24 3 v7 vs25 l26]) ?_ ?_
      · refine wp_block ?_
        refine x_loop (fun k a w => ∃ (q29 : List Int) (j22 : Nat) (vs23 : List Value) (l24 : List (List Int)) , k = q29.length ∧ Fr a 39 [(3, v7), (13, v_p0), (14, .int .i64 (p0.length : Int)), (15, .int .i64 (j9 : Int)), (19, u20), (20, .int .i64 (x17.length : Int)), (21, .int .i64 (j22 : Int))] ∧ Mem W w [aMat 24 3 v7 vs23 l24] ∧ impl_transposed_l2 q29 j22 l24 = some s27 ∧ List.drop j22 x17 = q29) _ ⟨x17, 0, vs10, l11, rfl, hs.sub ⟨rfl, rfl, rfl, rfl, rfl, rfl, rfl, trivial⟩, hM, hm, rfl⟩ ?_
        rintro k a w ⟨q29, j22, vs23, l24, rfl, hs, hM, hm, hj22⟩
        rcases q29 with _ | ⟨x30, q29⟩
        · rewrite [impl_transposed_l2] at hm
          refine wp_seq ?_
          refine wp_region_lit ?_
          refine wl hs (y_lss hs rfl rfl) rfl ?_; intro a hs
          refine wpList_nil ?_
          refine x_nt ?_
          refine wp_seq ?_
          refine x_condF hs rfl (drop_f hj22) ?_
          refine wp_exit ?_
          refine x_et ?_
          refine x_et ?_
          refine x_eb ?_
          have hm : some l24 = some s27 := hm
          exact ⟨vs23, l24, Option.some.inj hm, hs.sub ⟨rfl, rfl, rfl, rfl, trivial⟩, hM⟩
        · rewrite [impl_transposed_l2] at hm
          have hx31 := drop_idx hj22
          have hsj22 := ck_succ hj22 (RdS.len (RdI.below hr21 hM.bel))
          refine wp_seq ?_
          refine wp_region_lit ?_
          refine wl hs (y_lss hs rfl rfl) rfl ?_; intro a hs
          refine wpList_nil ?_
          refine x_nt ?_
          refine wp_seq ?_
          refine x_condT hs rfl (drop_t hj22) ?_
          refine wp_skip ?_
          refine x_nt ?_
          refine wp_seq ?_
          refine wp_block ?_
          refine wp_seq ?_
          refine wp_region_lit ?_
          refine wl hs (y_move hs rfl) rfl ?_; intro a hs
          have he32 := RdI.at_ (RdI.below hr21 hM.bel) hx31
          refine wl hs (y_index ht_I hs rfl rfl he32) rfl ?_; intro a hs
          refine wl hs (y_load sc_int hs rfl he32.cell) rfl ?_; intro a hs
          refine wl hs (y_assign hs rfl) rfl ?_; intro a hs
          refine wl hs (y_assign hs rfl) rfl ?_; intro a hs
          refine wpList_nil ?_
          refine x_nt ?_
          refine wp_region_lit ?_
          refine wl hs (y_move hs rfl) rfl ?_; intro a hs
          refine wl hs (y_move hs rfl) rfl ?_; intro a hs
          refine wl hs (y_move hs rfl) rfl ?_; intro a hs
          refine wl hs (y_move hs rfl) rfl ?_; intro a hs
          obtain ⟨x33, hx34, hm⟩ := bindE hm
          obtain ⟨u36, hv37, he35⟩ := hM.atM 0 rfl hx34
          refine wl hs (y_index ht_M hs rfl rfl he35) rfl ?_; intro a hs
          refine wl hs (y_load sc_I hs rfl he35.cell) rfl ?_; intro a hs
          refine wl hs (y_move hs rfl) rfl ?_; intro a hs
          have hM : Mem W w [aInts 3 u36 x33, aMatO 24 3 v7 vs23 l24 (setO (fun _ => false) ((j22 : Int)).toNat)] := (hM).take rfl hv37 ((idx_spec hx34).2.2)
          obtain ⟨l39, h40, hm⟩ := bindE hm
          refine wappI hu_I he_int hs hM rfl rfl h40 rfl rfl rfl ?_; intro a v41 w u42 hs hM
          have hM : Mem W w [aInts 3 v41 l39, aMatO 24 3 v7 vs23 l24 (setO (fun _ => false) ((j22 : Int)).toNat)] := hM
          obtain ⟨u44, hv45, he43⟩ := hM.atM 1 rfl hx34
          refine wl hs (y_index ht_M hs rfl rfl he43) rfl ?_; intro a hs
          obtain ⟨l46, h47, hm⟩ := bindE hm
          refine wstore hs rfl rfl (x_storeH (out := fun _ => false) he_I hM rfl h47) ?_; intro w hM
          have hM : Mem W w [aMat 24 3 v7 (vs23.set ((j22 : Int)).toNat v41) l46] := hM
          refine wpList_nil ?_
          refine x_nb ?_
          refine x_nt ?_
          refine wp_region_lit ?_
          refine wl hs (y_add hs rfl rfl hsj22) rfl ?_; intro a hs
          refine wl hs (y_move hs rfl) rfl ?_; intro a hs
          refine wpList_nil ?_
          exact ⟨_, by simp, q29, j22 + 1, (vs23.set ((j22 : Int)).toNat v41), l46, rfl, hs.sub ⟨rfl, rfl, rfl, rfl, rfl, rfl, rfl, trivial⟩, hM, hm, drop_next hj22⟩
      rintro a w ⟨vs25, l26, rfl, hs, hM⟩
      have hm := hk28
      refine x_nb ?_
      refine x_nt ?_
      refine wp_region_lit ?_
      refine wl hs (y_add hs rfl rfl hsj9) rfl ?_; intro a hs
      refine wl hs (y_move hs rfl) rfl ?_; intro a hs
      refine wpList_nil ?_
      exact ⟨_, by simp, q16, j9 + 1, vs25, l26, rfl, hs.sub ⟨rfl, rfl, rfl, rfl, trivial⟩, hM, hm, drop_next hj9⟩
  rintro a w ⟨vs12, l13, rfl, hs, hM⟩
  have hm := hk15
  refine x_nt ?_
  refine wp_seq ?_
  refine wp_region_lit ?_
  refine wl hs (y_move hs rfl) rfl ?_; intro a hs
  refine wl hs (y_assign hs rfl) rfl ?_; intro a hs
  refine wpList_nil ?_
  refine x_nt ?_
  refine wp_ret ?_
  have hm : some l13 = some r := hm
  obtain rfl := Option.some.inj hm
  refine x_ret1 rfl hs rfl ⟨_, rfl, ?_⟩
  exact ⟨_, hM⟩

theorem impl_shifted_any (v_p0 : Value) (p0 : List Int) (p1 : Int) (W : World) (hr_p0 : RdI W v_p0 p0) {r : List Int} (hm : impl_shifted_m p0 p1 = some r) : Calls Try.prog 68 [v_p0, .int .i64 p1].toArray W fun e w => ∃ v, e = .returned v ∧ Mem W w [aInts 3 v r] := by
  refine x_enter Try.func68 rfl Try.ntmps68 rfl ?_
  intro a hs
  have hM := Mem.start W
  unfold impl_shifted_m at hm
  refine wp_seq ?_
  refine wp_region_lit ?_
  refine wl hs (y_assign hs rfl) rfl ?_; intro a hs
  refine wpList_nil ?_
  refine x_nt ?_
  refine wp_seq ?_
  refine wp_region_lit ?_
  refine wl hs (y_move hs rfl) rfl ?_; intro a hs
  refine wl hs (y_len hu_I hs rfl (RdI.below hr_p0 hM.bel)) rfl ?_; intro a hs
  obtain ⟨_, h3, hm⟩ := bindE hm
  refine wmem hs (x_make0I hu_I he_int (by omega) hs rfl rfl hM h3) rfl ?_; intro a v2 w hs hM
  have hM : Mem W w [aInts 3 v2 ([])] := hM
  refine wl hs (y_assign hs rfl) rfl ?_; intro a hs
  refine wpList_nil ?_
  refine x_nt ?_
  refine wp_seq ?_
  refine wp_seq ?_
  refine wp_region_lit ?_
  refine wl hs (y_move hs rfl) rfl ?_; intro a hs
  refine wl hs (y_len hu_I hs rfl (RdI.below hr_p0 hM.bel)) rfl ?_; intro a hs
  refine wl hs (y_move hs rfl) rfl ?_; intro a hs
  refine wpList_nil ?_
  refine x_nt ?_
  obtain ⟨s9, hm, hk10⟩ := bindE hm
  refine x_mid (fun a w => ∃ (v7 : Value), ∃ (l8 : List Int), l8 = s9 ∧ Fr a 25 [(5, v7)] ∧ Mem W w [aInts 3 v7 l8]) ?_ ?_
  · refine wp_block ?_
    refine x_loop (fun k a w => ∃ (q11 : List Int) (j4 : Nat) (v5 : Value) (l6 : List Int) , k = q11.length ∧ Fr a 25 [(1, .int .i64 p1), (5, v5), (11, v_p0), (12, .int .i64 (p0.length : Int)), (13, .int .i64 (j4 : Int))] ∧ Mem W w [aInts 3 v5 l6] ∧ impl_shifted_l1 p1 q11 j4 l6 = some s9 ∧ List.drop j4 p0 = q11) _ ⟨p0, 0, v2, [], rfl, hs.sub ⟨rfl, rfl, rfl, rfl, rfl, trivial⟩, hM, hm, rfl⟩ ?_
    rintro k a w ⟨q11, j4, v5, l6, rfl, hs, hM, hm, hj4⟩
    rcases q11 with _ | ⟨x12, q11⟩
    · rewrite [impl_shifted_l1] at hm
      refine wp_seq ?_
      refine wp_region_lit ?_
      refine wl hs (y_lss hs rfl rfl) rfl ?_; intro a hs
      refine wpList_nil ?_
      refine x_nt ?_
      refine wp_seq ?_
      refine x_condF hs rfl (drop_f hj4) ?_
      refine wp_exit ?_
      refine x_et ?_
      refine x_et ?_
      refine x_eb ?_
      have hm : some l6 = some s9 := hm
      exact ⟨v5, l6, Option.some.inj hm, hs.sub ⟨rfl, trivial⟩, hM⟩
    · rewrite [impl_shifted_l1] at hm
      have hx13 := drop_idx hj4
      have hsj4 := ck_succ hj4 (RdS.len (RdI.below hr_p0 hM.bel))
      refine wp_seq ?_
      refine wp_region_lit ?_
      refine wl hs (y_lss hs rfl rfl) rfl ?_; intro a hs
      refine wpList_nil ?_
      refine x_nt ?_
      refine wp_seq ?_
      refine x_condT hs rfl (drop_t hj4) ?_
      refine wp_skip ?_
      refine x_nt ?_
      refine wp_seq ?_
      refine wp_block ?_
      refine wp_seq ?_
      refine wp_region_lit ?_
      have he14 := RdI.at_ (RdI.below hr_p0 hM.bel) hx13
      refine wl hs (y_index ht_I hs rfl rfl he14) rfl ?_; intro a hs
      refine wl hs (y_load sc_int hs rfl he14.cell) rfl ?_; intro a hs
      refine wl hs (y_assign hs rfl) rfl ?_; intro a hs
      refine wpList_nil ?_
      refine x_nt ?_
      refine wp_region_lit ?_
      refine wl hs (y_move hs rfl) rfl ?_; intro a hs
      refine wl hs (y_move hs rfl) rfl ?_; intro a hs
      refine wl hs (y_move hs rfl) rfl ?_; intro a hs
      obtain ⟨y15, h16, hm⟩ := bindE hm
      refine wcall is_62 hs rfl rfl (impl_product_any x12 p1 _  h16) ?_; rintro a _ w hs ⟨rfl, hX⟩
      have hM : Mem W w [aInts 3 v5 l6] := hM.call hX
      obtain ⟨l17, h18, hm⟩ := bindE hm
      refine wappI hu_I he_int hs hM rfl rfl h18 rfl rfl rfl ?_; intro a v19 w u20 hs hM
      have hM : Mem W w [aInts 3 v19 l17] := hM
      refine wl hs (y_assign hs rfl) rfl ?_; intro a hs
      refine wpList_nil ?_
      refine x_nb ?_
      refine x_nt ?_
      refine wp_region_lit ?_
      refine wl hs (y_add hs rfl rfl hsj4) rfl ?_; intro a hs
      refine wl hs (y_move hs rfl) rfl ?_; intro a hs
      refine wpList_nil ?_
      exact ⟨_, by simp, q11, j4 + 1, v19, l17, rfl, hs.sub ⟨rfl, rfl, rfl, rfl, rfl, trivial⟩, hM, hm, drop_next hj4⟩
  rintro a w ⟨v7, l8, rfl, hs, hM⟩
  have hm := hk10
  refine x_nt ?_
  refine wp_seq ?_
  refine wp_region_lit ?_
  refine wl hs (y_move hs rfl) rfl ?_; intro a hs
  refine wl hs (y_assign hs rfl) rfl ?_; intro a hs
  refine wpList_nil ?_
  refine x_nt ?_
  refine wp_ret ?_
  have hm : some l8 = some r := hm
  obtain rfl := Option.some.inj hm
  refine x_ret1 rfl hs rfl ⟨_, rfl, ?_⟩
  exact hM

theorem impl_areOnePerVertex_any (v_p0 : Value) (p0 : List (List Int)) (v_p1 : Value) (p1 : List Int) (W : World) (hr_p0 : RdM W v_p0 p0) (hr_p1 : RdI W v_p1 p1) {r : Bool} (hm : impl_areOnePerVertex_m p0 p1 = some r) : Calls Try.prog 98 [v_p0, v_p1].toArray W fun e w => ∃ v, e = .returned v ∧ v = .bool r ∧ Mem W w [] := by
  refine x_enter Try.func98 rfl Try.ntmps98 rfl ?_
  intro a hs
  have hM := Mem.start W
  unfold impl_areOnePerVertex_m at hm
  refine wp_seq ?_
  refine wp_region_lit ?_
  refine wl hs (y_assign hs rfl) rfl ?_; intro a hs
  refine wpList_nil ?_
  refine x_nt ?_
  refine wp_seq ?_
  refine wp_region_lit ?_
  refine wl hs (y_move hs rfl) rfl ?_; intro a hs
  refine wl hs (y_len hu_I hs rfl (RdI.below hr_p1 hM.bel)) rfl ?_; intro a hs
  refine wl hs (y_move hs rfl) rfl ?_; intro a hs
  refine wl hs (y_len hu_M hs rfl (RdM.below hr_p0 hM.bel)) rfl ?_; intro a hs
  refine wl hs (y_eql hs rfl rfl) rfl ?_; intro a hs
  refine wl hs (y_move hs rfl) rfl ?_; intro a hs
  obtain ⟨b1, hb2, hm⟩ := bindE hm
  refine wlguard (N := 14) (L' := [(13, .bool b1), (4, .bool false)]) (fun w => Mem W w []) 3 ?_ ?_
  · intro K; rcases Bool.eq_false_or_eq_true ((p1.length : Int) == (p0.length : Int)) with hg3 | hg3
    · have hm := condT hg3 hb2
      refine wlg hs rfl hg3 (y_move hs rfl) rfl ?_; intro a hs
      obtain ⟨y4, h5, hm⟩ := bindE hm
      refine wcallg is_122 hs rfl hg3 rfl rfl (impl_areFinite_any v_p1 p1 _ (RdI.below hr_p1 hM.bel) h5) ?_; rintro a _ w hs ⟨rfl, hX⟩
      have hM : Mem W w [] := hM.call hX
      have hm : some y4 = some b1 := hm
      cases Option.some.inj hm
      refine wl hs (y_pickT hs rfl hg3 rfl) rfl ?_; intro a hs
      exact K _ _ (hs.sub ⟨rfl, rfl, trivial⟩) hM
    · have hm := condF hg3 hb2
      refine wls hs rfl hg3 rfl ?_; intro a hs
      refine wls hs rfl hg3 rfl ?_; intro a hs
      have hm : some false = some b1 := hm
      cases Option.some.inj hm
      refine wl hs (y_pickF hs rfl hg3 rfl) rfl ?_; intro a hs
      exact K _ _ (hs.sub ⟨rfl, rfl, trivial⟩) hM
  intro a w hs hM
  simp only [List.drop_succ_cons, List.drop_zero]
  refine wl hs (y_assign hs rfl) rfl ?_; intro a hs
  refine wpList_nil ?_
  refine x_nt ?_
  refine wp_ret ?_
  have hm : some b1 = some r := hm
  obtain rfl := Option.some.inj hm
  refine x_ret1 rfl hs rfl ⟨_, rfl, ?_⟩
  exact ⟨rfl, hM⟩

end Go.Proofs.Ytjhaealoneennaa
