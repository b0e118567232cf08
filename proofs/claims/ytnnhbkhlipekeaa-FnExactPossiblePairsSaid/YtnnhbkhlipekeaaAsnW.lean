/- The code of this unit computes what its mirrors say. Written by program (wip/gen). -/
import Derived.Test.YtnnhbkhlipekeaaFacts
import Derived.Test.YtnnhbkhlipekeaaAsnM
import Derived.Test.YtnnhbkhlipekeaaNumW
import Derived.Test.YtnnhbkhlipekeaaMatW
import Derived.Test.YtnnhbkhlipekeaaOwnW
import Derived.Test.YtnnhbkhlipekeaaAs2W
namespace Go.Proofs.Ytnnhbkhlipekeaa
open Go.RowKit
set_option linter.unusedVariables false

theorem impl_anyAssignment_any (v_p0 : Value) (p0 : List Int) (W : World) (hr_p0 : RdI W v_p0 p0) {r : Bool} (hm : impl_anyAssignment_m p0 = some r) : Calls Try.prog 64 [v_p0].toArray W fun e w => ∃ v, e = .returned v ∧ v = .bool r ∧ Mem W w [] := by
  refine x_enter Try.func64 rfl Try.ntmps64 rfl ?_
  intro a hs
  have hM := Mem.start W
  unfold impl_anyAssignment_m at hm
  refine wp_seq ?_
  refine wp_region_lit ?_
  refine wl hs (y_assign hs rfl) rfl ?_; intro a hs
  refine wpList_nil ?_
  refine x_nt ?_
  refine wp_seq ?_
  refine wp_region_lit ?_
  refine wl hs (y_assign hs rfl) rfl ?_; intro a hs
  refine wpList_nil ?_
  refine x_nt ?_
  refine wp_ret ?_
  have hm : some true = some r := hm
  obtain rfl := Option.some.inj hm
  refine x_ret1 rfl hs rfl ⟨_, rfl, ?_⟩
  exact ⟨rfl, hM⟩

theorem impl_bestOf_1_any_any (v_p0 : Value) (p0 : List Int) (g_m : Nat) (v_m : Value) (m : List (List Int)) (g_out : Nat) (out_0 : Int) (v_out_1 : Value) (out_1 : List Int) (g_allowed : Nat) (W w : World) (As : List Atom) (hr_m : RdM W v_m m) (hM : Mem W w (aInts 3 v_p0 p0 :: aBlk g_m 22 [v_m] :: aBlk g_out 55 [.int .i64 out_0, v_out_1] :: aIntsN 3 v_out_1 out_1 :: aBlk g_allowed 63 [.func (.func 64) #[] #[]] :: As)) {r : Int × (List Int)} (hm : impl_bestOf_1_any_m p0 m out_0 out_1 = some r) : Calls Try.prog 91 [v_p0, .pointer (some ⟨g_m, 0, none⟩), .pointer (some ⟨g_out, 0, none⟩), .pointer (some ⟨g_allowed, 0, none⟩)].toArray w fun e w' => ∃ v, e = .returned v ∧ ∃ v_out_1', v = .tuple #[] ∧ Mem W w' (aInts 3 v_p0 p0 :: aBlk g_m 22 [v_m] :: aBlk g_out 55 [.int .i64 r.1, v_out_1'] :: aIntsN 3 v_out_1' r.2 :: aBlk g_allowed 63 [.func (.func 64) #[] #[]] :: As) := by
  refine x_enter Try.func91 rfl Try.ntmps91 rfl ?_
  intro a hs
  unfold impl_bestOf_1_any_m at hm
  refine wp_seq ?_
  refine wp_region_lit ?_
  refine wl hs (y_load sc_M hs rfl (hM.cellBlk 1 rfl 0 rfl)) rfl ?_; intro a hs
  refine wl hs (y_move hs rfl) rfl ?_; intro a hs
  obtain ⟨y1, h2, hm⟩ := bindE hm
  refine wcall is_49 hs rfl rfl (impl_costOf_any v_m m v_p0 p0 _ (RdM.below hr_m hM.bel) (hM.rdI 0 rfl) h2) ?_; rintro a _ w hs ⟨rfl, hX⟩
  have hM : Mem W w (aInts 3 v_p0 p0 :: aBlk g_m 22 [v_m] :: aBlk g_out 55 [.int .i64 out_0, v_out_1] :: aIntsN 3 v_out_1 out_1 :: aBlk g_allowed 63 [.func (.func 64) #[] #[]] :: As) := hM.call hX
  refine wl hs (y_assign hs rfl) rfl ?_; intro a hs
  refine wpList_nil ?_
  refine x_nt ?_
  refine wp_seq ?_
  refine wp_region_lit ?_
  refine wl hs (y_move hs rfl) rfl ?_; intro a hs
  refine wl hs (y_fieldAddr sT_55 hs rfl rfl) rfl ?_; intro a hs
  refine wl hs (y_load sc_int hs rfl (hM.cellBlk 2 rfl 0 rfl)) rfl ?_; intro a hs
  refine wl hs (y_lss hs rfl rfl) rfl ?_; intro a hs
  refine wl hs (y_move hs rfl) rfl ?_; intro a hs
  obtain ⟨b3, hb4, hm⟩ := bindE hm
  refine wlguard (N := 22) (L' := [(17, .bool b3), (0, v_p0), (2, .pointer (some ⟨g_out, 0, none⟩)), (5, .int .i64 y1)]) (fun w => Mem W w (aInts 3 v_p0 p0 :: aBlk g_m 22 [v_m] :: aBlk g_out 55 [.int .i64 out_0, v_out_1] :: aIntsN 3 v_out_1 out_1 :: aBlk g_allowed 63 [.func (.func 64) #[] #[]] :: As)) 4 ?_ ?_
  · intro K; rcases Bool.eq_false_or_eq_true (decide (y1 < out_0)) with hg5 | hg5
    · have hm := condT hg5 hb4
      refine wlg hs rfl hg5 (y_load sc_63 hs rfl (hM.cellBlk 4 rfl 0 rfl)) rfl ?_; intro a hs
      refine wlg hs rfl hg5 (y_move hs rfl) rfl ?_; intro a hs
      obtain ⟨y6, h7, hm⟩ := bindE hm
      refine wcallgv is_64 hs rfl hg5 rfl rfl rfl (impl_anyAssignment_any v_p0 p0 _ (hM.rdI 0 rfl) h7) ?_; rintro a _ w hs ⟨rfl, hX⟩
      have hM : Mem W w (aInts 3 v_p0 p0 :: aBlk g_m 22 [v_m] :: aBlk g_out 55 [.int .i64 out_0, v_out_1] :: aIntsN 3 v_out_1 out_1 :: aBlk g_allowed 63 [.func (.func 64) #[] #[]] :: As) := hM.call hX
      have hm : some y6 = some b3 := hm
      cases Option.some.inj hm
      refine wl hs (y_pickT hs rfl hg5 rfl) rfl ?_; intro a hs
      exact K _ _ (hs.sub ⟨rfl, rfl, rfl, rfl, trivial⟩) hM
    · have hm := condF hg5 hb4
      refine wls hs rfl hg5 rfl ?_; intro a hs
      refine wls hs rfl hg5 rfl ?_; intro a hs
      refine wls hs rfl hg5 rfl ?_; intro a hs
      have hm : some false = some b3 := hm
      cases Option.some.inj hm
      refine wl hs (y_pickF hs rfl hg5 rfl) rfl ?_; intro a hs
      exact K _ _ (hs.sub ⟨rfl, rfl, rfl, rfl, trivial⟩) hM
  intro a w hs hM
  simp only [List.drop_succ_cons, List.drop_zero]
  refine wpList_nil ?_
  refine x_nt ?_
  refine x_cond hs rfl (fun hb => ?_) (fun hb => ?_)
  · replace hm := condT hb hm
    refine wp_region_lit ?_
    refine wl hs (y_move hs rfl) rfl ?_; intro a hs
    refine wl hs (y_move hs rfl) rfl ?_; intro a hs
    obtain ⟨y8, h9, hm⟩ := bindE hm
    refine wcall is_92 hs rfl rfl (slices_Clone_int_int_any v_p0 p0 _ (hM.rdI 0 rfl) h9) ?_; rintro a v10 w hs hX
    have hM : Mem W w (aInts 3 v10 y8 :: aInts 3 v_p0 p0 :: aBlk g_m 22 [v_m] :: aBlk g_out 55 [.int .i64 out_0, v_out_1] :: aIntsN 3 v_out_1 out_1 :: aBlk g_allowed 63 [.func (.func 64) #[] #[]] :: As) := hM.call hX
    refine wl hs (y_build (cs := [.int .i64 y1, v10]) sT_55 hs rfl ⟨rfl, rfl, rfl, (Mem.one (hM.front 0 rfl)), trivial⟩ rfl) rfl ?_; intro a hs
    obtain ⟨_, h12, hm⟩ := bindE hm
    have hM : Mem W w (aIntsN 3 v10 y8 :: aInts 3 v_p0 p0 :: aBlk g_m 22 [v_m] :: aBlk g_out 55 [.int .i64 out_0, v_out_1] :: aIntsN 3 v_out_1 out_1 :: aBlk g_allowed 63 [.func (.func 64) #[] #[]] :: As) := (hM).toN (toN_of h12)
    refine wstore hs rfl rfl (x_storeS (cs := [.int .i64 out_0, v_out_1]) (us := [.int .i64 y1, v10]) sT_55 ⟨rfl, (Mem.one (hM.front 0 rfl).ofN), trivial⟩ rfl rfl (hM.front 3 rfl)) ?_; intro w hM
    have hM : Mem W w (aBlk g_out 55 [.int .i64 y1, v10] :: aIntsN 3 v10 y8 :: aInts 3 v_p0 p0 :: aBlk g_m 22 [v_m] :: aIntsN 3 v_out_1 out_1 :: aBlk g_allowed 63 [.func (.func 64) #[] #[]] :: As) := hM
    refine wpList_nil ?_
    have hm : some (y1, y8) = some r := hm
    obtain rfl := Option.some.inj hm
    refine x_end0 rfl hs ⟨_, rfl, ?_⟩
    exact ⟨v10, rfl, ((((((hM.front 4 rfl).drop.front 4 rfl).front 2 rfl).front 2 rfl).front 4 rfl).front 4 rfl)⟩
  · replace hm := condF hb hm
    refine wp_skip ?_
    have hm : some (out_0, out_1) = some r := hm
    obtain rfl := Option.some.inj hm
    refine x_end0 rfl hs ⟨_, rfl, ?_⟩
    exact ⟨v_out_1, rfl, hM⟩

set_option maxHeartbeats 4000000 in
theorem impl_permutations_1_any_rec : ∀ (k : Nat) (g_l : Nat) (v_l : Value) (l : List Int) (g_n : Nat) (n : Int) (g_visit : Nat) (g_used : Nat) (v_used : Value) (used : List Bool) (g_next : Nat) (g_m : Nat) (v_m : Value) (m : List (List Int)) (g_out : Nat) (out_0 : Int) (v_out_1 : Value) (out_1 : List Int) (g_allowed : Nat) (W w : World) (As : List Atom) (hr_m : RdM W v_m m) (hM : Mem W w (aBlk g_l 23 [v_l] :: aInts 3 v_l l :: aBlk g_n 3 [.int .i64 n] :: aBlk g_visit 76 [.func (.func 91) #[] #[.pointer (some ⟨g_m, 0, none⟩), .pointer (some ⟨g_out, 0, none⟩), .pointer (some ⟨g_allowed, 0, none⟩)]] :: aBlk g_used 73 [v_used] :: aBools 4 v_used used :: aBlk g_next 1 [.func (.func 104) #[] #[.pointer (some ⟨g_l, 0, none⟩), .pointer (some ⟨g_n, 0, none⟩), .pointer (some ⟨g_visit, 0, none⟩), .pointer (some ⟨g_used, 0, none⟩), .pointer (some ⟨g_next, 0, none⟩)]] :: aBlk g_m 22 [v_m] :: aBlk g_out 55 [.int .i64 out_0, v_out_1] :: aIntsN 3 v_out_1 out_1 :: aBlk g_allowed 63 [.func (.func 64) #[] #[]] :: As)) {r : (List Int) × (List Bool) × Int × (List Int)} (hm : impl_permutations_1_any_r k l n used m out_0 out_1 = some r), Calls Try.prog 104 [.pointer (some ⟨g_l, 0, none⟩), .pointer (some ⟨g_n, 0, none⟩), .pointer (some ⟨g_visit, 0, none⟩), .pointer (some ⟨g_used, 0, none⟩), .pointer (some ⟨g_next, 0, none⟩)].toArray w fun e w' => ∃ v, e = .returned v ∧ ∃ v_l', ∃ v_used', ∃ v_out_1', v = .tuple #[] ∧ Mem W w' (aBlk g_l 23 [v_l'] :: aInts 3 v_l' r.1 :: aBlk g_n 3 [.int .i64 n] :: aBlk g_visit 76 [.func (.func 91) #[] #[.pointer (some ⟨g_m, 0, none⟩), .pointer (some ⟨g_out, 0, none⟩), .pointer (some ⟨g_allowed, 0, none⟩)]] :: aBlk g_used 73 [v_used'] :: aBools 4 v_used' r.2.1 :: aBlk g_next 1 [.func (.func 104) #[] #[.pointer (some ⟨g_l, 0, none⟩), .pointer (some ⟨g_n, 0, none⟩), .pointer (some ⟨g_visit, 0, none⟩), .pointer (some ⟨g_used, 0, none⟩), .pointer (some ⟨g_next, 0, none⟩)]] :: aBlk g_m 22 [v_m] :: aBlk g_out 55 [.int .i64 r.2.2.1, v_out_1'] :: aIntsN 3 v_out_1' r.2.2.2 :: aBlk g_allowed 63 [.func (.func 64) #[] #[]] :: As) := by
  intro k
  induction k with
  | zero => intro g_l v_l l g_n n g_visit g_used v_used used g_next g_m v_m m g_out out_0 v_out_1 out_1 g_allowed W w As hr_m hM r hm; have hm : none = some r := hm; cases hm
  | succ k ih =>
  intro g_l v_l l g_n n g_visit g_used v_used used g_next g_m v_m m g_out out_0 v_out_1 out_1 g_allowed W w As hr_m hM r hm
  have hm : impl_permutations_1_any_b (impl_permutations_1_any_r k) l n used m out_0 out_1 = some r := hm
  generalize impl_permutations_1_any_r k = rec at hm ih
  refine x_enter Try.func104 rfl Try.ntmps104 rfl ?_
  intro a hs
  unfold impl_permutations_1_any_b at hm
  refine wp_seq ?_
  refine wp_seq ?_
  refine wp_region_lit ?_
  refine wl hs (y_load sc_I hs rfl (hM.cellBlk 0 rfl 0 rfl)) rfl ?_; intro a hs
  refine wl hs (y_len hu_I hs rfl (hM.rdI 1 rfl)) rfl ?_; intro a hs
  refine wl hs (y_load sc_int hs rfl (hM.cellBlk 2 rfl 0 rfl)) rfl ?_; intro a hs
  refine wl hs (y_eql hs rfl rfl) rfl ?_; intro a hs
  refine wpList_nil ?_
  refine x_nt ?_
  refine x_cond hs rfl (fun hb => ?_) (fun hb => ?_)
  · replace hm := condT hb hm
    refine wp_seq ?_
    refine wp_region_lit ?_
    refine wl hs (y_load sc_76 hs rfl (hM.cellBlk 3 rfl 0 rfl)) rfl ?_; intro a hs
    refine wl hs (y_load sc_I hs rfl (hM.cellBlk 0 rfl 0 rfl)) rfl ?_; intro a hs
    obtain ⟨y1, h2, hm⟩ := bindE hm
    refine wcallv is_91 hs rfl rfl rfl (impl_bestOf_1_any_any v_l l g_m v_m m g_out out_0 v_out_1 out_1 g_allowed _ _ _ hr_m (((((((((((hM.front 6 rfl).front 6 rfl).front 6 rfl).front 6 rfl).front 6 rfl).front 5 rfl).front 10 rfl).front 10 rfl).front 10 rfl).front 10 rfl).front 10 rfl) h2) ?_; rintro a _ w hs ⟨v3, rfl, hM⟩
    have hM : Mem W w (aInts 3 v_l l :: aBlk g_m 22 [v_m] :: aBlk g_out 55 [.int .i64 y1.1, v3] :: aIntsN 3 v3 y1.2 :: aBlk g_allowed 63 [.func (.func 64) #[] #[]] :: aBlk g_l 23 [v_l] :: aBlk g_n 3 [.int .i64 n] :: aBlk g_visit 76 [.func (.func 91) #[] #[.pointer (some ⟨g_m, 0, none⟩), .pointer (some ⟨g_out, 0, none⟩), .pointer (some ⟨g_allowed, 0, none⟩)]] :: aBlk g_used 73 [v_used] :: aBools 4 v_used used :: aBlk g_next 1 [.func (.func 104) #[] #[.pointer (some ⟨g_l, 0, none⟩), .pointer (some ⟨g_n, 0, none⟩), .pointer (some ⟨g_visit, 0, none⟩), .pointer (some ⟨g_used, 0, none⟩), .pointer (some ⟨g_next, 0, none⟩)]] :: As) := hM
    refine wpList_nil ?_
    refine x_nt ?_
    refine wp_ret ?_
    refine x_rt ?_
    have hm : some (l, used, y1.1, y1.2) = some r := hm
    obtain rfl := Option.some.inj hm
    refine x_ret0 rfl hs  ⟨_, rfl, ?_⟩
    exact ⟨v_l, v_used, v3, rfl, (((((((((((hM.front 4 rfl).front 4 rfl).front 4 rfl).front 4 rfl).front 10 rfl).front 10 rfl).front 10 rfl).front 10 rfl).front 10 rfl).front 9 rfl).front 10 rfl)⟩
  · replace hm := condF hb hm
    refine wp_skip ?_
    refine x_nt ?_
    refine wp_seq ?_
    refine wp_region_lit ?_
    refine wl hs (y_load sc_int hs rfl (hM.cellBlk 2 rfl 0 rfl)) rfl ?_; intro a hs
    refine wl hs (y_move hs rfl) rfl ?_; intro a hs
    refine wpList_nil ?_
    refine x_nt ?_
    obtain ⟨s19, hm, hk20⟩ := bindE hm
    refine x_mid (fun a w => ∃ (v12 : Value), ∃ (l13 : List Int), ∃ (v14 : Value), ∃ (l15 : List Bool), ∃ (v16 : Value), ∃ (l17 : List Int), ∃ (n18 : Int), (l13, l15, l17, n18) = s19 ∧ Fr a 39 [] ∧ Mem W w (aBlk g_l 23 [v12] :: aInts 3 v12 l13 :: aBlk g_n 3 [.int .i64 n] :: aBlk g_visit 76 [.func (.func 91) #[] #[.pointer (some ⟨g_m, 0, none⟩), .pointer (some ⟨g_out, 0, none⟩), .pointer (some ⟨g_allowed, 0, none⟩)]] :: aBlk g_used 73 [v14] :: aBools 4 v14 l15 :: aBlk g_next 1 [.func (.func 104) #[] #[.pointer (some ⟨g_l, 0, none⟩), .pointer (some ⟨g_n, 0, none⟩), .pointer (some ⟨g_visit, 0, none⟩), .pointer (some ⟨g_used, 0, none⟩), .pointer (some ⟨g_next, 0, none⟩)]] :: aBlk g_m 22 [v_m] :: aBlk g_out 55 [.int .i64 n18, v16] :: aIntsN 3 v16 l17 :: aBlk g_allowed 63 [.func (.func 64) #[] #[]] :: As)) ?_ ?_
    · refine wp_block ?_
      obtain ⟨nck, hnck, hm⟩ := bindE hm
      refine x_loop (fun k a w => ∃ (q21 : Nat) (j4 : Nat) (v5 : Value) (l6 : List Int) (v7 : Value) (l8 : List Bool) (v9 : Value) (l10 : List Int) (n11 : Int) , q21 = k ∧ Fr a 39 [(0, .pointer (some ⟨g_l, 0, none⟩)), (3, .pointer (some ⟨g_used, 0, none⟩)), (4, .pointer (some ⟨g_next, 0, none⟩)), (13, .int .i64 n), (14, .int .i64 (j4 : Int))] ∧ Mem W w (aBlk g_l 23 [v5] :: aInts 3 v5 l6 :: aBlk g_n 3 [.int .i64 n] :: aBlk g_visit 76 [.func (.func 91) #[] #[.pointer (some ⟨g_m, 0, none⟩), .pointer (some ⟨g_out, 0, none⟩), .pointer (some ⟨g_allowed, 0, none⟩)]] :: aBlk g_used 73 [v7] :: aBools 4 v7 l8 :: aBlk g_next 1 [.func (.func 104) #[] #[.pointer (some ⟨g_l, 0, none⟩), .pointer (some ⟨g_n, 0, none⟩), .pointer (some ⟨g_visit, 0, none⟩), .pointer (some ⟨g_used, 0, none⟩), .pointer (some ⟨g_next, 0, none⟩)]] :: aBlk g_m 22 [v_m] :: aBlk g_out 55 [.int .i64 n11, v9] :: aIntsN 3 v9 l10 :: aBlk g_allowed 63 [.func (.func 64) #[] #[]] :: As) ∧ impl_permutations_1_any_l1 n m rec q21 j4 l6 l8 l10 n11 = some s19 ∧ (n - (j4 : Int)).toNat = q21) _ ⟨(n - (0 : Nat) : Int).toNat, 0, v_l, l, v_used, used, v_out_1, out_1, out_0, rfl, hs.sub ⟨rfl, rfl, rfl, rfl, rfl, trivial⟩, hM, hm, rfl⟩ ?_
      rintro k a w ⟨q21, j4, v5, l6, v7, l8, v9, l10, n11, rfl, hs, hM, hm, hj4⟩
      rcases q21 with _ | q21
      · rewrite [impl_permutations_1_any_l1] at hm
        refine wp_seq ?_
        refine wp_region_lit ?_
        refine wl hs (y_lss hs rfl rfl) rfl ?_; intro a hs
        refine wpList_nil ?_
        refine x_nt ?_
        refine wp_seq ?_
        refine x_condF hs rfl (cnt_f hj4) ?_
        refine wp_exit ?_
        refine x_et ?_
        refine x_et ?_
        refine x_eb ?_
        have hm : some (l6, l8, l10, n11) = some s19 := hm
        exact ⟨v5, l6, v7, l8, v9, l10, n11, Option.some.inj hm, hs.sub trivial, hM⟩
      · rewrite [impl_permutations_1_any_l1] at hm
        have hsj4 := cnt_succ hj4 hnck
        refine wp_seq ?_
        refine wp_region_lit ?_
        refine wl hs (y_lss hs rfl rfl) rfl ?_; intro a hs
        refine wpList_nil ?_
        refine x_nt ?_
        refine wp_seq ?_
        refine x_condT hs rfl (cnt_t hj4) ?_
        refine wp_skip ?_
        refine x_nt ?_
        refine wp_seq ?_
        refine wp_block ?_
        refine wp_seq ?_
        refine wp_region_lit ?_
        refine wl hs (y_move hs rfl) rfl ?_; intro a hs
        refine wl hs (y_assign hs rfl) rfl ?_; intro a hs
        refine wpList_nil ?_
        refine x_nt ?_
        refine wp_seq ?_
        refine wp_seq ?_
        refine wp_region_lit ?_
        refine wl hs (y_load sc_B hs rfl (hM.cellBlk 4 rfl 0 rfl)) rfl ?_; intro a hs
        refine wl hs (y_move hs rfl) rfl ?_; intro a hs
        obtain ⟨x22, hx23, hm⟩ := bindE hm
        have he24 := RdB.at_ (hM.rdB 5 rfl) hx23
        refine wl hs (y_index ht_B hs rfl rfl he24) rfl ?_; intro a hs
        refine wl hs (y_load sc_bool hs rfl he24.cell) rfl ?_; intro a hs
        refine wpList_nil ?_
        refine x_nt ?_
        refine x_cond hs rfl (fun hb => ?_) (fun hb => ?_)
        · replace hm := condT hb hm
          refine wp_exit ?_
          refine x_et ?_
          refine x_eb ?_
          refine x_nt ?_
          refine wp_region_lit ?_
          refine wl hs (y_add hs rfl rfl hsj4) rfl ?_; intro a hs
          refine wl hs (y_move hs rfl) rfl ?_; intro a hs
          refine wpList_nil ?_
          exact ⟨_, Nat.lt_succ_self _, q21, j4 + 1, v5, l6, v7, l8, v9, l10, n11, rfl, hs.sub ⟨rfl, rfl, rfl, rfl, rfl, trivial⟩, hM, hm, cnt_next hj4⟩
        · replace hm := condF hb hm
          refine wp_skip ?_
          refine x_nt ?_
          refine wp_seq ?_
          refine wp_region_lit ?_
          refine wl hs (y_load sc_B hs rfl (hM.cellBlk 4 rfl 0 rfl)) rfl ?_; intro a hs
          refine wl hs (y_move hs rfl) rfl ?_; intro a hs
          have he25 := RdB.at_ (hM.rdB 5 rfl) hx23
          refine wl hs (y_index ht_B hs rfl rfl he25) rfl ?_; intro a hs
          obtain ⟨l26, h27, hm⟩ := bindE hm
          refine wstore hs rfl rfl (x_storeB he_bool (hM.front 5 rfl) h27) ?_; intro w hM
          have hM : Mem W w (aBools 4 v7 l26 :: aBlk g_l 23 [v5] :: aInts 3 v5 l6 :: aBlk g_n 3 [.int .i64 n] :: aBlk g_visit 76 [.func (.func 91) #[] #[.pointer (some ⟨g_m, 0, none⟩), .pointer (some ⟨g_out, 0, none⟩), .pointer (some ⟨g_allowed, 0, none⟩)]] :: aBlk g_used 73 [v7] :: aBlk g_next 1 [.func (.func 104) #[] #[.pointer (some ⟨g_l, 0, none⟩), .pointer (some ⟨g_n, 0, none⟩), .pointer (some ⟨g_visit, 0, none⟩), .pointer (some ⟨g_used, 0, none⟩), .pointer (some ⟨g_next, 0, none⟩)]] :: aBlk g_m 22 [v_m] :: aBlk g_out 55 [.int .i64 n11, v9] :: aIntsN 3 v9 l10 :: aBlk g_allowed 63 [.func (.func 64) #[] #[]] :: As) := hM
          refine wpList_nil ?_
          refine x_nt ?_
          refine wp_seq ?_
          refine wp_region_lit ?_
          refine wl hs (y_load sc_I hs rfl (hM.cellBlk 1 rfl 0 rfl)) rfl ?_; intro a hs
          refine wl hs (y_move hs rfl) rfl ?_; intro a hs
          obtain ⟨l28, h29, hm⟩ := bindE hm
          refine wappI hu_I he_int hs (hM.front 2 rfl) rfl rfl h29 rfl rfl rfl ?_; intro a v30 w u31 hs hM
          have hM : Mem W w (aInts 3 v30 l28 :: aBools 4 v7 l26 :: aBlk g_l 23 [v5] :: aBlk g_n 3 [.int .i64 n] :: aBlk g_visit 76 [.func (.func 91) #[] #[.pointer (some ⟨g_m, 0, none⟩), .pointer (some ⟨g_out, 0, none⟩), .pointer (some ⟨g_allowed, 0, none⟩)]] :: aBlk g_used 73 [v7] :: aBlk g_next 1 [.func (.func 104) #[] #[.pointer (some ⟨g_l, 0, none⟩), .pointer (some ⟨g_n, 0, none⟩), .pointer (some ⟨g_visit, 0, none⟩), .pointer (some ⟨g_used, 0, none⟩), .pointer (some ⟨g_next, 0, none⟩)]] :: aBlk g_m 22 [v_m] :: aBlk g_out 55 [.int .i64 n11, v9] :: aIntsN 3 v9 l10 :: aBlk g_allowed 63 [.func (.func 64) #[] #[]] :: As) := hM
          refine wstore hs rfl rfl (x_storeBlk he_I (Mem.one (hM.front 0 rfl)) (hM.front 2 rfl)) ?_; intro w hM
          have hM : Mem W w (aBlk g_l 23 [v30] :: aInts 3 v30 l28 :: aBools 4 v7 l26 :: aBlk g_n 3 [.int .i64 n] :: aBlk g_visit 76 [.func (.func 91) #[] #[.pointer (some ⟨g_m, 0, none⟩), .pointer (some ⟨g_out, 0, none⟩), .pointer (some ⟨g_allowed, 0, none⟩)]] :: aBlk g_used 73 [v7] :: aBlk g_next 1 [.func (.func 104) #[] #[.pointer (some ⟨g_l, 0, none⟩), .pointer (some ⟨g_n, 0, none⟩), .pointer (some ⟨g_visit, 0, none⟩), .pointer (some ⟨g_used, 0, none⟩), .pointer (some ⟨g_next, 0, none⟩)]] :: aBlk g_m 22 [v_m] :: aBlk g_out 55 [.int .i64 n11, v9] :: aIntsN 3 v9 l10 :: aBlk g_allowed 63 [.func (.func 64) #[] #[]] :: As) := hM
          refine wpList_nil ?_
          refine x_nt ?_
          refine wp_seq ?_
          refine wp_region_lit ?_
          refine wl hs (y_load sc_1 hs rfl (hM.cellBlk 6 rfl 0 rfl)) rfl ?_; intro a hs
          obtain ⟨y32, h33, hm⟩ := bindE hm
          refine wcallv is_104 hs rfl rfl rfl (ih g_l v30 l28 g_n n g_visit g_used v7 l26 g_next g_m v_m m g_out n11 v9 l10 g_allowed _ _ _ hr_m (((((((((((hM.front 10 rfl).front 10 rfl).front 10 rfl).front 10 rfl).front 10 rfl).front 7 rfl).front 10 rfl).front 10 rfl).front 10 rfl).front 10 rfl).front 10 rfl) h33) ?_; rintro a _ w hs ⟨v34, v35, v36, rfl, hM⟩
          have hM : Mem W w (aBlk g_l 23 [v34] :: aInts 3 v34 y32.1 :: aBlk g_n 3 [.int .i64 n] :: aBlk g_visit 76 [.func (.func 91) #[] #[.pointer (some ⟨g_m, 0, none⟩), .pointer (some ⟨g_out, 0, none⟩), .pointer (some ⟨g_allowed, 0, none⟩)]] :: aBlk g_used 73 [v35] :: aBools 4 v35 y32.2.1 :: aBlk g_next 1 [.func (.func 104) #[] #[.pointer (some ⟨g_l, 0, none⟩), .pointer (some ⟨g_n, 0, none⟩), .pointer (some ⟨g_visit, 0, none⟩), .pointer (some ⟨g_used, 0, none⟩), .pointer (some ⟨g_next, 0, none⟩)]] :: aBlk g_m 22 [v_m] :: aBlk g_out 55 [.int .i64 y32.2.2.1, v36] :: aIntsN 3 v36 y32.2.2.2 :: aBlk g_allowed 63 [.func (.func 64) #[] #[]] :: As) := hM
          refine wpList_nil ?_
          refine x_nt ?_
          refine wp_seq ?_
          refine wp_region_lit ?_
          refine wl hs (y_load sc_I hs rfl (hM.cellBlk 0 rfl 0 rfl)) rfl ?_; intro a hs
          refine wl hs (y_load sc_I hs rfl (hM.cellBlk 0 rfl 0 rfl)) rfl ?_; intro a hs
          refine wl hs (y_len hu_I hs rfl (hM.rdI 1 rfl)) rfl ?_; intro a hs
          obtain ⟨n37, h38, hm⟩ := bindE hm
          refine wl hs (y_sub hs rfl rfl h38) rfl ?_; intro a hs
          obtain ⟨l39, h40, hm⟩ := bindE hm
          obtain ⟨v41, h42, hM⟩ := (hM.front 1 rfl).cutI hu_I he_int h40
          have hM : Mem W w (aInts 3 v41 l39 :: aBlk g_l 23 [v34] :: aBlk g_n 3 [.int .i64 n] :: aBlk g_visit 76 [.func (.func 91) #[] #[.pointer (some ⟨g_m, 0, none⟩), .pointer (some ⟨g_out, 0, none⟩), .pointer (some ⟨g_allowed, 0, none⟩)]] :: aBlk g_used 73 [v35] :: aBools 4 v35 y32.2.1 :: aBlk g_next 1 [.func (.func 104) #[] #[.pointer (some ⟨g_l, 0, none⟩), .pointer (some ⟨g_n, 0, none⟩), .pointer (some ⟨g_visit, 0, none⟩), .pointer (some ⟨g_used, 0, none⟩), .pointer (some ⟨g_next, 0, none⟩)]] :: aBlk g_m 22 [v_m] :: aBlk g_out 55 [.int .i64 y32.2.2.1, v36] :: aIntsN 3 v36 y32.2.2.2 :: aBlk g_allowed 63 [.func (.func 64) #[] #[]] :: As) := hM
          refine wl hs (y_cut hs rfl rfl h42) rfl ?_; intro a hs
          refine wstore hs rfl rfl (x_storeBlk he_I (Mem.one (hM.front 0 rfl)) (hM.front 1 rfl)) ?_; intro w hM
          have hM : Mem W w (aBlk g_l 23 [v41] :: aInts 3 v41 l39 :: aBlk g_n 3 [.int .i64 n] :: aBlk g_visit 76 [.func (.func 91) #[] #[.pointer (some ⟨g_m, 0, none⟩), .pointer (some ⟨g_out, 0, none⟩), .pointer (some ⟨g_allowed, 0, none⟩)]] :: aBlk g_used 73 [v35] :: aBools 4 v35 y32.2.1 :: aBlk g_next 1 [.func (.func 104) #[] #[.pointer (some ⟨g_l, 0, none⟩), .pointer (some ⟨g_n, 0, none⟩), .pointer (some ⟨g_visit, 0, none⟩), .pointer (some ⟨g_used, 0, none⟩), .pointer (some ⟨g_next, 0, none⟩)]] :: aBlk g_m 22 [v_m] :: aBlk g_out 55 [.int .i64 y32.2.2.1, v36] :: aIntsN 3 v36 y32.2.2.2 :: aBlk g_allowed 63 [.func (.func 64) #[] #[]] :: As) := hM
          refine wpList_nil ?_
          refine x_nt ?_
          refine wp_region_lit ?_
          refine wl hs (y_load sc_B hs rfl (hM.cellBlk 4 rfl 0 rfl)) rfl ?_; intro a hs
          refine wl hs (y_move hs rfl) rfl ?_; intro a hs
          obtain ⟨x43, hx44, hm⟩ := bindE hm
          have he45 := RdB.at_ (hM.rdB 5 rfl) hx44
          refine wl hs (y_index ht_B hs rfl rfl he45) rfl ?_; intro a hs
          obtain ⟨l46, h47, hm⟩ := bindE hm
          refine wstore hs rfl rfl (x_storeB he_bool (hM.front 5 rfl) h47) ?_; intro w hM
          have hM : Mem W w (aBools 4 v35 l46 :: aBlk g_l 23 [v41] :: aInts 3 v41 l39 :: aBlk g_n 3 [.int .i64 n] :: aBlk g_visit 76 [.func (.func 91) #[] #[.pointer (some ⟨g_m, 0, none⟩), .pointer (some ⟨g_out, 0, none⟩), .pointer (some ⟨g_allowed, 0, none⟩)]] :: aBlk g_used 73 [v35] :: aBlk g_next 1 [.func (.func 104) #[] #[.pointer (some ⟨g_l, 0, none⟩), .pointer (some ⟨g_n, 0, none⟩), .pointer (some ⟨g_visit, 0, none⟩), .pointer (some ⟨g_used, 0, none⟩), .pointer (some ⟨g_next, 0, none⟩)]] :: aBlk g_m 22 [v_m] :: aBlk g_out 55 [.int .i64 y32.2.2.1, v36] :: aIntsN 3 v36 y32.2.2.2 :: aBlk g_allowed 63 [.func (.func 64) #[] #[]] :: As) := hM
          refine wpList_nil ?_
          refine x_nb ?_
          refine x_nt ?_
          refine wp_region_lit ?_
          refine wl hs (y_add hs rfl rfl hsj4) rfl ?_; intro a hs
          refine wl hs (y_move hs rfl) rfl ?_; intro a hs
          refine wpList_nil ?_
          exact ⟨_, Nat.lt_succ_self _, q21, j4 + 1, v41, l39, v35, l46, v36, y32.2.2.2, y32.2.2.1, rfl, hs.sub ⟨rfl, rfl, rfl, rfl, rfl, trivial⟩, (((((((((((hM.front 10 rfl).front 10 rfl).front 10 rfl).front 10 rfl).front 10 rfl).front 5 rfl).front 10 rfl).front 10 rfl).front 10 rfl).front 10 rfl).front 10 rfl), hm, cnt_next hj4⟩
    rintro a w ⟨v12, l13, v14, l15, v16, l17, n18, rfl, hs, hM⟩
    have hm := hk20
    have hm : some (l13, l15, n18, l17) = some r := hm
    obtain rfl := Option.some.inj hm
    refine x_end0 rfl hs ⟨_, rfl, ?_⟩
    exact ⟨v12, v14, v16, rfl, hM⟩
theorem impl_permutations_1_any_any (g_l : Nat) (v_l : Value) (l : List Int) (g_n : Nat) (n : Int) (g_visit : Nat) (g_used : Nat) (v_used : Value) (used : List Bool) (g_next : Nat) (g_m : Nat) (v_m : Value) (m : List (List Int)) (g_out : Nat) (out_0 : Int) (v_out_1 : Value) (out_1 : List Int) (g_allowed : Nat) (W w : World) (As : List Atom) (hr_m : RdM W v_m m) (hM : Mem W w (aBlk g_l 23 [v_l] :: aInts 3 v_l l :: aBlk g_n 3 [.int .i64 n] :: aBlk g_visit 76 [.func (.func 91) #[] #[.pointer (some ⟨g_m, 0, none⟩), .pointer (some ⟨g_out, 0, none⟩), .pointer (some ⟨g_allowed, 0, none⟩)]] :: aBlk g_used 73 [v_used] :: aBools 4 v_used used :: aBlk g_next 1 [.func (.func 104) #[] #[.pointer (some ⟨g_l, 0, none⟩), .pointer (some ⟨g_n, 0, none⟩), .pointer (some ⟨g_visit, 0, none⟩), .pointer (some ⟨g_used, 0, none⟩), .pointer (some ⟨g_next, 0, none⟩)]] :: aBlk g_m 22 [v_m] :: aBlk g_out 55 [.int .i64 out_0, v_out_1] :: aIntsN 3 v_out_1 out_1 :: aBlk g_allowed 63 [.func (.func 64) #[] #[]] :: As)) {r : (List Int) × (List Bool) × Int × (List Int)} (hm : impl_permutations_1_any_m l n used m out_0 out_1 = some r) : Calls Try.prog 104 [.pointer (some ⟨g_l, 0, none⟩), .pointer (some ⟨g_n, 0, none⟩), .pointer (some ⟨g_visit, 0, none⟩), .pointer (some ⟨g_used, 0, none⟩), .pointer (some ⟨g_next, 0, none⟩)].toArray w fun e w' => ∃ v, e = .returned v ∧ ∃ v_l', ∃ v_used', ∃ v_out_1', v = .tuple #[] ∧ Mem W w' (aBlk g_l 23 [v_l'] :: aInts 3 v_l' r.1 :: aBlk g_n 3 [.int .i64 n] :: aBlk g_visit 76 [.func (.func 91) #[] #[.pointer (some ⟨g_m, 0, none⟩), .pointer (some ⟨g_out, 0, none⟩), .pointer (some ⟨g_allowed, 0, none⟩)]] :: aBlk g_used 73 [v_used'] :: aBools 4 v_used' r.2.1 :: aBlk g_next 1 [.func (.func 104) #[] #[.pointer (some ⟨g_l, 0, none⟩), .pointer (some ⟨g_n, 0, none⟩), .pointer (some ⟨g_visit, 0, none⟩), .pointer (some ⟨g_used, 0, none⟩), .pointer (some ⟨g_next, 0, none⟩)]] :: aBlk g_m 22 [v_m] :: aBlk g_out 55 [.int .i64 r.2.2.1, v_out_1'] :: aIntsN 3 v_out_1' r.2.2.2 :: aBlk g_allowed 63 [.func (.func 64) #[] #[]] :: As) := impl_permutations_1_any_rec 64 g_l v_l l g_n n g_visit g_used v_used used g_next g_m v_m m g_out out_0 v_out_1 out_1 g_allowed W w As hr_m hM hm

set_option maxHeartbeats 4000000 in
theorem impl_permutations_any_any (p0 : Int) (g_m : Nat) (v_m : Value) (m : List (List Int)) (g_out : Nat) (out_0 : Int) (v_out_1 : Value) (out_1 : List Int) (g_allowed : Nat) (W w : World) (As : List Atom) (hr_m : RdM W v_m m) (hM : Mem W w (aBlk g_m 22 [v_m] :: aBlk g_out 55 [.int .i64 out_0, v_out_1] :: aIntsN 3 v_out_1 out_1 :: aBlk g_allowed 63 [.func (.func 64) #[] #[]] :: As)) {r : Int × (List Int)} (hm : impl_permutations_any_m p0 m out_0 out_1 = some r) : Calls Try.prog 86 [.int .i64 p0, .func (.func 91) #[] #[.pointer (some ⟨g_m, 0, none⟩), .pointer (some ⟨g_out, 0, none⟩), .pointer (some ⟨g_allowed, 0, none⟩)]].toArray w fun e w' => ∃ v, e = .returned v ∧ ∃ v_out_1', v = .tuple #[] ∧ Mem W w' (aBlk g_m 22 [v_m] :: aBlk g_out 55 [.int .i64 r.1, v_out_1'] :: aIntsN 3 v_out_1' r.2 :: aBlk g_allowed 63 [.func (.func 64) #[] #[]] :: As) := by
  refine x_enter Try.func86 rfl Try.ntmps86 rfl ?_
  intro a hs
  unfold impl_permutations_any_m at hm
  refine wp_seq ?_
  refine wp_region_lit ?_
  refine wmem hs (x_box rfl hs rfl hM) rfl ?_; rintro a _ w hs ⟨g2, rfl, hM⟩
  have hM : Mem W w (aBlk g2 3 [.int .i64 p0] :: aBlk g_m 22 [v_m] :: aBlk g_out 55 [.int .i64 out_0, v_out_1] :: aIntsN 3 v_out_1 out_1 :: aBlk g_allowed 63 [.func (.func 64) #[] #[]] :: As) := hM
  refine wmem hs (x_box rfl hs rfl hM) rfl ?_; rintro a _ w hs ⟨g4, rfl, hM⟩
  have hM : Mem W w (aBlk g4 76 [.func (.func 91) #[] #[.pointer (some ⟨g_m, 0, none⟩), .pointer (some ⟨g_out, 0, none⟩), .pointer (some ⟨g_allowed, 0, none⟩)]] :: aBlk g2 3 [.int .i64 p0] :: aBlk g_m 22 [v_m] :: aBlk g_out 55 [.int .i64 out_0, v_out_1] :: aIntsN 3 v_out_1 out_1 :: aBlk g_allowed 63 [.func (.func 64) #[] #[]] :: As) := hM
  refine wpList_nil ?_
  refine x_nt ?_
  refine wp_seq ?_
  obtain ⟨s11, hm, hk12⟩ := bindE hm
  refine x_mid (fun a w => ∃ (g5 : Nat), ∃ (g6 : Nat), ∃ (v7 : Value), ∃ (l8 : List Bool), ∃ (v9 : Value), ∃ (l10 : List Int), (l8, l10) = s11 ∧ Fr a 13 [(2, .pointer (some ⟨g2, 0, none⟩)), (3, .pointer (some ⟨g4, 0, none⟩)), (4, .pointer (some ⟨g6, 0, none⟩)), (5, .pointer (some ⟨g5, 0, none⟩))] ∧ Mem W w (aBlk g5 73 [v7] :: aBlk g6 23 [v9] :: aBools 4 v7 l8 :: aInts 3 v9 l10 :: aBlk g4 76 [.func (.func 91) #[] #[.pointer (some ⟨g_m, 0, none⟩), .pointer (some ⟨g_out, 0, none⟩), .pointer (some ⟨g_allowed, 0, none⟩)]] :: aBlk g2 3 [.int .i64 p0] :: aBlk g_m 22 [v_m] :: aBlk g_out 55 [.int .i64 out_0, v_out_1] :: aIntsN 3 v_out_1 out_1 :: aBlk g_allowed 63 [.func (.func 64) #[] #[]] :: As)) ?_ ?_
  · refine wc_start hmix [1] (fun w => Mem W w (aBlk g4 76 [.func (.func 91) #[] #[.pointer (some ⟨g_m, 0, none⟩), .pointer (some ⟨g_out, 0, none⟩), .pointer (some ⟨g_allowed, 0, none⟩)]] :: aBlk g2 3 [.int .i64 p0] :: aBlk g_m 22 [v_m] :: aBlk g_out 55 [.int .i64 out_0, v_out_1] :: aIntsN 3 v_out_1 out_1 :: aBlk g_allowed 63 [.func (.func 64) #[] #[]] :: As)) (by rfl) ?_
    refine wc (i := 1) (fuel := 6) rfl (by kernel_rfl) (fun w w2 hS hE => hS.quiet hE) hM hs (fun w1 hS => y_load sc_int hs rfl (hS.cellBlk 1 rfl 0 rfl)) rfl ?_; intro a hs
    obtain ⟨_, h3016, hm⟩ := bindE hm
    refine wc_abs fun T13 hT13 => ?_
    have K13_125 : ∀ (a : Act) (w : World) (g4015 : Nat) (g5015 : Nat) (v3015 : Value) (v1015 : Value), Fr a 13 [(2, .pointer (some ⟨g2, 0, none⟩)), (3, .pointer (some ⟨g4, 0, none⟩)), (4, .pointer (some ⟨g4015, 0, none⟩)), (5, .pointer (some ⟨g5015, 0, none⟩))] → Mem W w (aBlk g5015 73 [v3015] :: aBlk g4015 23 [v1015] :: aBools 4 v3015 (List.replicate (p0).toNat false) :: aInts 3 v1015 ([]) :: aBlk g4 76 [.func (.func 91) #[] #[.pointer (some ⟨g_m, 0, none⟩), .pointer (some ⟨g_out, 0, none⟩), .pointer (some ⟨g_allowed, 0, none⟩)]] :: aBlk g2 3 [.int .i64 p0] :: aBlk g_m 22 [v_m] :: aBlk g_out 55 [.int .i64 out_0, v_out_1] :: aIntsN 3 v_out_1 out_1 :: aBlk g_allowed 63 [.func (.func 64) #[] #[]] :: As) → T13 0 #[true, true, true, true, true, true, true] a w := by
      intro a w g4015 g5015 v3015 v1015 hs hM; subst hT13
      refine wc_done (by kernel_rfl) ?_
      intro w hw
      replace hM := hM.quiet hw
      have hm : some ((List.replicate (p0).toNat false), []) = some s11 := hm
      exact ⟨g5015, g4015, v3015, (List.replicate (p0).toNat false), v1015, [], Option.some.inj hm, hs.sub ⟨rfl, rfl, rfl, rfl, trivial⟩, hM⟩
    have K13_61 : ∀ (a : Act) (w : World) (g4015 : Nat) (g5015 : Nat) (v3015 : Value) (v1015 : Value), Fr a 13 [(2, .pointer (some ⟨g2, 0, none⟩)), (3, .pointer (some ⟨g4, 0, none⟩)), (4, .pointer (some ⟨g4015, 0, none⟩)), (5, .pointer (some ⟨g5015, 0, none⟩)), (9, v3015)] → Mem W w (aBlk g4015 23 [v1015] :: aBlk g5015 73 [.slice none 0 0] :: aBools 4 v3015 (List.replicate (p0).toNat false) :: aInts 3 v1015 ([]) :: aBlk g4 76 [.func (.func 91) #[] #[.pointer (some ⟨g_m, 0, none⟩), .pointer (some ⟨g_out, 0, none⟩), .pointer (some ⟨g_allowed, 0, none⟩)]] :: aBlk g2 3 [.int .i64 p0] :: aBlk g_m 22 [v_m] :: aBlk g_out 55 [.int .i64 out_0, v_out_1] :: aIntsN 3 v_out_1 out_1 :: aBlk g_allowed 63 [.func (.func 64) #[] #[]] :: As) → T13 1 #[true, true, true, true, true, true, false] a w := by
      intro a w g4015 g5015 v3015 v1015 hs hM; subst hT13
      refine wc_one (fuel := 0) 6 rfl (by kernel_rfl) ?_
      intro w hw
      replace hM := hM.quiet hw
      refine wstore hs rfl rfl (x_storeBlk he_B (Mem.one (hM.front 2 rfl)) (hM.front 1 rfl)) ?_; intro w hM
      have hM : Mem W w (aBlk g5015 73 [v3015] :: aBlk g4015 23 [v1015] :: aBools 4 v3015 (List.replicate (p0).toNat false) :: aInts 3 v1015 ([]) :: aBlk g4 76 [.func (.func 91) #[] #[.pointer (some ⟨g_m, 0, none⟩), .pointer (some ⟨g_out, 0, none⟩), .pointer (some ⟨g_allowed, 0, none⟩)]] :: aBlk g2 3 [.int .i64 p0] :: aBlk g_m 22 [v_m] :: aBlk g_out 55 [.int .i64 out_0, v_out_1] :: aIntsN 3 v_out_1 out_1 :: aBlk g_allowed 63 [.func (.func 64) #[] #[]] :: As) := hM
      refine on_nil ?_
      exact wc_at (by kernel_rfl) (K13_125 _ _ g4015 g5015 v3015 v1015 (hs.sub ⟨rfl, rfl, rfl, rfl, trivial⟩) hM)
    have K13_29 : ∀ (a : Act) (w : World) (g4015 : Nat) (g5015 : Nat) (v1015 : Value) (v3015 : Value), Fr a 13 [(2, .pointer (some ⟨g2, 0, none⟩)), (3, .pointer (some ⟨g4, 0, none⟩)), (4, .pointer (some ⟨g4015, 0, none⟩)), (5, .pointer (some ⟨g5015, 0, none⟩)), (7, v1015), (9, v3015)] → Mem W w (aBlk g5015 73 [.slice none 0 0] :: aBlk g4015 23 [.slice none 0 0] :: aBools 4 v3015 (List.replicate (p0).toNat false) :: aInts 3 v1015 ([]) :: aBlk g4 76 [.func (.func 91) #[] #[.pointer (some ⟨g_m, 0, none⟩), .pointer (some ⟨g_out, 0, none⟩), .pointer (some ⟨g_allowed, 0, none⟩)]] :: aBlk g2 3 [.int .i64 p0] :: aBlk g_m 22 [v_m] :: aBlk g_out 55 [.int .i64 out_0, v_out_1] :: aIntsN 3 v_out_1 out_1 :: aBlk g_allowed 63 [.func (.func 64) #[] #[]] :: As) → T13 2 #[true, true, true, true, true, false, false] a w := by
      intro a w g4015 g5015 v1015 v3015 hs hM; subst hT13
      refine wc_oneS (fuel := 1) 5 rfl (by kernel_rfl) ?_
      intro w hw
      replace hM := hM.quiet hw
      refine wstore hs rfl rfl (x_storeBlk he_I (Mem.one (hM.front 3 rfl)) (hM.front 1 rfl)) ?_; intro w hM
      have hM : Mem W w (aBlk g4015 23 [v1015] :: aBlk g5015 73 [.slice none 0 0] :: aBools 4 v3015 (List.replicate (p0).toNat false) :: aInts 3 v1015 ([]) :: aBlk g4 76 [.func (.func 91) #[] #[.pointer (some ⟨g_m, 0, none⟩), .pointer (some ⟨g_out, 0, none⟩), .pointer (some ⟨g_allowed, 0, none⟩)]] :: aBlk g2 3 [.int .i64 p0] :: aBlk g_m 22 [v_m] :: aBlk g_out 55 [.int .i64 out_0, v_out_1] :: aIntsN 3 v_out_1 out_1 :: aBlk g_allowed 63 [.func (.func 64) #[] #[]] :: As) := hM
      refine on_nil ⟨hM.drop.drop.drop.drop, ?_⟩
      exact wc_at (by kernel_rfl) (K13_61 _ _ g4015 g5015 v3015 v1015 (hs.sub ⟨rfl, rfl, rfl, rfl, rfl, trivial⟩) hM)
    have K13_57 : ∀ (a : Act) (w : World) (g4015 : Nat) (g5015 : Nat) (v1015 : Value), Fr a 13 [(2, .pointer (some ⟨g2, 0, none⟩)), (3, .pointer (some ⟨g4, 0, none⟩)), (4, .pointer (some ⟨g4015, 0, none⟩)), (5, .pointer (some ⟨g5015, 0, none⟩)), (8, .int .i64 p0)] → Mem W w (aBlk g4015 23 [v1015] :: aBlk g5015 73 [.slice none 0 0] :: aInts 3 v1015 ([]) :: aBlk g4 76 [.func (.func 91) #[] #[.pointer (some ⟨g_m, 0, none⟩), .pointer (some ⟨g_out, 0, none⟩), .pointer (some ⟨g_allowed, 0, none⟩)]] :: aBlk g2 3 [.int .i64 p0] :: aBlk g_m 22 [v_m] :: aBlk g_out 55 [.int .i64 out_0, v_out_1] :: aIntsN 3 v_out_1 out_1 :: aBlk g_allowed 63 [.func (.func 64) #[] #[]] :: As) → T13 2 #[true, true, false, true, true, true, false] a w := by
      intro a w g4015 g5015 v1015 hs hM; subst hT13
      refine wc_one (fuel := 1) 2 rfl (by kernel_rfl) ?_
      intro w hw
      replace hM := hM.quiet hw
      refine wmem hs (x_makeB hu_B he_bool hs rfl hM h3016) rfl ?_; intro a v3015 w hs hM
      have hM : Mem W w (aBools 4 v3015 (List.replicate (p0).toNat false) :: aBlk g4015 23 [v1015] :: aBlk g5015 73 [.slice none 0 0] :: aInts 3 v1015 ([]) :: aBlk g4 76 [.func (.func 91) #[] #[.pointer (some ⟨g_m, 0, none⟩), .pointer (some ⟨g_out, 0, none⟩), .pointer (some ⟨g_allowed, 0, none⟩)]] :: aBlk g2 3 [.int .i64 p0] :: aBlk g_m 22 [v_m] :: aBlk g_out 55 [.int .i64 out_0, v_out_1] :: aIntsN 3 v_out_1 out_1 :: aBlk g_allowed 63 [.func (.func 64) #[] #[]] :: As) := hM
      refine on_nil ?_
      exact wc_at (by kernel_rfl) (K13_61 _ _ g4015 g5015 v3015 v1015 (hs.sub ⟨rfl, rfl, rfl, rfl, rfl, trivial⟩) ((((((((((hM.front 9 rfl).front 9 rfl).front 9 rfl).front 9 rfl).front 9 rfl).front 9 rfl).front 9 rfl).front 7 rfl).front 9 rfl).front 9 rfl))
    have K13_13 : ∀ (a : Act) (w : World) (g4015 : Nat) (v1015 : Value) (v3015 : Value), Fr a 13 [(2, .pointer (some ⟨g2, 0, none⟩)), (3, .pointer (some ⟨g4, 0, none⟩)), (4, .pointer (some ⟨g4015, 0, none⟩)), (7, v1015), (9, v3015)] → Mem W w (aBlk g4015 23 [.slice none 0 0] :: aBools 4 v3015 (List.replicate (p0).toNat false) :: aInts 3 v1015 ([]) :: aBlk g4 76 [.func (.func 91) #[] #[.pointer (some ⟨g_m, 0, none⟩), .pointer (some ⟨g_out, 0, none⟩), .pointer (some ⟨g_allowed, 0, none⟩)]] :: aBlk g2 3 [.int .i64 p0] :: aBlk g_m 22 [v_m] :: aBlk g_out 55 [.int .i64 out_0, v_out_1] :: aIntsN 3 v_out_1 out_1 :: aBlk g_allowed 63 [.func (.func 64) #[] #[]] :: As) → T13 3 #[true, true, true, true, false, false, false] a w := by
      intro a w g4015 v1015 v3015 hs hM; subst hT13
      refine wc_oneS (fuel := 2) 4 rfl (by kernel_rfl) ?_
      intro w hw
      replace hM := hM.quiet hw
      refine wmem hs (x_alloc he_B rfl hM) rfl ?_; rintro a _ w hs ⟨g5015, rfl, hM⟩
      have hM : Mem W w (aBlk g5015 73 [.slice none 0 0] :: aBlk g4015 23 [.slice none 0 0] :: aBools 4 v3015 (List.replicate (p0).toNat false) :: aInts 3 v1015 ([]) :: aBlk g4 76 [.func (.func 91) #[] #[.pointer (some ⟨g_m, 0, none⟩), .pointer (some ⟨g_out, 0, none⟩), .pointer (some ⟨g_allowed, 0, none⟩)]] :: aBlk g2 3 [.int .i64 p0] :: aBlk g_m 22 [v_m] :: aBlk g_out 55 [.int .i64 out_0, v_out_1] :: aIntsN 3 v_out_1 out_1 :: aBlk g_allowed 63 [.func (.func 64) #[] #[]] :: As) := hM
      refine on_nil ⟨hM.drop.drop.drop.drop, ?_⟩
      exact wc_at (by kernel_rfl) (K13_29 _ _ g4015 g5015 v1015 v3015 (hs.sub ⟨rfl, rfl, rfl, rfl, rfl, rfl, trivial⟩) hM)
    have K13_21 : ∀ (a : Act) (w : World) (g5015 : Nat) (v1015 : Value) (v3015 : Value), Fr a 13 [(2, .pointer (some ⟨g2, 0, none⟩)), (3, .pointer (some ⟨g4, 0, none⟩)), (5, .pointer (some ⟨g5015, 0, none⟩)), (7, v1015), (9, v3015)] → Mem W w (aBlk g5015 73 [.slice none 0 0] :: aBools 4 v3015 (List.replicate (p0).toNat false) :: aInts 3 v1015 ([]) :: aBlk g4 76 [.func (.func 91) #[] #[.pointer (some ⟨g_m, 0, none⟩), .pointer (some ⟨g_out, 0, none⟩), .pointer (some ⟨g_allowed, 0, none⟩)]] :: aBlk g2 3 [.int .i64 p0] :: aBlk g_m 22 [v_m] :: aBlk g_out 55 [.int .i64 out_0, v_out_1] :: aIntsN 3 v_out_1 out_1 :: aBlk g_allowed 63 [.func (.func 64) #[] #[]] :: As) → T13 3 #[true, true, true, false, true, false, false] a w := by
      intro a w g5015 v1015 v3015 hs hM; subst hT13
      refine wc_oneS (fuel := 2) 3 rfl (by kernel_rfl) ?_
      intro w hw
      replace hM := hM.quiet hw
      refine wmem hs (x_alloc he_I rfl hM) rfl ?_; rintro a _ w hs ⟨g4015, rfl, hM⟩
      have hM : Mem W w (aBlk g4015 23 [.slice none 0 0] :: aBlk g5015 73 [.slice none 0 0] :: aBools 4 v3015 (List.replicate (p0).toNat false) :: aInts 3 v1015 ([]) :: aBlk g4 76 [.func (.func 91) #[] #[.pointer (some ⟨g_m, 0, none⟩), .pointer (some ⟨g_out, 0, none⟩), .pointer (some ⟨g_allowed, 0, none⟩)]] :: aBlk g2 3 [.int .i64 p0] :: aBlk g_m 22 [v_m] :: aBlk g_out 55 [.int .i64 out_0, v_out_1] :: aIntsN 3 v_out_1 out_1 :: aBlk g_allowed 63 [.func (.func 64) #[] #[]] :: As) := hM
      refine on_nil ⟨hM.drop.drop.drop.drop, ?_⟩
      exact wc_at (by kernel_rfl) (K13_29 _ _ g4015 g5015 v1015 v3015 (hs.sub ⟨rfl, rfl, rfl, rfl, rfl, rfl, trivial⟩) ((((((((((hM.front 9 rfl).front 9 rfl).front 9 rfl).front 9 rfl).front 9 rfl).front 9 rfl).front 9 rfl).front 9 rfl).front 8 rfl).front 9 rfl))
    have K13_25 : ∀ (a : Act) (w : World) (g4015 : Nat) (g5015 : Nat) (v1015 : Value), Fr a 13 [(2, .pointer (some ⟨g2, 0, none⟩)), (3, .pointer (some ⟨g4, 0, none⟩)), (4, .pointer (some ⟨g4015, 0, none⟩)), (5, .pointer (some ⟨g5015, 0, none⟩)), (7, v1015), (8, .int .i64 p0)] → Mem W w (aBlk g5015 73 [.slice none 0 0] :: aBlk g4015 23 [.slice none 0 0] :: aInts 3 v1015 ([]) :: aBlk g4 76 [.func (.func 91) #[] #[.pointer (some ⟨g_m, 0, none⟩), .pointer (some ⟨g_out, 0, none⟩), .pointer (some ⟨g_allowed, 0, none⟩)]] :: aBlk g2 3 [.int .i64 p0] :: aBlk g_m 22 [v_m] :: aBlk g_out 55 [.int .i64 out_0, v_out_1] :: aIntsN 3 v_out_1 out_1 :: aBlk g_allowed 63 [.func (.func 64) #[] #[]] :: As) → T13 3 #[true, true, false, true, true, false, false] a w := by
      intro a w g4015 g5015 v1015 hs hM; subst hT13
      refine wc_many (fuel := 2) [2, 5] (by kernel_rfl) (by simp) ⟨?_, ?_, trivial⟩
      · rintro o ⟨rfl⟩
        intro w hw
        replace hM := hM.quiet hw
        refine wmem hs (x_makeB hu_B he_bool hs rfl hM h3016) rfl ?_; intro a v3015 w hs hM
        have hM : Mem W w (aBools 4 v3015 (List.replicate (p0).toNat false) :: aBlk g5015 73 [.slice none 0 0] :: aBlk g4015 23 [.slice none 0 0] :: aInts 3 v1015 ([]) :: aBlk g4 76 [.func (.func 91) #[] #[.pointer (some ⟨g_m, 0, none⟩), .pointer (some ⟨g_out, 0, none⟩), .pointer (some ⟨g_allowed, 0, none⟩)]] :: aBlk g2 3 [.int .i64 p0] :: aBlk g_m 22 [v_m] :: aBlk g_out 55 [.int .i64 out_0, v_out_1] :: aIntsN 3 v_out_1 out_1 :: aBlk g_allowed 63 [.func (.func 64) #[] #[]] :: As) := hM
        refine on_nil ⟨hM.drop.drop.drop.drop, ?_⟩
        exact wc_at (by kernel_rfl) (K13_29 _ _ g4015 g5015 v1015 v3015 (hs.sub ⟨rfl, rfl, rfl, rfl, rfl, rfl, trivial⟩) ((((((((((hM.front 9 rfl).front 9 rfl).front 9 rfl).front 9 rfl).front 9 rfl).front 9 rfl).front 9 rfl).front 7 rfl).front 9 rfl).front 9 rfl))
      · rintro o ⟨rfl⟩
        intro w hw
        replace hM := hM.quiet hw
        refine wstore hs rfl rfl (x_storeBlk he_I (Mem.one (hM.front 2 rfl)) (hM.front 1 rfl)) ?_; intro w hM
        have hM : Mem W w (aBlk g4015 23 [v1015] :: aBlk g5015 73 [.slice none 0 0] :: aInts 3 v1015 ([]) :: aBlk g4 76 [.func (.func 91) #[] #[.pointer (some ⟨g_m, 0, none⟩), .pointer (some ⟨g_out, 0, none⟩), .pointer (some ⟨g_allowed, 0, none⟩)]] :: aBlk g2 3 [.int .i64 p0] :: aBlk g_m 22 [v_m] :: aBlk g_out 55 [.int .i64 out_0, v_out_1] :: aIntsN 3 v_out_1 out_1 :: aBlk g_allowed 63 [.func (.func 64) #[] #[]] :: As) := hM
        refine on_nil ⟨hM.drop.drop.drop, ?_⟩
        exact wc_at (by kernel_rfl) (K13_57 _ _ g4015 g5015 v1015 (hs.sub ⟨rfl, rfl, rfl, rfl, rfl, trivial⟩) hM)
    have K13_28 : ∀ (a : Act) (w : World) (g4015 : Nat) (g5015 : Nat) (v3015 : Value), Fr a 13 [(2, .pointer (some ⟨g2, 0, none⟩)), (3, .pointer (some ⟨g4, 0, none⟩)), (4, .pointer (some ⟨g4015, 0, none⟩)), (5, .pointer (some ⟨g5015, 0, none⟩)), (9, v3015)] → Mem W w (aBlk g5015 73 [.slice none 0 0] :: aBlk g4015 23 [.slice none 0 0] :: aBools 4 v3015 (List.replicate (p0).toNat false) :: aBlk g4 76 [.func (.func 91) #[] #[.pointer (some ⟨g_m, 0, none⟩), .pointer (some ⟨g_out, 0, none⟩), .pointer (some ⟨g_allowed, 0, none⟩)]] :: aBlk g2 3 [.int .i64 p0] :: aBlk g_m 22 [v_m] :: aBlk g_out 55 [.int .i64 out_0, v_out_1] :: aIntsN 3 v_out_1 out_1 :: aBlk g_allowed 63 [.func (.func 64) #[] #[]] :: As) → T13 3 #[false, true, true, true, true, false, false] a w := by
      intro a w g4015 g5015 v3015 hs hM; subst hT13
      refine wc_oneS (fuel := 2) 0 rfl (by kernel_rfl) ?_
      intro w hw
      replace hM := hM.quiet hw
      refine wmem hs (x_new0I ht_I hM) rfl ?_; intro a v1015 w hs hM
      have hM : Mem W w (aInts 3 v1015 ([]) :: aBlk g5015 73 [.slice none 0 0] :: aBlk g4015 23 [.slice none 0 0] :: aBools 4 v3015 (List.replicate (p0).toNat false) :: aBlk g4 76 [.func (.func 91) #[] #[.pointer (some ⟨g_m, 0, none⟩), .pointer (some ⟨g_out, 0, none⟩), .pointer (some ⟨g_allowed, 0, none⟩)]] :: aBlk g2 3 [.int .i64 p0] :: aBlk g_m 22 [v_m] :: aBlk g_out 55 [.int .i64 out_0, v_out_1] :: aIntsN 3 v_out_1 out_1 :: aBlk g_allowed 63 [.func (.func 64) #[] #[]] :: As) := hM
      refine on_nil ⟨hM.drop.drop.drop.drop, ?_⟩
      exact wc_at (by kernel_rfl) (K13_29 _ _ g4015 g5015 v1015 v3015 (hs.sub ⟨rfl, rfl, rfl, rfl, rfl, rfl, trivial⟩) ((((((((((hM.front 9 rfl).front 9 rfl).front 9 rfl).front 9 rfl).front 9 rfl).front 9 rfl).front 6 rfl).front 9 rfl).front 9 rfl).front 9 rfl))
    have K13_5 : ∀ (a : Act) (w : World) (v1015 : Value) (v3015 : Value), Fr a 13 [(2, .pointer (some ⟨g2, 0, none⟩)), (3, .pointer (some ⟨g4, 0, none⟩)), (7, v1015), (9, v3015)] → Mem W w (aBools 4 v3015 (List.replicate (p0).toNat false) :: aInts 3 v1015 ([]) :: aBlk g4 76 [.func (.func 91) #[] #[.pointer (some ⟨g_m, 0, none⟩), .pointer (some ⟨g_out, 0, none⟩), .pointer (some ⟨g_allowed, 0, none⟩)]] :: aBlk g2 3 [.int .i64 p0] :: aBlk g_m 22 [v_m] :: aBlk g_out 55 [.int .i64 out_0, v_out_1] :: aIntsN 3 v_out_1 out_1 :: aBlk g_allowed 63 [.func (.func 64) #[] #[]] :: As) → T13 4 #[true, true, true, false, false, false, false] a w := by
      intro a w v1015 v3015 hs hM; subst hT13
      refine wc_many (fuel := 3) [3, 4] (by kernel_rfl) (by simp) ⟨?_, ?_, trivial⟩
      · rintro o ⟨rfl⟩
        intro w hw
        replace hM := hM.quiet hw
        refine wmem hs (x_alloc he_I rfl hM) rfl ?_; rintro a _ w hs ⟨g4015, rfl, hM⟩
        have hM : Mem W w (aBlk g4015 23 [.slice none 0 0] :: aBools 4 v3015 (List.replicate (p0).toNat false) :: aInts 3 v1015 ([]) :: aBlk g4 76 [.func (.func 91) #[] #[.pointer (some ⟨g_m, 0, none⟩), .pointer (some ⟨g_out, 0, none⟩), .pointer (some ⟨g_allowed, 0, none⟩)]] :: aBlk g2 3 [.int .i64 p0] :: aBlk g_m 22 [v_m] :: aBlk g_out 55 [.int .i64 out_0, v_out_1] :: aIntsN 3 v_out_1 out_1 :: aBlk g_allowed 63 [.func (.func 64) #[] #[]] :: As) := hM
        refine on_nil ⟨hM.drop.drop.drop, ?_⟩
        exact wc_at (by kernel_rfl) (K13_13 _ _ g4015 v1015 v3015 (hs.sub ⟨rfl, rfl, rfl, rfl, rfl, trivial⟩) hM)
      · rintro o ⟨rfl⟩
        intro w hw
        replace hM := hM.quiet hw
        refine wmem hs (x_alloc he_B rfl hM) rfl ?_; rintro a _ w hs ⟨g5015, rfl, hM⟩
        have hM : Mem W w (aBlk g5015 73 [.slice none 0 0] :: aBools 4 v3015 (List.replicate (p0).toNat false) :: aInts 3 v1015 ([]) :: aBlk g4 76 [.func (.func 91) #[] #[.pointer (some ⟨g_m, 0, none⟩), .pointer (some ⟨g_out, 0, none⟩), .pointer (some ⟨g_allowed, 0, none⟩)]] :: aBlk g2 3 [.int .i64 p0] :: aBlk g_m 22 [v_m] :: aBlk g_out 55 [.int .i64 out_0, v_out_1] :: aIntsN 3 v_out_1 out_1 :: aBlk g_allowed 63 [.func (.func 64) #[] #[]] :: As) := hM
        refine on_nil ⟨hM.drop.drop.drop, ?_⟩
        exact wc_at (by kernel_rfl) (K13_21 _ _ g5015 v1015 v3015 (hs.sub ⟨rfl, rfl, rfl, rfl, rfl, trivial⟩) hM)
    have K13_9 : ∀ (a : Act) (w : World) (g4015 : Nat) (v1015 : Value), Fr a 13 [(2, .pointer (some ⟨g2, 0, none⟩)), (3, .pointer (some ⟨g4, 0, none⟩)), (4, .pointer (some ⟨g4015, 0, none⟩)), (7, v1015), (8, .int .i64 p0)] → Mem W w (aBlk g4015 23 [.slice none 0 0] :: aInts 3 v1015 ([]) :: aBlk g4 76 [.func (.func 91) #[] #[.pointer (some ⟨g_m, 0, none⟩), .pointer (some ⟨g_out, 0, none⟩), .pointer (some ⟨g_allowed, 0, none⟩)]] :: aBlk g2 3 [.int .i64 p0] :: aBlk g_m 22 [v_m] :: aBlk g_out 55 [.int .i64 out_0, v_out_1] :: aIntsN 3 v_out_1 out_1 :: aBlk g_allowed 63 [.func (.func 64) #[] #[]] :: As) → T13 4 #[true, true, false, true, false, false, false] a w := by
      intro a w g4015 v1015 hs hM; subst hT13
      refine wc_many (fuel := 3) [2, 4] (by kernel_rfl) (by simp) ⟨?_, ?_, trivial⟩
      · rintro o ⟨rfl⟩
        intro w hw
        replace hM := hM.quiet hw
        refine wmem hs (x_makeB hu_B he_bool hs rfl hM h3016) rfl ?_; intro a v3015 w hs hM
        have hM : Mem W w (aBools 4 v3015 (List.replicate (p0).toNat false) :: aBlk g4015 23 [.slice none 0 0] :: aInts 3 v1015 ([]) :: aBlk g4 76 [.func (.func 91) #[] #[.pointer (some ⟨g_m, 0, none⟩), .pointer (some ⟨g_out, 0, none⟩), .pointer (some ⟨g_allowed, 0, none⟩)]] :: aBlk g2 3 [.int .i64 p0] :: aBlk g_m 22 [v_m] :: aBlk g_out 55 [.int .i64 out_0, v_out_1] :: aIntsN 3 v_out_1 out_1 :: aBlk g_allowed 63 [.func (.func 64) #[] #[]] :: As) := hM
        refine on_nil ⟨hM.drop.drop.drop, ?_⟩
        exact wc_at (by kernel_rfl) (K13_13 _ _ g4015 v1015 v3015 (hs.sub ⟨rfl, rfl, rfl, rfl, rfl, trivial⟩) (((((((((hM.front 8 rfl).front 8 rfl).front 8 rfl).front 8 rfl).front 8 rfl).front 8 rfl).front 8 rfl).front 7 rfl).front 8 rfl))
      · rintro o ⟨rfl⟩
        intro w hw
        replace hM := hM.quiet hw
        refine wmem hs (x_alloc he_B rfl hM) rfl ?_; rintro a _ w hs ⟨g5015, rfl, hM⟩
        have hM : Mem W w (aBlk g5015 73 [.slice none 0 0] :: aBlk g4015 23 [.slice none 0 0] :: aInts 3 v1015 ([]) :: aBlk g4 76 [.func (.func 91) #[] #[.pointer (some ⟨g_m, 0, none⟩), .pointer (some ⟨g_out, 0, none⟩), .pointer (some ⟨g_allowed, 0, none⟩)]] :: aBlk g2 3 [.int .i64 p0] :: aBlk g_m 22 [v_m] :: aBlk g_out 55 [.int .i64 out_0, v_out_1] :: aIntsN 3 v_out_1 out_1 :: aBlk g_allowed 63 [.func (.func 64) #[] #[]] :: As) := hM
        refine on_nil ⟨hM.drop.drop.drop, ?_⟩
        exact wc_at (by kernel_rfl) (K13_25 _ _ g4015 g5015 v1015 (hs.sub ⟨rfl, rfl, rfl, rfl, rfl, rfl, trivial⟩) hM)
    have K13_17 : ∀ (a : Act) (w : World) (g5015 : Nat) (v1015 : Value), Fr a 13 [(2, .pointer (some ⟨g2, 0, none⟩)), (3, .pointer (some ⟨g4, 0, none⟩)), (5, .pointer (some ⟨g5015, 0, none⟩)), (7, v1015), (8, .int .i64 p0)] → Mem W w (aBlk g5015 73 [.slice none 0 0] :: aInts 3 v1015 ([]) :: aBlk g4 76 [.func (.func 91) #[] #[.pointer (some ⟨g_m, 0, none⟩), .pointer (some ⟨g_out, 0, none⟩), .pointer (some ⟨g_allowed, 0, none⟩)]] :: aBlk g2 3 [.int .i64 p0] :: aBlk g_m 22 [v_m] :: aBlk g_out 55 [.int .i64 out_0, v_out_1] :: aIntsN 3 v_out_1 out_1 :: aBlk g_allowed 63 [.func (.func 64) #[] #[]] :: As) → T13 4 #[true, true, false, false, true, false, false] a w := by
      intro a w g5015 v1015 hs hM; subst hT13
      refine wc_many (fuel := 3) [2, 3] (by kernel_rfl) (by simp) ⟨?_, ?_, trivial⟩
      · rintro o ⟨rfl⟩
        intro w hw
        replace hM := hM.quiet hw
        refine wmem hs (x_makeB hu_B he_bool hs rfl hM h3016) rfl ?_; intro a v3015 w hs hM
        have hM : Mem W w (aBools 4 v3015 (List.replicate (p0).toNat false) :: aBlk g5015 73 [.slice none 0 0] :: aInts 3 v1015 ([]) :: aBlk g4 76 [.func (.func 91) #[] #[.pointer (some ⟨g_m, 0, none⟩), .pointer (some ⟨g_out, 0, none⟩), .pointer (some ⟨g_allowed, 0, none⟩)]] :: aBlk g2 3 [.int .i64 p0] :: aBlk g_m 22 [v_m] :: aBlk g_out 55 [.int .i64 out_0, v_out_1] :: aIntsN 3 v_out_1 out_1 :: aBlk g_allowed 63 [.func (.func 64) #[] #[]] :: As) := hM
        refine on_nil ⟨hM.drop.drop.drop, ?_⟩
        exact wc_at (by kernel_rfl) (K13_21 _ _ g5015 v1015 v3015 (hs.sub ⟨rfl, rfl, rfl, rfl, rfl, trivial⟩) (((((((((hM.front 8 rfl).front 8 rfl).front 8 rfl).front 8 rfl).front 8 rfl).front 8 rfl).front 8 rfl).front 7 rfl).front 8 rfl))
      · rintro o ⟨rfl⟩
        intro w hw
        replace hM := hM.quiet hw
        refine wmem hs (x_alloc he_I rfl hM) rfl ?_; rintro a _ w hs ⟨g4015, rfl, hM⟩
        have hM : Mem W w (aBlk g4015 23 [.slice none 0 0] :: aBlk g5015 73 [.slice none 0 0] :: aInts 3 v1015 ([]) :: aBlk g4 76 [.func (.func 91) #[] #[.pointer (some ⟨g_m, 0, none⟩), .pointer (some ⟨g_out, 0, none⟩), .pointer (some ⟨g_allowed, 0, none⟩)]] :: aBlk g2 3 [.int .i64 p0] :: aBlk g_m 22 [v_m] :: aBlk g_out 55 [.int .i64 out_0, v_out_1] :: aIntsN 3 v_out_1 out_1 :: aBlk g_allowed 63 [.func (.func 64) #[] #[]] :: As) := hM
        refine on_nil ⟨hM.drop.drop.drop, ?_⟩
        exact wc_at (by kernel_rfl) (K13_25 _ _ g4015 g5015 v1015 (hs.sub ⟨rfl, rfl, rfl, rfl, rfl, rfl, trivial⟩) (((((((((hM.front 8 rfl).front 8 rfl).front 8 rfl).front 8 rfl).front 8 rfl).front 8 rfl).front 8 rfl).front 7 rfl).front 8 rfl))
    have K13_12 : ∀ (a : Act) (w : World) (g4015 : Nat) (v3015 : Value), Fr a 13 [(2, .pointer (some ⟨g2, 0, none⟩)), (3, .pointer (some ⟨g4, 0, none⟩)), (4, .pointer (some ⟨g4015, 0, none⟩)), (9, v3015)] → Mem W w (aBlk g4015 23 [.slice none 0 0] :: aBools 4 v3015 (List.replicate (p0).toNat false) :: aBlk g4 76 [.func (.func 91) #[] #[.pointer (some ⟨g_m, 0, none⟩), .pointer (some ⟨g_out, 0, none⟩), .pointer (some ⟨g_allowed, 0, none⟩)]] :: aBlk g2 3 [.int .i64 p0] :: aBlk g_m 22 [v_m] :: aBlk g_out 55 [.int .i64 out_0, v_out_1] :: aIntsN 3 v_out_1 out_1 :: aBlk g_allowed 63 [.func (.func 64) #[] #[]] :: As) → T13 4 #[false, true, true, true, false, false, false] a w := by
      intro a w g4015 v3015 hs hM; subst hT13
      refine wc_many (fuel := 3) [0, 4] (by kernel_rfl) (by simp) ⟨?_, ?_, trivial⟩
      · rintro o ⟨rfl⟩
        intro w hw
        replace hM := hM.quiet hw
        refine wmem hs (x_new0I ht_I hM) rfl ?_; intro a v1015 w hs hM
        have hM : Mem W w (aInts 3 v1015 ([]) :: aBlk g4015 23 [.slice none 0 0] :: aBools 4 v3015 (List.replicate (p0).toNat false) :: aBlk g4 76 [.func (.func 91) #[] #[.pointer (some ⟨g_m, 0, none⟩), .pointer (some ⟨g_out, 0, none⟩), .pointer (some ⟨g_allowed, 0, none⟩)]] :: aBlk g2 3 [.int .i64 p0] :: aBlk g_m 22 [v_m] :: aBlk g_out 55 [.int .i64 out_0, v_out_1] :: aIntsN 3 v_out_1 out_1 :: aBlk g_allowed 63 [.func (.func 64) #[] #[]] :: As) := hM
        refine on_nil ⟨hM.drop.drop.drop, ?_⟩
        exact wc_at (by kernel_rfl) (K13_13 _ _ g4015 v1015 v3015 (hs.sub ⟨rfl, rfl, rfl, rfl, rfl, trivial⟩) (((((((((hM.front 8 rfl).front 8 rfl).front 8 rfl).front 8 rfl).front 8 rfl).front 8 rfl).front 6 rfl).front 8 rfl).front 8 rfl))
      · rintro o ⟨rfl⟩
        intro w hw
        replace hM := hM.quiet hw
        refine wmem hs (x_alloc he_B rfl hM) rfl ?_; rintro a _ w hs ⟨g5015, rfl, hM⟩
        have hM : Mem W w (aBlk g5015 73 [.slice none 0 0] :: aBlk g4015 23 [.slice none 0 0] :: aBools 4 v3015 (List.replicate (p0).toNat false) :: aBlk g4 76 [.func (.func 91) #[] #[.pointer (some ⟨g_m, 0, none⟩), .pointer (some ⟨g_out, 0, none⟩), .pointer (some ⟨g_allowed, 0, none⟩)]] :: aBlk g2 3 [.int .i64 p0] :: aBlk g_m 22 [v_m] :: aBlk g_out 55 [.int .i64 out_0, v_out_1] :: aIntsN 3 v_out_1 out_1 :: aBlk g_allowed 63 [.func (.func 64) #[] #[]] :: As) := hM
        refine on_nil ⟨hM.drop.drop.drop, ?_⟩
        exact wc_at (by kernel_rfl) (K13_28 _ _ g4015 g5015 v3015 (hs.sub ⟨rfl, rfl, rfl, rfl, rfl, trivial⟩) hM)
    have K13_20 : ∀ (a : Act) (w : World) (g5015 : Nat) (v3015 : Value), Fr a 13 [(2, .pointer (some ⟨g2, 0, none⟩)), (3, .pointer (some ⟨g4, 0, none⟩)), (5, .pointer (some ⟨g5015, 0, none⟩)), (9, v3015)] → Mem W w (aBlk g5015 73 [.slice none 0 0] :: aBools 4 v3015 (List.replicate (p0).toNat false) :: aBlk g4 76 [.func (.func 91) #[] #[.pointer (some ⟨g_m, 0, none⟩), .pointer (some ⟨g_out, 0, none⟩), .pointer (some ⟨g_allowed, 0, none⟩)]] :: aBlk g2 3 [.int .i64 p0] :: aBlk g_m 22 [v_m] :: aBlk g_out 55 [.int .i64 out_0, v_out_1] :: aIntsN 3 v_out_1 out_1 :: aBlk g_allowed 63 [.func (.func 64) #[] #[]] :: As) → T13 4 #[false, true, true, false, true, false, false] a w := by
      intro a w g5015 v3015 hs hM; subst hT13
      refine wc_many (fuel := 3) [0, 3] (by kernel_rfl) (by simp) ⟨?_, ?_, trivial⟩
      · rintro o ⟨rfl⟩
        intro w hw
        replace hM := hM.quiet hw
        refine wmem hs (x_new0I ht_I hM) rfl ?_; intro a v1015 w hs hM
        have hM : Mem W w (aInts 3 v1015 ([]) :: aBlk g5015 73 [.slice none 0 0] :: aBools 4 v3015 (List.replicate (p0).toNat false) :: aBlk g4 76 [.func (.func 91) #[] #[.pointer (some ⟨g_m, 0, none⟩), .pointer (some ⟨g_out, 0, none⟩), .pointer (some ⟨g_allowed, 0, none⟩)]] :: aBlk g2 3 [.int .i64 p0] :: aBlk g_m 22 [v_m] :: aBlk g_out 55 [.int .i64 out_0, v_out_1] :: aIntsN 3 v_out_1 out_1 :: aBlk g_allowed 63 [.func (.func 64) #[] #[]] :: As) := hM
        refine on_nil ⟨hM.drop.drop.drop, ?_⟩
        exact wc_at (by kernel_rfl) (K13_21 _ _ g5015 v1015 v3015 (hs.sub ⟨rfl, rfl, rfl, rfl, rfl, trivial⟩) (((((((((hM.front 8 rfl).front 8 rfl).front 8 rfl).front 8 rfl).front 8 rfl).front 8 rfl).front 6 rfl).front 8 rfl).front 8 rfl))
      · rintro o ⟨rfl⟩
        intro w hw
        replace hM := hM.quiet hw
        refine wmem hs (x_alloc he_I rfl hM) rfl ?_; rintro a _ w hs ⟨g4015, rfl, hM⟩
        have hM : Mem W w (aBlk g4015 23 [.slice none 0 0] :: aBlk g5015 73 [.slice none 0 0] :: aBools 4 v3015 (List.replicate (p0).toNat false) :: aBlk g4 76 [.func (.func 91) #[] #[.pointer (some ⟨g_m, 0, none⟩), .pointer (some ⟨g_out, 0, none⟩), .pointer (some ⟨g_allowed, 0, none⟩)]] :: aBlk g2 3 [.int .i64 p0] :: aBlk g_m 22 [v_m] :: aBlk g_out 55 [.int .i64 out_0, v_out_1] :: aIntsN 3 v_out_1 out_1 :: aBlk g_allowed 63 [.func (.func 64) #[] #[]] :: As) := hM
        refine on_nil ⟨hM.drop.drop.drop, ?_⟩
        exact wc_at (by kernel_rfl) (K13_28 _ _ g4015 g5015 v3015 (hs.sub ⟨rfl, rfl, rfl, rfl, rfl, trivial⟩) (((((((((hM.front 8 rfl).front 8 rfl).front 8 rfl).front 8 rfl).front 8 rfl).front 8 rfl).front 8 rfl).front 7 rfl).front 8 rfl))
    have K13_24 : ∀ (a : Act) (w : World) (g4015 : Nat) (g5015 : Nat), Fr a 13 [(2, .pointer (some ⟨g2, 0, none⟩)), (3, .pointer (some ⟨g4, 0, none⟩)), (4, .pointer (some ⟨g4015, 0, none⟩)), (5, .pointer (some ⟨g5015, 0, none⟩)), (8, .int .i64 p0)] → Mem W w (aBlk g5015 73 [.slice none 0 0] :: aBlk g4015 23 [.slice none 0 0] :: aBlk g4 76 [.func (.func 91) #[] #[.pointer (some ⟨g_m, 0, none⟩), .pointer (some ⟨g_out, 0, none⟩), .pointer (some ⟨g_allowed, 0, none⟩)]] :: aBlk g2 3 [.int .i64 p0] :: aBlk g_m 22 [v_m] :: aBlk g_out 55 [.int .i64 out_0, v_out_1] :: aIntsN 3 v_out_1 out_1 :: aBlk g_allowed 63 [.func (.func 64) #[] #[]] :: As) → T13 4 #[false, true, false, true, true, false, false] a w := by
      intro a w g4015 g5015 hs hM; subst hT13
      refine wc_many (fuel := 3) [0, 2] (by kernel_rfl) (by simp) ⟨?_, ?_, trivial⟩
      · rintro o ⟨rfl⟩
        intro w hw
        replace hM := hM.quiet hw
        refine wmem hs (x_new0I ht_I hM) rfl ?_; intro a v1015 w hs hM
        have hM : Mem W w (aInts 3 v1015 ([]) :: aBlk g5015 73 [.slice none 0 0] :: aBlk g4015 23 [.slice none 0 0] :: aBlk g4 76 [.func (.func 91) #[] #[.pointer (some ⟨g_m, 0, none⟩), .pointer (some ⟨g_out, 0, none⟩), .pointer (some ⟨g_allowed, 0, none⟩)]] :: aBlk g2 3 [.int .i64 p0] :: aBlk g_m 22 [v_m] :: aBlk g_out 55 [.int .i64 out_0, v_out_1] :: aIntsN 3 v_out_1 out_1 :: aBlk g_allowed 63 [.func (.func 64) #[] #[]] :: As) := hM
        refine on_nil ⟨hM.drop.drop.drop, ?_⟩
        exact wc_at (by kernel_rfl) (K13_25 _ _ g4015 g5015 v1015 (hs.sub ⟨rfl, rfl, rfl, rfl, rfl, rfl, trivial⟩) (((((((((hM.front 8 rfl).front 8 rfl).front 8 rfl).front 8 rfl).front 8 rfl).front 8 rfl).front 6 rfl).front 8 rfl).front 8 rfl))
      · rintro o ⟨rfl⟩
        intro w hw
        replace hM := hM.quiet hw
        refine wmem hs (x_makeB hu_B he_bool hs rfl hM h3016) rfl ?_; intro a v3015 w hs hM
        have hM : Mem W w (aBools 4 v3015 (List.replicate (p0).toNat false) :: aBlk g5015 73 [.slice none 0 0] :: aBlk g4015 23 [.slice none 0 0] :: aBlk g4 76 [.func (.func 91) #[] #[.pointer (some ⟨g_m, 0, none⟩), .pointer (some ⟨g_out, 0, none⟩), .pointer (some ⟨g_allowed, 0, none⟩)]] :: aBlk g2 3 [.int .i64 p0] :: aBlk g_m 22 [v_m] :: aBlk g_out 55 [.int .i64 out_0, v_out_1] :: aIntsN 3 v_out_1 out_1 :: aBlk g_allowed 63 [.func (.func 64) #[] #[]] :: As) := hM
        refine on_nil ⟨hM.drop.drop.drop, ?_⟩
        exact wc_at (by kernel_rfl) (K13_28 _ _ g4015 g5015 v3015 (hs.sub ⟨rfl, rfl, rfl, rfl, rfl, trivial⟩) (((((((((hM.front 8 rfl).front 8 rfl).front 8 rfl).front 8 rfl).front 8 rfl).front 8 rfl).front 6 rfl).front 8 rfl).front 8 rfl))
    have K13_1 : ∀ (a : Act) (w : World) (v1015 : Value), Fr a 13 [(2, .pointer (some ⟨g2, 0, none⟩)), (3, .pointer (some ⟨g4, 0, none⟩)), (7, v1015), (8, .int .i64 p0)] → Mem W w (aInts 3 v1015 ([]) :: aBlk g4 76 [.func (.func 91) #[] #[.pointer (some ⟨g_m, 0, none⟩), .pointer (some ⟨g_out, 0, none⟩), .pointer (some ⟨g_allowed, 0, none⟩)]] :: aBlk g2 3 [.int .i64 p0] :: aBlk g_m 22 [v_m] :: aBlk g_out 55 [.int .i64 out_0, v_out_1] :: aIntsN 3 v_out_1 out_1 :: aBlk g_allowed 63 [.func (.func 64) #[] #[]] :: As) → T13 5 #[true, true, false, false, false, false, false] a w := by
      intro a w v1015 hs hM; subst hT13
      refine wc_many (fuel := 4) [2, 3, 4] (by kernel_rfl) (by simp) ⟨?_, ?_, ?_, trivial⟩
      · rintro o ⟨rfl⟩
        intro w hw
        replace hM := hM.quiet hw
        refine wmem hs (x_makeB hu_B he_bool hs rfl hM h3016) rfl ?_; intro a v3015 w hs hM
        have hM : Mem W w (aBools 4 v3015 (List.replicate (p0).toNat false) :: aInts 3 v1015 ([]) :: aBlk g4 76 [.func (.func 91) #[] #[.pointer (some ⟨g_m, 0, none⟩), .pointer (some ⟨g_out, 0, none⟩), .pointer (some ⟨g_allowed, 0, none⟩)]] :: aBlk g2 3 [.int .i64 p0] :: aBlk g_m 22 [v_m] :: aBlk g_out 55 [.int .i64 out_0, v_out_1] :: aIntsN 3 v_out_1 out_1 :: aBlk g_allowed 63 [.func (.func 64) #[] #[]] :: As) := hM
        refine on_nil ⟨hM.drop.drop, ?_⟩
        exact wc_at (by kernel_rfl) (K13_5 _ _ v1015 v3015 (hs.sub ⟨rfl, rfl, rfl, rfl, trivial⟩) hM)
      · rintro o ⟨rfl⟩
        intro w hw
        replace hM := hM.quiet hw
        refine wmem hs (x_alloc he_I rfl hM) rfl ?_; rintro a _ w hs ⟨g4015, rfl, hM⟩
        have hM : Mem W w (aBlk g4015 23 [.slice none 0 0] :: aInts 3 v1015 ([]) :: aBlk g4 76 [.func (.func 91) #[] #[.pointer (some ⟨g_m, 0, none⟩), .pointer (some ⟨g_out, 0, none⟩), .pointer (some ⟨g_allowed, 0, none⟩)]] :: aBlk g2 3 [.int .i64 p0] :: aBlk g_m 22 [v_m] :: aBlk g_out 55 [.int .i64 out_0, v_out_1] :: aIntsN 3 v_out_1 out_1 :: aBlk g_allowed 63 [.func (.func 64) #[] #[]] :: As) := hM
        refine on_nil ⟨hM.drop.drop, ?_⟩
        exact wc_at (by kernel_rfl) (K13_9 _ _ g4015 v1015 (hs.sub ⟨rfl, rfl, rfl, rfl, rfl, trivial⟩) hM)
      · rintro o ⟨rfl⟩
        intro w hw
        replace hM := hM.quiet hw
        refine wmem hs (x_alloc he_B rfl hM) rfl ?_; rintro a _ w hs ⟨g5015, rfl, hM⟩
        have hM : Mem W w (aBlk g5015 73 [.slice none 0 0] :: aInts 3 v1015 ([]) :: aBlk g4 76 [.func (.func 91) #[] #[.pointer (some ⟨g_m, 0, none⟩), .pointer (some ⟨g_out, 0, none⟩), .pointer (some ⟨g_allowed, 0, none⟩)]] :: aBlk g2 3 [.int .i64 p0] :: aBlk g_m 22 [v_m] :: aBlk g_out 55 [.int .i64 out_0, v_out_1] :: aIntsN 3 v_out_1 out_1 :: aBlk g_allowed 63 [.func (.func 64) #[] #[]] :: As) := hM
        refine on_nil ⟨hM.drop.drop, ?_⟩
        exact wc_at (by kernel_rfl) (K13_17 _ _ g5015 v1015 (hs.sub ⟨rfl, rfl, rfl, rfl, rfl, trivial⟩) hM)
    have K13_4 : ∀ (a : Act) (w : World) (v3015 : Value), Fr a 13 [(2, .pointer (some ⟨g2, 0, none⟩)), (3, .pointer (some ⟨g4, 0, none⟩)), (9, v3015)] → Mem W w (aBools 4 v3015 (List.replicate (p0).toNat false) :: aBlk g4 76 [.func (.func 91) #[] #[.pointer (some ⟨g_m, 0, none⟩), .pointer (some ⟨g_out, 0, none⟩), .pointer (some ⟨g_allowed, 0, none⟩)]] :: aBlk g2 3 [.int .i64 p0] :: aBlk g_m 22 [v_m] :: aBlk g_out 55 [.int .i64 out_0, v_out_1] :: aIntsN 3 v_out_1 out_1 :: aBlk g_allowed 63 [.func (.func 64) #[] #[]] :: As) → T13 5 #[false, true, true, false, false, false, false] a w := by
      intro a w v3015 hs hM; subst hT13
      refine wc_many (fuel := 4) [0, 3, 4] (by kernel_rfl) (by simp) ⟨?_, ?_, ?_, trivial⟩
      · rintro o ⟨rfl⟩
        intro w hw
        replace hM := hM.quiet hw
        refine wmem hs (x_new0I ht_I hM) rfl ?_; intro a v1015 w hs hM
        have hM : Mem W w (aInts 3 v1015 ([]) :: aBools 4 v3015 (List.replicate (p0).toNat false) :: aBlk g4 76 [.func (.func 91) #[] #[.pointer (some ⟨g_m, 0, none⟩), .pointer (some ⟨g_out, 0, none⟩), .pointer (some ⟨g_allowed, 0, none⟩)]] :: aBlk g2 3 [.int .i64 p0] :: aBlk g_m 22 [v_m] :: aBlk g_out 55 [.int .i64 out_0, v_out_1] :: aIntsN 3 v_out_1 out_1 :: aBlk g_allowed 63 [.func (.func 64) #[] #[]] :: As) := hM
        refine on_nil ⟨hM.drop.drop, ?_⟩
        exact wc_at (by kernel_rfl) (K13_5 _ _ v1015 v3015 (hs.sub ⟨rfl, rfl, rfl, rfl, trivial⟩) ((((((((hM.front 7 rfl).front 7 rfl).front 7 rfl).front 7 rfl).front 7 rfl).front 7 rfl).front 6 rfl).front 7 rfl))
      · rintro o ⟨rfl⟩
        intro w hw
        replace hM := hM.quiet hw
        refine wmem hs (x_alloc he_I rfl hM) rfl ?_; rintro a _ w hs ⟨g4015, rfl, hM⟩
        have hM : Mem W w (aBlk g4015 23 [.slice none 0 0] :: aBools 4 v3015 (List.replicate (p0).toNat false) :: aBlk g4 76 [.func (.func 91) #[] #[.pointer (some ⟨g_m, 0, none⟩), .pointer (some ⟨g_out, 0, none⟩), .pointer (some ⟨g_allowed, 0, none⟩)]] :: aBlk g2 3 [.int .i64 p0] :: aBlk g_m 22 [v_m] :: aBlk g_out 55 [.int .i64 out_0, v_out_1] :: aIntsN 3 v_out_1 out_1 :: aBlk g_allowed 63 [.func (.func 64) #[] #[]] :: As) := hM
        refine on_nil ⟨hM.drop.drop, ?_⟩
        exact wc_at (by kernel_rfl) (K13_12 _ _ g4015 v3015 (hs.sub ⟨rfl, rfl, rfl, rfl, trivial⟩) hM)
      · rintro o ⟨rfl⟩
        intro w hw
        replace hM := hM.quiet hw
        refine wmem hs (x_alloc he_B rfl hM) rfl ?_; rintro a _ w hs ⟨g5015, rfl, hM⟩
        have hM : Mem W w (aBlk g5015 73 [.slice none 0 0] :: aBools 4 v3015 (List.replicate (p0).toNat false) :: aBlk g4 76 [.func (.func 91) #[] #[.pointer (some ⟨g_m, 0, none⟩), .pointer (some ⟨g_out, 0, none⟩), .pointer (some ⟨g_allowed, 0, none⟩)]] :: aBlk g2 3 [.int .i64 p0] :: aBlk g_m 22 [v_m] :: aBlk g_out 55 [.int .i64 out_0, v_out_1] :: aIntsN 3 v_out_1 out_1 :: aBlk g_allowed 63 [.func (.func 64) #[] #[]] :: As) := hM
        refine on_nil ⟨hM.drop.drop, ?_⟩
        exact wc_at (by kernel_rfl) (K13_20 _ _ g5015 v3015 (hs.sub ⟨rfl, rfl, rfl, rfl, trivial⟩) hM)
    have K13_8 : ∀ (a : Act) (w : World) (g4015 : Nat), Fr a 13 [(2, .pointer (some ⟨g2, 0, none⟩)), (3, .pointer (some ⟨g4, 0, none⟩)), (4, .pointer (some ⟨g4015, 0, none⟩)), (8, .int .i64 p0)] → Mem W w (aBlk g4015 23 [.slice none 0 0] :: aBlk g4 76 [.func (.func 91) #[] #[.pointer (some ⟨g_m, 0, none⟩), .pointer (some ⟨g_out, 0, none⟩), .pointer (some ⟨g_allowed, 0, none⟩)]] :: aBlk g2 3 [.int .i64 p0] :: aBlk g_m 22 [v_m] :: aBlk g_out 55 [.int .i64 out_0, v_out_1] :: aIntsN 3 v_out_1 out_1 :: aBlk g_allowed 63 [.func (.func 64) #[] #[]] :: As) → T13 5 #[false, true, false, true, false, false, false] a w := by
      intro a w g4015 hs hM; subst hT13
      refine wc_many (fuel := 4) [0, 2, 4] (by kernel_rfl) (by simp) ⟨?_, ?_, ?_, trivial⟩
      · rintro o ⟨rfl⟩
        intro w hw
        replace hM := hM.quiet hw
        refine wmem hs (x_new0I ht_I hM) rfl ?_; intro a v1015 w hs hM
        have hM : Mem W w (aInts 3 v1015 ([]) :: aBlk g4015 23 [.slice none 0 0] :: aBlk g4 76 [.func (.func 91) #[] #[.pointer (some ⟨g_m, 0, none⟩), .pointer (some ⟨g_out, 0, none⟩), .pointer (some ⟨g_allowed, 0, none⟩)]] :: aBlk g2 3 [.int .i64 p0] :: aBlk g_m 22 [v_m] :: aBlk g_out 55 [.int .i64 out_0, v_out_1] :: aIntsN 3 v_out_1 out_1 :: aBlk g_allowed 63 [.func (.func 64) #[] #[]] :: As) := hM
        refine on_nil ⟨hM.drop.drop, ?_⟩
        exact wc_at (by kernel_rfl) (K13_9 _ _ g4015 v1015 (hs.sub ⟨rfl, rfl, rfl, rfl, rfl, trivial⟩) ((((((((hM.front 7 rfl).front 7 rfl).front 7 rfl).front 7 rfl).front 7 rfl).front 7 rfl).front 6 rfl).front 7 rfl))
      · rintro o ⟨rfl⟩
        intro w hw
        replace hM := hM.quiet hw
        refine wmem hs (x_makeB hu_B he_bool hs rfl hM h3016) rfl ?_; intro a v3015 w hs hM
        have hM : Mem W w (aBools 4 v3015 (List.replicate (p0).toNat false) :: aBlk g4015 23 [.slice none 0 0] :: aBlk g4 76 [.func (.func 91) #[] #[.pointer (some ⟨g_m, 0, none⟩), .pointer (some ⟨g_out, 0, none⟩), .pointer (some ⟨g_allowed, 0, none⟩)]] :: aBlk g2 3 [.int .i64 p0] :: aBlk g_m 22 [v_m] :: aBlk g_out 55 [.int .i64 out_0, v_out_1] :: aIntsN 3 v_out_1 out_1 :: aBlk g_allowed 63 [.func (.func 64) #[] #[]] :: As) := hM
        refine on_nil ⟨hM.drop.drop, ?_⟩
        exact wc_at (by kernel_rfl) (K13_12 _ _ g4015 v3015 (hs.sub ⟨rfl, rfl, rfl, rfl, trivial⟩) ((((((((hM.front 7 rfl).front 7 rfl).front 7 rfl).front 7 rfl).front 7 rfl).front 7 rfl).front 6 rfl).front 7 rfl))
      · rintro o ⟨rfl⟩
        intro w hw
        replace hM := hM.quiet hw
        refine wmem hs (x_alloc he_B rfl hM) rfl ?_; rintro a _ w hs ⟨g5015, rfl, hM⟩
        have hM : Mem W w (aBlk g5015 73 [.slice none 0 0] :: aBlk g4015 23 [.slice none 0 0] :: aBlk g4 76 [.func (.func 91) #[] #[.pointer (some ⟨g_m, 0, none⟩), .pointer (some ⟨g_out, 0, none⟩), .pointer (some ⟨g_allowed, 0, none⟩)]] :: aBlk g2 3 [.int .i64 p0] :: aBlk g_m 22 [v_m] :: aBlk g_out 55 [.int .i64 out_0, v_out_1] :: aIntsN 3 v_out_1 out_1 :: aBlk g_allowed 63 [.func (.func 64) #[] #[]] :: As) := hM
        refine on_nil ⟨hM.drop.drop, ?_⟩
        exact wc_at (by kernel_rfl) (K13_24 _ _ g4015 g5015 (hs.sub ⟨rfl, rfl, rfl, rfl, rfl, trivial⟩) hM)
    have K13_16 : ∀ (a : Act) (w : World) (g5015 : Nat), Fr a 13 [(2, .pointer (some ⟨g2, 0, none⟩)), (3, .pointer (some ⟨g4, 0, none⟩)), (5, .pointer (some ⟨g5015, 0, none⟩)), (8, .int .i64 p0)] → Mem W w (aBlk g5015 73 [.slice none 0 0] :: aBlk g4 76 [.func (.func 91) #[] #[.pointer (some ⟨g_m, 0, none⟩), .pointer (some ⟨g_out, 0, none⟩), .pointer (some ⟨g_allowed, 0, none⟩)]] :: aBlk g2 3 [.int .i64 p0] :: aBlk g_m 22 [v_m] :: aBlk g_out 55 [.int .i64 out_0, v_out_1] :: aIntsN 3 v_out_1 out_1 :: aBlk g_allowed 63 [.func (.func 64) #[] #[]] :: As) → T13 5 #[false, true, false, false, true, false, false] a w := by
      intro a w g5015 hs hM; subst hT13
      refine wc_many (fuel := 4) [0, 2, 3] (by kernel_rfl) (by simp) ⟨?_, ?_, ?_, trivial⟩
      · rintro o ⟨rfl⟩
        intro w hw
        replace hM := hM.quiet hw
        refine wmem hs (x_new0I ht_I hM) rfl ?_; intro a v1015 w hs hM
        have hM : Mem W w (aInts 3 v1015 ([]) :: aBlk g5015 73 [.slice none 0 0] :: aBlk g4 76 [.func (.func 91) #[] #[.pointer (some ⟨g_m, 0, none⟩), .pointer (some ⟨g_out, 0, none⟩), .pointer (some ⟨g_allowed, 0, none⟩)]] :: aBlk g2 3 [.int .i64 p0] :: aBlk g_m 22 [v_m] :: aBlk g_out 55 [.int .i64 out_0, v_out_1] :: aIntsN 3 v_out_1 out_1 :: aBlk g_allowed 63 [.func (.func 64) #[] #[]] :: As) := hM
        refine on_nil ⟨hM.drop.drop, ?_⟩
        exact wc_at (by kernel_rfl) (K13_17 _ _ g5015 v1015 (hs.sub ⟨rfl, rfl, rfl, rfl, rfl, trivial⟩) ((((((((hM.front 7 rfl).front 7 rfl).front 7 rfl).front 7 rfl).front 7 rfl).front 7 rfl).front 6 rfl).front 7 rfl))
      · rintro o ⟨rfl⟩
        intro w hw
        replace hM := hM.quiet hw
        refine wmem hs (x_makeB hu_B he_bool hs rfl hM h3016) rfl ?_; intro a v3015 w hs hM
        have hM : Mem W w (aBools 4 v3015 (List.replicate (p0).toNat false) :: aBlk g5015 73 [.slice none 0 0] :: aBlk g4 76 [.func (.func 91) #[] #[.pointer (some ⟨g_m, 0, none⟩), .pointer (some ⟨g_out, 0, none⟩), .pointer (some ⟨g_allowed, 0, none⟩)]] :: aBlk g2 3 [.int .i64 p0] :: aBlk g_m 22 [v_m] :: aBlk g_out 55 [.int .i64 out_0, v_out_1] :: aIntsN 3 v_out_1 out_1 :: aBlk g_allowed 63 [.func (.func 64) #[] #[]] :: As) := hM
        refine on_nil ⟨hM.drop.drop, ?_⟩
        exact wc_at (by kernel_rfl) (K13_20 _ _ g5015 v3015 (hs.sub ⟨rfl, rfl, rfl, rfl, trivial⟩) ((((((((hM.front 7 rfl).front 7 rfl).front 7 rfl).front 7 rfl).front 7 rfl).front 7 rfl).front 6 rfl).front 7 rfl))
      · rintro o ⟨rfl⟩
        intro w hw
        replace hM := hM.quiet hw
        refine wmem hs (x_alloc he_I rfl hM) rfl ?_; rintro a _ w hs ⟨g4015, rfl, hM⟩
        have hM : Mem W w (aBlk g4015 23 [.slice none 0 0] :: aBlk g5015 73 [.slice none 0 0] :: aBlk g4 76 [.func (.func 91) #[] #[.pointer (some ⟨g_m, 0, none⟩), .pointer (some ⟨g_out, 0, none⟩), .pointer (some ⟨g_allowed, 0, none⟩)]] :: aBlk g2 3 [.int .i64 p0] :: aBlk g_m 22 [v_m] :: aBlk g_out 55 [.int .i64 out_0, v_out_1] :: aIntsN 3 v_out_1 out_1 :: aBlk g_allowed 63 [.func (.func 64) #[] #[]] :: As) := hM
        refine on_nil ⟨hM.drop.drop, ?_⟩
        exact wc_at (by kernel_rfl) (K13_24 _ _ g4015 g5015 (hs.sub ⟨rfl, rfl, rfl, rfl, rfl, trivial⟩) ((((((((hM.front 7 rfl).front 7 rfl).front 7 rfl).front 7 rfl).front 7 rfl).front 7 rfl).front 6 rfl).front 7 rfl))
    have K13_0 : ∀ (a : Act) (w : World), Fr a 13 [(2, .pointer (some ⟨g2, 0, none⟩)), (3, .pointer (some ⟨g4, 0, none⟩)), (8, .int .i64 p0)] → Mem W w (aBlk g4 76 [.func (.func 91) #[] #[.pointer (some ⟨g_m, 0, none⟩), .pointer (some ⟨g_out, 0, none⟩), .pointer (some ⟨g_allowed, 0, none⟩)]] :: aBlk g2 3 [.int .i64 p0] :: aBlk g_m 22 [v_m] :: aBlk g_out 55 [.int .i64 out_0, v_out_1] :: aIntsN 3 v_out_1 out_1 :: aBlk g_allowed 63 [.func (.func 64) #[] #[]] :: As) → T13 6 #[false, true, false, false, false, false, false] a w := by
      intro a w hs hM; subst hT13
      refine wc_many (fuel := 5) [0, 2, 3, 4] (by kernel_rfl) (by simp) ⟨?_, ?_, ?_, ?_, trivial⟩
      · rintro o ⟨rfl⟩
        intro w hw
        replace hM := hM.quiet hw
        refine wmem hs (x_new0I ht_I hM) rfl ?_; intro a v1015 w hs hM
        have hM : Mem W w (aInts 3 v1015 ([]) :: aBlk g4 76 [.func (.func 91) #[] #[.pointer (some ⟨g_m, 0, none⟩), .pointer (some ⟨g_out, 0, none⟩), .pointer (some ⟨g_allowed, 0, none⟩)]] :: aBlk g2 3 [.int .i64 p0] :: aBlk g_m 22 [v_m] :: aBlk g_out 55 [.int .i64 out_0, v_out_1] :: aIntsN 3 v_out_1 out_1 :: aBlk g_allowed 63 [.func (.func 64) #[] #[]] :: As) := hM
        refine on_nil ⟨hM.drop, ?_⟩
        exact wc_at (by kernel_rfl) (K13_1 _ _ v1015 (hs.sub ⟨rfl, rfl, rfl, rfl, trivial⟩) hM)
      · rintro o ⟨rfl⟩
        intro w hw
        replace hM := hM.quiet hw
        refine wmem hs (x_makeB hu_B he_bool hs rfl hM h3016) rfl ?_; intro a v3015 w hs hM
        have hM : Mem W w (aBools 4 v3015 (List.replicate (p0).toNat false) :: aBlk g4 76 [.func (.func 91) #[] #[.pointer (some ⟨g_m, 0, none⟩), .pointer (some ⟨g_out, 0, none⟩), .pointer (some ⟨g_allowed, 0, none⟩)]] :: aBlk g2 3 [.int .i64 p0] :: aBlk g_m 22 [v_m] :: aBlk g_out 55 [.int .i64 out_0, v_out_1] :: aIntsN 3 v_out_1 out_1 :: aBlk g_allowed 63 [.func (.func 64) #[] #[]] :: As) := hM
        refine on_nil ⟨hM.drop, ?_⟩
        exact wc_at (by kernel_rfl) (K13_4 _ _ v3015 (hs.sub ⟨rfl, rfl, rfl, trivial⟩) hM)
      · rintro o ⟨rfl⟩
        intro w hw
        replace hM := hM.quiet hw
        refine wmem hs (x_alloc he_I rfl hM) rfl ?_; rintro a _ w hs ⟨g4015, rfl, hM⟩
        have hM : Mem W w (aBlk g4015 23 [.slice none 0 0] :: aBlk g4 76 [.func (.func 91) #[] #[.pointer (some ⟨g_m, 0, none⟩), .pointer (some ⟨g_out, 0, none⟩), .pointer (some ⟨g_allowed, 0, none⟩)]] :: aBlk g2 3 [.int .i64 p0] :: aBlk g_m 22 [v_m] :: aBlk g_out 55 [.int .i64 out_0, v_out_1] :: aIntsN 3 v_out_1 out_1 :: aBlk g_allowed 63 [.func (.func 64) #[] #[]] :: As) := hM
        refine on_nil ⟨hM.drop, ?_⟩
        exact wc_at (by kernel_rfl) (K13_8 _ _ g4015 (hs.sub ⟨rfl, rfl, rfl, rfl, trivial⟩) hM)
      · rintro o ⟨rfl⟩
        intro w hw
        replace hM := hM.quiet hw
        refine wmem hs (x_alloc he_B rfl hM) rfl ?_; rintro a _ w hs ⟨g5015, rfl, hM⟩
        have hM : Mem W w (aBlk g5015 73 [.slice none 0 0] :: aBlk g4 76 [.func (.func 91) #[] #[.pointer (some ⟨g_m, 0, none⟩), .pointer (some ⟨g_out, 0, none⟩), .pointer (some ⟨g_allowed, 0, none⟩)]] :: aBlk g2 3 [.int .i64 p0] :: aBlk g_m 22 [v_m] :: aBlk g_out 55 [.int .i64 out_0, v_out_1] :: aIntsN 3 v_out_1 out_1 :: aBlk g_allowed 63 [.func (.func 64) #[] #[]] :: As) := hM
        refine on_nil ⟨hM.drop, ?_⟩
        exact wc_at (by kernel_rfl) (K13_16 _ _ g5015 (hs.sub ⟨rfl, rfl, rfl, rfl, trivial⟩) hM)
    exact wc_at (by kernel_rfl) (K13_0 _ _ (hs.sub ⟨rfl, rfl, rfl, trivial⟩) hM)
  rintro a w ⟨g5, g6, v7, l8, v9, l10, rfl, hs, hM⟩
  have hm := hk12
  refine x_nt ?_
  refine wp_seq ?_
  refine wp_region_lit ?_
  refine wmem hs (x_alloc he_1 rfl hM) rfl ?_; rintro a _ w hs ⟨g9015, rfl, hM⟩
  have hM : Mem W w (aBlk g9015 1 [.nilFunc] :: aBlk g5 73 [v7] :: aBlk g6 23 [v9] :: aBools 4 v7 l8 :: aInts 3 v9 l10 :: aBlk g4 76 [.func (.func 91) #[] #[.pointer (some ⟨g_m, 0, none⟩), .pointer (some ⟨g_out, 0, none⟩), .pointer (some ⟨g_allowed, 0, none⟩)]] :: aBlk g2 3 [.int .i64 p0] :: aBlk g_m 22 [v_m] :: aBlk g_out 55 [.int .i64 out_0, v_out_1] :: aIntsN 3 v_out_1 out_1 :: aBlk g_allowed 63 [.func (.func 64) #[] #[]] :: As) := hM
  refine wpList_nil ?_
  refine x_nt ?_
  refine wp_seq ?_
  refine wp_region_lit ?_
  refine wl hs (y_makeFunc hs rfl) rfl ?_; intro a hs
  refine wstore hs rfl rfl (x_storeBlk he_1 rfl (hM.front 0 rfl)) ?_; intro w hM
  have hM : Mem W w (aBlk g9015 1 [.func (.func 104) #[] #[.pointer (some ⟨g6, 0, none⟩), .pointer (some ⟨g2, 0, none⟩), .pointer (some ⟨g4, 0, none⟩), .pointer (some ⟨g5, 0, none⟩), .pointer (some ⟨g9015, 0, none⟩)]] :: aBlk g5 73 [v7] :: aBlk g6 23 [v9] :: aBools 4 v7 l8 :: aInts 3 v9 l10 :: aBlk g4 76 [.func (.func 91) #[] #[.pointer (some ⟨g_m, 0, none⟩), .pointer (some ⟨g_out, 0, none⟩), .pointer (some ⟨g_allowed, 0, none⟩)]] :: aBlk g2 3 [.int .i64 p0] :: aBlk g_m 22 [v_m] :: aBlk g_out 55 [.int .i64 out_0, v_out_1] :: aIntsN 3 v_out_1 out_1 :: aBlk g_allowed 63 [.func (.func 64) #[] #[]] :: As) := hM
  refine wpList_nil ?_
  refine x_nt ?_
  refine wp_region_lit ?_
  refine wl hs (y_load sc_1 hs rfl (hM.cellBlk 0 rfl 0 rfl)) rfl ?_; intro a hs
  obtain ⟨y9016, h9017, hm⟩ := bindE hm
  refine wcallv is_104 hs rfl rfl rfl (impl_permutations_1_any_any g6 v9 l10 g2 p0 g4 g5 v7 l8 g9015 g_m v_m m g_out out_0 v_out_1 out_1 g_allowed _ _ _ hr_m (((((((((((hM.front 10 rfl).front 10 rfl).front 10 rfl).front 10 rfl).front 4 rfl).front 7 rfl).front 6 rfl).front 9 rfl).front 10 rfl).front 10 rfl).front 10 rfl) h9017) ?_; rintro a _ w hs ⟨v9018, v9019, v9020, rfl, hM⟩
  have hM : Mem W w (aBlk g6 23 [v9018] :: aInts 3 v9018 y9016.1 :: aBlk g2 3 [.int .i64 p0] :: aBlk g4 76 [.func (.func 91) #[] #[.pointer (some ⟨g_m, 0, none⟩), .pointer (some ⟨g_out, 0, none⟩), .pointer (some ⟨g_allowed, 0, none⟩)]] :: aBlk g5 73 [v9019] :: aBools 4 v9019 y9016.2.1 :: aBlk g9015 1 [.func (.func 104) #[] #[.pointer (some ⟨g6, 0, none⟩), .pointer (some ⟨g2, 0, none⟩), .pointer (some ⟨g4, 0, none⟩), .pointer (some ⟨g5, 0, none⟩), .pointer (some ⟨g9015, 0, none⟩)]] :: aBlk g_m 22 [v_m] :: aBlk g_out 55 [.int .i64 y9016.2.2.1, v9020] :: aIntsN 3 v9020 y9016.2.2.2 :: aBlk g_allowed 63 [.func (.func 64) #[] #[]] :: As) := hM
  refine wpList_nil ?_
  have hm : some (y9016.2.2.1, y9016.2.2.2) = some r := hm
  obtain rfl := Option.some.inj hm
  refine x_end0 rfl hs ⟨_, rfl, ?_⟩
  exact ⟨v9020, rfl, hM.drop.drop.drop.drop.drop.drop.drop⟩

theorem impl_bestOf_any_any (v_p0 : Value) (p0 : List (List Int)) (W : World) (hr_p0 : RdM W v_p0 p0) {r : Int × (List Int) × Bool} (hm : impl_bestOf_any_m p0 = some r) : Calls Try.prog 63 [v_p0, .func (.func 64) #[] #[]].toArray W fun e w => ∃ v, e = .returned v ∧ ∃ v1, v = .tuple #[.agg #[.int .i64 r.1, v1], .bool r.2.2] ∧ Mem W w [aInts 3 v1 r.2.1] := by
  refine x_enter Try.func63 rfl Try.ntmps63 rfl ?_
  intro a hs
  have hM := Mem.start W
  unfold impl_bestOf_any_m at hm
  refine wp_seq ?_
  refine wp_region_lit ?_
  refine wmem hs (x_box (RdS.one hr_p0) hs rfl hM) rfl ?_; rintro a _ w hs ⟨g2, rfl, hM⟩
  have hM : Mem W w [aBlk g2 22 [v_p0]] := hM
  refine wmem hs (x_box rfl hs rfl hM) rfl ?_; rintro a _ w hs ⟨g4, rfl, hM⟩
  have hM : Mem W w [aBlk g4 63 [.func (.func 64) #[] #[]], aBlk g2 22 [v_p0]] := hM
  refine wmem hs (x_allocS sT_55 hM) rfl ?_; rintro a _ w hs ⟨g6, rfl, hM⟩
  have hM : Mem W w [aBlk g6 55 [.int .i64 0, .slice none 0 0], aBlk g4 63 [.func (.func 64) #[] #[]], aBlk g2 22 [v_p0]] := hM
  refine wl hs (y_assign hs rfl) rfl ?_; intro a hs
  refine wpList_nil ?_
  refine x_nt ?_
  refine wp_seq ?_
  refine wp_region_lit ?_
  refine wl hs (y_build (cs := [.int .i64 1000000000, .slice none 0 0]) sT_55 hs rfl ⟨rfl, rfl, trivial⟩ rfl) rfl ?_; intro a hs
  refine wmem hs (x_allocS sT_55 hM) rfl ?_; rintro a _ w hs ⟨g8, rfl, hM⟩
  have hM : Mem W w [aBlk g8 55 [.int .i64 0, .slice none 0 0], aBlk g6 55 [.int .i64 0, .slice none 0 0], aBlk g4 63 [.func (.func 64) #[] #[]], aBlk g2 22 [v_p0]] := hM
  refine wstore hs rfl rfl (x_storeS (cs := [.int .i64 0, .slice none 0 0]) (us := [.int .i64 1000000000, .slice none 0 0]) sT_55 ⟨rfl, rfl, trivial⟩ rfl rfl (hM.front 0 rfl)) ?_; intro w hM
  have hM : Mem W w [aBlk g8 55 [.int .i64 1000000000, .slice none 0 0], aBlk g6 55 [.int .i64 0, .slice none 0 0], aBlk g4 63 [.func (.func 64) #[] #[]], aBlk g2 22 [v_p0]] := hM
  refine wpList_nil ?_
  refine x_nt ?_
  refine wp_seq ?_
  refine wp_region_lit ?_
  refine wl hs (y_load sc_M hs rfl (hM.cellBlk 3 rfl 0 rfl)) rfl ?_; intro a hs
  refine wl hs (y_len hu_M hs rfl (RdM.below hr_p0 hM.bel)) rfl ?_; intro a hs
  refine wl hs (y_makeFunc hs rfl) rfl ?_; intro a hs
  have hM := hM.nilN 3
  obtain ⟨y10, h11, hm⟩ := bindE hm
  refine wcall is_86 hs rfl rfl (impl_permutations_any_any (p0.length : Int) g2 v_p0 p0 g8 1000000000 (.slice none 0 0) ([]) g4 _ _ _ hr_p0 (((((hM.front 2 rfl).front 3 rfl).front 2 rfl).front 3 rfl).front 4 rfl) h11) ?_; rintro a _ w hs ⟨v12, rfl, hM⟩
  have hM : Mem W w [aBlk g2 22 [v_p0], aBlk g8 55 [.int .i64 y10.1, v12], aIntsN 3 v12 y10.2, aBlk g4 63 [.func (.func 64) #[] #[]], aBlk g6 55 [.int .i64 0, .slice none 0 0]] := hM
  refine wpList_nil ?_
  refine x_nt ?_
  refine wp_seq ?_
  refine wc_start hmix [0, 1, 2, 3] (fun w => Mem W w [aBlk g2 22 [v_p0], aBlk g8 55 [.int .i64 y10.1, v12], aIntsN 3 v12 y10.2, aBlk g4 63 [.func (.func 64) #[] #[]]]) (by rfl) ?_
  refine wc (i := 0) (fuel := 5) rfl (by kernel_rfl) (fun w w2 hS hE => hS.quiet hE) (hM.keep_ 4) hs (fun w1 hS => y_loadS (cs := [.int .i64 y10.1, v12]) sT_55 hs rfl (hS.heapBlk 1 rfl) rfl) rfl ?_; intro a hs
  refine wc (i := 1) (fuel := 4) rfl (by kernel_rfl) (fun w w2 hS hE => hS.quiet hE) (hM.keep_ 4) hs (fun w1 hS => y_fieldAddr sT_55 hs rfl rfl) rfl ?_; intro a hs
  refine wc (i := 2) (fuel := 3) rfl (by kernel_rfl) (fun w w2 hS hE => hS.quiet hE) (hM.keep_ 4) hs (fun w1 hS => y_load sc_I hs rfl (hS.cellBlk 1 rfl 1 rfl)) rfl ?_; intro a hs
  refine wc (i := 3) (fuel := 2) rfl (by kernel_rfl) (fun w w2 hS hE => hS.quiet hE) (hM.keep_ 4) hs (fun w1 hS => y_neqN hu_I hs rfl rfl (hS.nilqN 2 rfl)) rfl ?_; intro a hs
  refine wc_oneS (fuel := 1) 4 rfl (by kernel_rfl) ?_
  intro w hw
  replace hM := hM.quiet hw
  refine wstore hs rfl rfl (x_storeS (cs := [.int .i64 0, .slice none 0 0]) (us := [.int .i64 y10.1, v12]) sT_55 ⟨rfl, (Mem.one (hM.front 2 rfl).ofN), trivial⟩ rfl rfl (hM.front 4 rfl)) ?_; intro w hM
  have hM : Mem W w [aBlk g6 55 [.int .i64 y10.1, v12], aBlk g2 22 [v_p0], aBlk g8 55 [.int .i64 y10.1, v12], aIntsN 3 v12 y10.2, aBlk g4 63 [.func (.func 64) #[] #[]]] := hM
  refine on_nil ⟨hM.drop, ?_⟩
  refine wc_one (fuel := 0) 5 rfl (by kernel_rfl) ?_
  intro w hw
  replace hM := hM.quiet hw
  refine wl hs (y_assign hs rfl) rfl ?_; intro a hs
  refine on_nil ?_
  refine wc_done (by kernel_rfl) ?_
  intro w hw
  replace hM := hM.quiet hw
  refine x_nt ?_
  refine wp_ret ?_
  have hm : some (y10.1, y10.2, decide ((y10.2.length : Int) > 0)) = some r := hm
  obtain rfl := Option.some.inj hm
  refine x_retR (rs := [.cell 4 55, .tmp 5]) (vs := [.agg #[.int .i64 y10.1, v12], .bool (decide ((y10.2.length : Int) > 0))]) rfl hs ⟨⟨_, rfl, loadS (cs := [.int .i64 y10.1, v12]) sT_55 (hM.heapBlk 0 rfl) rfl⟩, rfl, trivial⟩ ⟨_, rfl, ?_⟩
  have hM : Mem W w [aInts 3 v12 y10.2, aBlk g6 55 [.int .i64 y10.1, v12], aBlk g2 22 [v_p0], aBlk g8 55 [.int .i64 y10.1, v12], aBlk g4 63 [.func (.func 64) #[] #[]]] := (hM.front 3 rfl).ofN
  exact ⟨_, rfl, (hM.keep_ 1)⟩

theorem impl_bestAsked_any (v_p0 : Value) (p0 : List (List Int)) (W : World) (hr_p0 : RdM W v_p0 p0) {r : Int × (List Int) × Bool} (hm : impl_bestAsked_m p0 = some r) : Calls Try.prog 58 [v_p0].toArray W fun e w => ∃ v, e = .returned v ∧ ∃ v1, v = .tuple #[.agg #[.int .i64 r.1, v1], .bool r.2.2] ∧ Mem W w [aInts 3 v1 r.2.1] := by
  refine x_enter Try.func58 rfl Try.ntmps58 rfl ?_
  intro a hs
  have hM := Mem.start W
  unfold impl_bestAsked_m at hm
  refine wp_seq ?_
  refine wp_region_lit ?_
  refine wmem hs (x_allocS sT_55 hM) rfl ?_; rintro a _ w hs ⟨g2, rfl, hM⟩
  have hM : Mem W w [aBlk g2 55 [.int .i64 0, .slice none 0 0]] := hM
  refine wl hs (y_assign hs rfl) rfl ?_; intro a hs
  refine wpList_nil ?_
  refine x_nt ?_
  refine wp_seq ?_
  refine wp_seq ?_
  refine wp_region_lit ?_
  refine wl hs (y_move hs rfl) rfl ?_; intro a hs
  obtain ⟨y3, h4, hm⟩ := bindE hm
  refine wcall is_47 hs rfl rfl (impl_isSquare_any v_p0 p0 _ (RdM.below hr_p0 hM.bel) h4) ?_; rintro a _ w hs ⟨rfl, hX⟩
  have hM : Mem W w [aBlk g2 55 [.int .i64 0, .slice none 0 0]] := hM.call hX
  refine wl hs (y_not hs rfl) rfl ?_; intro a hs
  refine wpList_nil ?_
  refine x_nt ?_
  refine x_cond hs rfl (fun hb => ?_) (fun hb => ?_)
  · replace hm := condT hb hm
    refine wp_seq ?_
    refine wp_region_lit ?_
    refine wl hs (y_build (cs := [.int .i64 0, .slice none 0 0]) sT_55 hs rfl trivial rfl) rfl ?_; intro a hs
    refine wstore hs rfl rfl (x_storeS (cs := [.int .i64 0, .slice none 0 0]) (us := [.int .i64 0, .slice none 0 0]) sT_55 ⟨rfl, rfl, trivial⟩ rfl rfl (hM.front 0 rfl)) ?_; intro w hM
    have hM : Mem W w [aBlk g2 55 [.int .i64 0, .slice none 0 0]] := hM
    refine wl hs (y_assign hs rfl) rfl ?_; intro a hs
    refine wpList_nil ?_
    refine x_nt ?_
    refine wp_ret ?_
    refine x_rt ?_
    have hm : some (0, [], false) = some r := hm
    obtain rfl := Option.some.inj hm
    refine x_retR (rs := [.cell 2 55, .tmp 3]) (vs := [.agg #[.int .i64 0, .slice none 0 0], .bool false]) rfl hs ⟨⟨_, rfl, loadS (cs := [.int .i64 0, .slice none 0 0]) sT_55 (hM.heapBlk 0 rfl) rfl⟩, rfl, trivial⟩ ⟨_, rfl, ?_⟩
    have hM := hM.nilI 3
    exact ⟨_, rfl, (hM.keep_ 1)⟩
  · replace hm := condF hb hm
    refine wp_skip ?_
    refine x_nt ?_
    refine wp_seq ?_
    refine wp_region_lit ?_
    refine wl hs (y_move hs rfl) rfl ?_; intro a hs
    obtain ⟨y6, h7, hm⟩ := bindE hm
    refine wcall is_63 hs rfl rfl (impl_bestOf_any_any v_p0 p0 _ (RdM.below hr_p0 hM.bel) h7) ?_; rintro a _ w hs ⟨v10, rfl, hX⟩
    have hM : Mem W w [aInts 3 v10 y6.2.1, aBlk g2 55 [.int .i64 0, .slice none 0 0]] := hM.call hX
    refine wl hs (y_extract hs rfl rfl) rfl ?_; intro a hs
    refine wl hs (y_extract hs rfl rfl) rfl ?_; intro a hs
    refine wstore hs rfl rfl (x_storeS (cs := [.int .i64 0, .slice none 0 0]) (us := [.int .i64 y6.1, v10]) sT_55 ⟨rfl, (Mem.one (hM.front 0 rfl)), trivial⟩ rfl rfl (hM.front 1 rfl)) ?_; intro w hM
    have hM : Mem W w [aBlk g2 55 [.int .i64 y6.1, v10], aInts 3 v10 y6.2.1] := hM
    refine wl hs (y_assign hs rfl) rfl ?_; intro a hs
    refine wpList_nil ?_
    refine x_nt ?_
    refine wp_ret ?_
    have hm : some (y6.1, y6.2.1, y6.2.2) = some r := hm
    obtain rfl := Option.some.inj hm
    refine x_retR (rs := [.cell 2 55, .tmp 3]) (vs := [.agg #[.int .i64 y6.1, v10], .bool y6.2.2]) rfl hs ⟨⟨_, rfl, loadS (cs := [.int .i64 y6.1, v10]) sT_55 (hM.heapBlk 0 rfl) rfl⟩, rfl, trivial⟩ ⟨_, rfl, ?_⟩
    exact ⟨_, rfl, hM.drop⟩

theorem impl_BestAssignment_any (v_p0 : Value) (p0 : List (List Int)) (W : World) (hr_p0 : RdM W v_p0 p0) {r : (List Int) × Int × Bool} (hm : impl_BestAssignment_m p0 = some r) : Calls Try.prog 27 [v_p0].toArray W fun e w => ∃ v, e = .returned v ∧ ∃ v0, v = .tuple #[v0, .int .i64 r.2.1, .bool r.2.2] ∧ Mem W w [aInts 3 v0 r.1] := by
  refine x_enter Try.func27 rfl Try.ntmps27 rfl ?_
  intro a hs
  have hM := Mem.start W
  unfold impl_BestAssignment_m at hm
  refine wp_seq ?_
  refine wp_region_lit ?_
  refine wl hs (y_assign hs rfl) rfl ?_; intro a hs
  refine wl hs (y_assign hs rfl) rfl ?_; intro a hs
  refine wl hs (y_assign hs rfl) rfl ?_; intro a hs
  refine wpList_nil ?_
  refine x_nt ?_
  refine wp_seq ?_
  refine wp_region_lit ?_
  refine wl hs (y_move hs rfl) rfl ?_; intro a hs
  obtain ⟨y1, h2, hm⟩ := bindE hm
  refine wcall is_58 hs rfl rfl (impl_bestAsked_any v_p0 p0 _ (RdM.below hr_p0 hM.bel) h2) ?_; rintro a _ w hs ⟨v5, rfl, hX⟩
  have hM : Mem W w [aInts 3 v5 y1.2.1] := hM.call hX
  refine wl hs (y_move hs rfl) rfl ?_; intro a hs
  refine wl hs (y_extract hs rfl rfl) rfl ?_; intro a hs
  refine wl hs (y_extract hs rfl rfl) rfl ?_; intro a hs
  refine wmem hs (x_allocS sT_55 hM) rfl ?_; rintro a _ w hs ⟨g7, rfl, hM⟩
  have hM : Mem W w [aBlk g7 55 [.int .i64 0, .slice none 0 0], aInts 3 v5 y1.2.1] := hM
  refine wstore hs rfl rfl (x_storeS (cs := [.int .i64 0, .slice none 0 0]) (us := [.int .i64 y1.1, v5]) sT_55 ⟨rfl, (Mem.one (hM.front 1 rfl)), trivial⟩ rfl rfl (hM.front 0 rfl)) ?_; intro w hM
  have hM : Mem W w [aBlk g7 55 [.int .i64 y1.1, v5], aInts 3 v5 y1.2.1] := hM
  refine wl hs (y_assign hs rfl) rfl ?_; intro a hs
  refine wpList_nil ?_
  refine x_nt ?_
  refine wp_seq ?_
  refine wp_seq ?_
  refine wp_region_lit ?_
  refine wl hs (y_move hs rfl) rfl ?_; intro a hs
  refine wl hs (y_not hs rfl) rfl ?_; intro a hs
  refine wl hs (y_move hs rfl) rfl ?_; intro a hs
  obtain ⟨b8, hb9, hm⟩ := bindE hm
  refine wlguard (N := 24) (L' := [(19, .bool b8), (5, .pointer (some ⟨g7, 0, none⟩))]) (fun w => Mem W w [aBlk g7 55 [.int .i64 y1.1, v5], aInts 3 v5 y1.2.1]) 5 ?_ ?_
  · intro K; rcases Bool.eq_false_or_eq_true (!y1.2.2) with hg10 | hg10
    · have hm := condT hg10 hb9
      refine wls hs rfl hg10 rfl ?_; intro a hs
      refine wls hs rfl hg10 rfl ?_; intro a hs
      refine wls hs rfl hg10 rfl ?_; intro a hs
      refine wls hs rfl hg10 rfl ?_; intro a hs
      have hm : some true = some b8 := hm
      cases Option.some.inj hm
      refine wl hs (y_pickT hs rfl hg10 rfl) rfl ?_; intro a hs
      exact K _ _ (hs.sub ⟨rfl, rfl, trivial⟩) hM
    · have hm := condF hg10 hb9
      refine wlg hs rfl hg10 (y_fieldAddr sT_55 hs rfl rfl) rfl ?_; intro a hs
      refine wlg hs rfl hg10 (y_load sc_int hs rfl (hM.cellBlk 0 rfl 0 rfl)) rfl ?_; intro a hs
      obtain ⟨y11, h12, hm⟩ := bindE hm
      refine wcallg is_67 hs rfl hg10 rfl rfl (impl_isNumber_any y1.1 _  h12) ?_; rintro a _ w hs ⟨rfl, hX⟩
      have hM : Mem W w [aBlk g7 55 [.int .i64 y1.1, v5], aInts 3 v5 y1.2.1] := hM.call hX
      refine wlg hs rfl hg10 (y_not hs rfl) rfl ?_; intro a hs
      have hm : some (!y11) = some b8 := hm
      cases Option.some.inj hm
      refine wl hs (y_pickF hs rfl hg10 rfl) rfl ?_; intro a hs
      exact K _ _ (hs.sub ⟨rfl, rfl, trivial⟩) hM
  intro a w hs hM
  simp only [List.drop_succ_cons, List.drop_zero]
  refine wpList_nil ?_
  refine x_nt ?_
  refine x_cond hs rfl (fun hb => ?_) (fun hb => ?_)
  · replace hm := condT hb hm
    refine wp_seq ?_
    refine wp_region_lit ?_
    refine wl hs (y_assign hs rfl) rfl ?_; intro a hs
    refine wl hs (y_assign hs rfl) rfl ?_; intro a hs
    refine wl hs (y_assign hs rfl) rfl ?_; intro a hs
    refine wpList_nil ?_
    refine x_nt ?_
    refine wp_ret ?_
    refine x_rt ?_
    have hm : some ([], 0, false) = some r := hm
    obtain rfl := Option.some.inj hm
    refine x_ret3 rfl hs rfl rfl rfl ⟨_, rfl, ?_⟩
    have hM := hM.nilI 3
    exact ⟨_, rfl, (hM.keep_ 1)⟩
  · replace hm := condF hb hm
    refine wp_skip ?_
    refine x_nt ?_
    refine wp_seq ?_
    refine x_regq hmix (by kernel_rfl) ?_
    refine wq hs (fun w1 hw1 => y_fieldAddr sT_55 hs rfl rfl) rfl ?_; intro a hs
    refine wq hs (fun w1 hw1 => y_load sc_I hs rfl ((hM.quiet hw1).cellBlk 0 rfl 1 rfl)) rfl ?_; intro a hs
    refine wq hs (fun w1 hw1 => y_fieldAddr sT_55 hs rfl rfl) rfl ?_; intro a hs
    refine wq hs (fun w1 hw1 => y_load sc_int hs rfl ((hM.quiet hw1).cellBlk 0 rfl 0 rfl)) rfl ?_; intro a hs
    refine wq hs (fun w1 hw1 => y_assign hs rfl) rfl ?_; intro a hs
    refine wq hs (fun w1 hw1 => y_assign hs rfl) rfl ?_; intro a hs
    refine wq hs (fun w1 hw1 => y_assign hs rfl) rfl ?_; intro a hs
    refine wpQuiet_nil ?_
    intro w hw
    replace hM := hM.quiet hw
    refine x_nt ?_
    refine wp_ret ?_
    have hm : some (y1.2.1, y1.1, true) = some r := hm
    obtain rfl := Option.some.inj hm
    refine x_ret3 rfl hs rfl rfl rfl ⟨_, rfl, ?_⟩
    exact ⟨_, rfl, hM.drop⟩

end Go.Proofs.Ytnnhbkhlipekeaa
