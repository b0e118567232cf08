/- The code of this unit computes what its mirrors say. Written by program (wip/gen). -/
import Derived.Test.YtaagklbiebogfaaFacts
import Derived.Test.YtaagklbiebogfaaPermM
import Derived.Test.YtaagklbiebogfaaAs2W
namespace Go.Proofs.Ytaagklbiebogfaa
open Go.RowKit
set_option linter.unusedVariables false

theorem impl_permanent_1_any (v_p0 : Value) (p0 : List Int) (g_m : Nat) (v_m : Value) (m : List (List Int)) (g_least : Nat) (least : Int) (g_ways : Nat) (ways : Int) (W w : World) (As : List Atom) (hr_m : RdM W v_m m) (hM : Mem W w (aInts 3 v_p0 p0 :: aBlk g_m 22 [v_m] :: aBlk g_least 3 [.int .i64 least] :: aBlk g_ways 3 [.int .i64 ways] :: As)) {r : Int × Int} (hm : impl_permanent_1_m p0 m least ways = some r) : Calls Try.prog 138 [v_p0, .pointer (some ⟨g_m, 0, none⟩), .pointer (some ⟨g_least, 0, none⟩), .pointer (some ⟨g_ways, 0, none⟩)].toArray w fun e w' => ∃ v, e = .returned v ∧ v = .tuple #[] ∧ Mem W w' (aInts 3 v_p0 p0 :: aBlk g_m 22 [v_m] :: aBlk g_least 3 [.int .i64 r.1] :: aBlk g_ways 3 [.int .i64 r.2] :: As) := by
  refine x_enter Try.func138 rfl Try.ntmps138 rfl ?_
  intro a hs
  unfold impl_permanent_1_m at hm
  refine wp_seq ?_
  refine wp_region_lit ?_
  refine wl hs (y_load sc_M hs rfl (hM.cellBlk 1 rfl 0 rfl)) rfl ?_; intro a hs
  refine wl hs (y_move hs rfl) rfl ?_; intro a hs
  obtain ⟨y1, h2, hm⟩ := bindE hm
  refine wcall is_139 hs rfl rfl (impl_costOf_any v_m m v_p0 p0 _ (RdM.below hr_m hM.bel) (hM.rdI 0 rfl) h2) ?_; rintro a _ w hs ⟨rfl, hX⟩
  have hM : Mem W w (aInts 3 v_p0 p0 :: aBlk g_m 22 [v_m] :: aBlk g_least 3 [.int .i64 least] :: aBlk g_ways 3 [.int .i64 ways] :: As) := hM.call hX
  refine wl hs (y_assign hs rfl) rfl ?_; intro a hs
  refine wpList_nil ?_
  refine x_nt ?_
  refine wp_block ?_
  refine wp_seq ?_
  refine wp_region_lit ?_
  refine wl hs (y_move hs rfl) rfl ?_; intro a hs
  refine wl hs (y_load sc_int hs rfl (hM.cellBlk 2 rfl 0 rfl)) rfl ?_; intro a hs
  refine wl hs (y_lss hs rfl rfl) rfl ?_; intro a hs
  refine wl hs (y_assign hs rfl) rfl ?_; intro a hs
  refine wpList_nil ?_
  refine x_nt ?_
  obtain ⟨s5, hm, hk6⟩ := bindE hm
  refine x_mid (fun a w => ∃ (n3 : Int), ∃ (n4 : Int), (n3, n4) = s5 ∧ Fr a 20 [] ∧ Mem W w (aBlk g_ways 3 [.int .i64 n3] :: aBlk g_least 3 [.int .i64 n4] :: aInts 3 v_p0 p0 :: aBlk g_m 22 [v_m] :: As)) ?_ ?_
  · refine x_cond hs rfl (fun hb => ?_) (fun hb => ?_)
    · replace hm := condT hb hm
      refine wp_region_lit ?_
      refine wl hs (y_move hs rfl) rfl ?_; intro a hs
      refine wstore hs rfl rfl (x_storeBlk he_int rfl (hM.front 2 rfl)) ?_; intro w hM
      have hM : Mem W w (aBlk g_least 3 [.int .i64 y1] :: aInts 3 v_p0 p0 :: aBlk g_m 22 [v_m] :: aBlk g_ways 3 [.int .i64 ways] :: As) := hM
      refine wstore hs rfl rfl (x_storeBlk he_int rfl (hM.front 3 rfl)) ?_; intro w hM
      have hM : Mem W w (aBlk g_ways 3 [.int .i64 1] :: aBlk g_least 3 [.int .i64 y1] :: aInts 3 v_p0 p0 :: aBlk g_m 22 [v_m] :: As) := hM
      refine wpList_nil ?_
      have hm : some (1, y1) = some s5 := hm
      exact ⟨1, y1, Option.some.inj hm, hs.sub trivial, hM⟩
    · replace hm := condF hb hm
      refine wp_seq ?_
      refine wp_region_lit ?_
      refine wl hs (y_move hs rfl) rfl ?_; intro a hs
      refine wl hs (y_load sc_int hs rfl (hM.cellBlk 2 rfl 0 rfl)) rfl ?_; intro a hs
      refine wl hs (y_eql hs rfl rfl) rfl ?_; intro a hs
      refine wl hs (y_assign hs rfl) rfl ?_; intro a hs
      refine wpList_nil ?_
      refine x_nt ?_
      refine x_cond hs rfl (fun hb => ?_) (fun hb => ?_)
      · replace hm := condT hb hm
        refine wp_region_lit ?_
        refine wl hs (y_load sc_int hs rfl (hM.cellBlk 3 rfl 0 rfl)) rfl ?_; intro a hs
        obtain ⟨n7, h8, hm⟩ := bindE hm
        refine wl hs (y_add hs rfl rfl h8) rfl ?_; intro a hs
        refine wstore hs rfl rfl (x_storeBlk he_int rfl (hM.front 3 rfl)) ?_; intro w hM
        have hM : Mem W w (aBlk g_ways 3 [.int .i64 n7] :: aInts 3 v_p0 p0 :: aBlk g_m 22 [v_m] :: aBlk g_least 3 [.int .i64 least] :: As) := hM
        refine wpList_nil ?_
        have hm : some (n7, least) = some s5 := hm
        exact ⟨n7, least, Option.some.inj hm, hs.sub trivial, ((((hM.front 2 rfl).front 2 rfl).front 3 rfl).front 3 rfl)⟩
      · replace hm := condF hb hm
        refine wp_skip ?_
        have hm : some (ways, least) = some s5 := hm
        exact ⟨ways, least, Option.some.inj hm, hs.sub trivial, ((((hM.front 1 rfl).front 1 rfl).front 2 rfl).front 3 rfl)⟩
  rintro a w ⟨n3, n4, rfl, hs, hM⟩
  have hm := hk6
  refine x_nb ?_
  have hm : some (n4, n3) = some r := hm
  obtain rfl := Option.some.inj hm
  refine x_end0 rfl hs ⟨_, rfl, ?_⟩
  exact ⟨rfl, (((hM.front 1 rfl).front 3 rfl).front 3 rfl)⟩

set_option maxHeartbeats 4000000 in
theorem impl_permutations_1_permanent_rec : ∀ (k : Nat) (g_l : Nat) (v_l : Value) (l : List Int) (g_n : Nat) (n : Int) (g_visit : Nat) (g_used : Nat) (v_used : Value) (used : List Bool) (g_next : Nat) (g_m : Nat) (v_m : Value) (m : List (List Int)) (g_least : Nat) (least : Int) (g_ways : Nat) (ways : Int) (W w : World) (As : List Atom) (hr_m : RdM W v_m m) (hM : Mem W w (aBlk g_l 24 [v_l] :: aInts 3 v_l l :: aBlk g_n 3 [.int .i64 n] :: aBlk g_visit 118 [.func (.func 138) #[] #[.pointer (some ⟨g_m, 0, none⟩), .pointer (some ⟨g_least, 0, none⟩), .pointer (some ⟨g_ways, 0, none⟩)]] :: aBlk g_used 123 [v_used] :: aBools 4 v_used used :: aBlk g_next 1 [.func (.func 157) #[] #[.pointer (some ⟨g_l, 0, none⟩), .pointer (some ⟨g_n, 0, none⟩), .pointer (some ⟨g_visit, 0, none⟩), .pointer (some ⟨g_used, 0, none⟩), .pointer (some ⟨g_next, 0, none⟩)]] :: aBlk g_m 22 [v_m] :: aBlk g_least 3 [.int .i64 least] :: aBlk g_ways 3 [.int .i64 ways] :: As)) {r : (List Int) × (List Bool) × Int × Int} (hm : impl_permutations_1_permanent_r k l n used m least ways = some r), Calls Try.prog 157 [.pointer (some ⟨g_l, 0, none⟩), .pointer (some ⟨g_n, 0, none⟩), .pointer (some ⟨g_visit, 0, none⟩), .pointer (some ⟨g_used, 0, none⟩), .pointer (some ⟨g_next, 0, none⟩)].toArray w fun e w' => ∃ v, e = .returned v ∧ ∃ v_l', ∃ v_used', v = .tuple #[] ∧ Mem W w' (aBlk g_l 24 [v_l'] :: aInts 3 v_l' r.1 :: aBlk g_n 3 [.int .i64 n] :: aBlk g_visit 118 [.func (.func 138) #[] #[.pointer (some ⟨g_m, 0, none⟩), .pointer (some ⟨g_least, 0, none⟩), .pointer (some ⟨g_ways, 0, none⟩)]] :: aBlk g_used 123 [v_used'] :: aBools 4 v_used' r.2.1 :: aBlk g_next 1 [.func (.func 157) #[] #[.pointer (some ⟨g_l, 0, none⟩), .pointer (some ⟨g_n, 0, none⟩), .pointer (some ⟨g_visit, 0, none⟩), .pointer (some ⟨g_used, 0, none⟩), .pointer (some ⟨g_next, 0, none⟩)]] :: aBlk g_m 22 [v_m] :: aBlk g_least 3 [.int .i64 r.2.2.1] :: aBlk g_ways 3 [.int .i64 r.2.2.2] :: As) := by
  intro k
  induction k with
  | zero => intro g_l v_l l g_n n g_visit g_used v_used used g_next g_m v_m m g_least least g_ways ways W w As hr_m hM r hm; have hm : none = some r := hm; cases hm
  | succ k ih =>
  intro g_l v_l l g_n n g_visit g_used v_used used g_next g_m v_m m g_least least g_ways ways W w As hr_m hM r hm
  have hm : impl_permutations_1_permanent_b (impl_permutations_1_permanent_r k) l n used m least ways = some r := hm
  generalize impl_permutations_1_permanent_r k = rec at hm ih
  refine x_enter Try.func157 rfl Try.ntmps157 rfl ?_
  intro a hs
  unfold impl_permutations_1_permanent_b at hm
  refine wp_seq ?_
  refine wp_seq ?_
  refine wp_region_lit ?_
  refine wl hs (y_load sc_I hs rfl (hM.cellBlk 0 rfl 0 rfl)) rfl ?_; intro a hs
  refine wl hs (y_len hu_I hs rfl (hM.rdI 1 rfl)) rfl ?_; intro a hs
  refine wl hs (y_load sc_int hs rfl (hM.cellBlk 2 rfl 0 rfl)) rfl ?_; intro a hs
  refine wl hs (y_eql hs rfl rfl) rfl ?_; intro a hs
  refine wpList_nil ?_
  refine x_nt ?_
  refine x_cond hs rfl (fun hb => ?_) (fun hb => ?_)
  · replace hm := condT hb hm
    refine wp_seq ?_
    refine wp_region_lit ?_
    refine wl hs (y_load sc_118 hs rfl (hM.cellBlk 3 rfl 0 rfl)) rfl ?_; intro a hs
    refine wl hs (y_load sc_I hs rfl (hM.cellBlk 0 rfl 0 rfl)) rfl ?_; intro a hs
    obtain ⟨y1, h2, hm⟩ := bindE hm
    refine wcallv is_138 hs rfl rfl rfl (impl_permanent_1_any v_l l g_m v_m m g_least least g_ways ways _ _ _ hr_m ((((((((((hM.front 6 rfl).front 6 rfl).front 6 rfl).front 6 rfl).front 6 rfl).front 5 rfl).front 9 rfl).front 9 rfl).front 9 rfl).front 9 rfl) h2) ?_; rintro a _ w hs ⟨rfl, hM⟩
    have hM : Mem W w (aInts 3 v_l l :: aBlk g_m 22 [v_m] :: aBlk g_least 3 [.int .i64 y1.1] :: aBlk g_ways 3 [.int .i64 y1.2] :: aBlk g_l 24 [v_l] :: aBlk g_n 3 [.int .i64 n] :: aBlk g_visit 118 [.func (.func 138) #[] #[.pointer (some ⟨g_m, 0, none⟩), .pointer (some ⟨g_least, 0, none⟩), .pointer (some ⟨g_ways, 0, none⟩)]] :: aBlk g_used 123 [v_used] :: aBools 4 v_used used :: aBlk g_next 1 [.func (.func 157) #[] #[.pointer (some ⟨g_l, 0, none⟩), .pointer (some ⟨g_n, 0, none⟩), .pointer (some ⟨g_visit, 0, none⟩), .pointer (some ⟨g_used, 0, none⟩), .pointer (some ⟨g_next, 0, none⟩)]] :: As) := hM
    refine wpList_nil ?_
    refine x_nt ?_
    refine wp_ret ?_
    refine x_rt ?_
    have hm : some (l, used, y1.1, y1.2) = some r := hm
    obtain rfl := Option.some.inj hm
    refine x_ret0 rfl hs  ⟨_, rfl, ?_⟩
    exact ⟨v_l, v_used, rfl, ((((((((((hM.front 3 rfl).front 3 rfl).front 3 rfl).front 9 rfl).front 9 rfl).front 9 rfl).front 9 rfl).front 9 rfl).front 8 rfl).front 9 rfl)⟩
  · replace hm := condF hb hm
    refine wp_skip ?_
    refine x_nt ?_
    refine wp_seq ?_
    refine wp_region_lit ?_
    refine wl hs (y_load sc_int hs rfl (hM.cellBlk 2 rfl 0 rfl)) rfl ?_; intro a hs
    refine wl hs (y_move hs rfl) rfl ?_; intro a hs
    refine wpList_nil ?_
    refine x_nt ?_
    obtain ⟨s16, hm, hk17⟩ := bindE hm
    refine x_mid (fun a w => ∃ (v10 : Value), ∃ (l11 : List Int), ∃ (v12 : Value), ∃ (l13 : List Bool), ∃ (n14 : Int), ∃ (n15 : Int), (l11, l13, n14, n15) = s16 ∧ Fr a 39 [] ∧ Mem W w (aBlk g_l 24 [v10] :: aInts 3 v10 l11 :: aBlk g_n 3 [.int .i64 n] :: aBlk g_visit 118 [.func (.func 138) #[] #[.pointer (some ⟨g_m, 0, none⟩), .pointer (some ⟨g_least, 0, none⟩), .pointer (some ⟨g_ways, 0, none⟩)]] :: aBlk g_used 123 [v12] :: aBools 4 v12 l13 :: aBlk g_next 1 [.func (.func 157) #[] #[.pointer (some ⟨g_l, 0, none⟩), .pointer (some ⟨g_n, 0, none⟩), .pointer (some ⟨g_visit, 0, none⟩), .pointer (some ⟨g_used, 0, none⟩), .pointer (some ⟨g_next, 0, none⟩)]] :: aBlk g_m 22 [v_m] :: aBlk g_least 3 [.int .i64 n14] :: aBlk g_ways 3 [.int .i64 n15] :: As)) ?_ ?_
    · refine wp_block ?_
      obtain ⟨nck, hnck, hm⟩ := bindE hm
      refine x_loop (fun k a w => ∃ (q18 : Nat) (j3 : Nat) (v4 : Value) (l5 : List Int) (v6 : Value) (l7 : List Bool) (n8 : Int) (n9 : Int) , q18 = k ∧ Fr a 39 [(0, .pointer (some ⟨g_l, 0, none⟩)), (3, .pointer (some ⟨g_used, 0, none⟩)), (4, .pointer (some ⟨g_next, 0, none⟩)), (13, .int .i64 n), (14, .int .i64 (j3 : Int))] ∧ Mem W w (aBlk g_l 24 [v4] :: aInts 3 v4 l5 :: aBlk g_n 3 [.int .i64 n] :: aBlk g_visit 118 [.func (.func 138) #[] #[.pointer (some ⟨g_m, 0, none⟩), .pointer (some ⟨g_least, 0, none⟩), .pointer (some ⟨g_ways, 0, none⟩)]] :: aBlk g_used 123 [v6] :: aBools 4 v6 l7 :: aBlk g_next 1 [.func (.func 157) #[] #[.pointer (some ⟨g_l, 0, none⟩), .pointer (some ⟨g_n, 0, none⟩), .pointer (some ⟨g_visit, 0, none⟩), .pointer (some ⟨g_used, 0, none⟩), .pointer (some ⟨g_next, 0, none⟩)]] :: aBlk g_m 22 [v_m] :: aBlk g_least 3 [.int .i64 n8] :: aBlk g_ways 3 [.int .i64 n9] :: As) ∧ impl_permutations_1_permanent_l1 n m rec q18 j3 l5 l7 n8 n9 = some s16 ∧ (n - (j3 : Int)).toNat = q18) _ ⟨(n - (0 : Nat) : Int).toNat, 0, v_l, l, v_used, used, least, ways, rfl, hs.sub ⟨rfl, rfl, rfl, rfl, rfl, trivial⟩, hM, hm, rfl⟩ ?_
      rintro k a w ⟨q18, j3, v4, l5, v6, l7, n8, n9, rfl, hs, hM, hm, hj3⟩
      rcases q18 with _ | q18
      · rewrite [impl_permutations_1_permanent_l1] at hm
        refine wp_seq ?_
        refine wp_region_lit ?_
        refine wl hs (y_lss hs rfl rfl) rfl ?_; intro a hs
        refine wpList_nil ?_
        refine x_nt ?_
        refine wp_seq ?_
        refine x_condF hs rfl (cnt_f hj3) ?_
        refine wp_exit ?_
        refine x_et ?_
        refine x_et ?_
        refine x_eb ?_
        have hm : some (l5, l7, n8, n9) = some s16 := hm
        exact ⟨v4, l5, v6, l7, n8, n9, Option.some.inj hm, hs.sub trivial, hM⟩
      · rewrite [impl_permutations_1_permanent_l1] at hm
        have hsj3 := cnt_succ hj3 hnck
        refine wp_seq ?_
        refine wp_region_lit ?_
        refine wl hs (y_lss hs rfl rfl) rfl ?_; intro a hs
        refine wpList_nil ?_
        refine x_nt ?_
        refine wp_seq ?_
        refine x_condT hs rfl (cnt_t hj3) ?_
        refine wp_skip ?_
        refine x_nt ?_
        refine wp_seq ?_
        refine wp_block ?_
        refine wp_seq ?_
        refine wp_region_lit ?_
        refine wl hs (y_move hs rfl) rfl ?_; intro a hs
        refine wl hs (y_assign hs rfl) rfl ?_; intro a hs
        refine wpList_nil ?_
        refine x_nt ?_
        refine wp_seq ?_
        refine wp_seq ?_
        refine wp_region_lit ?_
        refine wl hs (y_load sc_B hs rfl (hM.cellBlk 4 rfl 0 rfl)) rfl ?_; intro a hs
        refine wl hs (y_move hs rfl) rfl ?_; intro a hs
        obtain ⟨x19, hx20, hm⟩ := bindE hm
        have he21 := RdB.at_ (hM.rdB 5 rfl) hx20
        refine wl hs (y_index ht_B hs rfl rfl he21) rfl ?_; intro a hs
        refine wl hs (y_load sc_bool hs rfl he21.cell) rfl ?_; intro a hs
        refine wpList_nil ?_
        refine x_nt ?_
        refine x_cond hs rfl (fun hb => ?_) (fun hb => ?_)
        · replace hm := condT hb hm
          refine wp_exit ?_
          refine x_et ?_
          refine x_eb ?_
          refine x_nt ?_
          refine wp_region_lit ?_
          refine wl hs (y_add hs rfl rfl hsj3) rfl ?_; intro a hs
          refine wl hs (y_move hs rfl) rfl ?_; intro a hs
          refine wpList_nil ?_
          exact ⟨_, Nat.lt_succ_self _, q18, j3 + 1, v4, l5, v6, l7, n8, n9, rfl, hs.sub ⟨rfl, rfl, rfl, rfl, rfl, trivial⟩, hM, hm, cnt_next hj3⟩
        · replace hm := condF hb hm
          refine wp_skip ?_
          refine x_nt ?_
          refine wp_seq ?_
          refine wp_region_lit ?_
          refine wl hs (y_load sc_B hs rfl (hM.cellBlk 4 rfl 0 rfl)) rfl ?_; intro a hs
          refine wl hs (y_move hs rfl) rfl ?_; intro a hs
          have he22 := RdB.at_ (hM.rdB 5 rfl) hx20
          refine wl hs (y_index ht_B hs rfl rfl he22) rfl ?_; intro a hs
          obtain ⟨l23, h24, hm⟩ := bindE hm
          refine wstore hs rfl rfl (x_storeB he_bool (hM.front 5 rfl) h24) ?_; intro w hM
          have hM : Mem W w (aBools 4 v6 l23 :: aBlk g_l 24 [v4] :: aInts 3 v4 l5 :: aBlk g_n 3 [.int .i64 n] :: aBlk g_visit 118 [.func (.func 138) #[] #[.pointer (some ⟨g_m, 0, none⟩), .pointer (some ⟨g_least, 0, none⟩), .pointer (some ⟨g_ways, 0, none⟩)]] :: aBlk g_used 123 [v6] :: aBlk g_next 1 [.func (.func 157) #[] #[.pointer (some ⟨g_l, 0, none⟩), .pointer (some ⟨g_n, 0, none⟩), .pointer (some ⟨g_visit, 0, none⟩), .pointer (some ⟨g_used, 0, none⟩), .pointer (some ⟨g_next, 0, none⟩)]] :: aBlk g_m 22 [v_m] :: aBlk g_least 3 [.int .i64 n8] :: aBlk g_ways 3 [.int .i64 n9] :: As) := hM
          refine wpList_nil ?_
          refine x_nt ?_
          refine wp_seq ?_
          refine wp_region_lit ?_
          refine wl hs (y_load sc_I hs rfl (hM.cellBlk 1 rfl 0 rfl)) rfl ?_; intro a hs
          refine wl hs (y_move hs rfl) rfl ?_; intro a hs
          obtain ⟨l25, h26, hm⟩ := bindE hm
          refine wappI hu_I he_int hs (hM.front 2 rfl) rfl rfl h26 rfl rfl rfl ?_; intro a v27 w u28 hs hM
          have hM : Mem W w (aInts 3 v27 l25 :: aBools 4 v6 l23 :: aBlk g_l 24 [v4] :: aBlk g_n 3 [.int .i64 n] :: aBlk g_visit 118 [.func (.func 138) #[] #[.pointer (some ⟨g_m, 0, none⟩), .pointer (some ⟨g_least, 0, none⟩), .pointer (some ⟨g_ways, 0, none⟩)]] :: aBlk g_used 123 [v6] :: aBlk g_next 1 [.func (.func 157) #[] #[.pointer (some ⟨g_l, 0, none⟩), .pointer (some ⟨g_n, 0, none⟩), .pointer (some ⟨g_visit, 0, none⟩), .pointer (some ⟨g_used, 0, none⟩), .pointer (some ⟨g_next, 0, none⟩)]] :: aBlk g_m 22 [v_m] :: aBlk g_least 3 [.int .i64 n8] :: aBlk g_ways 3 [.int .i64 n9] :: As) := hM
          refine wstore hs rfl rfl (x_storeBlk he_I (Mem.one (hM.front 0 rfl)) (hM.front 2 rfl)) ?_; intro w hM
          have hM : Mem W w (aBlk g_l 24 [v27] :: aInts 3 v27 l25 :: aBools 4 v6 l23 :: aBlk g_n 3 [.int .i64 n] :: aBlk g_visit 118 [.func (.func 138) #[] #[.pointer (some ⟨g_m, 0, none⟩), .pointer (some ⟨g_least, 0, none⟩), .pointer (some ⟨g_ways, 0, none⟩)]] :: aBlk g_used 123 [v6] :: aBlk g_next 1 [.func (.func 157) #[] #[.pointer (some ⟨g_l, 0, none⟩), .pointer (some ⟨g_n, 0, none⟩), .pointer (some ⟨g_visit, 0, none⟩), .pointer (some ⟨g_used, 0, none⟩), .pointer (some ⟨g_next, 0, none⟩)]] :: aBlk g_m 22 [v_m] :: aBlk g_least 3 [.int .i64 n8] :: aBlk g_ways 3 [.int .i64 n9] :: As) := hM
          refine wpList_nil ?_
          refine x_nt ?_
          refine wp_seq ?_
          refine wp_region_lit ?_
          refine wl hs (y_load sc_1 hs rfl (hM.cellBlk 6 rfl 0 rfl)) rfl ?_; intro a hs
          obtain ⟨y29, h30, hm⟩ := bindE hm
          refine wcallv is_157 hs rfl rfl rfl (ih g_l v27 l25 g_n n g_visit g_used v6 l23 g_next g_m v_m m g_least n8 g_ways n9 _ _ _ hr_m ((((((((((hM.front 9 rfl).front 9 rfl).front 9 rfl).front 9 rfl).front 6 rfl).front 9 rfl).front 9 rfl).front 9 rfl).front 9 rfl).front 9 rfl) h30) ?_; rintro a _ w hs ⟨v31, v32, rfl, hM⟩
          have hM : Mem W w (aBlk g_l 24 [v31] :: aInts 3 v31 y29.1 :: aBlk g_n 3 [.int .i64 n] :: aBlk g_visit 118 [.func (.func 138) #[] #[.pointer (some ⟨g_m, 0, none⟩), .pointer (some ⟨g_least, 0, none⟩), .pointer (some ⟨g_ways, 0, none⟩)]] :: aBlk g_used 123 [v32] :: aBools 4 v32 y29.2.1 :: aBlk g_next 1 [.func (.func 157) #[] #[.pointer (some ⟨g_l, 0, none⟩), .pointer (some ⟨g_n, 0, none⟩), .pointer (some ⟨g_visit, 0, none⟩), .pointer (some ⟨g_used, 0, none⟩), .pointer (some ⟨g_next, 0, none⟩)]] :: aBlk g_m 22 [v_m] :: aBlk g_least 3 [.int .i64 y29.2.2.1] :: aBlk g_ways 3 [.int .i64 y29.2.2.2] :: As) := hM
          refine wpList_nil ?_
          refine x_nt ?_
          refine wp_seq ?_
          refine wp_region_lit ?_
          refine wl hs (y_load sc_I hs rfl (hM.cellBlk 0 rfl 0 rfl)) rfl ?_; intro a hs
          refine wl hs (y_load sc_I hs rfl (hM.cellBlk 0 rfl 0 rfl)) rfl ?_; intro a hs
          refine wl hs (y_len hu_I hs rfl (hM.rdI 1 rfl)) rfl ?_; intro a hs
          obtain ⟨n33, h34, hm⟩ := bindE hm
          refine wl hs (y_sub hs rfl rfl h34) rfl ?_; intro a hs
          obtain ⟨l35, h36, hm⟩ := bindE hm
          obtain ⟨v37, h38, hM⟩ := (hM.front 1 rfl).cutI hu_I he_int h36
          have hM : Mem W w (aInts 3 v37 l35 :: aBlk g_l 24 [v31] :: aBlk g_n 3 [.int .i64 n] :: aBlk g_visit 118 [.func (.func 138) #[] #[.pointer (some ⟨g_m, 0, none⟩), .pointer (some ⟨g_least, 0, none⟩), .pointer (some ⟨g_ways, 0, none⟩)]] :: aBlk g_used 123 [v32] :: aBools 4 v32 y29.2.1 :: aBlk g_next 1 [.func (.func 157) #[] #[.pointer (some ⟨g_l, 0, none⟩), .pointer (some ⟨g_n, 0, none⟩), .pointer (some ⟨g_visit, 0, none⟩), .pointer (some ⟨g_used, 0, none⟩), .pointer (some ⟨g_next, 0, none⟩)]] :: aBlk g_m 22 [v_m] :: aBlk g_least 3 [.int .i64 y29.2.2.1] :: aBlk g_ways 3 [.int .i64 y29.2.2.2] :: As) := hM
          refine wl hs (y_cut hs rfl rfl h38) rfl ?_; intro a hs
          refine wstore hs rfl rfl (x_storeBlk he_I (Mem.one (hM.front 0 rfl)) (hM.front 1 rfl)) ?_; intro w hM
          have hM : Mem W w (aBlk g_l 24 [v37] :: aInts 3 v37 l35 :: aBlk g_n 3 [.int .i64 n] :: aBlk g_visit 118 [.func (.func 138) #[] #[.pointer (some ⟨g_m, 0, none⟩), .pointer (some ⟨g_least, 0, none⟩), .pointer (some ⟨g_ways, 0, none⟩)]] :: aBlk g_used 123 [v32] :: aBools 4 v32 y29.2.1 :: aBlk g_next 1 [.func (.func 157) #[] #[.pointer (some ⟨g_l, 0, none⟩), .pointer (some ⟨g_n, 0, none⟩), .pointer (some ⟨g_visit, 0, none⟩), .pointer (some ⟨g_used, 0, none⟩), .pointer (some ⟨g_next, 0, none⟩)]] :: aBlk g_m 22 [v_m] :: aBlk g_least 3 [.int .i64 y29.2.2.1] :: aBlk g_ways 3 [.int .i64 y29.2.2.2] :: As) := hM
          refine wpList_nil ?_
          refine x_nt ?_
          refine wp_region_lit ?_
          refine wl hs (y_load sc_B hs rfl (hM.cellBlk 4 rfl 0 rfl)) rfl ?_; intro a hs
          refine wl hs (y_move hs rfl) rfl ?_; intro a hs
          obtain ⟨x39, hx40, hm⟩ := bindE hm
          have he41 := RdB.at_ (hM.rdB 5 rfl) hx40
          refine wl hs (y_index ht_B hs rfl rfl he41) rfl ?_; intro a hs
          obtain ⟨l42, h43, hm⟩ := bindE hm
          refine wstore hs rfl rfl (x_storeB he_bool (hM.front 5 rfl) h43) ?_; intro w hM
          have hM : Mem W w (aBools 4 v32 l42 :: aBlk g_l 24 [v37] :: aInts 3 v37 l35 :: aBlk g_n 3 [.int .i64 n] :: aBlk g_visit 118 [.func (.func 138) #[] #[.pointer (some ⟨g_m, 0, none⟩), .pointer (some ⟨g_least, 0, none⟩), .pointer (some ⟨g_ways, 0, none⟩)]] :: aBlk g_used 123 [v32] :: aBlk g_next 1 [.func (.func 157) #[] #[.pointer (some ⟨g_l, 0, none⟩), .pointer (some ⟨g_n, 0, none⟩), .pointer (some ⟨g_visit, 0, none⟩), .pointer (some ⟨g_used, 0, none⟩), .pointer (some ⟨g_next, 0, none⟩)]] :: aBlk g_m 22 [v_m] :: aBlk g_least 3 [.int .i64 y29.2.2.1] :: aBlk g_ways 3 [.int .i64 y29.2.2.2] :: As) := hM
          refine wpList_nil ?_
          refine x_nb ?_
          refine x_nt ?_
          refine wp_region_lit ?_
          refine wl hs (y_add hs rfl rfl hsj3) rfl ?_; intro a hs
          refine wl hs (y_move hs rfl) rfl ?_; intro a hs
          refine wpList_nil ?_
          exact ⟨_, Nat.lt_succ_self _, q18, j3 + 1, v37, l35, v32, l42, y29.2.2.1, y29.2.2.2, rfl, hs.sub ⟨rfl, rfl, rfl, rfl, rfl, trivial⟩, ((((((((((hM.front 9 rfl).front 9 rfl).front 9 rfl).front 9 rfl).front 4 rfl).front 9 rfl).front 9 rfl).front 9 rfl).front 9 rfl).front 9 rfl), hm, cnt_next hj3⟩
    rintro a w ⟨v10, l11, v12, l13, n14, n15, rfl, hs, hM⟩
    have hm := hk17
    have hm : some (l11, l13, n14, n15) = some r := hm
    obtain rfl := Option.some.inj hm
    refine x_end0 rfl hs ⟨_, rfl, ?_⟩
    exact ⟨v10, v12, rfl, hM⟩
theorem impl_permutations_1_permanent_any (g_l : Nat) (v_l : Value) (l : List Int) (g_n : Nat) (n : Int) (g_visit : Nat) (g_used : Nat) (v_used : Value) (used : List Bool) (g_next : Nat) (g_m : Nat) (v_m : Value) (m : List (List Int)) (g_least : Nat) (least : Int) (g_ways : Nat) (ways : Int) (W w : World) (As : List Atom) (hr_m : RdM W v_m m) (hM : Mem W w (aBlk g_l 24 [v_l] :: aInts 3 v_l l :: aBlk g_n 3 [.int .i64 n] :: aBlk g_visit 118 [.func (.func 138) #[] #[.pointer (some ⟨g_m, 0, none⟩), .pointer (some ⟨g_least, 0, none⟩), .pointer (some ⟨g_ways, 0, none⟩)]] :: aBlk g_used 123 [v_used] :: aBools 4 v_used used :: aBlk g_next 1 [.func (.func 157) #[] #[.pointer (some ⟨g_l, 0, none⟩), .pointer (some ⟨g_n, 0, none⟩), .pointer (some ⟨g_visit, 0, none⟩), .pointer (some ⟨g_used, 0, none⟩), .pointer (some ⟨g_next, 0, none⟩)]] :: aBlk g_m 22 [v_m] :: aBlk g_least 3 [.int .i64 least] :: aBlk g_ways 3 [.int .i64 ways] :: As)) {r : (List Int) × (List Bool) × Int × Int} (hm : impl_permutations_1_permanent_m l n used m least ways = some r) : Calls Try.prog 157 [.pointer (some ⟨g_l, 0, none⟩), .pointer (some ⟨g_n, 0, none⟩), .pointer (some ⟨g_visit, 0, none⟩), .pointer (some ⟨g_used, 0, none⟩), .pointer (some ⟨g_next, 0, none⟩)].toArray w fun e w' => ∃ v, e = .returned v ∧ ∃ v_l', ∃ v_used', v = .tuple #[] ∧ Mem W w' (aBlk g_l 24 [v_l'] :: aInts 3 v_l' r.1 :: aBlk g_n 3 [.int .i64 n] :: aBlk g_visit 118 [.func (.func 138) #[] #[.pointer (some ⟨g_m, 0, none⟩), .pointer (some ⟨g_least, 0, none⟩), .pointer (some ⟨g_ways, 0, none⟩)]] :: aBlk g_used 123 [v_used'] :: aBools 4 v_used' r.2.1 :: aBlk g_next 1 [.func (.func 157) #[] #[.pointer (some ⟨g_l, 0, none⟩), .pointer (some ⟨g_n, 0, none⟩), .pointer (some ⟨g_visit, 0, none⟩), .pointer (some ⟨g_used, 0, none⟩), .pointer (some ⟨g_next, 0, none⟩)]] :: aBlk g_m 22 [v_m] :: aBlk g_least 3 [.int .i64 r.2.2.1] :: aBlk g_ways 3 [.int .i64 r.2.2.2] :: As) := impl_permutations_1_permanent_rec 64 g_l v_l l g_n n g_visit g_used v_used used g_next g_m v_m m g_least least g_ways ways W w As hr_m hM hm

set_option maxHeartbeats 4000000 in
theorem impl_permutations_permanent_any (p0 : Int) (g_m : Nat) (v_m : Value) (m : List (List Int)) (g_least : Nat) (least : Int) (g_ways : Nat) (ways : Int) (W w : World) (As : List Atom) (hr_m : RdM W v_m m) (hM : Mem W w (aBlk g_m 22 [v_m] :: aBlk g_least 3 [.int .i64 least] :: aBlk g_ways 3 [.int .i64 ways] :: As)) {r : Int × Int} (hm : impl_permutations_permanent_m p0 m least ways = some r) : Calls Try.prog 137 [.int .i64 p0, .func (.func 138) #[] #[.pointer (some ⟨g_m, 0, none⟩), .pointer (some ⟨g_least, 0, none⟩), .pointer (some ⟨g_ways, 0, none⟩)]].toArray w fun e w' => ∃ v, e = .returned v ∧ v = .tuple #[] ∧ Mem W w' (aBlk g_m 22 [v_m] :: aBlk g_least 3 [.int .i64 r.1] :: aBlk g_ways 3 [.int .i64 r.2] :: As) := by
  refine x_enter Try.func137 rfl Try.ntmps137 rfl ?_
  intro a hs
  unfold impl_permutations_permanent_m at hm
  refine wp_seq ?_
  refine wp_region_lit ?_
  refine wmem hs (x_box rfl hs rfl hM) rfl ?_; rintro a _ w hs ⟨g2, rfl, hM⟩
  have hM : Mem W w (aBlk g2 3 [.int .i64 p0] :: aBlk g_m 22 [v_m] :: aBlk g_least 3 [.int .i64 least] :: aBlk g_ways 3 [.int .i64 ways] :: As) := hM
  refine wmem hs (x_box rfl hs rfl hM) rfl ?_; rintro a _ w hs ⟨g4, rfl, hM⟩
  have hM : Mem W w (aBlk g4 118 [.func (.func 138) #[] #[.pointer (some ⟨g_m, 0, none⟩), .pointer (some ⟨g_least, 0, none⟩), .pointer (some ⟨g_ways, 0, none⟩)]] :: aBlk g2 3 [.int .i64 p0] :: aBlk g_m 22 [v_m] :: aBlk g_least 3 [.int .i64 least] :: aBlk g_ways 3 [.int .i64 ways] :: As) := hM
  refine wpList_nil ?_
  refine x_nt ?_
  refine wp_seq ?_
  obtain ⟨s11, hm, hk12⟩ := bindE hm
  refine x_mid (fun a w => ∃ (g5 : Nat), ∃ (g6 : Nat), ∃ (v7 : Value), ∃ (l8 : List Bool), ∃ (v9 : Value), ∃ (l10 : List Int), (l8, l10) = s11 ∧ Fr a 13 [(2, .pointer (some ⟨g2, 0, none⟩)), (3, .pointer (some ⟨g4, 0, none⟩)), (4, .pointer (some ⟨g6, 0, none⟩)), (5, .pointer (some ⟨g5, 0, none⟩))] ∧ Mem W w (aBlk g5 123 [v7] :: aBlk g6 24 [v9] :: aBools 4 v7 l8 :: aInts 3 v9 l10 :: aBlk g4 118 [.func (.func 138) #[] #[.pointer (some ⟨g_m, 0, none⟩), .pointer (some ⟨g_least, 0, none⟩), .pointer (some ⟨g_ways, 0, none⟩)]] :: aBlk g2 3 [.int .i64 p0] :: aBlk g_m 22 [v_m] :: aBlk g_least 3 [.int .i64 least] :: aBlk g_ways 3 [.int .i64 ways] :: As)) ?_ ?_
  · refine wc_start hmix [1] (fun w => Mem W w (aBlk g4 118 [.func (.func 138) #[] #[.pointer (some ⟨g_m, 0, none⟩), .pointer (some ⟨g_least, 0, none⟩), .pointer (some ⟨g_ways, 0, none⟩)]] :: aBlk g2 3 [.int .i64 p0] :: aBlk g_m 22 [v_m] :: aBlk g_least 3 [.int .i64 least] :: aBlk g_ways 3 [.int .i64 ways] :: As)) (by rfl) ?_
    refine wc (i := 1) (fuel := 6) rfl (by kernel_rfl) (fun w w2 hS hE => hS.quiet hE) hM hs (fun w1 hS => y_load sc_int hs rfl (hS.cellBlk 1 rfl 0 rfl)) rfl ?_; intro a hs
    obtain ⟨_, h3016, hm⟩ := bindE hm
    refine wc_abs fun T13 hT13 => ?_
    have K13_125 : ∀ (a : Act) (w : World) (g4015 : Nat) (g5015 : Nat) (v3015 : Value) (v1015 : Value), Fr a 13 [(2, .pointer (some ⟨g2, 0, none⟩)), (3, .pointer (some ⟨g4, 0, none⟩)), (4, .pointer (some ⟨g4015, 0, none⟩)), (5, .pointer (some ⟨g5015, 0, none⟩))] → Mem W w (aBlk g5015 123 [v3015] :: aBlk g4015 24 [v1015] :: aBools 4 v3015 (List.replicate (p0).toNat false) :: aInts 3 v1015 ([]) :: aBlk g4 118 [.func (.func 138) #[] #[.pointer (some ⟨g_m, 0, none⟩), .pointer (some ⟨g_least, 0, none⟩), .pointer (some ⟨g_ways, 0, none⟩)]] :: aBlk g2 3 [.int .i64 p0] :: aBlk g_m 22 [v_m] :: aBlk g_least 3 [.int .i64 least] :: aBlk g_ways 3 [.int .i64 ways] :: As) → T13 0 #[true, true, true, true, true, true, true] a w := by
      intro a w g4015 g5015 v3015 v1015 hs hM; subst hT13
      refine wc_done (by kernel_rfl) ?_
      intro w hw
      replace hM := hM.quiet hw
      have hm : some ((List.replicate (p0).toNat false), []) = some s11 := hm
      exact ⟨g5015, g4015, v3015, (List.replicate (p0).toNat false), v1015, [], Option.some.inj hm, hs.sub ⟨rfl, rfl, rfl, rfl, trivial⟩, hM⟩
    have K13_61 : ∀ (a : Act) (w : World) (g4015 : Nat) (g5015 : Nat) (v3015 : Value) (v1015 : Value), Fr a 13 [(2, .pointer (some ⟨g2, 0, none⟩)), (3, .pointer (some ⟨g4, 0, none⟩)), (4, .pointer (some ⟨g4015, 0, none⟩)), (5, .pointer (some ⟨g5015, 0, none⟩)), (9, v3015)] → Mem W w (aBlk g4015 24 [v1015] :: aBlk g5015 123 [.slice none 0 0] :: aBools 4 v3015 (List.replicate (p0).toNat false) :: aInts 3 v1015 ([]) :: aBlk g4 118 [.func (.func 138) #[] #[.pointer (some ⟨g_m, 0, none⟩), .pointer (some ⟨g_least, 0, none⟩), .pointer (some ⟨g_ways, 0, none⟩)]] :: aBlk g2 3 [.int .i64 p0] :: aBlk g_m 22 [v_m] :: aBlk g_least 3 [.int .i64 least] :: aBlk g_ways 3 [.int .i64 ways] :: As) → T13 1 #[true, true, true, true, true, true, false] a w := by
      intro a w g4015 g5015 v3015 v1015 hs hM; subst hT13
      refine wc_one (fuel := 0) 6 rfl (by kernel_rfl) ?_
      intro w hw
      replace hM := hM.quiet hw
      refine wstore hs rfl rfl (x_storeBlk he_B (Mem.one (hM.front 2 rfl)) (hM.front 1 rfl)) ?_; intro w hM
      have hM : Mem W w (aBlk g5015 123 [v3015] :: aBlk g4015 24 [v1015] :: aBools 4 v3015 (List.replicate (p0).toNat false) :: aInts 3 v1015 ([]) :: aBlk g4 118 [.func (.func 138) #[] #[.pointer (some ⟨g_m, 0, none⟩), .pointer (some ⟨g_least, 0, none⟩), .pointer (some ⟨g_ways, 0, none⟩)]] :: aBlk g2 3 [.int .i64 p0] :: aBlk g_m 22 [v_m] :: aBlk g_least 3 [.int .i64 least] :: aBlk g_ways 3 [.int .i64 ways] :: As) := hM
      refine on_nil ?_
      exact wc_at (by kernel_rfl) (K13_125 _ _ g4015 g5015 v3015 v1015 (hs.sub ⟨rfl, rfl, rfl, rfl, trivial⟩) hM)
    have K13_29 : ∀ (a : Act) (w : World) (g4015 : Nat) (g5015 : Nat) (v1015 : Value) (v3015 : Value), Fr a 13 [(2, .pointer (some ⟨g2, 0, none⟩)), (3, .pointer (some ⟨g4, 0, none⟩)), (4, .pointer (some ⟨g4015, 0, none⟩)), (5, .pointer (some ⟨g5015, 0, none⟩)), (7, v1015), (9, v3015)] → Mem W w (aBlk g5015 123 [.slice none 0 0] :: aBlk g4015 24 [.slice none 0 0] :: aBools 4 v3015 (List.replicate (p0).toNat false) :: aInts 3 v1015 ([]) :: aBlk g4 118 [.func (.func 138) #[] #[.pointer (some ⟨g_m, 0, none⟩), .pointer (some ⟨g_least, 0, none⟩), .pointer (some ⟨g_ways, 0, none⟩)]] :: aBlk g2 3 [.int .i64 p0] :: aBlk g_m 22 [v_m] :: aBlk g_least 3 [.int .i64 least] :: aBlk g_ways 3 [.int .i64 ways] :: As) → T13 2 #[true, true, true, true, true, false, false] a w := by
      intro a w g4015 g5015 v1015 v3015 hs hM; subst hT13
      refine wc_oneS (fuel := 1) 5 rfl (by kernel_rfl) ?_
      intro w hw
      replace hM := hM.quiet hw
      refine wstore hs rfl rfl (x_storeBlk he_I (Mem.one (hM.front 3 rfl)) (hM.front 1 rfl)) ?_; intro w hM
      have hM : Mem W w (aBlk g4015 24 [v1015] :: aBlk g5015 123 [.slice none 0 0] :: aBools 4 v3015 (List.replicate (p0).toNat false) :: aInts 3 v1015 ([]) :: aBlk g4 118 [.func (.func 138) #[] #[.pointer (some ⟨g_m, 0, none⟩), .pointer (some ⟨g_least, 0, none⟩), .pointer (some ⟨g_ways, 0, none⟩)]] :: aBlk g2 3 [.int .i64 p0] :: aBlk g_m 22 [v_m] :: aBlk g_least 3 [.int .i64 least] :: aBlk g_ways 3 [.int .i64 ways] :: As) := hM
      refine on_nil ⟨hM.drop.drop.drop.drop, ?_⟩
      exact wc_at (by kernel_rfl) (K13_61 _ _ g4015 g5015 v3015 v1015 (hs.sub ⟨rfl, rfl, rfl, rfl, rfl, trivial⟩) hM)
    have K13_57 : ∀ (a : Act) (w : World) (g4015 : Nat) (g5015 : Nat) (v1015 : Value), Fr a 13 [(2, .pointer (some ⟨g2, 0, none⟩)), (3, .pointer (some ⟨g4, 0, none⟩)), (4, .pointer (some ⟨g4015, 0, none⟩)), (5, .pointer (some ⟨g5015, 0, none⟩)), (8, .int .i64 p0)] → Mem W w (aBlk g4015 24 [v1015] :: aBlk g5015 123 [.slice none 0 0] :: aInts 3 v1015 ([]) :: aBlk g4 118 [.func (.func 138) #[] #[.pointer (some ⟨g_m, 0, none⟩), .pointer (some ⟨g_least, 0, none⟩), .pointer (some ⟨g_ways, 0, none⟩)]] :: aBlk g2 3 [.int .i64 p0] :: aBlk g_m 22 [v_m] :: aBlk g_least 3 [.int .i64 least] :: aBlk g_ways 3 [.int .i64 ways] :: As) → T13 2 #[true, true, false, true, true, true, false] a w := by
      intro a w g4015 g5015 v1015 hs hM; subst hT13
      refine wc_one (fuel := 1) 2 rfl (by kernel_rfl) ?_
      intro w hw
      replace hM := hM.quiet hw
      refine wmem hs (x_makeB hu_B he_bool hs rfl hM h3016) rfl ?_; intro a v3015 w hs hM
      have hM : Mem W w (aBools 4 v3015 (List.replicate (p0).toNat false) :: aBlk g4015 24 [v1015] :: aBlk g5015 123 [.slice none 0 0] :: aInts 3 v1015 ([]) :: aBlk g4 118 [.func (.func 138) #[] #[.pointer (some ⟨g_m, 0, none⟩), .pointer (some ⟨g_least, 0, none⟩), .pointer (some ⟨g_ways, 0, none⟩)]] :: aBlk g2 3 [.int .i64 p0] :: aBlk g_m 22 [v_m] :: aBlk g_least 3 [.int .i64 least] :: aBlk g_ways 3 [.int .i64 ways] :: As) := hM
      refine on_nil ?_
      exact wc_at (by kernel_rfl) (K13_61 _ _ g4015 g5015 v3015 v1015 (hs.sub ⟨rfl, rfl, rfl, rfl, rfl, trivial⟩) (((((((((hM.front 8 rfl).front 8 rfl).front 8 rfl).front 8 rfl).front 8 rfl).front 8 rfl).front 6 rfl).front 8 rfl).front 8 rfl))
    have K13_13 : ∀ (a : Act) (w : World) (g4015 : Nat) (v1015 : Value) (v3015 : Value), Fr a 13 [(2, .pointer (some ⟨g2, 0, none⟩)), (3, .pointer (some ⟨g4, 0, none⟩)), (4, .pointer (some ⟨g4015, 0, none⟩)), (7, v1015), (9, v3015)] → Mem W w (aBlk g4015 24 [.slice none 0 0] :: aBools 4 v3015 (List.replicate (p0).toNat false) :: aInts 3 v1015 ([]) :: aBlk g4 118 [.func (.func 138) #[] #[.pointer (some ⟨g_m, 0, none⟩), .pointer (some ⟨g_least, 0, none⟩), .pointer (some ⟨g_ways, 0, none⟩)]] :: aBlk g2 3 [.int .i64 p0] :: aBlk g_m 22 [v_m] :: aBlk g_least 3 [.int .i64 least] :: aBlk g_ways 3 [.int .i64 ways] :: As) → T13 3 #[true, true, true, true, false, false, false] a w := by
      intro a w g4015 v1015 v3015 hs hM; subst hT13
      refine wc_oneS (fuel := 2) 4 rfl (by kernel_rfl) ?_
      intro w hw
      replace hM := hM.quiet hw
      refine wmem hs (x_alloc he_B rfl hM) rfl ?_; rintro a _ w hs ⟨g5015, rfl, hM⟩
      have hM : Mem W w (aBlk g5015 123 [.slice none 0 0] :: aBlk g4015 24 [.slice none 0 0] :: aBools 4 v3015 (List.replicate (p0).toNat false) :: aInts 3 v1015 ([]) :: aBlk g4 118 [.func (.func 138) #[] #[.pointer (some ⟨g_m, 0, none⟩), .pointer (some ⟨g_least, 0, none⟩), .pointer (some ⟨g_ways, 0, none⟩)]] :: aBlk g2 3 [.int .i64 p0] :: aBlk g_m 22 [v_m] :: aBlk g_least 3 [.int .i64 least] :: aBlk g_ways 3 [.int .i64 ways] :: As) := hM
      refine on_nil ⟨hM.drop.drop.drop.drop, ?_⟩
      exact wc_at (by kernel_rfl) (K13_29 _ _ g4015 g5015 v1015 v3015 (hs.sub ⟨rfl, rfl, rfl, rfl, rfl, rfl, trivial⟩) hM)
    have K13_21 : ∀ (a : Act) (w : World) (g5015 : Nat) (v1015 : Value) (v3015 : Value), Fr a 13 [(2, .pointer (some ⟨g2, 0, none⟩)), (3, .pointer (some ⟨g4, 0, none⟩)), (5, .pointer (some ⟨g5015, 0, none⟩)), (7, v1015), (9, v3015)] → Mem W w (aBlk g5015 123 [.slice none 0 0] :: aBools 4 v3015 (List.replicate (p0).toNat false) :: aInts 3 v1015 ([]) :: aBlk g4 118 [.func (.func 138) #[] #[.pointer (some ⟨g_m, 0, none⟩), .pointer (some ⟨g_least, 0, none⟩), .pointer (some ⟨g_ways, 0, none⟩)]] :: aBlk g2 3 [.int .i64 p0] :: aBlk g_m 22 [v_m] :: aBlk g_least 3 [.int .i64 least] :: aBlk g_ways 3 [.int .i64 ways] :: As) → T13 3 #[true, true, true, false, true, false, false] a w := by
      intro a w g5015 v1015 v3015 hs hM; subst hT13
      refine wc_oneS (fuel := 2) 3 rfl (by kernel_rfl) ?_
      intro w hw
      replace hM := hM.quiet hw
      refine wmem hs (x_alloc he_I rfl hM) rfl ?_; rintro a _ w hs ⟨g4015, rfl, hM⟩
      have hM : Mem W w (aBlk g4015 24 [.slice none 0 0] :: aBlk g5015 123 [.slice none 0 0] :: aBools 4 v3015 (List.replicate (p0).toNat false) :: aInts 3 v1015 ([]) :: aBlk g4 118 [.func (.func 138) #[] #[.pointer (some ⟨g_m, 0, none⟩), .pointer (some ⟨g_least, 0, none⟩), .pointer (some ⟨g_ways, 0, none⟩)]] :: aBlk g2 3 [.int .i64 p0] :: aBlk g_m 22 [v_m] :: aBlk g_least 3 [.int .i64 least] :: aBlk g_ways 3 [.int .i64 ways] :: As) := hM
      refine on_nil ⟨hM.drop.drop.drop.drop, ?_⟩
      exact wc_at (by kernel_rfl) (K13_29 _ _ g4015 g5015 v1015 v3015 (hs.sub ⟨rfl, rfl, rfl, rfl, rfl, rfl, trivial⟩) (((((((((hM.front 8 rfl).front 8 rfl).front 8 rfl).front 8 rfl).front 8 rfl).front 8 rfl).front 8 rfl).front 7 rfl).front 8 rfl))
    have K13_25 : ∀ (a : Act) (w : World) (g4015 : Nat) (g5015 : Nat) (v1015 : Value), Fr a 13 [(2, .pointer (some ⟨g2, 0, none⟩)), (3, .pointer (some ⟨g4, 0, none⟩)), (4, .pointer (some ⟨g4015, 0, none⟩)), (5, .pointer (some ⟨g5015, 0, none⟩)), (7, v1015), (8, .int .i64 p0)] → Mem W w (aBlk g5015 123 [.slice none 0 0] :: aBlk g4015 24 [.slice none 0 0] :: aInts 3 v1015 ([]) :: aBlk g4 118 [.func (.func 138) #[] #[.pointer (some ⟨g_m, 0, none⟩), .pointer (some ⟨g_least, 0, none⟩), .pointer (some ⟨g_ways, 0, none⟩)]] :: aBlk g2 3 [.int .i64 p0] :: aBlk g_m 22 [v_m] :: aBlk g_least 3 [.int .i64 least] :: aBlk g_ways 3 [.int .i64 ways] :: As) → T13 3 #[true, true, false, true, true, false, false] a w := by
      intro a w g4015 g5015 v1015 hs hM; subst hT13
      refine wc_many (fuel := 2) [2, 5] (by kernel_rfl) (by simp) ⟨?_, ?_, trivial⟩
      · rintro o ⟨rfl⟩
        intro w hw
        replace hM := hM.quiet hw
        refine wmem hs (x_makeB hu_B he_bool hs rfl hM h3016) rfl ?_; intro a v3015 w hs hM
        have hM : Mem W w (aBools 4 v3015 (List.replicate (p0).toNat false) :: aBlk g5015 123 [.slice none 0 0] :: aBlk g4015 24 [.slice none 0 0] :: aInts 3 v1015 ([]) :: aBlk g4 118 [.func (.func 138) #[] #[.pointer (some ⟨g_m, 0, none⟩), .pointer (some ⟨g_least, 0, none⟩), .pointer (some ⟨g_ways, 0, none⟩)]] :: aBlk g2 3 [.int .i64 p0] :: aBlk g_m 22 [v_m] :: aBlk g_least 3 [.int .i64 least] :: aBlk g_ways 3 [.int .i64 ways] :: As) := hM
        refine on_nil ⟨hM.drop.drop.drop.drop, ?_⟩
        exact wc_at (by kernel_rfl) (K13_29 _ _ g4015 g5015 v1015 v3015 (hs.sub ⟨rfl, rfl, rfl, rfl, rfl, rfl, trivial⟩) (((((((((hM.front 8 rfl).front 8 rfl).front 8 rfl).front 8 rfl).front 8 rfl).front 8 rfl).front 6 rfl).front 8 rfl).front 8 rfl))
      · rintro o ⟨rfl⟩
        intro w hw
        replace hM := hM.quiet hw
        refine wstore hs rfl rfl (x_storeBlk he_I (Mem.one (hM.front 2 rfl)) (hM.front 1 rfl)) ?_; intro w hM
        have hM : Mem W w (aBlk g4015 24 [v1015] :: aBlk g5015 123 [.slice none 0 0] :: aInts 3 v1015 ([]) :: aBlk g4 118 [.func (.func 138) #[] #[.pointer (some ⟨g_m, 0, none⟩), .pointer (some ⟨g_least, 0, none⟩), .pointer (some ⟨g_ways, 0, none⟩)]] :: aBlk g2 3 [.int .i64 p0] :: aBlk g_m 22 [v_m] :: aBlk g_least 3 [.int .i64 least] :: aBlk g_ways 3 [.int .i64 ways] :: As) := hM
        refine on_nil ⟨hM.drop.drop.drop, ?_⟩
        exact wc_at (by kernel_rfl) (K13_57 _ _ g4015 g5015 v1015 (hs.sub ⟨rfl, rfl, rfl, rfl, rfl, trivial⟩) hM)
    have K13_28 : ∀ (a : Act) (w : World) (g4015 : Nat) (g5015 : Nat) (v3015 : Value), Fr a 13 [(2, .pointer (some ⟨g2, 0, none⟩)), (3, .pointer (some ⟨g4, 0, none⟩)), (4, .pointer (some ⟨g4015, 0, none⟩)), (5, .pointer (some ⟨g5015, 0, none⟩)), (9, v3015)] → Mem W w (aBlk g5015 123 [.slice none 0 0] :: aBlk g4015 24 [.slice none 0 0] :: aBools 4 v3015 (List.replicate (p0).toNat false) :: aBlk g4 118 [.func (.func 138) #[] #[.pointer (some ⟨g_m, 0, none⟩), .pointer (some ⟨g_least, 0, none⟩), .pointer (some ⟨g_ways, 0, none⟩)]] :: aBlk g2 3 [.int .i64 p0] :: aBlk g_m 22 [v_m] :: aBlk g_least 3 [.int .i64 least] :: aBlk g_ways 3 [.int .i64 ways] :: As) → T13 3 #[false, true, true, true, true, false, false] a w := by
      intro a w g4015 g5015 v3015 hs hM; subst hT13
      refine wc_oneS (fuel := 2) 0 rfl (by kernel_rfl) ?_
      intro w hw
      replace hM := hM.quiet hw
      refine wmem hs (x_new0I ht_I hM) rfl ?_; intro a v1015 w hs hM
      have hM : Mem W w (aInts 3 v1015 ([]) :: aBlk g5015 123 [.slice none 0 0] :: aBlk g4015 24 [.slice none 0 0] :: aBools 4 v3015 (List.replicate (p0).toNat false) :: aBlk g4 118 [.func (.func 138) #[] #[.pointer (some ⟨g_m, 0, none⟩), .pointer (some ⟨g_least, 0, none⟩), .pointer (some ⟨g_ways, 0, none⟩)]] :: aBlk g2 3 [.int .i64 p0] :: aBlk g_m 22 [v_m] :: aBlk g_least 3 [.int .i64 least] :: aBlk g_ways 3 [.int .i64 ways] :: As) := hM
      refine on_nil ⟨hM.drop.drop.drop.drop, ?_⟩
      exact wc_at (by kernel_rfl) (K13_29 _ _ g4015 g5015 v1015 v3015 (hs.sub ⟨rfl, rfl, rfl, rfl, rfl, rfl, trivial⟩) (((((((((hM.front 8 rfl).front 8 rfl).front 8 rfl).front 8 rfl).front 8 rfl).front 5 rfl).front 8 rfl).front 8 rfl).front 8 rfl))
    have K13_5 : ∀ (a : Act) (w : World) (v1015 : Value) (v3015 : Value), Fr a 13 [(2, .pointer (some ⟨g2, 0, none⟩)), (3, .pointer (some ⟨g4, 0, none⟩)), (7, v1015), (9, v3015)] → Mem W w (aBools 4 v3015 (List.replicate (p0).toNat false) :: aInts 3 v1015 ([]) :: aBlk g4 118 [.func (.func 138) #[] #[.pointer (some ⟨g_m, 0, none⟩), .pointer (some ⟨g_least, 0, none⟩), .pointer (some ⟨g_ways, 0, none⟩)]] :: aBlk g2 3 [.int .i64 p0] :: aBlk g_m 22 [v_m] :: aBlk g_least 3 [.int .i64 least] :: aBlk g_ways 3 [.int .i64 ways] :: As) → T13 4 #[true, true, true, false, false, false, false] a w := by
      intro a w v1015 v3015 hs hM; subst hT13
      refine wc_many (fuel := 3) [3, 4] (by kernel_rfl) (by simp) ⟨?_, ?_, trivial⟩
      · rintro o ⟨rfl⟩
        intro w hw
        replace hM := hM.quiet hw
        refine wmem hs (x_alloc he_I rfl hM) rfl ?_; rintro a _ w hs ⟨g4015, rfl, hM⟩
        have hM : Mem W w (aBlk g4015 24 [.slice none 0 0] :: aBools 4 v3015 (List.replicate (p0).toNat false) :: aInts 3 v1015 ([]) :: aBlk g4 118 [.func (.func 138) #[] #[.pointer (some ⟨g_m, 0, none⟩), .pointer (some ⟨g_least, 0, none⟩), .pointer (some ⟨g_ways, 0, none⟩)]] :: aBlk g2 3 [.int .i64 p0] :: aBlk g_m 22 [v_m] :: aBlk g_least 3 [.int .i64 least] :: aBlk g_ways 3 [.int .i64 ways] :: As) := hM
        refine on_nil ⟨hM.drop.drop.drop, ?_⟩
        exact wc_at (by kernel_rfl) (K13_13 _ _ g4015 v1015 v3015 (hs.sub ⟨rfl, rfl, rfl, rfl, rfl, trivial⟩) hM)
      · rintro o ⟨rfl⟩
        intro w hw
        replace hM := hM.quiet hw
        refine wmem hs (x_alloc he_B rfl hM) rfl ?_; rintro a _ w hs ⟨g5015, rfl, hM⟩
        have hM : Mem W w (aBlk g5015 123 [.slice none 0 0] :: aBools 4 v3015 (List.replicate (p0).toNat false) :: aInts 3 v1015 ([]) :: aBlk g4 118 [.func (.func 138) #[] #[.pointer (some ⟨g_m, 0, none⟩), .pointer (some ⟨g_least, 0, none⟩), .pointer (some ⟨g_ways, 0, none⟩)]] :: aBlk g2 3 [.int .i64 p0] :: aBlk g_m 22 [v_m] :: aBlk g_least 3 [.int .i64 least] :: aBlk g_ways 3 [.int .i64 ways] :: As) := hM
        refine on_nil ⟨hM.drop.drop.drop, ?_⟩
        exact wc_at (by kernel_rfl) (K13_21 _ _ g5015 v1015 v3015 (hs.sub ⟨rfl, rfl, rfl, rfl, rfl, trivial⟩) hM)
    have K13_9 : ∀ (a : Act) (w : World) (g4015 : Nat) (v1015 : Value), Fr a 13 [(2, .pointer (some ⟨g2, 0, none⟩)), (3, .pointer (some ⟨g4, 0, none⟩)), (4, .pointer (some ⟨g4015, 0, none⟩)), (7, v1015), (8, .int .i64 p0)] → Mem W w (aBlk g4015 24 [.slice none 0 0] :: aInts 3 v1015 ([]) :: aBlk g4 118 [.func (.func 138) #[] #[.pointer (some ⟨g_m, 0, none⟩), .pointer (some ⟨g_least, 0, none⟩), .pointer (some ⟨g_ways, 0, none⟩)]] :: aBlk g2 3 [.int .i64 p0] :: aBlk g_m 22 [v_m] :: aBlk g_least 3 [.int .i64 least] :: aBlk g_ways 3 [.int .i64 ways] :: As) → T13 4 #[true, true, false, true, false, false, false] a w := by
      intro a w g4015 v1015 hs hM; subst hT13
      refine wc_many (fuel := 3) [2, 4] (by kernel_rfl) (by simp) ⟨?_, ?_, trivial⟩
      · rintro o ⟨rfl⟩
        intro w hw
        replace hM := hM.quiet hw
        refine wmem hs (x_makeB hu_B he_bool hs rfl hM h3016) rfl ?_; intro a v3015 w hs hM
        have hM : Mem W w (aBools 4 v3015 (List.replicate (p0).toNat false) :: aBlk g4015 24 [.slice none 0 0] :: aInts 3 v1015 ([]) :: aBlk g4 118 [.func (.func 138) #[] #[.pointer (some ⟨g_m, 0, none⟩), .pointer (some ⟨g_least, 0, none⟩), .pointer (some ⟨g_ways, 0, none⟩)]] :: aBlk g2 3 [.int .i64 p0] :: aBlk g_m 22 [v_m] :: aBlk g_least 3 [.int .i64 least] :: aBlk g_ways 3 [.int .i64 ways] :: As) := hM
        refine on_nil ⟨hM.drop.drop.drop, ?_⟩
        exact wc_at (by kernel_rfl) (K13_13 _ _ g4015 v1015 v3015 (hs.sub ⟨rfl, rfl, rfl, rfl, rfl, trivial⟩) ((((((((hM.front 7 rfl).front 7 rfl).front 7 rfl).front 7 rfl).front 7 rfl).front 7 rfl).front 6 rfl).front 7 rfl))
      · rintro o ⟨rfl⟩
        intro w hw
        replace hM := hM.quiet hw
        refine wmem hs (x_alloc he_B rfl hM) rfl ?_; rintro a _ w hs ⟨g5015, rfl, hM⟩
        have hM : Mem W w (aBlk g5015 123 [.slice none 0 0] :: aBlk g4015 24 [.slice none 0 0] :: aInts 3 v1015 ([]) :: aBlk g4 118 [.func (.func 138) #[] #[.pointer (some ⟨g_m, 0, none⟩), .pointer (some ⟨g_least, 0, none⟩), .pointer (some ⟨g_ways, 0, none⟩)]] :: aBlk g2 3 [.int .i64 p0] :: aBlk g_m 22 [v_m] :: aBlk g_least 3 [.int .i64 least] :: aBlk g_ways 3 [.int .i64 ways] :: As) := hM
        refine on_nil ⟨hM.drop.drop.drop, ?_⟩
        exact wc_at (by kernel_rfl) (K13_25 _ _ g4015 g5015 v1015 (hs.sub ⟨rfl, rfl, rfl, rfl, rfl, rfl, trivial⟩) hM)
    have K13_17 : ∀ (a : Act) (w : World) (g5015 : Nat) (v1015 : Value), Fr a 13 [(2, .pointer (some ⟨g2, 0, none⟩)), (3, .pointer (some ⟨g4, 0, none⟩)), (5, .pointer (some ⟨g5015, 0, none⟩)), (7, v1015), (8, .int .i64 p0)] → Mem W w (aBlk g5015 123 [.slice none 0 0] :: aInts 3 v1015 ([]) :: aBlk g4 118 [.func (.func 138) #[] #[.pointer (some ⟨g_m, 0, none⟩), .pointer (some ⟨g_least, 0, none⟩), .pointer (some ⟨g_ways, 0, none⟩)]] :: aBlk g2 3 [.int .i64 p0] :: aBlk g_m 22 [v_m] :: aBlk g_least 3 [.int .i64 least] :: aBlk g_ways 3 [.int .i64 ways] :: As) → T13 4 #[true, true, false, false, true, false, false] a w := by
      intro a w g5015 v1015 hs hM; subst hT13
      refine wc_many (fuel := 3) [2, 3] (by kernel_rfl) (by simp) ⟨?_, ?_, trivial⟩
      · rintro o ⟨rfl⟩
        intro w hw
        replace hM := hM.quiet hw
        refine wmem hs (x_makeB hu_B he_bool hs rfl hM h3016) rfl ?_; intro a v3015 w hs hM
        have hM : Mem W w (aBools 4 v3015 (List.replicate (p0).toNat false) :: aBlk g5015 123 [.slice none 0 0] :: aInts 3 v1015 ([]) :: aBlk g4 118 [.func (.func 138) #[] #[.pointer (some ⟨g_m, 0, none⟩), .pointer (some ⟨g_least, 0, none⟩), .pointer (some ⟨g_ways, 0, none⟩)]] :: aBlk g2 3 [.int .i64 p0] :: aBlk g_m 22 [v_m] :: aBlk g_least 3 [.int .i64 least] :: aBlk g_ways 3 [.int .i64 ways] :: As) := hM
        refine on_nil ⟨hM.drop.drop.drop, ?_⟩
        exact wc_at (by kernel_rfl) (K13_21 _ _ g5015 v1015 v3015 (hs.sub ⟨rfl, rfl, rfl, rfl, rfl, trivial⟩) ((((((((hM.front 7 rfl).front 7 rfl).front 7 rfl).front 7 rfl).front 7 rfl).front 7 rfl).front 6 rfl).front 7 rfl))
      · rintro o ⟨rfl⟩
        intro w hw
        replace hM := hM.quiet hw
        refine wmem hs (x_alloc he_I rfl hM) rfl ?_; rintro a _ w hs ⟨g4015, rfl, hM⟩
        have hM : Mem W w (aBlk g4015 24 [.slice none 0 0] :: aBlk g5015 123 [.slice none 0 0] :: aInts 3 v1015 ([]) :: aBlk g4 118 [.func (.func 138) #[] #[.pointer (some ⟨g_m, 0, none⟩), .pointer (some ⟨g_least, 0, none⟩), .pointer (some ⟨g_ways, 0, none⟩)]] :: aBlk g2 3 [.int .i64 p0] :: aBlk g_m 22 [v_m] :: aBlk g_least 3 [.int .i64 least] :: aBlk g_ways 3 [.int .i64 ways] :: As) := hM
        refine on_nil ⟨hM.drop.drop.drop, ?_⟩
        exact wc_at (by kernel_rfl) (K13_25 _ _ g4015 g5015 v1015 (hs.sub ⟨rfl, rfl, rfl, rfl, rfl, rfl, trivial⟩) ((((((((hM.front 7 rfl).front 7 rfl).front 7 rfl).front 7 rfl).front 7 rfl).front 7 rfl).front 6 rfl).front 7 rfl))
    have K13_12 : ∀ (a : Act) (w : World) (g4015 : Nat) (v3015 : Value), Fr a 13 [(2, .pointer (some ⟨g2, 0, none⟩)), (3, .pointer (some ⟨g4, 0, none⟩)), (4, .pointer (some ⟨g4015, 0, none⟩)), (9, v3015)] → Mem W w (aBlk g4015 24 [.slice none 0 0] :: aBools 4 v3015 (List.replicate (p0).toNat false) :: aBlk g4 118 [.func (.func 138) #[] #[.pointer (some ⟨g_m, 0, none⟩), .pointer (some ⟨g_least, 0, none⟩), .pointer (some ⟨g_ways, 0, none⟩)]] :: aBlk g2 3 [.int .i64 p0] :: aBlk g_m 22 [v_m] :: aBlk g_least 3 [.int .i64 least] :: aBlk g_ways 3 [.int .i64 ways] :: As) → T13 4 #[false, true, true, true, false, false, false] a w := by
      intro a w g4015 v3015 hs hM; subst hT13
      refine wc_many (fuel := 3) [0, 4] (by kernel_rfl) (by simp) ⟨?_, ?_, trivial⟩
      · rintro o ⟨rfl⟩
        intro w hw
        replace hM := hM.quiet hw
        refine wmem hs (x_new0I ht_I hM) rfl ?_; intro a v1015 w hs hM
        have hM : Mem W w (aInts 3 v1015 ([]) :: aBlk g4015 24 [.slice none 0 0] :: aBools 4 v3015 (List.replicate (p0).toNat false) :: aBlk g4 118 [.func (.func 138) #[] #[.pointer (some ⟨g_m, 0, none⟩), .pointer (some ⟨g_least, 0, none⟩), .pointer (some ⟨g_ways, 0, none⟩)]] :: aBlk g2 3 [.int .i64 p0] :: aBlk g_m 22 [v_m] :: aBlk g_least 3 [.int .i64 least] :: aBlk g_ways 3 [.int .i64 ways] :: As) := hM
        refine on_nil ⟨hM.drop.drop.drop, ?_⟩
        exact wc_at (by kernel_rfl) (K13_13 _ _ g4015 v1015 v3015 (hs.sub ⟨rfl, rfl, rfl, rfl, rfl, trivial⟩) ((((((((hM.front 7 rfl).front 7 rfl).front 7 rfl).front 7 rfl).front 7 rfl).front 5 rfl).front 7 rfl).front 7 rfl))
      · rintro o ⟨rfl⟩
        intro w hw
        replace hM := hM.quiet hw
        refine wmem hs (x_alloc he_B rfl hM) rfl ?_; rintro a _ w hs ⟨g5015, rfl, hM⟩
        have hM : Mem W w (aBlk g5015 123 [.slice none 0 0] :: aBlk g4015 24 [.slice none 0 0] :: aBools 4 v3015 (List.replicate (p0).toNat false) :: aBlk g4 118 [.func (.func 138) #[] #[.pointer (some ⟨g_m, 0, none⟩), .pointer (some ⟨g_least, 0, none⟩), .pointer (some ⟨g_ways, 0, none⟩)]] :: aBlk g2 3 [.int .i64 p0] :: aBlk g_m 22 [v_m] :: aBlk g_least 3 [.int .i64 least] :: aBlk g_ways 3 [.int .i64 ways] :: As) := hM
        refine on_nil ⟨hM.drop.drop.drop, ?_⟩
        exact wc_at (by kernel_rfl) (K13_28 _ _ g4015 g5015 v3015 (hs.sub ⟨rfl, rfl, rfl, rfl, rfl, trivial⟩) hM)
    have K13_20 : ∀ (a : Act) (w : World) (g5015 : Nat) (v3015 : Value), Fr a 13 [(2, .pointer (some ⟨g2, 0, none⟩)), (3, .pointer (some ⟨g4, 0, none⟩)), (5, .pointer (some ⟨g5015, 0, none⟩)), (9, v3015)] → Mem W w (aBlk g5015 123 [.slice none 0 0] :: aBools 4 v3015 (List.replicate (p0).toNat false) :: aBlk g4 118 [.func (.func 138) #[] #[.pointer (some ⟨g_m, 0, none⟩), .pointer (some ⟨g_least, 0, none⟩), .pointer (some ⟨g_ways, 0, none⟩)]] :: aBlk g2 3 [.int .i64 p0] :: aBlk g_m 22 [v_m] :: aBlk g_least 3 [.int .i64 least] :: aBlk g_ways 3 [.int .i64 ways] :: As) → T13 4 #[false, true, true, false, true, false, false] a w := by
      intro a w g5015 v3015 hs hM; subst hT13
      refine wc_many (fuel := 3) [0, 3] (by kernel_rfl) (by simp) ⟨?_, ?_, trivial⟩
      · rintro o ⟨rfl⟩
        intro w hw
        replace hM := hM.quiet hw
        refine wmem hs (x_new0I ht_I hM) rfl ?_; intro a v1015 w hs hM
        have hM : Mem W w (aInts 3 v1015 ([]) :: aBlk g5015 123 [.slice none 0 0] :: aBools 4 v3015 (List.replicate (p0).toNat false) :: aBlk g4 118 [.func (.func 138) #[] #[.pointer (some ⟨g_m, 0, none⟩), .pointer (some ⟨g_least, 0, none⟩), .pointer (some ⟨g_ways, 0, none⟩)]] :: aBlk g2 3 [.int .i64 p0] :: aBlk g_m 22 [v_m] :: aBlk g_least 3 [.int .i64 least] :: aBlk g_ways 3 [.int .i64 ways] :: As) := hM
        refine on_nil ⟨hM.drop.drop.drop, ?_⟩
        exact wc_at (by kernel_rfl) (K13_21 _ _ g5015 v1015 v3015 (hs.sub ⟨rfl, rfl, rfl, rfl, rfl, trivial⟩) ((((((((hM.front 7 rfl).front 7 rfl).front 7 rfl).front 7 rfl).front 7 rfl).front 5 rfl).front 7 rfl).front 7 rfl))
      · rintro o ⟨rfl⟩
        intro w hw
        replace hM := hM.quiet hw
        refine wmem hs (x_alloc he_I rfl hM) rfl ?_; rintro a _ w hs ⟨g4015, rfl, hM⟩
        have hM : Mem W w (aBlk g4015 24 [.slice none 0 0] :: aBlk g5015 123 [.slice none 0 0] :: aBools 4 v3015 (List.replicate (p0).toNat false) :: aBlk g4 118 [.func (.func 138) #[] #[.pointer (some ⟨g_m, 0, none⟩), .pointer (some ⟨g_least, 0, none⟩), .pointer (some ⟨g_ways, 0, none⟩)]] :: aBlk g2 3 [.int .i64 p0] :: aBlk g_m 22 [v_m] :: aBlk g_least 3 [.int .i64 least] :: aBlk g_ways 3 [.int .i64 ways] :: As) := hM
        refine on_nil ⟨hM.drop.drop.drop, ?_⟩
        exact wc_at (by kernel_rfl) (K13_28 _ _ g4015 g5015 v3015 (hs.sub ⟨rfl, rfl, rfl, rfl, rfl, trivial⟩) ((((((((hM.front 7 rfl).front 7 rfl).front 7 rfl).front 7 rfl).front 7 rfl).front 7 rfl).front 6 rfl).front 7 rfl))
    have K13_24 : ∀ (a : Act) (w : World) (g4015 : Nat) (g5015 : Nat), Fr a 13 [(2, .pointer (some ⟨g2, 0, none⟩)), (3, .pointer (some ⟨g4, 0, none⟩)), (4, .pointer (some ⟨g4015, 0, none⟩)), (5, .pointer (some ⟨g5015, 0, none⟩)), (8, .int .i64 p0)] → Mem W w (aBlk g5015 123 [.slice none 0 0] :: aBlk g4015 24 [.slice none 0 0] :: aBlk g4 118 [.func (.func 138) #[] #[.pointer (some ⟨g_m, 0, none⟩), .pointer (some ⟨g_least, 0, none⟩), .pointer (some ⟨g_ways, 0, none⟩)]] :: aBlk g2 3 [.int .i64 p0] :: aBlk g_m 22 [v_m] :: aBlk g_least 3 [.int .i64 least] :: aBlk g_ways 3 [.int .i64 ways] :: As) → T13 4 #[false, true, false, true, true, false, false] a w := by
      intro a w g4015 g5015 hs hM; subst hT13
      refine wc_many (fuel := 3) [0, 2] (by kernel_rfl) (by simp) ⟨?_, ?_, trivial⟩
      · rintro o ⟨rfl⟩
        intro w hw
        replace hM := hM.quiet hw
        refine wmem hs (x_new0I ht_I hM) rfl ?_; intro a v1015 w hs hM
        have hM : Mem W w (aInts 3 v1015 ([]) :: aBlk g5015 123 [.slice none 0 0] :: aBlk g4015 24 [.slice none 0 0] :: aBlk g4 118 [.func (.func 138) #[] #[.pointer (some ⟨g_m, 0, none⟩), .pointer (some ⟨g_least, 0, none⟩), .pointer (some ⟨g_ways, 0, none⟩)]] :: aBlk g2 3 [.int .i64 p0] :: aBlk g_m 22 [v_m] :: aBlk g_least 3 [.int .i64 least] :: aBlk g_ways 3 [.int .i64 ways] :: As) := hM
        refine on_nil ⟨hM.drop.drop.drop, ?_⟩
        exact wc_at (by kernel_rfl) (K13_25 _ _ g4015 g5015 v1015 (hs.sub ⟨rfl, rfl, rfl, rfl, rfl, rfl, trivial⟩) ((((((((hM.front 7 rfl).front 7 rfl).front 7 rfl).front 7 rfl).front 7 rfl).front 5 rfl).front 7 rfl).front 7 rfl))
      · rintro o ⟨rfl⟩
        intro w hw
        replace hM := hM.quiet hw
        refine wmem hs (x_makeB hu_B he_bool hs rfl hM h3016) rfl ?_; intro a v3015 w hs hM
        have hM : Mem W w (aBools 4 v3015 (List.replicate (p0).toNat false) :: aBlk g5015 123 [.slice none 0 0] :: aBlk g4015 24 [.slice none 0 0] :: aBlk g4 118 [.func (.func 138) #[] #[.pointer (some ⟨g_m, 0, none⟩), .pointer (some ⟨g_least, 0, none⟩), .pointer (some ⟨g_ways, 0, none⟩)]] :: aBlk g2 3 [.int .i64 p0] :: aBlk g_m 22 [v_m] :: aBlk g_least 3 [.int .i64 least] :: aBlk g_ways 3 [.int .i64 ways] :: As) := hM
        refine on_nil ⟨hM.drop.drop.drop, ?_⟩
        exact wc_at (by kernel_rfl) (K13_28 _ _ g4015 g5015 v3015 (hs.sub ⟨rfl, rfl, rfl, rfl, rfl, trivial⟩) ((((((((hM.front 7 rfl).front 7 rfl).front 7 rfl).front 7 rfl).front 7 rfl).front 5 rfl).front 7 rfl).front 7 rfl))
    have K13_1 : ∀ (a : Act) (w : World) (v1015 : Value), Fr a 13 [(2, .pointer (some ⟨g2, 0, none⟩)), (3, .pointer (some ⟨g4, 0, none⟩)), (7, v1015), (8, .int .i64 p0)] → Mem W w (aInts 3 v1015 ([]) :: aBlk g4 118 [.func (.func 138) #[] #[.pointer (some ⟨g_m, 0, none⟩), .pointer (some ⟨g_least, 0, none⟩), .pointer (some ⟨g_ways, 0, none⟩)]] :: aBlk g2 3 [.int .i64 p0] :: aBlk g_m 22 [v_m] :: aBlk g_least 3 [.int .i64 least] :: aBlk g_ways 3 [.int .i64 ways] :: As) → T13 5 #[true, true, false, false, false, false, false] a w := by
      intro a w v1015 hs hM; subst hT13
      refine wc_many (fuel := 4) [2, 3, 4] (by kernel_rfl) (by simp) ⟨?_, ?_, ?_, trivial⟩
      · rintro o ⟨rfl⟩
        intro w hw
        replace hM := hM.quiet hw
        refine wmem hs (x_makeB hu_B he_bool hs rfl hM h3016) rfl ?_; intro a v3015 w hs hM
        have hM : Mem W w (aBools 4 v3015 (List.replicate (p0).toNat false) :: aInts 3 v1015 ([]) :: aBlk g4 118 [.func (.func 138) #[] #[.pointer (some ⟨g_m, 0, none⟩), .pointer (some ⟨g_least, 0, none⟩), .pointer (some ⟨g_ways, 0, none⟩)]] :: aBlk g2 3 [.int .i64 p0] :: aBlk g_m 22 [v_m] :: aBlk g_least 3 [.int .i64 least] :: aBlk g_ways 3 [.int .i64 ways] :: As) := hM
        refine on_nil ⟨hM.drop.drop, ?_⟩
        exact wc_at (by kernel_rfl) (K13_5 _ _ v1015 v3015 (hs.sub ⟨rfl, rfl, rfl, rfl, trivial⟩) hM)
      · rintro o ⟨rfl⟩
        intro w hw
        replace hM := hM.quiet hw
        refine wmem hs (x_alloc he_I rfl hM) rfl ?_; rintro a _ w hs ⟨g4015, rfl, hM⟩
        have hM : Mem W w (aBlk g4015 24 [.slice none 0 0] :: aInts 3 v1015 ([]) :: aBlk g4 118 [.func (.func 138) #[] #[.pointer (some ⟨g_m, 0, none⟩), .pointer (some ⟨g_least, 0, none⟩), .pointer (some ⟨g_ways, 0, none⟩)]] :: aBlk g2 3 [.int .i64 p0] :: aBlk g_m 22 [v_m] :: aBlk g_least 3 [.int .i64 least] :: aBlk g_ways 3 [.int .i64 ways] :: As) := hM
        refine on_nil ⟨hM.drop.drop, ?_⟩
        exact wc_at (by kernel_rfl) (K13_9 _ _ g4015 v1015 (hs.sub ⟨rfl, rfl, rfl, rfl, rfl, trivial⟩) hM)
      · rintro o ⟨rfl⟩
        intro w hw
        replace hM := hM.quiet hw
        refine wmem hs (x_alloc he_B rfl hM) rfl ?_; rintro a _ w hs ⟨g5015, rfl, hM⟩
        have hM : Mem W w (aBlk g5015 123 [.slice none 0 0] :: aInts 3 v1015 ([]) :: aBlk g4 118 [.func (.func 138) #[] #[.pointer (some ⟨g_m, 0, none⟩), .pointer (some ⟨g_least, 0, none⟩), .pointer (some ⟨g_ways, 0, none⟩)]] :: aBlk g2 3 [.int .i64 p0] :: aBlk g_m 22 [v_m] :: aBlk g_least 3 [.int .i64 least] :: aBlk g_ways 3 [.int .i64 ways] :: As) := hM
        refine on_nil ⟨hM.drop.drop, ?_⟩
        exact wc_at (by kernel_rfl) (K13_17 _ _ g5015 v1015 (hs.sub ⟨rfl, rfl, rfl, rfl, rfl, trivial⟩) hM)
    have K13_4 : ∀ (a : Act) (w : World) (v3015 : Value), Fr a 13 [(2, .pointer (some ⟨g2, 0, none⟩)), (3, .pointer (some ⟨g4, 0, none⟩)), (9, v3015)] → Mem W w (aBools 4 v3015 (List.replicate (p0).toNat false) :: aBlk g4 118 [.func (.func 138) #[] #[.pointer (some ⟨g_m, 0, none⟩), .pointer (some ⟨g_least, 0, none⟩), .pointer (some ⟨g_ways, 0, none⟩)]] :: aBlk g2 3 [.int .i64 p0] :: aBlk g_m 22 [v_m] :: aBlk g_least 3 [.int .i64 least] :: aBlk g_ways 3 [.int .i64 ways] :: As) → T13 5 #[false, true, true, false, false, false, false] a w := by
      intro a w v3015 hs hM; subst hT13
      refine wc_many (fuel := 4) [0, 3, 4] (by kernel_rfl) (by simp) ⟨?_, ?_, ?_, trivial⟩
      · rintro o ⟨rfl⟩
        intro w hw
        replace hM := hM.quiet hw
        refine wmem hs (x_new0I ht_I hM) rfl ?_; intro a v1015 w hs hM
        have hM : Mem W w (aInts 3 v1015 ([]) :: aBools 4 v3015 (List.replicate (p0).toNat false) :: aBlk g4 118 [.func (.func 138) #[] #[.pointer (some ⟨g_m, 0, none⟩), .pointer (some ⟨g_least, 0, none⟩), .pointer (some ⟨g_ways, 0, none⟩)]] :: aBlk g2 3 [.int .i64 p0] :: aBlk g_m 22 [v_m] :: aBlk g_least 3 [.int .i64 least] :: aBlk g_ways 3 [.int .i64 ways] :: As) := hM
        refine on_nil ⟨hM.drop.drop, ?_⟩
        exact wc_at (by kernel_rfl) (K13_5 _ _ v1015 v3015 (hs.sub ⟨rfl, rfl, rfl, rfl, trivial⟩) (((((((hM.front 6 rfl).front 6 rfl).front 6 rfl).front 6 rfl).front 6 rfl).front 5 rfl).front 6 rfl))
      · rintro o ⟨rfl⟩
        intro w hw
        replace hM := hM.quiet hw
        refine wmem hs (x_alloc he_I rfl hM) rfl ?_; rintro a _ w hs ⟨g4015, rfl, hM⟩
        have hM : Mem W w (aBlk g4015 24 [.slice none 0 0] :: aBools 4 v3015 (List.replicate (p0).toNat false) :: aBlk g4 118 [.func (.func 138) #[] #[.pointer (some ⟨g_m, 0, none⟩), .pointer (some ⟨g_least, 0, none⟩), .pointer (some ⟨g_ways, 0, none⟩)]] :: aBlk g2 3 [.int .i64 p0] :: aBlk g_m 22 [v_m] :: aBlk g_least 3 [.int .i64 least] :: aBlk g_ways 3 [.int .i64 ways] :: As) := hM
        refine on_nil ⟨hM.drop.drop, ?_⟩
        exact wc_at (by kernel_rfl) (K13_12 _ _ g4015 v3015 (hs.sub ⟨rfl, rfl, rfl, rfl, trivial⟩) hM)
      · rintro o ⟨rfl⟩
        intro w hw
        replace hM := hM.quiet hw
        refine wmem hs (x_alloc he_B rfl hM) rfl ?_; rintro a _ w hs ⟨g5015, rfl, hM⟩
        have hM : Mem W w (aBlk g5015 123 [.slice none 0 0] :: aBools 4 v3015 (List.replicate (p0).toNat false) :: aBlk g4 118 [.func (.func 138) #[] #[.pointer (some ⟨g_m, 0, none⟩), .pointer (some ⟨g_least, 0, none⟩), .pointer (some ⟨g_ways, 0, none⟩)]] :: aBlk g2 3 [.int .i64 p0] :: aBlk g_m 22 [v_m] :: aBlk g_least 3 [.int .i64 least] :: aBlk g_ways 3 [.int .i64 ways] :: As) := hM
        refine on_nil ⟨hM.drop.drop, ?_⟩
        exact wc_at (by kernel_rfl) (K13_20 _ _ g5015 v3015 (hs.sub ⟨rfl, rfl, rfl, rfl, trivial⟩) hM)
    have K13_8 : ∀ (a : Act) (w : World) (g4015 : Nat), Fr a 13 [(2, .pointer (some ⟨g2, 0, none⟩)), (3, .pointer (some ⟨g4, 0, none⟩)), (4, .pointer (some ⟨g4015, 0, none⟩)), (8, .int .i64 p0)] → Mem W w (aBlk g4015 24 [.slice none 0 0] :: aBlk g4 118 [.func (.func 138) #[] #[.pointer (some ⟨g_m, 0, none⟩), .pointer (some ⟨g_least, 0, none⟩), .pointer (some ⟨g_ways, 0, none⟩)]] :: aBlk g2 3 [.int .i64 p0] :: aBlk g_m 22 [v_m] :: aBlk g_least 3 [.int .i64 least] :: aBlk g_ways 3 [.int .i64 ways] :: As) → T13 5 #[false, true, false, true, false, false, false] a w := by
      intro a w g4015 hs hM; subst hT13
      refine wc_many (fuel := 4) [0, 2, 4] (by kernel_rfl) (by simp) ⟨?_, ?_, ?_, trivial⟩
      · rintro o ⟨rfl⟩
        intro w hw
        replace hM := hM.quiet hw
        refine wmem hs (x_new0I ht_I hM) rfl ?_; intro a v1015 w hs hM
        have hM : Mem W w (aInts 3 v1015 ([]) :: aBlk g4015 24 [.slice none 0 0] :: aBlk g4 118 [.func (.func 138) #[] #[.pointer (some ⟨g_m, 0, none⟩), .pointer (some ⟨g_least, 0, none⟩), .pointer (some ⟨g_ways, 0, none⟩)]] :: aBlk g2 3 [.int .i64 p0] :: aBlk g_m 22 [v_m] :: aBlk g_least 3 [.int .i64 least] :: aBlk g_ways 3 [.int .i64 ways] :: As) := hM
        refine on_nil ⟨hM.drop.drop, ?_⟩
        exact wc_at (by kernel_rfl) (K13_9 _ _ g4015 v1015 (hs.sub ⟨rfl, rfl, rfl, rfl, rfl, trivial⟩) (((((((hM.front 6 rfl).front 6 rfl).front 6 rfl).front 6 rfl).front 6 rfl).front 5 rfl).front 6 rfl))
      · rintro o ⟨rfl⟩
        intro w hw
        replace hM := hM.quiet hw
        refine wmem hs (x_makeB hu_B he_bool hs rfl hM h3016) rfl ?_; intro a v3015 w hs hM
        have hM : Mem W w (aBools 4 v3015 (List.replicate (p0).toNat false) :: aBlk g4015 24 [.slice none 0 0] :: aBlk g4 118 [.func (.func 138) #[] #[.pointer (some ⟨g_m, 0, none⟩), .pointer (some ⟨g_least, 0, none⟩), .pointer (some ⟨g_ways, 0, none⟩)]] :: aBlk g2 3 [.int .i64 p0] :: aBlk g_m 22 [v_m] :: aBlk g_least 3 [.int .i64 least] :: aBlk g_ways 3 [.int .i64 ways] :: As) := hM
        refine on_nil ⟨hM.drop.drop, ?_⟩
        exact wc_at (by kernel_rfl) (K13_12 _ _ g4015 v3015 (hs.sub ⟨rfl, rfl, rfl, rfl, trivial⟩) (((((((hM.front 6 rfl).front 6 rfl).front 6 rfl).front 6 rfl).front 6 rfl).front 5 rfl).front 6 rfl))
      · rintro o ⟨rfl⟩
        intro w hw
        replace hM := hM.quiet hw
        refine wmem hs (x_alloc he_B rfl hM) rfl ?_; rintro a _ w hs ⟨g5015, rfl, hM⟩
        have hM : Mem W w (aBlk g5015 123 [.slice none 0 0] :: aBlk g4015 24 [.slice none 0 0] :: aBlk g4 118 [.func (.func 138) #[] #[.pointer (some ⟨g_m, 0, none⟩), .pointer (some ⟨g_least, 0, none⟩), .pointer (some ⟨g_ways, 0, none⟩)]] :: aBlk g2 3 [.int .i64 p0] :: aBlk g_m 22 [v_m] :: aBlk g_least 3 [.int .i64 least] :: aBlk g_ways 3 [.int .i64 ways] :: As) := hM
        refine on_nil ⟨hM.drop.drop, ?_⟩
        exact wc_at (by kernel_rfl) (K13_24 _ _ g4015 g5015 (hs.sub ⟨rfl, rfl, rfl, rfl, rfl, trivial⟩) hM)
    have K13_16 : ∀ (a : Act) (w : World) (g5015 : Nat), Fr a 13 [(2, .pointer (some ⟨g2, 0, none⟩)), (3, .pointer (some ⟨g4, 0, none⟩)), (5, .pointer (some ⟨g5015, 0, none⟩)), (8, .int .i64 p0)] → Mem W w (aBlk g5015 123 [.slice none 0 0] :: aBlk g4 118 [.func (.func 138) #[] #[.pointer (some ⟨g_m, 0, none⟩), .pointer (some ⟨g_least, 0, none⟩), .pointer (some ⟨g_ways, 0, none⟩)]] :: aBlk g2 3 [.int .i64 p0] :: aBlk g_m 22 [v_m] :: aBlk g_least 3 [.int .i64 least] :: aBlk g_ways 3 [.int .i64 ways] :: As) → T13 5 #[false, true, false, false, true, false, false] a w := by
      intro a w g5015 hs hM; subst hT13
      refine wc_many (fuel := 4) [0, 2, 3] (by kernel_rfl) (by simp) ⟨?_, ?_, ?_, trivial⟩
      · rintro o ⟨rfl⟩
        intro w hw
        replace hM := hM.quiet hw
        refine wmem hs (x_new0I ht_I hM) rfl ?_; intro a v1015 w hs hM
        have hM : Mem W w (aInts 3 v1015 ([]) :: aBlk g5015 123 [.slice none 0 0] :: aBlk g4 118 [.func (.func 138) #[] #[.pointer (some ⟨g_m, 0, none⟩), .pointer (some ⟨g_least, 0, none⟩), .pointer (some ⟨g_ways, 0, none⟩)]] :: aBlk g2 3 [.int .i64 p0] :: aBlk g_m 22 [v_m] :: aBlk g_least 3 [.int .i64 least] :: aBlk g_ways 3 [.int .i64 ways] :: As) := hM
        refine on_nil ⟨hM.drop.drop, ?_⟩
        exact wc_at (by kernel_rfl) (K13_17 _ _ g5015 v1015 (hs.sub ⟨rfl, rfl, rfl, rfl, rfl, trivial⟩) (((((((hM.front 6 rfl).front 6 rfl).front 6 rfl).front 6 rfl).front 6 rfl).front 5 rfl).front 6 rfl))
      · rintro o ⟨rfl⟩
        intro w hw
        replace hM := hM.quiet hw
        refine wmem hs (x_makeB hu_B he_bool hs rfl hM h3016) rfl ?_; intro a v3015 w hs hM
        have hM : Mem W w (aBools 4 v3015 (List.replicate (p0).toNat false) :: aBlk g5015 123 [.slice none 0 0] :: aBlk g4 118 [.func (.func 138) #[] #[.pointer (some ⟨g_m, 0, none⟩), .pointer (some ⟨g_least, 0, none⟩), .pointer (some ⟨g_ways, 0, none⟩)]] :: aBlk g2 3 [.int .i64 p0] :: aBlk g_m 22 [v_m] :: aBlk g_least 3 [.int .i64 least] :: aBlk g_ways 3 [.int .i64 ways] :: As) := hM
        refine on_nil ⟨hM.drop.drop, ?_⟩
        exact wc_at (by kernel_rfl) (K13_20 _ _ g5015 v3015 (hs.sub ⟨rfl, rfl, rfl, rfl, trivial⟩) (((((((hM.front 6 rfl).front 6 rfl).front 6 rfl).front 6 rfl).front 6 rfl).front 5 rfl).front 6 rfl))
      · rintro o ⟨rfl⟩
        intro w hw
        replace hM := hM.quiet hw
        refine wmem hs (x_alloc he_I rfl hM) rfl ?_; rintro a _ w hs ⟨g4015, rfl, hM⟩
        have hM : Mem W w (aBlk g4015 24 [.slice none 0 0] :: aBlk g5015 123 [.slice none 0 0] :: aBlk g4 118 [.func (.func 138) #[] #[.pointer (some ⟨g_m, 0, none⟩), .pointer (some ⟨g_least, 0, none⟩), .pointer (some ⟨g_ways, 0, none⟩)]] :: aBlk g2 3 [.int .i64 p0] :: aBlk g_m 22 [v_m] :: aBlk g_least 3 [.int .i64 least] :: aBlk g_ways 3 [.int .i64 ways] :: As) := hM
        refine on_nil ⟨hM.drop.drop, ?_⟩
        exact wc_at (by kernel_rfl) (K13_24 _ _ g4015 g5015 (hs.sub ⟨rfl, rfl, rfl, rfl, rfl, trivial⟩) (((((((hM.front 6 rfl).front 6 rfl).front 6 rfl).front 6 rfl).front 6 rfl).front 5 rfl).front 6 rfl))
    have K13_0 : ∀ (a : Act) (w : World), Fr a 13 [(2, .pointer (some ⟨g2, 0, none⟩)), (3, .pointer (some ⟨g4, 0, none⟩)), (8, .int .i64 p0)] → Mem W w (aBlk g4 118 [.func (.func 138) #[] #[.pointer (some ⟨g_m, 0, none⟩), .pointer (some ⟨g_least, 0, none⟩), .pointer (some ⟨g_ways, 0, none⟩)]] :: aBlk g2 3 [.int .i64 p0] :: aBlk g_m 22 [v_m] :: aBlk g_least 3 [.int .i64 least] :: aBlk g_ways 3 [.int .i64 ways] :: As) → T13 6 #[false, true, false, false, false, false, false] a w := by
      intro a w hs hM; subst hT13
      refine wc_many (fuel := 5) [0, 2, 3, 4] (by kernel_rfl) (by simp) ⟨?_, ?_, ?_, ?_, trivial⟩
      · rintro o ⟨rfl⟩
        intro w hw
        replace hM := hM.quiet hw
        refine wmem hs (x_new0I ht_I hM) rfl ?_; intro a v1015 w hs hM
        have hM : Mem W w (aInts 3 v1015 ([]) :: aBlk g4 118 [.func (.func 138) #[] #[.pointer (some ⟨g_m, 0, none⟩), .pointer (some ⟨g_least, 0, none⟩), .pointer (some ⟨g_ways, 0, none⟩)]] :: aBlk g2 3 [.int .i64 p0] :: aBlk g_m 22 [v_m] :: aBlk g_least 3 [.int .i64 least] :: aBlk g_ways 3 [.int .i64 ways] :: As) := hM
        refine on_nil ⟨hM.drop, ?_⟩
        exact wc_at (by kernel_rfl) (K13_1 _ _ v1015 (hs.sub ⟨rfl, rfl, rfl, rfl, trivial⟩) hM)
      · rintro o ⟨rfl⟩
        intro w hw
        replace hM := hM.quiet hw
        refine wmem hs (x_makeB hu_B he_bool hs rfl hM h3016) rfl ?_; intro a v3015 w hs hM
        have hM : Mem W w (aBools 4 v3015 (List.replicate (p0).toNat false) :: aBlk g4 118 [.func (.func 138) #[] #[.pointer (some ⟨g_m, 0, none⟩), .pointer (some ⟨g_least, 0, none⟩), .pointer (some ⟨g_ways, 0, none⟩)]] :: aBlk g2 3 [.int .i64 p0] :: aBlk g_m 22 [v_m] :: aBlk g_least 3 [.int .i64 least] :: aBlk g_ways 3 [.int .i64 ways] :: As) := hM
        refine on_nil ⟨hM.drop, ?_⟩
        exact wc_at (by kernel_rfl) (K13_4 _ _ v3015 (hs.sub ⟨rfl, rfl, rfl, trivial⟩) hM)
      · rintro o ⟨rfl⟩
        intro w hw
        replace hM := hM.quiet hw
        refine wmem hs (x_alloc he_I rfl hM) rfl ?_; rintro a _ w hs ⟨g4015, rfl, hM⟩
        have hM : Mem W w (aBlk g4015 24 [.slice none 0 0] :: aBlk g4 118 [.func (.func 138) #[] #[.pointer (some ⟨g_m, 0, none⟩), .pointer (some ⟨g_least, 0, none⟩), .pointer (some ⟨g_ways, 0, none⟩)]] :: aBlk g2 3 [.int .i64 p0] :: aBlk g_m 22 [v_m] :: aBlk g_least 3 [.int .i64 least] :: aBlk g_ways 3 [.int .i64 ways] :: As) := hM
        refine on_nil ⟨hM.drop, ?_⟩
        exact wc_at (by kernel_rfl) (K13_8 _ _ g4015 (hs.sub ⟨rfl, rfl, rfl, rfl, trivial⟩) hM)
      · rintro o ⟨rfl⟩
        intro w hw
        replace hM := hM.quiet hw
        refine wmem hs (x_alloc he_B rfl hM) rfl ?_; rintro a _ w hs ⟨g5015, rfl, hM⟩
        have hM : Mem W w (aBlk g5015 123 [.slice none 0 0] :: aBlk g4 118 [.func (.func 138) #[] #[.pointer (some ⟨g_m, 0, none⟩), .pointer (some ⟨g_least, 0, none⟩), .pointer (some ⟨g_ways, 0, none⟩)]] :: aBlk g2 3 [.int .i64 p0] :: aBlk g_m 22 [v_m] :: aBlk g_least 3 [.int .i64 least] :: aBlk g_ways 3 [.int .i64 ways] :: As) := hM
        refine on_nil ⟨hM.drop, ?_⟩
        exact wc_at (by kernel_rfl) (K13_16 _ _ g5015 (hs.sub ⟨rfl, rfl, rfl, rfl, trivial⟩) hM)
    exact wc_at (by kernel_rfl) (K13_0 _ _ (hs.sub ⟨rfl, rfl, rfl, trivial⟩) hM)
  rintro a w ⟨g5, g6, v7, l8, v9, l10, rfl, hs, hM⟩
  have hm := hk12
  refine x_nt ?_
  refine wp_seq ?_
  refine wp_region_lit ?_
  refine wmem hs (x_alloc he_1 rfl hM) rfl ?_; rintro a _ w hs ⟨g9015, rfl, hM⟩
  have hM : Mem W w (aBlk g9015 1 [.nilFunc] :: aBlk g5 123 [v7] :: aBlk g6 24 [v9] :: aBools 4 v7 l8 :: aInts 3 v9 l10 :: aBlk g4 118 [.func (.func 138) #[] #[.pointer (some ⟨g_m, 0, none⟩), .pointer (some ⟨g_least, 0, none⟩), .pointer (some ⟨g_ways, 0, none⟩)]] :: aBlk g2 3 [.int .i64 p0] :: aBlk g_m 22 [v_m] :: aBlk g_least 3 [.int .i64 least] :: aBlk g_ways 3 [.int .i64 ways] :: As) := hM
  refine wpList_nil ?_
  refine x_nt ?_
  refine wp_seq ?_
  refine wp_region_lit ?_
  refine wl hs (y_makeFunc hs rfl) rfl ?_; intro a hs
  refine wstore hs rfl rfl (x_storeBlk he_1 rfl (hM.front 0 rfl)) ?_; intro w hM
  have hM : Mem W w (aBlk g9015 1 [.func (.func 157) #[] #[.pointer (some ⟨g6, 0, none⟩), .pointer (some ⟨g2, 0, none⟩), .pointer (some ⟨g4, 0, none⟩), .pointer (some ⟨g5, 0, none⟩), .pointer (some ⟨g9015, 0, none⟩)]] :: aBlk g5 123 [v7] :: aBlk g6 24 [v9] :: aBools 4 v7 l8 :: aInts 3 v9 l10 :: aBlk g4 118 [.func (.func 138) #[] #[.pointer (some ⟨g_m, 0, none⟩), .pointer (some ⟨g_least, 0, none⟩), .pointer (some ⟨g_ways, 0, none⟩)]] :: aBlk g2 3 [.int .i64 p0] :: aBlk g_m 22 [v_m] :: aBlk g_least 3 [.int .i64 least] :: aBlk g_ways 3 [.int .i64 ways] :: As) := hM
  refine wpList_nil ?_
  refine x_nt ?_
  refine wp_region_lit ?_
  refine wl hs (y_load sc_1 hs rfl (hM.cellBlk 0 rfl 0 rfl)) rfl ?_; intro a hs
  obtain ⟨y9016, h9017, hm⟩ := bindE hm
  refine wcallv is_157 hs rfl rfl rfl (impl_permutations_1_permanent_any g6 v9 l10 g2 p0 g4 g5 v7 l8 g9015 g_m v_m m g_least least g_ways ways _ _ _ hr_m ((((((((((hM.front 9 rfl).front 9 rfl).front 9 rfl).front 3 rfl).front 6 rfl).front 5 rfl).front 8 rfl).front 9 rfl).front 9 rfl).front 9 rfl) h9017) ?_; rintro a _ w hs ⟨v9018, v9019, rfl, hM⟩
  have hM : Mem W w (aBlk g6 24 [v9018] :: aInts 3 v9018 y9016.1 :: aBlk g2 3 [.int .i64 p0] :: aBlk g4 118 [.func (.func 138) #[] #[.pointer (some ⟨g_m, 0, none⟩), .pointer (some ⟨g_least, 0, none⟩), .pointer (some ⟨g_ways, 0, none⟩)]] :: aBlk g5 123 [v9019] :: aBools 4 v9019 y9016.2.1 :: aBlk g9015 1 [.func (.func 157) #[] #[.pointer (some ⟨g6, 0, none⟩), .pointer (some ⟨g2, 0, none⟩), .pointer (some ⟨g4, 0, none⟩), .pointer (some ⟨g5, 0, none⟩), .pointer (some ⟨g9015, 0, none⟩)]] :: aBlk g_m 22 [v_m] :: aBlk g_least 3 [.int .i64 y9016.2.2.1] :: aBlk g_ways 3 [.int .i64 y9016.2.2.2] :: As) := hM
  refine wpList_nil ?_
  have hm : some (y9016.2.2.1, y9016.2.2.2) = some r := hm
  obtain rfl := Option.some.inj hm
  refine x_end0 rfl hs ⟨_, rfl, ?_⟩
  exact ⟨rfl, hM.drop.drop.drop.drop.drop.drop.drop⟩

theorem impl_permanent_any (v_p0 : Value) (p0 : List (List Int)) (W : World) (hr_p0 : RdM W v_p0 p0) {r : Int × Int} (hm : impl_permanent_m p0 = some r) : Calls Try.prog 106 [v_p0].toArray W fun e w => ∃ v, e = .returned v ∧ v = .tuple #[.int .i64 r.1, .int .i64 r.2] ∧ Mem W w [] := by
  refine x_enter Try.func106 rfl Try.ntmps106 rfl ?_
  intro a hs
  have hM := Mem.start W
  unfold impl_permanent_m at hm
  refine wp_seq ?_
  refine wp_region_lit ?_
  refine wmem hs (x_box (RdS.one hr_p0) hs rfl hM) rfl ?_; rintro a _ w hs ⟨g2, rfl, hM⟩
  have hM : Mem W w [aBlk g2 22 [v_p0]] := hM
  refine wl hs (y_assign hs rfl) rfl ?_; intro a hs
  refine wl hs (y_assign hs rfl) rfl ?_; intro a hs
  refine wpList_nil ?_
  refine x_nt ?_
  refine wp_seq ?_
  refine wp_region_lit ?_
  refine wmem hs (x_alloc he_int rfl hM) rfl ?_; rintro a _ w hs ⟨g4, rfl, hM⟩
  have hM : Mem W w [aBlk g4 3 [.int .i64 0], aBlk g2 22 [v_p0]] := hM
  refine wmem hs (x_alloc he_int rfl hM) rfl ?_; rintro a _ w hs ⟨g6, rfl, hM⟩
  have hM : Mem W w [aBlk g6 3 [.int .i64 0], aBlk g4 3 [.int .i64 0], aBlk g2 22 [v_p0]] := hM
  refine wstore hs rfl rfl (x_storeBlk he_int rfl (hM.front 1 rfl)) ?_; intro w hM
  have hM : Mem W w [aBlk g4 3 [.int .i64 1000000000], aBlk g6 3 [.int .i64 0], aBlk g2 22 [v_p0]] := hM
  refine wstore hs rfl rfl (x_storeBlk he_int rfl (hM.front 1 rfl)) ?_; intro w hM
  have hM : Mem W w [aBlk g6 3 [.int .i64 0], aBlk g4 3 [.int .i64 1000000000], aBlk g2 22 [v_p0]] := hM
  refine wpList_nil ?_
  refine x_nt ?_
  refine wp_seq ?_
  refine wp_region_lit ?_
  refine wl hs (y_load sc_M hs rfl (hM.cellBlk 2 rfl 0 rfl)) rfl ?_; intro a hs
  refine wl hs (y_len hu_M hs rfl (RdM.below hr_p0 hM.bel)) rfl ?_; intro a hs
  refine wl hs (y_makeFunc hs rfl) rfl ?_; intro a hs
  obtain ⟨y7, h8, hm⟩ := bindE hm
  refine wcall is_137 hs rfl rfl (impl_permutations_permanent_any (p0.length : Int) g2 v_p0 p0 g4 1000000000 g6 0 _ _ _ hr_p0 ((hM.front 1 rfl).front 2 rfl) h8) ?_; rintro a _ w hs ⟨rfl, hM⟩
  have hM : Mem W w [aBlk g2 22 [v_p0], aBlk g4 3 [.int .i64 y7.1], aBlk g6 3 [.int .i64 y7.2]] := hM
  refine wpList_nil ?_
  refine x_nt ?_
  refine wp_seq ?_
  refine x_regq hmix (by kernel_rfl) ?_
  refine wq hs (fun w1 hw1 => y_load sc_int hs rfl ((hM.quiet hw1).cellBlk 1 rfl 0 rfl)) rfl ?_; intro a hs
  refine wq hs (fun w1 hw1 => y_load sc_int hs rfl ((hM.quiet hw1).cellBlk 2 rfl 0 rfl)) rfl ?_; intro a hs
  refine wq hs (fun w1 hw1 => y_assign hs rfl) rfl ?_; intro a hs
  refine wq hs (fun w1 hw1 => y_assign hs rfl) rfl ?_; intro a hs
  refine wpQuiet_nil ?_
  intro w hw
  replace hM := hM.quiet hw
  refine x_nt ?_
  refine wp_ret ?_
  have hm : some (y7.1, y7.2) = some r := hm
  obtain rfl := Option.some.inj hm
  refine x_ret2 rfl hs rfl rfl ⟨_, rfl, ?_⟩
  exact ⟨rfl, hM.none_⟩

end Go.Proofs.Ytaagklbiebogfaa
