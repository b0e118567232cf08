/- The code of this unit computes what its mirrors say. Written by program (wip/gen). -/
import Derived.Test.YtnnhbkhlipekeaaFacts
import Derived.Test.YtnnhbkhlipekeaaAsuM
import Derived.Test.YtnnhbkhlipekeaaAs2W
import Derived.Test.YtnnhbkhlipekeaaAsnW
namespace Go.Proofs.Ytnnhbkhlipekeaa
open Go.RowKit
set_option linter.unusedVariables false

theorem impl_usesOf_1_any (v_p0 : Value) (p0 : List Int) (g_m : Nat) (v_m : Value) (m : List (List Int)) (g_b : Nat) (b_0 : Int) (v_b_1 : Value) (b_1 : List Int) (g_count : Nat) (count : Int) (g_uses : Nat) (v_uses : Value) (uses : List (List Int)) (vs_uses : List Value) (W w : World) (As : List Atom) (hr_m : RdM W v_m m) (hr_b_1 : RdI W v_b_1 b_1) (hM : Mem W w (aInts 3 v_p0 p0 :: aBlk g_m 22 [v_m] :: aBlk g_b 55 [.int .i64 b_0, v_b_1] :: aBlk g_count 3 [.int .i64 count] :: aBlk g_uses 22 [v_uses] :: aMat 23 3 v_uses vs_uses uses :: As)) {r : Int × (List (List Int))} (hm : impl_usesOf_1_m p0 m b_0 b_1 count uses = some r) : Calls Try.prog 87 [v_p0, .pointer (some ⟨g_m, 0, none⟩), .pointer (some ⟨g_b, 0, none⟩), .pointer (some ⟨g_count, 0, none⟩), .pointer (some ⟨g_uses, 0, none⟩)].toArray w fun e w' => ∃ v, e = .returned v ∧ ∃ v_uses', ∃ vs_uses', v = .tuple #[] ∧ Mem W w' (aInts 3 v_p0 p0 :: aBlk g_m 22 [v_m] :: aBlk g_b 55 [.int .i64 b_0, v_b_1] :: aBlk g_count 3 [.int .i64 r.1] :: aBlk g_uses 22 [v_uses'] :: aMat 23 3 v_uses' vs_uses' r.2 :: As) := by
  refine x_enter Try.func87 rfl Try.ntmps87 rfl ?_
  intro a hs
  unfold impl_usesOf_1_m at hm
  refine wp_seq ?_
  refine wp_seq ?_
  refine x_regq hmix (by kernel_rfl) ?_
  refine wq hs (fun w1 hw1 => y_load sc_M hs rfl ((hM.quiet hw1).cellBlk 1 rfl 0 rfl)) rfl ?_; intro a hs
  refine wq hs (fun w1 hw1 => y_move hs rfl) rfl ?_; intro a hs
  obtain ⟨y1, h2, hm⟩ := bindE hm
  refine qcall (v := .int .i64 y1) is_49 hs rfl rfl (fun w1 hw1 => q_of hw1 (impl_costOf_any v_m m v_p0 p0 w1 (RdM.below hr_m (hM.quiet hw1).bel) ((hM.quiet hw1).rdI 0 rfl) h2)) ?_; intro a hs
  refine wq hs (fun w1 hw1 => y_fieldAddr sT_55 hs rfl rfl) rfl ?_; intro a hs
  refine wq hs (fun w1 hw1 => y_load sc_int hs rfl ((hM.quiet hw1).cellBlk 2 rfl 0 rfl)) rfl ?_; intro a hs
  refine wq hs (fun w1 hw1 => y_neq hs rfl rfl) rfl ?_; intro a hs
  refine wpQuiet_nil ?_
  intro w hw
  replace hM := hM.quiet hw
  refine x_nt ?_
  refine x_cond hs rfl (fun hb => ?_) (fun hb => ?_)
  · replace hm := condT hb hm
    refine wp_ret ?_
    refine x_rt ?_
    have hm : some (count, uses) = some r := hm
    obtain rfl := Option.some.inj hm
    refine x_ret0 rfl hs  ⟨_, rfl, ?_⟩
    exact ⟨v_uses, vs_uses, rfl, hM⟩
  · replace hm := condF hb hm
    refine wp_skip ?_
    refine x_nt ?_
    refine wp_seq ?_
    refine wp_region_lit ?_
    refine wl hs (y_load sc_int hs rfl (hM.cellBlk 3 rfl 0 rfl)) rfl ?_; intro a hs
    obtain ⟨n3, h4, hm⟩ := bindE hm
    refine wl hs (y_add hs rfl rfl h4) rfl ?_; intro a hs
    refine wstore hs rfl rfl (x_storeBlk he_int rfl (hM.front 3 rfl)) ?_; intro w hM
    have hM : Mem W w (aBlk g_count 3 [.int .i64 n3] :: aInts 3 v_p0 p0 :: aBlk g_m 22 [v_m] :: aBlk g_b 55 [.int .i64 b_0, v_b_1] :: aBlk g_uses 22 [v_uses] :: aMat 23 3 v_uses vs_uses uses :: As) := hM
    refine wpList_nil ?_
    refine x_nt ?_
    refine wp_seq ?_
    refine wp_region_lit ?_
    refine wl hs (y_move hs rfl) rfl ?_; intro a hs
    refine wl hs (y_len hu_I hs rfl (hM.rdI 1 rfl)) rfl ?_; intro a hs
    refine wl hs (y_move hs rfl) rfl ?_; intro a hs
    refine wpList_nil ?_
    refine x_nt ?_
    obtain ⟨s8, hm, hk9⟩ := bindE hm
    refine x_mid (fun a w => ∃ (l7 : List (List Int)), l7 = s8 ∧ Fr a 33 [] ∧ Mem W w (aBlk g_count 3 [.int .i64 n3] :: aInts 3 v_p0 p0 :: aBlk g_m 22 [v_m] :: aBlk g_b 55 [.int .i64 b_0, v_b_1] :: aBlk g_uses 22 [v_uses] :: aMat 23 3 v_uses vs_uses l7 :: As)) ?_ ?_
    · refine wp_block ?_
      refine x_loop (fun k a w => ∃ (q10 : List Int) (j5 : Nat) (l6 : List (List Int)) , k = q10.length ∧ Fr a 33 [(4, .pointer (some ⟨g_uses, 0, none⟩)), (16, v_p0), (17, .int .i64 (p0.length : Int)), (18, .int .i64 (j5 : Int))] ∧ Mem W w (aBlk g_count 3 [.int .i64 n3] :: aInts 3 v_p0 p0 :: aBlk g_m 22 [v_m] :: aBlk g_b 55 [.int .i64 b_0, v_b_1] :: aBlk g_uses 22 [v_uses] :: aMat 23 3 v_uses vs_uses l6 :: As) ∧ impl_usesOf_1_l1 q10 j5 l6 = some s8 ∧ List.drop j5 p0 = q10) _ ⟨p0, 0, uses, rfl, hs.sub ⟨rfl, rfl, rfl, rfl, trivial⟩, hM, hm, rfl⟩ ?_
      rintro k a w ⟨q10, j5, l6, rfl, hs, hM, hm, hj5⟩
      rcases q10 with _ | ⟨x11, q10⟩
      · rewrite [impl_usesOf_1_l1] at hm
        refine wp_seq ?_
        refine wp_region_lit ?_
        refine wl hs (y_lss hs rfl rfl) rfl ?_; intro a hs
        refine wpList_nil ?_
        refine x_nt ?_
        refine wp_seq ?_
        refine x_condF hs rfl (drop_f hj5) ?_
        refine wp_exit ?_
        refine x_et ?_
        refine x_et ?_
        refine x_eb ?_
        have hm : some l6 = some s8 := hm
        exact ⟨l6, Option.some.inj hm, hs.sub trivial, hM⟩
      · rewrite [impl_usesOf_1_l1] at hm
        have hx12 := drop_idx hj5
        have hsj5 := ck_succ hj5 (RdS.len (hM.rdI 1 rfl))
        refine wp_seq ?_
        refine wp_region_lit ?_
        refine wl hs (y_lss hs rfl rfl) rfl ?_; intro a hs
        refine wpList_nil ?_
        refine x_nt ?_
        refine wp_seq ?_
        refine x_condT hs rfl (drop_t hj5) ?_
        refine wp_skip ?_
        refine x_nt ?_
        refine wp_seq ?_
        refine wp_block ?_
        refine wp_seq ?_
        refine wp_region_lit ?_
        refine wl hs (y_move hs rfl) rfl ?_; intro a hs
        have he13 := RdI.at_ (hM.rdI 1 rfl) hx12
        refine wl hs (y_index ht_I hs rfl rfl he13) rfl ?_; intro a hs
        refine wl hs (y_load sc_int hs rfl he13.cell) rfl ?_; intro a hs
        refine wl hs (y_assign hs rfl) rfl ?_; intro a hs
        refine wl hs (y_assign hs rfl) rfl ?_; intro a hs
        refine wpList_nil ?_
        refine x_nt ?_
        refine wp_region_lit ?_
        refine wl hs (y_load sc_M hs rfl (hM.cellBlk 4 rfl 0 rfl)) rfl ?_; intro a hs
        refine wl hs (y_move hs rfl) rfl ?_; intro a hs
        obtain ⟨x14, hx15, hm⟩ := bindE hm
        obtain ⟨u17, hv18, he16⟩ := hM.atM 5 rfl hx15
        refine wl hs (y_index ht_M hs rfl rfl he16) rfl ?_; intro a hs
        refine wl hs (y_load sc_I hs rfl he16.cell) rfl ?_; intro a hs
        refine wl hs (y_move hs rfl) rfl ?_; intro a hs
        obtain ⟨x19, hx20, hm⟩ := bindE hm
        have he21 := RdI.at_ (hM.rdRow 5 rfl rfl hv18 (idx_spec hx15).2.2) hx20
        refine wl hs (y_index ht_I hs rfl rfl he21) rfl ?_; intro a hs
        refine wl hs (y_load sc_int hs rfl he21.cell) rfl ?_; intro a hs
        obtain ⟨n22, h23, hm⟩ := bindE hm
        refine wl hs (y_add hs rfl rfl h23) rfl ?_; intro a hs
        have he24 := RdI.at_ (hM.rdRow 5 rfl rfl hv18 (idx_spec hx15).2.2) hx20
        refine wl hs (y_index ht_I hs rfl rfl he24) rfl ?_; intro a hs
        obtain ⟨l25, h26, hm⟩ := bindE hm
        refine wstore hs rfl rfl (x_storeM he_int (hM.front 5 rfl) hv18 ((idx_spec hx15).2.2) h26) ?_; intro w hM
        have hM : Mem W w (aMat 23 3 v_uses vs_uses (l6.set ((j5 : Int)).toNat l25) :: aBlk g_count 3 [.int .i64 n3] :: aInts 3 v_p0 p0 :: aBlk g_m 22 [v_m] :: aBlk g_b 55 [.int .i64 b_0, v_b_1] :: aBlk g_uses 22 [v_uses] :: As) := hM
        refine wpList_nil ?_
        refine x_nb ?_
        refine x_nt ?_
        refine wp_region_lit ?_
        refine wl hs (y_add hs rfl rfl hsj5) rfl ?_; intro a hs
        refine wl hs (y_move hs rfl) rfl ?_; intro a hs
        refine wpList_nil ?_
        exact ⟨_, by simp, q10, j5 + 1, (l6.set ((j5 : Int)).toNat l25), rfl, hs.sub ⟨rfl, rfl, rfl, rfl, trivial⟩, (((((hM.front 5 rfl).front 5 rfl).front 5 rfl).front 5 rfl).front 5 rfl), hm, drop_next hj5⟩
    rintro a w ⟨l7, rfl, hs, hM⟩
    have hm := hk9
    have hm : some (n3, l7) = some r := hm
    obtain rfl := Option.some.inj hm
    refine x_end0 rfl hs ⟨_, rfl, ?_⟩
    exact ⟨v_uses, vs_uses, rfl, ((((((hM.front 5 rfl).front 5 rfl).front 2 rfl).front 5 rfl).front 5 rfl).front 5 rfl)⟩

set_option maxHeartbeats 4000000 in
theorem impl_permutations_1_uses_rec : ∀ (k : Nat) (g_l : Nat) (v_l : Value) (l : List Int) (g_n : Nat) (n : Int) (g_visit : Nat) (g_used : Nat) (v_used : Value) (used : List Bool) (g_next : Nat) (g_m : Nat) (v_m : Value) (m : List (List Int)) (g_b : Nat) (b_0 : Int) (v_b_1 : Value) (b_1 : List Int) (g_count : Nat) (count : Int) (g_uses : Nat) (v_uses : Value) (uses : List (List Int)) (vs_uses : List Value) (W w : World) (As : List Atom) (hr_m : RdM W v_m m) (hr_b_1 : RdI W v_b_1 b_1) (hM : Mem W w (aBlk g_l 23 [v_l] :: aInts 3 v_l l :: aBlk g_n 3 [.int .i64 n] :: aBlk g_visit 76 [.func (.func 87) #[] #[.pointer (some ⟨g_m, 0, none⟩), .pointer (some ⟨g_b, 0, none⟩), .pointer (some ⟨g_count, 0, none⟩), .pointer (some ⟨g_uses, 0, none⟩)]] :: aBlk g_used 73 [v_used] :: aBools 4 v_used used :: aBlk g_next 1 [.func (.func 104) #[] #[.pointer (some ⟨g_l, 0, none⟩), .pointer (some ⟨g_n, 0, none⟩), .pointer (some ⟨g_visit, 0, none⟩), .pointer (some ⟨g_used, 0, none⟩), .pointer (some ⟨g_next, 0, none⟩)]] :: aBlk g_m 22 [v_m] :: aBlk g_b 55 [.int .i64 b_0, v_b_1] :: aBlk g_count 3 [.int .i64 count] :: aBlk g_uses 22 [v_uses] :: aMat 23 3 v_uses vs_uses uses :: As)) {r : (List Int) × (List Bool) × Int × (List (List Int))} (hm : impl_permutations_1_uses_r k l n used m b_0 b_1 count uses = some r), Calls Try.prog 104 [.pointer (some ⟨g_l, 0, none⟩), .pointer (some ⟨g_n, 0, none⟩), .pointer (some ⟨g_visit, 0, none⟩), .pointer (some ⟨g_used, 0, none⟩), .pointer (some ⟨g_next, 0, none⟩)].toArray w fun e w' => ∃ v, e = .returned v ∧ ∃ v_l', ∃ v_used', ∃ v_uses', ∃ vs_uses', v = .tuple #[] ∧ Mem W w' (aBlk g_l 23 [v_l'] :: aInts 3 v_l' r.1 :: aBlk g_n 3 [.int .i64 n] :: aBlk g_visit 76 [.func (.func 87) #[] #[.pointer (some ⟨g_m, 0, none⟩), .pointer (some ⟨g_b, 0, none⟩), .pointer (some ⟨g_count, 0, none⟩), .pointer (some ⟨g_uses, 0, none⟩)]] :: aBlk g_used 73 [v_used'] :: aBools 4 v_used' r.2.1 :: aBlk g_next 1 [.func (.func 104) #[] #[.pointer (some ⟨g_l, 0, none⟩), .pointer (some ⟨g_n, 0, none⟩), .pointer (some ⟨g_visit, 0, none⟩), .pointer (some ⟨g_used, 0, none⟩), .pointer (some ⟨g_next, 0, none⟩)]] :: aBlk g_m 22 [v_m] :: aBlk g_b 55 [.int .i64 b_0, v_b_1] :: aBlk g_count 3 [.int .i64 r.2.2.1] :: aBlk g_uses 22 [v_uses'] :: aMat 23 3 v_uses' vs_uses' r.2.2.2 :: As) := by
  intro k
  induction k with
  | zero => intro g_l v_l l g_n n g_visit g_used v_used used g_next g_m v_m m g_b b_0 v_b_1 b_1 g_count count g_uses v_uses uses vs_uses W w As hr_m hr_b_1 hM r hm; have hm : none = some r := hm; cases hm
  | succ k ih =>
  intro g_l v_l l g_n n g_visit g_used v_used used g_next g_m v_m m g_b b_0 v_b_1 b_1 g_count count g_uses v_uses uses vs_uses W w As hr_m hr_b_1 hM r hm
  have hm : impl_permutations_1_uses_b (impl_permutations_1_uses_r k) l n used m b_0 b_1 count uses = some r := hm
  generalize impl_permutations_1_uses_r k = rec at hm ih
  refine x_enter Try.func104 rfl Try.ntmps104 rfl ?_
  intro a hs
  unfold impl_permutations_1_uses_b at hm
  refine wp_seq ?_
  refine wp_seq ?_
  refine wp_region_lit ?_
  refine wl hs (y_load sc_I hs rfl (hM.cellBlk 0 rfl 0 rfl)) rfl ?_; intro a hs
  refine wl hs (y_len hu_I hs rfl (hM.rdI 1 rfl)) rfl ?_; intro a hs
  refine wl hs (y_load sc_int hs rfl (hM.cellBlk 2 rfl 0 rfl)) rfl ?_; intro a hs
  refine wl hs (y_eql hs rfl rfl) rfl ?_; intro a hs
  refine wpList_nil ?_
  refine x_nt ?_
  refine x_cond hs rfl (fun hb => ?_) (fun hb => ?_)
  · replace hm := condT hb hm
    refine wp_seq ?_
    refine wp_region_lit ?_
    refine wl hs (y_load sc_76 hs rfl (hM.cellBlk 3 rfl 0 rfl)) rfl ?_; intro a hs
    refine wl hs (y_load sc_I hs rfl (hM.cellBlk 0 rfl 0 rfl)) rfl ?_; intro a hs
    obtain ⟨y1, h2, hm⟩ := bindE hm
    refine wcallv is_87 hs rfl rfl rfl (impl_usesOf_1_any v_l l g_m v_m m g_b b_0 v_b_1 b_1 g_count count g_uses v_uses uses vs_uses _ _ _ hr_m hr_b_1 ((((((((((((hM.front 6 rfl).front 6 rfl).front 6 rfl).front 6 rfl).front 6 rfl).front 5 rfl).front 11 rfl).front 11 rfl).front 11 rfl).front 11 rfl).front 11 rfl).front 11 rfl) h2) ?_; rintro a _ w hs ⟨v3, vs4, rfl, hM⟩
    have hM : Mem W w (aInts 3 v_l l :: aBlk g_m 22 [v_m] :: aBlk g_b 55 [.int .i64 b_0, v_b_1] :: aBlk g_count 3 [.int .i64 y1.1] :: aBlk g_uses 22 [v3] :: aMat 23 3 v3 vs4 y1.2 :: aBlk g_l 23 [v_l] :: aBlk g_n 3 [.int .i64 n] :: aBlk g_visit 76 [.func (.func 87) #[] #[.pointer (some ⟨g_m, 0, none⟩), .pointer (some ⟨g_b, 0, none⟩), .pointer (some ⟨g_count, 0, none⟩), .pointer (some ⟨g_uses, 0, none⟩)]] :: aBlk g_used 73 [v_used] :: aBools 4 v_used used :: aBlk g_next 1 [.func (.func 104) #[] #[.pointer (some ⟨g_l, 0, none⟩), .pointer (some ⟨g_n, 0, none⟩), .pointer (some ⟨g_visit, 0, none⟩), .pointer (some ⟨g_used, 0, none⟩), .pointer (some ⟨g_next, 0, none⟩)]] :: As) := hM
    refine wpList_nil ?_
    refine x_nt ?_
    refine wp_ret ?_
    refine x_rt ?_
    have hm : some (l, used, y1.1, y1.2) = some r := hm
    obtain rfl := Option.some.inj hm
    refine x_ret0 rfl hs  ⟨_, rfl, ?_⟩
    exact ⟨v_l, v_used, v3, vs4, rfl, ((((((((((((hM.front 5 rfl).front 5 rfl).front 5 rfl).front 5 rfl).front 5 rfl).front 11 rfl).front 11 rfl).front 11 rfl).front 11 rfl).front 11 rfl).front 10 rfl).front 11 rfl)⟩
  · replace hm := condF hb hm
    refine wp_skip ?_
    refine x_nt ?_
    refine wp_seq ?_
    refine wp_region_lit ?_
    refine wl hs (y_load sc_int hs rfl (hM.cellBlk 2 rfl 0 rfl)) rfl ?_; intro a hs
    refine wl hs (y_move hs rfl) rfl ?_; intro a hs
    refine wpList_nil ?_
    refine x_nt ?_
    obtain ⟨s22, hm, hk23⟩ := bindE hm
    refine x_mid (fun a w => ∃ (v14 : Value), ∃ (l15 : List Int), ∃ (v16 : Value), ∃ (l17 : List Bool), ∃ (v18 : Value), ∃ (vs19 : List Value), ∃ (l20 : List (List Int)), ∃ (n21 : Int), (l15, l17, l20, n21) = s22 ∧ Fr a 39 [] ∧ Mem W w (aBlk g_l 23 [v14] :: aInts 3 v14 l15 :: aBlk g_n 3 [.int .i64 n] :: aBlk g_visit 76 [.func (.func 87) #[] #[.pointer (some ⟨g_m, 0, none⟩), .pointer (some ⟨g_b, 0, none⟩), .pointer (some ⟨g_count, 0, none⟩), .pointer (some ⟨g_uses, 0, none⟩)]] :: aBlk g_used 73 [v16] :: aBools 4 v16 l17 :: aBlk g_next 1 [.func (.func 104) #[] #[.pointer (some ⟨g_l, 0, none⟩), .pointer (some ⟨g_n, 0, none⟩), .pointer (some ⟨g_visit, 0, none⟩), .pointer (some ⟨g_used, 0, none⟩), .pointer (some ⟨g_next, 0, none⟩)]] :: aBlk g_m 22 [v_m] :: aBlk g_b 55 [.int .i64 b_0, v_b_1] :: aBlk g_count 3 [.int .i64 n21] :: aBlk g_uses 22 [v18] :: aMat 23 3 v18 vs19 l20 :: As)) ?_ ?_
    · refine wp_block ?_
      obtain ⟨nck, hnck, hm⟩ := bindE hm
      refine x_loop (fun k a w => ∃ (q24 : Nat) (j5 : Nat) (v6 : Value) (l7 : List Int) (v8 : Value) (l9 : List Bool) (v10 : Value) (vs11 : List Value) (l12 : List (List Int)) (n13 : Int) , q24 = k ∧ Fr a 39 [(0, .pointer (some ⟨g_l, 0, none⟩)), (3, .pointer (some ⟨g_used, 0, none⟩)), (4, .pointer (some ⟨g_next, 0, none⟩)), (13, .int .i64 n), (14, .int .i64 (j5 : Int))] ∧ Mem W w (aBlk g_l 23 [v6] :: aInts 3 v6 l7 :: aBlk g_n 3 [.int .i64 n] :: aBlk g_visit 76 [.func (.func 87) #[] #[.pointer (some ⟨g_m, 0, none⟩), .pointer (some ⟨g_b, 0, none⟩), .pointer (some ⟨g_count, 0, none⟩), .pointer (some ⟨g_uses, 0, none⟩)]] :: aBlk g_used 73 [v8] :: aBools 4 v8 l9 :: aBlk g_next 1 [.func (.func 104) #[] #[.pointer (some ⟨g_l, 0, none⟩), .pointer (some ⟨g_n, 0, none⟩), .pointer (some ⟨g_visit, 0, none⟩), .pointer (some ⟨g_used, 0, none⟩), .pointer (some ⟨g_next, 0, none⟩)]] :: aBlk g_m 22 [v_m] :: aBlk g_b 55 [.int .i64 b_0, v_b_1] :: aBlk g_count 3 [.int .i64 n13] :: aBlk g_uses 22 [v10] :: aMat 23 3 v10 vs11 l12 :: As) ∧ impl_permutations_1_uses_l1 n m b_0 b_1 rec q24 j5 l7 l9 l12 n13 = some s22 ∧ (n - (j5 : Int)).toNat = q24) _ ⟨(n - (0 : Nat) : Int).toNat, 0, v_l, l, v_used, used, v_uses, vs_uses, uses, count, rfl, hs.sub ⟨rfl, rfl, rfl, rfl, rfl, trivial⟩, hM, hm, rfl⟩ ?_
      rintro k a w ⟨q24, j5, v6, l7, v8, l9, v10, vs11, l12, n13, rfl, hs, hM, hm, hj5⟩
      rcases q24 with _ | q24
      · rewrite [impl_permutations_1_uses_l1] at hm
        refine wp_seq ?_
        refine wp_region_lit ?_
        refine wl hs (y_lss hs rfl rfl) rfl ?_; intro a hs
        refine wpList_nil ?_
        refine x_nt ?_
        refine wp_seq ?_
        refine x_condF hs rfl (cnt_f hj5) ?_
        refine wp_exit ?_
        refine x_et ?_
        refine x_et ?_
        refine x_eb ?_
        have hm : some (l7, l9, l12, n13) = some s22 := hm
        exact ⟨v6, l7, v8, l9, v10, vs11, l12, n13, Option.some.inj hm, hs.sub trivial, hM⟩
      · rewrite [impl_permutations_1_uses_l1] at hm
        have hsj5 := cnt_succ hj5 hnck
        refine wp_seq ?_
        refine wp_region_lit ?_
        refine wl hs (y_lss hs rfl rfl) rfl ?_; intro a hs
        refine wpList_nil ?_
        refine x_nt ?_
        refine wp_seq ?_
        refine x_condT hs rfl (cnt_t hj5) ?_
        refine wp_skip ?_
        refine x_nt ?_
        refine wp_seq ?_
        refine wp_block ?_
        refine wp_seq ?_
        refine wp_region_lit ?_
        refine wl hs (y_move hs rfl) rfl ?_; intro a hs
        refine wl hs (y_assign hs rfl) rfl ?_; intro a hs
        refine wpList_nil ?_
        refine x_nt ?_
        refine wp_seq ?_
        refine wp_seq ?_
        refine wp_region_lit ?_
        refine wl hs (y_load sc_B hs rfl (hM.cellBlk 4 rfl 0 rfl)) rfl ?_; intro a hs
        refine wl hs (y_move hs rfl) rfl ?_; intro a hs
        obtain ⟨x25, hx26, hm⟩ := bindE hm
        have he27 := RdB.at_ (hM.rdB 5 rfl) hx26
        refine wl hs (y_index ht_B hs rfl rfl he27) rfl ?_; intro a hs
        refine wl hs (y_load sc_bool hs rfl he27.cell) rfl ?_; intro a hs
        refine wpList_nil ?_
        refine x_nt ?_
        refine x_cond hs rfl (fun hb => ?_) (fun hb => ?_)
        · replace hm := condT hb hm
          refine wp_exit ?_
          refine x_et ?_
          refine x_eb ?_
          refine x_nt ?_
          refine wp_region_lit ?_
          refine wl hs (y_add hs rfl rfl hsj5) rfl ?_; intro a hs
          refine wl hs (y_move hs rfl) rfl ?_; intro a hs
          refine wpList_nil ?_
          exact ⟨_, Nat.lt_succ_self _, q24, j5 + 1, v6, l7, v8, l9, v10, vs11, l12, n13, rfl, hs.sub ⟨rfl, rfl, rfl, rfl, rfl, trivial⟩, hM, hm, cnt_next hj5⟩
        · replace hm := condF hb hm
          refine wp_skip ?_
          refine x_nt ?_
          refine wp_seq ?_
          refine wp_region_lit ?_
          refine wl hs (y_load sc_B hs rfl (hM.cellBlk 4 rfl 0 rfl)) rfl ?_; intro a hs
          refine wl hs (y_move hs rfl) rfl ?_; intro a hs
          have he28 := RdB.at_ (hM.rdB 5 rfl) hx26
          refine wl hs (y_index ht_B hs rfl rfl he28) rfl ?_; intro a hs
          obtain ⟨l29, h30, hm⟩ := bindE hm
          refine wstore hs rfl rfl (x_storeB he_bool (hM.front 5 rfl) h30) ?_; intro w hM
          have hM : Mem W w (aBools 4 v8 l29 :: aBlk g_l 23 [v6] :: aInts 3 v6 l7 :: aBlk g_n 3 [.int .i64 n] :: aBlk g_visit 76 [.func (.func 87) #[] #[.pointer (some ⟨g_m, 0, none⟩), .pointer (some ⟨g_b, 0, none⟩), .pointer (some ⟨g_count, 0, none⟩), .pointer (some ⟨g_uses, 0, none⟩)]] :: aBlk g_used 73 [v8] :: aBlk g_next 1 [.func (.func 104) #[] #[.pointer (some ⟨g_l, 0, none⟩), .pointer (some ⟨g_n, 0, none⟩), .pointer (some ⟨g_visit, 0, none⟩), .pointer (some ⟨g_used, 0, none⟩), .pointer (some ⟨g_next, 0, none⟩)]] :: aBlk g_m 22 [v_m] :: aBlk g_b 55 [.int .i64 b_0, v_b_1] :: aBlk g_count 3 [.int .i64 n13] :: aBlk g_uses 22 [v10] :: aMat 23 3 v10 vs11 l12 :: As) := hM
          refine wpList_nil ?_
          refine x_nt ?_
          refine wp_seq ?_
          refine wp_region_lit ?_
          refine wl hs (y_load sc_I hs rfl (hM.cellBlk 1 rfl 0 rfl)) rfl ?_; intro a hs
          refine wl hs (y_move hs rfl) rfl ?_; intro a hs
          obtain ⟨l31, h32, hm⟩ := bindE hm
          refine wappI hu_I he_int hs (hM.front 2 rfl) rfl rfl h32 rfl rfl rfl ?_; intro a v33 w u34 hs hM
          have hM : Mem W w (aInts 3 v33 l31 :: aBools 4 v8 l29 :: aBlk g_l 23 [v6] :: aBlk g_n 3 [.int .i64 n] :: aBlk g_visit 76 [.func (.func 87) #[] #[.pointer (some ⟨g_m, 0, none⟩), .pointer (some ⟨g_b, 0, none⟩), .pointer (some ⟨g_count, 0, none⟩), .pointer (some ⟨g_uses, 0, none⟩)]] :: aBlk g_used 73 [v8] :: aBlk g_next 1 [.func (.func 104) #[] #[.pointer (some ⟨g_l, 0, none⟩), .pointer (some ⟨g_n, 0, none⟩), .pointer (some ⟨g_visit, 0, none⟩), .pointer (some ⟨g_used, 0, none⟩), .pointer (some ⟨g_next, 0, none⟩)]] :: aBlk g_m 22 [v_m] :: aBlk g_b 55 [.int .i64 b_0, v_b_1] :: aBlk g_count 3 [.int .i64 n13] :: aBlk g_uses 22 [v10] :: aMat 23 3 v10 vs11 l12 :: As) := hM
          refine wstore hs rfl rfl (x_storeBlk he_I (Mem.one (hM.front 0 rfl)) (hM.front 2 rfl)) ?_; intro w hM
          have hM : Mem W w (aBlk g_l 23 [v33] :: aInts 3 v33 l31 :: aBools 4 v8 l29 :: aBlk g_n 3 [.int .i64 n] :: aBlk g_visit 76 [.func (.func 87) #[] #[.pointer (some ⟨g_m, 0, none⟩), .pointer (some ⟨g_b, 0, none⟩), .pointer (some ⟨g_count, 0, none⟩), .pointer (some ⟨g_uses, 0, none⟩)]] :: aBlk g_used 73 [v8] :: aBlk g_next 1 [.func (.func 104) #[] #[.pointer (some ⟨g_l, 0, none⟩), .pointer (some ⟨g_n, 0, none⟩), .pointer (some ⟨g_visit, 0, none⟩), .pointer (some ⟨g_used, 0, none⟩), .pointer (some ⟨g_next, 0, none⟩)]] :: aBlk g_m 22 [v_m] :: aBlk g_b 55 [.int .i64 b_0, v_b_1] :: aBlk g_count 3 [.int .i64 n13] :: aBlk g_uses 22 [v10] :: aMat 23 3 v10 vs11 l12 :: As) := hM
          refine wpList_nil ?_
          refine x_nt ?_
          refine wp_seq ?_
          refine wp_region_lit ?_
          refine wl hs (y_load sc_1 hs rfl (hM.cellBlk 6 rfl 0 rfl)) rfl ?_; intro a hs
          obtain ⟨y35, h36, hm⟩ := bindE hm
          refine wcallv is_104 hs rfl rfl rfl (ih g_l v33 l31 g_n n g_visit g_used v8 l29 g_next g_m v_m m g_b b_0 v_b_1 b_1 g_count n13 g_uses v10 l12 vs11 _ _ _ hr_m hr_b_1 ((((((((((((hM.front 11 rfl).front 11 rfl).front 11 rfl).front 11 rfl).front 11 rfl).front 11 rfl).front 8 rfl).front 11 rfl).front 11 rfl).front 11 rfl).front 11 rfl).front 11 rfl) h36) ?_; rintro a _ w hs ⟨v37, v38, v39, vs40, rfl, hM⟩
          have hM : Mem W w (aBlk g_l 23 [v37] :: aInts 3 v37 y35.1 :: aBlk g_n 3 [.int .i64 n] :: aBlk g_visit 76 [.func (.func 87) #[] #[.pointer (some ⟨g_m, 0, none⟩), .pointer (some ⟨g_b, 0, none⟩), .pointer (some ⟨g_count, 0, none⟩), .pointer (some ⟨g_uses, 0, none⟩)]] :: aBlk g_used 73 [v38] :: aBools 4 v38 y35.2.1 :: aBlk g_next 1 [.func (.func 104) #[] #[.pointer (some ⟨g_l, 0, none⟩), .pointer (some ⟨g_n, 0, none⟩), .pointer (some ⟨g_visit, 0, none⟩), .pointer (some ⟨g_used, 0, none⟩), .pointer (some ⟨g_next, 0, none⟩)]] :: aBlk g_m 22 [v_m] :: aBlk g_b 55 [.int .i64 b_0, v_b_1] :: aBlk g_count 3 [.int .i64 y35.2.2.1] :: aBlk g_uses 22 [v39] :: aMat 23 3 v39 vs40 y35.2.2.2 :: As) := hM
          refine wpList_nil ?_
          refine x_nt ?_
          refine wp_seq ?_
          refine wp_region_lit ?_
          refine wl hs (y_load sc_I hs rfl (hM.cellBlk 0 rfl 0 rfl)) rfl ?_; intro a hs
          refine wl hs (y_load sc_I hs rfl (hM.cellBlk 0 rfl 0 rfl)) rfl ?_; intro a hs
          refine wl hs (y_len hu_I hs rfl (hM.rdI 1 rfl)) rfl ?_; intro a hs
          obtain ⟨n41, h42, hm⟩ := bindE hm
          refine wl hs (y_sub hs rfl rfl h42) rfl ?_; intro a hs
          obtain ⟨l43, h44, hm⟩ := bindE hm
          obtain ⟨v45, h46, hM⟩ := (hM.front 1 rfl).cutI hu_I he_int h44
          have hM : Mem W w (aInts 3 v45 l43 :: aBlk g_l 23 [v37] :: aBlk g_n 3 [.int .i64 n] :: aBlk g_visit 76 [.func (.func 87) #[] #[.pointer (some ⟨g_m, 0, none⟩), .pointer (some ⟨g_b, 0, none⟩), .pointer (some ⟨g_count, 0, none⟩), .pointer (some ⟨g_uses, 0, none⟩)]] :: aBlk g_used 73 [v38] :: aBools 4 v38 y35.2.1 :: aBlk g_next 1 [.func (.func 104) #[] #[.pointer (some ⟨g_l, 0, none⟩), .pointer (some ⟨g_n, 0, none⟩), .pointer (some ⟨g_visit, 0, none⟩), .pointer (some ⟨g_used, 0, none⟩), .pointer (some ⟨g_next, 0, none⟩)]] :: aBlk g_m 22 [v_m] :: aBlk g_b 55 [.int .i64 b_0, v_b_1] :: aBlk g_count 3 [.int .i64 y35.2.2.1] :: aBlk g_uses 22 [v39] :: aMat 23 3 v39 vs40 y35.2.2.2 :: As) := hM
          refine wl hs (y_cut hs rfl rfl h46) rfl ?_; intro a hs
          refine wstore hs rfl rfl (x_storeBlk he_I (Mem.one (hM.front 0 rfl)) (hM.front 1 rfl)) ?_; intro w hM
          have hM : Mem W w (aBlk g_l 23 [v45] :: aInts 3 v45 l43 :: aBlk g_n 3 [.int .i64 n] :: aBlk g_visit 76 [.func (.func 87) #[] #[.pointer (some ⟨g_m, 0, none⟩), .pointer (some ⟨g_b, 0, none⟩), .pointer (some ⟨g_count, 0, none⟩), .pointer (some ⟨g_uses, 0, none⟩)]] :: aBlk g_used 73 [v38] :: aBools 4 v38 y35.2.1 :: aBlk g_next 1 [.func (.func 104) #[] #[.pointer (some ⟨g_l, 0, none⟩), .pointer (some ⟨g_n, 0, none⟩), .pointer (some ⟨g_visit, 0, none⟩), .pointer (some ⟨g_used, 0, none⟩), .pointer (some ⟨g_next, 0, none⟩)]] :: aBlk g_m 22 [v_m] :: aBlk g_b 55 [.int .i64 b_0, v_b_1] :: aBlk g_count 3 [.int .i64 y35.2.2.1] :: aBlk g_uses 22 [v39] :: aMat 23 3 v39 vs40 y35.2.2.2 :: As) := hM
          refine wpList_nil ?_
          refine x_nt ?_
          refine wp_region_lit ?_
          refine wl hs (y_load sc_B hs rfl (hM.cellBlk 4 rfl 0 rfl)) rfl ?_; intro a hs
          refine wl hs (y_move hs rfl) rfl ?_; intro a hs
          obtain ⟨x47, hx48, hm⟩ := bindE hm
          have he49 := RdB.at_ (hM.rdB 5 rfl) hx48
          refine wl hs (y_index ht_B hs rfl rfl he49) rfl ?_; intro a hs
          obtain ⟨l50, h51, hm⟩ := bindE hm
          refine wstore hs rfl rfl (x_storeB he_bool (hM.front 5 rfl) h51) ?_; intro w hM
          have hM : Mem W w (aBools 4 v38 l50 :: aBlk g_l 23 [v45] :: aInts 3 v45 l43 :: aBlk g_n 3 [.int .i64 n] :: aBlk g_visit 76 [.func (.func 87) #[] #[.pointer (some ⟨g_m, 0, none⟩), .pointer (some ⟨g_b, 0, none⟩), .pointer (some ⟨g_count, 0, none⟩), .pointer (some ⟨g_uses, 0, none⟩)]] :: aBlk g_used 73 [v38] :: aBlk g_next 1 [.func (.func 104) #[] #[.pointer (some ⟨g_l, 0, none⟩), .pointer (some ⟨g_n, 0, none⟩), .pointer (some ⟨g_visit, 0, none⟩), .pointer (some ⟨g_used, 0, none⟩), .pointer (some ⟨g_next, 0, none⟩)]] :: aBlk g_m 22 [v_m] :: aBlk g_b 55 [.int .i64 b_0, v_b_1] :: aBlk g_count 3 [.int .i64 y35.2.2.1] :: aBlk g_uses 22 [v39] :: aMat 23 3 v39 vs40 y35.2.2.2 :: As) := hM
          refine wpList_nil ?_
          refine x_nb ?_
          refine x_nt ?_
          refine wp_region_lit ?_
          refine wl hs (y_add hs rfl rfl hsj5) rfl ?_; intro a hs
          refine wl hs (y_move hs rfl) rfl ?_; intro a hs
          refine wpList_nil ?_
          exact ⟨_, Nat.lt_succ_self _, q24, j5 + 1, v45, l43, v38, l50, v39, vs40, y35.2.2.2, y35.2.2.1, rfl, hs.sub ⟨rfl, rfl, rfl, rfl, rfl, trivial⟩, ((((((((((((hM.front 11 rfl).front 11 rfl).front 11 rfl).front 11 rfl).front 11 rfl).front 11 rfl).front 6 rfl).front 11 rfl).front 11 rfl).front 11 rfl).front 11 rfl).front 11 rfl), hm, cnt_next hj5⟩
    rintro a w ⟨v14, l15, v16, l17, v18, vs19, l20, n21, rfl, hs, hM⟩
    have hm := hk23
    have hm : some (l15, l17, n21, l20) = some r := hm
    obtain rfl := Option.some.inj hm
    refine x_end0 rfl hs ⟨_, rfl, ?_⟩
    exact ⟨v14, v16, v18, vs19, rfl, hM⟩
theorem impl_permutations_1_uses_any (g_l : Nat) (v_l : Value) (l : List Int) (g_n : Nat) (n : Int) (g_visit : Nat) (g_used : Nat) (v_used : Value) (used : List Bool) (g_next : Nat) (g_m : Nat) (v_m : Value) (m : List (List Int)) (g_b : Nat) (b_0 : Int) (v_b_1 : Value) (b_1 : List Int) (g_count : Nat) (count : Int) (g_uses : Nat) (v_uses : Value) (uses : List (List Int)) (vs_uses : List Value) (W w : World) (As : List Atom) (hr_m : RdM W v_m m) (hr_b_1 : RdI W v_b_1 b_1) (hM : Mem W w (aBlk g_l 23 [v_l] :: aInts 3 v_l l :: aBlk g_n 3 [.int .i64 n] :: aBlk g_visit 76 [.func (.func 87) #[] #[.pointer (some ⟨g_m, 0, none⟩), .pointer (some ⟨g_b, 0, none⟩), .pointer (some ⟨g_count, 0, none⟩), .pointer (some ⟨g_uses, 0, none⟩)]] :: aBlk g_used 73 [v_used] :: aBools 4 v_used used :: aBlk g_next 1 [.func (.func 104) #[] #[.pointer (some ⟨g_l, 0, none⟩), .pointer (some ⟨g_n, 0, none⟩), .pointer (some ⟨g_visit, 0, none⟩), .pointer (some ⟨g_used, 0, none⟩), .pointer (some ⟨g_next, 0, none⟩)]] :: aBlk g_m 22 [v_m] :: aBlk g_b 55 [.int .i64 b_0, v_b_1] :: aBlk g_count 3 [.int .i64 count] :: aBlk g_uses 22 [v_uses] :: aMat 23 3 v_uses vs_uses uses :: As)) {r : (List Int) × (List Bool) × Int × (List (List Int))} (hm : impl_permutations_1_uses_m l n used m b_0 b_1 count uses = some r) : Calls Try.prog 104 [.pointer (some ⟨g_l, 0, none⟩), .pointer (some ⟨g_n, 0, none⟩), .pointer (some ⟨g_visit, 0, none⟩), .pointer (some ⟨g_used, 0, none⟩), .pointer (some ⟨g_next, 0, none⟩)].toArray w fun e w' => ∃ v, e = .returned v ∧ ∃ v_l', ∃ v_used', ∃ v_uses', ∃ vs_uses', v = .tuple #[] ∧ Mem W w' (aBlk g_l 23 [v_l'] :: aInts 3 v_l' r.1 :: aBlk g_n 3 [.int .i64 n] :: aBlk g_visit 76 [.func (.func 87) #[] #[.pointer (some ⟨g_m, 0, none⟩), .pointer (some ⟨g_b, 0, none⟩), .pointer (some ⟨g_count, 0, none⟩), .pointer (some ⟨g_uses, 0, none⟩)]] :: aBlk g_used 73 [v_used'] :: aBools 4 v_used' r.2.1 :: aBlk g_next 1 [.func (.func 104) #[] #[.pointer (some ⟨g_l, 0, none⟩), .pointer (some ⟨g_n, 0, none⟩), .pointer (some ⟨g_visit, 0, none⟩), .pointer (some ⟨g_used, 0, none⟩), .pointer (some ⟨g_next, 0, none⟩)]] :: aBlk g_m 22 [v_m] :: aBlk g_b 55 [.int .i64 b_0, v_b_1] :: aBlk g_count 3 [.int .i64 r.2.2.1] :: aBlk g_uses 22 [v_uses'] :: aMat 23 3 v_uses' vs_uses' r.2.2.2 :: As) := impl_permutations_1_uses_rec 64 g_l v_l l g_n n g_visit g_used v_used used g_next g_m v_m m g_b b_0 v_b_1 b_1 g_count count g_uses v_uses uses vs_uses W w As hr_m hr_b_1 hM hm

set_option maxHeartbeats 4000000 in
theorem impl_permutations_uses_any (p0 : Int) (g_m : Nat) (v_m : Value) (m : List (List Int)) (g_b : Nat) (b_0 : Int) (v_b_1 : Value) (b_1 : List Int) (g_count : Nat) (count : Int) (g_uses : Nat) (v_uses : Value) (uses : List (List Int)) (vs_uses : List Value) (W w : World) (As : List Atom) (hr_m : RdM W v_m m) (hr_b_1 : RdI W v_b_1 b_1) (hM : Mem W w (aBlk g_m 22 [v_m] :: aBlk g_b 55 [.int .i64 b_0, v_b_1] :: aBlk g_count 3 [.int .i64 count] :: aBlk g_uses 22 [v_uses] :: aMat 23 3 v_uses vs_uses uses :: As)) {r : Int × (List (List Int))} (hm : impl_permutations_uses_m p0 m b_0 b_1 count uses = some r) : Calls Try.prog 86 [.int .i64 p0, .func (.func 87) #[] #[.pointer (some ⟨g_m, 0, none⟩), .pointer (some ⟨g_b, 0, none⟩), .pointer (some ⟨g_count, 0, none⟩), .pointer (some ⟨g_uses, 0, none⟩)]].toArray w fun e w' => ∃ v, e = .returned v ∧ ∃ v_uses', ∃ vs_uses', v = .tuple #[] ∧ Mem W w' (aBlk g_m 22 [v_m] :: aBlk g_b 55 [.int .i64 b_0, v_b_1] :: aBlk g_count 3 [.int .i64 r.1] :: aBlk g_uses 22 [v_uses'] :: aMat 23 3 v_uses' vs_uses' r.2 :: As) := by
  refine x_enter Try.func86 rfl Try.ntmps86 rfl ?_
  intro a hs
  unfold impl_permutations_uses_m at hm
  refine wp_seq ?_
  refine wp_region_lit ?_
  refine wmem hs (x_box rfl hs rfl hM) rfl ?_; rintro a _ w hs ⟨g2, rfl, hM⟩
  have hM : Mem W w (aBlk g2 3 [.int .i64 p0] :: aBlk g_m 22 [v_m] :: aBlk g_b 55 [.int .i64 b_0, v_b_1] :: aBlk g_count 3 [.int .i64 count] :: aBlk g_uses 22 [v_uses] :: aMat 23 3 v_uses vs_uses uses :: As) := hM
  refine wmem hs (x_box rfl hs rfl hM) rfl ?_; rintro a _ w hs ⟨g4, rfl, hM⟩
  have hM : Mem W w (aBlk g4 76 [.func (.func 87) #[] #[.pointer (some ⟨g_m, 0, none⟩), .pointer (some ⟨g_b, 0, none⟩), .pointer (some ⟨g_count, 0, none⟩), .pointer (some ⟨g_uses, 0, none⟩)]] :: aBlk g2 3 [.int .i64 p0] :: aBlk g_m 22 [v_m] :: aBlk g_b 55 [.int .i64 b_0, v_b_1] :: aBlk g_count 3 [.int .i64 count] :: aBlk g_uses 22 [v_uses] :: aMat 23 3 v_uses vs_uses uses :: As) := hM
  refine wpList_nil ?_
  refine x_nt ?_
  refine wp_seq ?_
  obtain ⟨s11, hm, hk12⟩ := bindE hm
  refine x_mid (fun a w => ∃ (g5 : Nat), ∃ (g6 : Nat), ∃ (v7 : Value), ∃ (l8 : List Bool), ∃ (v9 : Value), ∃ (l10 : List Int), (l8, l10) = s11 ∧ Fr a 13 [(2, .pointer (some ⟨g2, 0, none⟩)), (3, .pointer (some ⟨g4, 0, none⟩)), (4, .pointer (some ⟨g6, 0, none⟩)), (5, .pointer (some ⟨g5, 0, none⟩))] ∧ Mem W w (aBlk g5 73 [v7] :: aBlk g6 23 [v9] :: aBools 4 v7 l8 :: aInts 3 v9 l10 :: aBlk g4 76 [.func (.func 87) #[] #[.pointer (some ⟨g_m, 0, none⟩), .pointer (some ⟨g_b, 0, none⟩), .pointer (some ⟨g_count, 0, none⟩), .pointer (some ⟨g_uses, 0, none⟩)]] :: aBlk g2 3 [.int .i64 p0] :: aBlk g_m 22 [v_m] :: aBlk g_b 55 [.int .i64 b_0, v_b_1] :: aBlk g_count 3 [.int .i64 count] :: aBlk g_uses 22 [v_uses] :: aMat 23 3 v_uses vs_uses uses :: As)) ?_ ?_
  · refine wc_start hmix [1] (fun w => Mem W w (aBlk g4 76 [.func (.func 87) #[] #[.pointer (some ⟨g_m, 0, none⟩), .pointer (some ⟨g_b, 0, none⟩), .pointer (some ⟨g_count, 0, none⟩), .pointer (some ⟨g_uses, 0, none⟩)]] :: aBlk g2 3 [.int .i64 p0] :: aBlk g_m 22 [v_m] :: aBlk g_b 55 [.int .i64 b_0, v_b_1] :: aBlk g_count 3 [.int .i64 count] :: aBlk g_uses 22 [v_uses] :: aMat 23 3 v_uses vs_uses uses :: As)) (by rfl) ?_
    refine wc (i := 1) (fuel := 6) rfl (by kernel_rfl) (fun w w2 hS hE => hS.quiet hE) hM hs (fun w1 hS => y_load sc_int hs rfl (hS.cellBlk 1 rfl 0 rfl)) rfl ?_; intro a hs
    obtain ⟨_, h3016, hm⟩ := bindE hm
    refine wc_abs fun T13 hT13 => ?_
    have K13_125 : ∀ (a : Act) (w : World) (g4015 : Nat) (g5015 : Nat) (v3015 : Value) (v1015 : Value), Fr a 13 [(2, .pointer (some ⟨g2, 0, none⟩)), (3, .pointer (some ⟨g4, 0, none⟩)), (4, .pointer (some ⟨g4015, 0, none⟩)), (5, .pointer (some ⟨g5015, 0, none⟩))] → Mem W w (aBlk g5015 73 [v3015] :: aBlk g4015 23 [v1015] :: aBools 4 v3015 (List.replicate (p0).toNat false) :: aInts 3 v1015 ([]) :: aBlk g4 76 [.func (.func 87) #[] #[.pointer (some ⟨g_m, 0, none⟩), .pointer (some ⟨g_b, 0, none⟩), .pointer (some ⟨g_count, 0, none⟩), .pointer (some ⟨g_uses, 0, none⟩)]] :: aBlk g2 3 [.int .i64 p0] :: aBlk g_m 22 [v_m] :: aBlk g_b 55 [.int .i64 b_0, v_b_1] :: aBlk g_count 3 [.int .i64 count] :: aBlk g_uses 22 [v_uses] :: aMat 23 3 v_uses vs_uses uses :: As) → T13 0 #[true, true, true, true, true, true, true] a w := by
      intro a w g4015 g5015 v3015 v1015 hs hM; subst hT13
      refine wc_done (by kernel_rfl) ?_
      intro w hw
      replace hM := hM.quiet hw
      have hm : some ((List.replicate (p0).toNat false), []) = some s11 := hm
      exact ⟨g5015, g4015, v3015, (List.replicate (p0).toNat false), v1015, [], Option.some.inj hm, hs.sub ⟨rfl, rfl, rfl, rfl, trivial⟩, hM⟩
    have K13_61 : ∀ (a : Act) (w : World) (g4015 : Nat) (g5015 : Nat) (v3015 : Value) (v1015 : Value), Fr a 13 [(2, .pointer (some ⟨g2, 0, none⟩)), (3, .pointer (some ⟨g4, 0, none⟩)), (4, .pointer (some ⟨g4015, 0, none⟩)), (5, .pointer (some ⟨g5015, 0, none⟩)), (9, v3015)] → Mem W w (aBlk g4015 23 [v1015] :: aBlk g5015 73 [.slice none 0 0] :: aBools 4 v3015 (List.replicate (p0).toNat false) :: aInts 3 v1015 ([]) :: aBlk g4 76 [.func (.func 87) #[] #[.pointer (some ⟨g_m, 0, none⟩), .pointer (some ⟨g_b, 0, none⟩), .pointer (some ⟨g_count, 0, none⟩), .pointer (some ⟨g_uses, 0, none⟩)]] :: aBlk g2 3 [.int .i64 p0] :: aBlk g_m 22 [v_m] :: aBlk g_b 55 [.int .i64 b_0, v_b_1] :: aBlk g_count 3 [.int .i64 count] :: aBlk g_uses 22 [v_uses] :: aMat 23 3 v_uses vs_uses uses :: As) → T13 1 #[true, true, true, true, true, true, false] a w := by
      intro a w g4015 g5015 v3015 v1015 hs hM; subst hT13
      refine wc_one (fuel := 0) 6 rfl (by kernel_rfl) ?_
      intro w hw
      replace hM := hM.quiet hw
      refine wstore hs rfl rfl (x_storeBlk he_B (Mem.one (hM.front 2 rfl)) (hM.front 1 rfl)) ?_; intro w hM
      have hM : Mem W w (aBlk g5015 73 [v3015] :: aBlk g4015 23 [v1015] :: aBools 4 v3015 (List.replicate (p0).toNat false) :: aInts 3 v1015 ([]) :: aBlk g4 76 [.func (.func 87) #[] #[.pointer (some ⟨g_m, 0, none⟩), .pointer (some ⟨g_b, 0, none⟩), .pointer (some ⟨g_count, 0, none⟩), .pointer (some ⟨g_uses, 0, none⟩)]] :: aBlk g2 3 [.int .i64 p0] :: aBlk g_m 22 [v_m] :: aBlk g_b 55 [.int .i64 b_0, v_b_1] :: aBlk g_count 3 [.int .i64 count] :: aBlk g_uses 22 [v_uses] :: aMat 23 3 v_uses vs_uses uses :: As) := hM
      refine on_nil ?_
      exact wc_at (by kernel_rfl) (K13_125 _ _ g4015 g5015 v3015 v1015 (hs.sub ⟨rfl, rfl, rfl, rfl, trivial⟩) hM)
    have K13_29 : ∀ (a : Act) (w : World) (g4015 : Nat) (g5015 : Nat) (v1015 : Value) (v3015 : Value), Fr a 13 [(2, .pointer (some ⟨g2, 0, none⟩)), (3, .pointer (some ⟨g4, 0, none⟩)), (4, .pointer (some ⟨g4015, 0, none⟩)), (5, .pointer (some ⟨g5015, 0, none⟩)), (7, v1015), (9, v3015)] → Mem W w (aBlk g5015 73 [.slice none 0 0] :: aBlk g4015 23 [.slice none 0 0] :: aBools 4 v3015 (List.replicate (p0).toNat false) :: aInts 3 v1015 ([]) :: aBlk g4 76 [.func (.func 87) #[] #[.pointer (some ⟨g_m, 0, none⟩), .pointer (some ⟨g_b, 0, none⟩), .pointer (some ⟨g_count, 0, none⟩), .pointer (some ⟨g_uses, 0, none⟩)]] :: aBlk g2 3 [.int .i64 p0] :: aBlk g_m 22 [v_m] :: aBlk g_b 55 [.int .i64 b_0, v_b_1] :: aBlk g_count 3 [.int .i64 count] :: aBlk g_uses 22 [v_uses] :: aMat 23 3 v_uses vs_uses uses :: As) → T13 2 #[true, true, true, true, true, false, false] a w := by
      intro a w g4015 g5015 v1015 v3015 hs hM; subst hT13
      refine wc_oneS (fuel := 1) 5 rfl (by kernel_rfl) ?_
      intro w hw
      replace hM := hM.quiet hw
      refine wstore hs rfl rfl (x_storeBlk he_I (Mem.one (hM.front 3 rfl)) (hM.front 1 rfl)) ?_; intro w hM
      have hM : Mem W w (aBlk g4015 23 [v1015] :: aBlk g5015 73 [.slice none 0 0] :: aBools 4 v3015 (List.replicate (p0).toNat false) :: aInts 3 v1015 ([]) :: aBlk g4 76 [.func (.func 87) #[] #[.pointer (some ⟨g_m, 0, none⟩), .pointer (some ⟨g_b, 0, none⟩), .pointer (some ⟨g_count, 0, none⟩), .pointer (some ⟨g_uses, 0, none⟩)]] :: aBlk g2 3 [.int .i64 p0] :: aBlk g_m 22 [v_m] :: aBlk g_b 55 [.int .i64 b_0, v_b_1] :: aBlk g_count 3 [.int .i64 count] :: aBlk g_uses 22 [v_uses] :: aMat 23 3 v_uses vs_uses uses :: As) := hM
      refine on_nil ⟨hM.drop.drop.drop.drop, ?_⟩
      exact wc_at (by kernel_rfl) (K13_61 _ _ g4015 g5015 v3015 v1015 (hs.sub ⟨rfl, rfl, rfl, rfl, rfl, trivial⟩) hM)
    have K13_57 : ∀ (a : Act) (w : World) (g4015 : Nat) (g5015 : Nat) (v1015 : Value), Fr a 13 [(2, .pointer (some ⟨g2, 0, none⟩)), (3, .pointer (some ⟨g4, 0, none⟩)), (4, .pointer (some ⟨g4015, 0, none⟩)), (5, .pointer (some ⟨g5015, 0, none⟩)), (8, .int .i64 p0)] → Mem W w (aBlk g4015 23 [v1015] :: aBlk g5015 73 [.slice none 0 0] :: aInts 3 v1015 ([]) :: aBlk g4 76 [.func (.func 87) #[] #[.pointer (some ⟨g_m, 0, none⟩), .pointer (some ⟨g_b, 0, none⟩), .pointer (some ⟨g_count, 0, none⟩), .pointer (some ⟨g_uses, 0, none⟩)]] :: aBlk g2 3 [.int .i64 p0] :: aBlk g_m 22 [v_m] :: aBlk g_b 55 [.int .i64 b_0, v_b_1] :: aBlk g_count 3 [.int .i64 count] :: aBlk g_uses 22 [v_uses] :: aMat 23 3 v_uses vs_uses uses :: As) → T13 2 #[true, true, false, true, true, true, false] a w := by
      intro a w g4015 g5015 v1015 hs hM; subst hT13
      refine wc_one (fuel := 1) 2 rfl (by kernel_rfl) ?_
      intro w hw
      replace hM := hM.quiet hw
      refine wmem hs (x_makeB hu_B he_bool hs rfl hM h3016) rfl ?_; intro a v3015 w hs hM
      have hM : Mem W w (aBools 4 v3015 (List.replicate (p0).toNat false) :: aBlk g4015 23 [v1015] :: aBlk g5015 73 [.slice none 0 0] :: aInts 3 v1015 ([]) :: aBlk g4 76 [.func (.func 87) #[] #[.pointer (some ⟨g_m, 0, none⟩), .pointer (some ⟨g_b, 0, none⟩), .pointer (some ⟨g_count, 0, none⟩), .pointer (some ⟨g_uses, 0, none⟩)]] :: aBlk g2 3 [.int .i64 p0] :: aBlk g_m 22 [v_m] :: aBlk g_b 55 [.int .i64 b_0, v_b_1] :: aBlk g_count 3 [.int .i64 count] :: aBlk g_uses 22 [v_uses] :: aMat 23 3 v_uses vs_uses uses :: As) := hM
      refine on_nil ?_
      exact wc_at (by kernel_rfl) (K13_61 _ _ g4015 g5015 v3015 v1015 (hs.sub ⟨rfl, rfl, rfl, rfl, rfl, trivial⟩) (((((((((((hM.front 10 rfl).front 10 rfl).front 10 rfl).front 10 rfl).front 10 rfl).front 10 rfl).front 10 rfl).front 10 rfl).front 8 rfl).front 10 rfl).front 10 rfl))
    have K13_13 : ∀ (a : Act) (w : World) (g4015 : Nat) (v1015 : Value) (v3015 : Value), Fr a 13 [(2, .pointer (some ⟨g2, 0, none⟩)), (3, .pointer (some ⟨g4, 0, none⟩)), (4, .pointer (some ⟨g4015, 0, none⟩)), (7, v1015), (9, v3015)] → Mem W w (aBlk g4015 23 [.slice none 0 0] :: aBools 4 v3015 (List.replicate (p0).toNat false) :: aInts 3 v1015 ([]) :: aBlk g4 76 [.func (.func 87) #[] #[.pointer (some ⟨g_m, 0, none⟩), .pointer (some ⟨g_b, 0, none⟩), .pointer (some ⟨g_count, 0, none⟩), .pointer (some ⟨g_uses, 0, none⟩)]] :: aBlk g2 3 [.int .i64 p0] :: aBlk g_m 22 [v_m] :: aBlk g_b 55 [.int .i64 b_0, v_b_1] :: aBlk g_count 3 [.int .i64 count] :: aBlk g_uses 22 [v_uses] :: aMat 23 3 v_uses vs_uses uses :: As) → T13 3 #[true, true, true, true, false, false, false] a w := by
      intro a w g4015 v1015 v3015 hs hM; subst hT13
      refine wc_oneS (fuel := 2) 4 rfl (by kernel_rfl) ?_
      intro w hw
      replace hM := hM.quiet hw
      refine wmem hs (x_alloc he_B rfl hM) rfl ?_; rintro a _ w hs ⟨g5015, rfl, hM⟩
      have hM : Mem W w (aBlk g5015 73 [.slice none 0 0] :: aBlk g4015 23 [.slice none 0 0] :: aBools 4 v3015 (List.replicate (p0).toNat false) :: aInts 3 v1015 ([]) :: aBlk g4 76 [.func (.func 87) #[] #[.pointer (some ⟨g_m, 0, none⟩), .pointer (some ⟨g_b, 0, none⟩), .pointer (some ⟨g_count, 0, none⟩), .pointer (some ⟨g_uses, 0, none⟩)]] :: aBlk g2 3 [.int .i64 p0] :: aBlk g_m 22 [v_m] :: aBlk g_b 55 [.int .i64 b_0, v_b_1] :: aBlk g_count 3 [.int .i64 count] :: aBlk g_uses 22 [v_uses] :: aMat 23 3 v_uses vs_uses uses :: As) := hM
      refine on_nil ⟨hM.drop.drop.drop.drop, ?_⟩
      exact wc_at (by kernel_rfl) (K13_29 _ _ g4015 g5015 v1015 v3015 (hs.sub ⟨rfl, rfl, rfl, rfl, rfl, rfl, trivial⟩) hM)
    have K13_21 : ∀ (a : Act) (w : World) (g5015 : Nat) (v1015 : Value) (v3015 : Value), Fr a 13 [(2, .pointer (some ⟨g2, 0, none⟩)), (3, .pointer (some ⟨g4, 0, none⟩)), (5, .pointer (some ⟨g5015, 0, none⟩)), (7, v1015), (9, v3015)] → Mem W w (aBlk g5015 73 [.slice none 0 0] :: aBools 4 v3015 (List.replicate (p0).toNat false) :: aInts 3 v1015 ([]) :: aBlk g4 76 [.func (.func 87) #[] #[.pointer (some ⟨g_m, 0, none⟩), .pointer (some ⟨g_b, 0, none⟩), .pointer (some ⟨g_count, 0, none⟩), .pointer (some ⟨g_uses, 0, none⟩)]] :: aBlk g2 3 [.int .i64 p0] :: aBlk g_m 22 [v_m] :: aBlk g_b 55 [.int .i64 b_0, v_b_1] :: aBlk g_count 3 [.int .i64 count] :: aBlk g_uses 22 [v_uses] :: aMat 23 3 v_uses vs_uses uses :: As) → T13 3 #[true, true, true, false, true, false, false] a w := by
      intro a w g5015 v1015 v3015 hs hM; subst hT13
      refine wc_oneS (fuel := 2) 3 rfl (by kernel_rfl) ?_
      intro w hw
      replace hM := hM.quiet hw
      refine wmem hs (x_alloc he_I rfl hM) rfl ?_; rintro a _ w hs ⟨g4015, rfl, hM⟩
      have hM : Mem W w (aBlk g4015 23 [.slice none 0 0] :: aBlk g5015 73 [.slice none 0 0] :: aBools 4 v3015 (List.replicate (p0).toNat false) :: aInts 3 v1015 ([]) :: aBlk g4 76 [.func (.func 87) #[] #[.pointer (some ⟨g_m, 0, none⟩), .pointer (some ⟨g_b, 0, none⟩), .pointer (some ⟨g_count, 0, none⟩), .pointer (some ⟨g_uses, 0, none⟩)]] :: aBlk g2 3 [.int .i64 p0] :: aBlk g_m 22 [v_m] :: aBlk g_b 55 [.int .i64 b_0, v_b_1] :: aBlk g_count 3 [.int .i64 count] :: aBlk g_uses 22 [v_uses] :: aMat 23 3 v_uses vs_uses uses :: As) := hM
      refine on_nil ⟨hM.drop.drop.drop.drop, ?_⟩
      exact wc_at (by kernel_rfl) (K13_29 _ _ g4015 g5015 v1015 v3015 (hs.sub ⟨rfl, rfl, rfl, rfl, rfl, rfl, trivial⟩) (((((((((((hM.front 10 rfl).front 10 rfl).front 10 rfl).front 10 rfl).front 10 rfl).front 10 rfl).front 10 rfl).front 10 rfl).front 10 rfl).front 9 rfl).front 10 rfl))
    have K13_25 : ∀ (a : Act) (w : World) (g4015 : Nat) (g5015 : Nat) (v1015 : Value), Fr a 13 [(2, .pointer (some ⟨g2, 0, none⟩)), (3, .pointer (some ⟨g4, 0, none⟩)), (4, .pointer (some ⟨g4015, 0, none⟩)), (5, .pointer (some ⟨g5015, 0, none⟩)), (7, v1015), (8, .int .i64 p0)] → Mem W w (aBlk g5015 73 [.slice none 0 0] :: aBlk g4015 23 [.slice none 0 0] :: aInts 3 v1015 ([]) :: aBlk g4 76 [.func (.func 87) #[] #[.pointer (some ⟨g_m, 0, none⟩), .pointer (some ⟨g_b, 0, none⟩), .pointer (some ⟨g_count, 0, none⟩), .pointer (some ⟨g_uses, 0, none⟩)]] :: aBlk g2 3 [.int .i64 p0] :: aBlk g_m 22 [v_m] :: aBlk g_b 55 [.int .i64 b_0, v_b_1] :: aBlk g_count 3 [.int .i64 count] :: aBlk g_uses 22 [v_uses] :: aMat 23 3 v_uses vs_uses uses :: As) → T13 3 #[true, true, false, true, true, false, false] a w := by
      intro a w g4015 g5015 v1015 hs hM; subst hT13
      refine wc_many (fuel := 2) [2, 5] (by kernel_rfl) (by simp) ⟨?_, ?_, trivial⟩
      · rintro o ⟨rfl⟩
        intro w hw
        replace hM := hM.quiet hw
        refine wmem hs (x_makeB hu_B he_bool hs rfl hM h3016) rfl ?_; intro a v3015 w hs hM
        have hM : Mem W w (aBools 4 v3015 (List.replicate (p0).toNat false) :: aBlk g5015 73 [.slice none 0 0] :: aBlk g4015 23 [.slice none 0 0] :: aInts 3 v1015 ([]) :: aBlk g4 76 [.func (.func 87) #[] #[.pointer (some ⟨g_m, 0, none⟩), .pointer (some ⟨g_b, 0, none⟩), .pointer (some ⟨g_count, 0, none⟩), .pointer (some ⟨g_uses, 0, none⟩)]] :: aBlk g2 3 [.int .i64 p0] :: aBlk g_m 22 [v_m] :: aBlk g_b 55 [.int .i64 b_0, v_b_1] :: aBlk g_count 3 [.int .i64 count] :: aBlk g_uses 22 [v_uses] :: aMat 23 3 v_uses vs_uses uses :: As) := hM
        refine on_nil ⟨hM.drop.drop.drop.drop, ?_⟩
        exact wc_at (by kernel_rfl) (K13_29 _ _ g4015 g5015 v1015 v3015 (hs.sub ⟨rfl, rfl, rfl, rfl, rfl, rfl, trivial⟩) (((((((((((hM.front 10 rfl).front 10 rfl).front 10 rfl).front 10 rfl).front 10 rfl).front 10 rfl).front 10 rfl).front 10 rfl).front 8 rfl).front 10 rfl).front 10 rfl))
      · rintro o ⟨rfl⟩
        intro w hw
        replace hM := hM.quiet hw
        refine wstore hs rfl rfl (x_storeBlk he_I (Mem.one (hM.front 2 rfl)) (hM.front 1 rfl)) ?_; intro w hM
        have hM : Mem W w (aBlk g4015 23 [v1015] :: aBlk g5015 73 [.slice none 0 0] :: aInts 3 v1015 ([]) :: aBlk g4 76 [.func (.func 87) #[] #[.pointer (some ⟨g_m, 0, none⟩), .pointer (some ⟨g_b, 0, none⟩), .pointer (some ⟨g_count, 0, none⟩), .pointer (some ⟨g_uses, 0, none⟩)]] :: aBlk g2 3 [.int .i64 p0] :: aBlk g_m 22 [v_m] :: aBlk g_b 55 [.int .i64 b_0, v_b_1] :: aBlk g_count 3 [.int .i64 count] :: aBlk g_uses 22 [v_uses] :: aMat 23 3 v_uses vs_uses uses :: As) := hM
        refine on_nil ⟨hM.drop.drop.drop, ?_⟩
        exact wc_at (by kernel_rfl) (K13_57 _ _ g4015 g5015 v1015 (hs.sub ⟨rfl, rfl, rfl, rfl, rfl, trivial⟩) hM)
    have K13_28 : ∀ (a : Act) (w : World) (g4015 : Nat) (g5015 : Nat) (v3015 : Value), Fr a 13 [(2, .pointer (some ⟨g2, 0, none⟩)), (3, .pointer (some ⟨g4, 0, none⟩)), (4, .pointer (some ⟨g4015, 0, none⟩)), (5, .pointer (some ⟨g5015, 0, none⟩)), (9, v3015)] → Mem W w (aBlk g5015 73 [.slice none 0 0] :: aBlk g4015 23 [.slice none 0 0] :: aBools 4 v3015 (List.replicate (p0).toNat false) :: aBlk g4 76 [.func (.func 87) #[] #[.pointer (some ⟨g_m, 0, none⟩), .pointer (some ⟨g_b, 0, none⟩), .pointer (some ⟨g_count, 0, none⟩), .pointer (some ⟨g_uses, 0, none⟩)]] :: aBlk g2 3 [.int .i64 p0] :: aBlk g_m 22 [v_m] :: aBlk g_b 55 [.int .i64 b_0, v_b_1] :: aBlk g_count 3 [.int .i64 count] :: aBlk g_uses 22 [v_uses] :: aMat 23 3 v_uses vs_uses uses :: As) → T13 3 #[false, true, true, true, true, false, false] a w := by
      intro a w g4015 g5015 v3015 hs hM; subst hT13
      refine wc_oneS (fuel := 2) 0 rfl (by kernel_rfl) ?_
      intro w hw
      replace hM := hM.quiet hw
      refine wmem hs (x_new0I ht_I hM) rfl ?_; intro a v1015 w hs hM
      have hM : Mem W w (aInts 3 v1015 ([]) :: aBlk g5015 73 [.slice none 0 0] :: aBlk g4015 23 [.slice none 0 0] :: aBools 4 v3015 (List.replicate (p0).toNat false) :: aBlk g4 76 [.func (.func 87) #[] #[.pointer (some ⟨g_m, 0, none⟩), .pointer (some ⟨g_b, 0, none⟩), .pointer (some ⟨g_count, 0, none⟩), .pointer (some ⟨g_uses, 0, none⟩)]] :: aBlk g2 3 [.int .i64 p0] :: aBlk g_m 22 [v_m] :: aBlk g_b 55 [.int .i64 b_0, v_b_1] :: aBlk g_count 3 [.int .i64 count] :: aBlk g_uses 22 [v_uses] :: aMat 23 3 v_uses vs_uses uses :: As) := hM
      refine on_nil ⟨hM.drop.drop.drop.drop, ?_⟩
      exact wc_at (by kernel_rfl) (K13_29 _ _ g4015 g5015 v1015 v3015 (hs.sub ⟨rfl, rfl, rfl, rfl, rfl, rfl, trivial⟩) (((((((((((hM.front 10 rfl).front 10 rfl).front 10 rfl).front 10 rfl).front 10 rfl).front 10 rfl).front 10 rfl).front 7 rfl).front 10 rfl).front 10 rfl).front 10 rfl))
    have K13_5 : ∀ (a : Act) (w : World) (v1015 : Value) (v3015 : Value), Fr a 13 [(2, .pointer (some ⟨g2, 0, none⟩)), (3, .pointer (some ⟨g4, 0, none⟩)), (7, v1015), (9, v3015)] → Mem W w (aBools 4 v3015 (List.replicate (p0).toNat false) :: aInts 3 v1015 ([]) :: aBlk g4 76 [.func (.func 87) #[] #[.pointer (some ⟨g_m, 0, none⟩), .pointer (some ⟨g_b, 0, none⟩), .pointer (some ⟨g_count, 0, none⟩), .pointer (some ⟨g_uses, 0, none⟩)]] :: aBlk g2 3 [.int .i64 p0] :: aBlk g_m 22 [v_m] :: aBlk g_b 55 [.int .i64 b_0, v_b_1] :: aBlk g_count 3 [.int .i64 count] :: aBlk g_uses 22 [v_uses] :: aMat 23 3 v_uses vs_uses uses :: As) → T13 4 #[true, true, true, false, false, false, false] a w := by
      intro a w v1015 v3015 hs hM; subst hT13
      refine wc_many (fuel := 3) [3, 4] (by kernel_rfl) (by simp) ⟨?_, ?_, trivial⟩
      · rintro o ⟨rfl⟩
        intro w hw
        replace hM := hM.quiet hw
        refine wmem hs (x_alloc he_I rfl hM) rfl ?_; rintro a _ w hs ⟨g4015, rfl, hM⟩
        have hM : Mem W w (aBlk g4015 23 [.slice none 0 0] :: aBools 4 v3015 (List.replicate (p0).toNat false) :: aInts 3 v1015 ([]) :: aBlk g4 76 [.func (.func 87) #[] #[.pointer (some ⟨g_m, 0, none⟩), .pointer (some ⟨g_b, 0, none⟩), .pointer (some ⟨g_count, 0, none⟩), .pointer (some ⟨g_uses, 0, none⟩)]] :: aBlk g2 3 [.int .i64 p0] :: aBlk g_m 22 [v_m] :: aBlk g_b 55 [.int .i64 b_0, v_b_1] :: aBlk g_count 3 [.int .i64 count] :: aBlk g_uses 22 [v_uses] :: aMat 23 3 v_uses vs_uses uses :: As) := hM
        refine on_nil ⟨hM.drop.drop.drop, ?_⟩
        exact wc_at (by kernel_rfl) (K13_13 _ _ g4015 v1015 v3015 (hs.sub ⟨rfl, rfl, rfl, rfl, rfl, trivial⟩) hM)
      · rintro o ⟨rfl⟩
        intro w hw
        replace hM := hM.quiet hw
        refine wmem hs (x_alloc he_B rfl hM) rfl ?_; rintro a _ w hs ⟨g5015, rfl, hM⟩
        have hM : Mem W w (aBlk g5015 73 [.slice none 0 0] :: aBools 4 v3015 (List.replicate (p0).toNat false) :: aInts 3 v1015 ([]) :: aBlk g4 76 [.func (.func 87) #[] #[.pointer (some ⟨g_m, 0, none⟩), .pointer (some ⟨g_b, 0, none⟩), .pointer (some ⟨g_count, 0, none⟩), .pointer (some ⟨g_uses, 0, none⟩)]] :: aBlk g2 3 [.int .i64 p0] :: aBlk g_m 22 [v_m] :: aBlk g_b 55 [.int .i64 b_0, v_b_1] :: aBlk g_count 3 [.int .i64 count] :: aBlk g_uses 22 [v_uses] :: aMat 23 3 v_uses vs_uses uses :: As) := hM
        refine on_nil ⟨hM.drop.drop.drop, ?_⟩
        exact wc_at (by kernel_rfl) (K13_21 _ _ g5015 v1015 v3015 (hs.sub ⟨rfl, rfl, rfl, rfl, rfl, trivial⟩) hM)
    have K13_9 : ∀ (a : Act) (w : World) (g4015 : Nat) (v1015 : Value), Fr a 13 [(2, .pointer (some ⟨g2, 0, none⟩)), (3, .pointer (some ⟨g4, 0, none⟩)), (4, .pointer (some ⟨g4015, 0, none⟩)), (7, v1015), (8, .int .i64 p0)] → Mem W w (aBlk g4015 23 [.slice none 0 0] :: aInts 3 v1015 ([]) :: aBlk g4 76 [.func (.func 87) #[] #[.pointer (some ⟨g_m, 0, none⟩), .pointer (some ⟨g_b, 0, none⟩), .pointer (some ⟨g_count, 0, none⟩), .pointer (some ⟨g_uses, 0, none⟩)]] :: aBlk g2 3 [.int .i64 p0] :: aBlk g_m 22 [v_m] :: aBlk g_b 55 [.int .i64 b_0, v_b_1] :: aBlk g_count 3 [.int .i64 count] :: aBlk g_uses 22 [v_uses] :: aMat 23 3 v_uses vs_uses uses :: As) → T13 4 #[true, true, false, true, false, false, false] a w := by
      intro a w g4015 v1015 hs hM; subst hT13
      refine wc_many (fuel := 3) [2, 4] (by kernel_rfl) (by simp) ⟨?_, ?_, trivial⟩
      · rintro o ⟨rfl⟩
        intro w hw
        replace hM := hM.quiet hw
        refine wmem hs (x_makeB hu_B he_bool hs rfl hM h3016) rfl ?_; intro a v3015 w hs hM
        have hM : Mem W w (aBools 4 v3015 (List.replicate (p0).toNat false) :: aBlk g4015 23 [.slice none 0 0] :: aInts 3 v1015 ([]) :: aBlk g4 76 [.func (.func 87) #[] #[.pointer (some ⟨g_m, 0, none⟩), .pointer (some ⟨g_b, 0, none⟩), .pointer (some ⟨g_count, 0, none⟩), .pointer (some ⟨g_uses, 0, none⟩)]] :: aBlk g2 3 [.int .i64 p0] :: aBlk g_m 22 [v_m] :: aBlk g_b 55 [.int .i64 b_0, v_b_1] :: aBlk g_count 3 [.int .i64 count] :: aBlk g_uses 22 [v_uses] :: aMat 23 3 v_uses vs_uses uses :: As) := hM
        refine on_nil ⟨hM.drop.drop.drop, ?_⟩
        exact wc_at (by kernel_rfl) (K13_13 _ _ g4015 v1015 v3015 (hs.sub ⟨rfl, rfl, rfl, rfl, rfl, trivial⟩) ((((((((((hM.front 9 rfl).front 9 rfl).front 9 rfl).front 9 rfl).front 9 rfl).front 9 rfl).front 9 rfl).front 9 rfl).front 8 rfl).front 9 rfl))
      · rintro o ⟨rfl⟩
        intro w hw
        replace hM := hM.quiet hw
        refine wmem hs (x_alloc he_B rfl hM) rfl ?_; rintro a _ w hs ⟨g5015, rfl, hM⟩
        have hM : Mem W w (aBlk g5015 73 [.slice none 0 0] :: aBlk g4015 23 [.slice none 0 0] :: aInts 3 v1015 ([]) :: aBlk g4 76 [.func (.func 87) #[] #[.pointer (some ⟨g_m, 0, none⟩), .pointer (some ⟨g_b, 0, none⟩), .pointer (some ⟨g_count, 0, none⟩), .pointer (some ⟨g_uses, 0, none⟩)]] :: aBlk g2 3 [.int .i64 p0] :: aBlk g_m 22 [v_m] :: aBlk g_b 55 [.int .i64 b_0, v_b_1] :: aBlk g_count 3 [.int .i64 count] :: aBlk g_uses 22 [v_uses] :: aMat 23 3 v_uses vs_uses uses :: As) := hM
        refine on_nil ⟨hM.drop.drop.drop, ?_⟩
        exact wc_at (by kernel_rfl) (K13_25 _ _ g4015 g5015 v1015 (hs.sub ⟨rfl, rfl, rfl, rfl, rfl, rfl, trivial⟩) hM)
    have K13_17 : ∀ (a : Act) (w : World) (g5015 : Nat) (v1015 : Value), Fr a 13 [(2, .pointer (some ⟨g2, 0, none⟩)), (3, .pointer (some ⟨g4, 0, none⟩)), (5, .pointer (some ⟨g5015, 0, none⟩)), (7, v1015), (8, .int .i64 p0)] → Mem W w (aBlk g5015 73 [.slice none 0 0] :: aInts 3 v1015 ([]) :: aBlk g4 76 [.func (.func 87) #[] #[.pointer (some ⟨g_m, 0, none⟩), .pointer (some ⟨g_b, 0, none⟩), .pointer (some ⟨g_count, 0, none⟩), .pointer (some ⟨g_uses, 0, none⟩)]] :: aBlk g2 3 [.int .i64 p0] :: aBlk g_m 22 [v_m] :: aBlk g_b 55 [.int .i64 b_0, v_b_1] :: aBlk g_count 3 [.int .i64 count] :: aBlk g_uses 22 [v_uses] :: aMat 23 3 v_uses vs_uses uses :: As) → T13 4 #[true, true, false, false, true, false, false] a w := by
      intro a w g5015 v1015 hs hM; subst hT13
      refine wc_many (fuel := 3) [2, 3] (by kernel_rfl) (by simp) ⟨?_, ?_, trivial⟩
      · rintro o ⟨rfl⟩
        intro w hw
        replace hM := hM.quiet hw
        refine wmem hs (x_makeB hu_B he_bool hs rfl hM h3016) rfl ?_; intro a v3015 w hs hM
        have hM : Mem W w (aBools 4 v3015 (List.replicate (p0).toNat false) :: aBlk g5015 73 [.slice none 0 0] :: aInts 3 v1015 ([]) :: aBlk g4 76 [.func (.func 87) #[] #[.pointer (some ⟨g_m, 0, none⟩), .pointer (some ⟨g_b, 0, none⟩), .pointer (some ⟨g_count, 0, none⟩), .pointer (some ⟨g_uses, 0, none⟩)]] :: aBlk g2 3 [.int .i64 p0] :: aBlk g_m 22 [v_m] :: aBlk g_b 55 [.int .i64 b_0, v_b_1] :: aBlk g_count 3 [.int .i64 count] :: aBlk g_uses 22 [v_uses] :: aMat 23 3 v_uses vs_uses uses :: As) := hM
        refine on_nil ⟨hM.drop.drop.drop, ?_⟩
        exact wc_at (by kernel_rfl) (K13_21 _ _ g5015 v1015 v3015 (hs.sub ⟨rfl, rfl, rfl, rfl, rfl, trivial⟩) ((((((((((hM.front 9 rfl).front 9 rfl).front 9 rfl).front 9 rfl).front 9 rfl).front 9 rfl).front 9 rfl).front 9 rfl).front 8 rfl).front 9 rfl))
      · rintro o ⟨rfl⟩
        intro w hw
        replace hM := hM.quiet hw
        refine wmem hs (x_alloc he_I rfl hM) rfl ?_; rintro a _ w hs ⟨g4015, rfl, hM⟩
        have hM : Mem W w (aBlk g4015 23 [.slice none 0 0] :: aBlk g5015 73 [.slice none 0 0] :: aInts 3 v1015 ([]) :: aBlk g4 76 [.func (.func 87) #[] #[.pointer (some ⟨g_m, 0, none⟩), .pointer (some ⟨g_b, 0, none⟩), .pointer (some ⟨g_count, 0, none⟩), .pointer (some ⟨g_uses, 0, none⟩)]] :: aBlk g2 3 [.int .i64 p0] :: aBlk g_m 22 [v_m] :: aBlk g_b 55 [.int .i64 b_0, v_b_1] :: aBlk g_count 3 [.int .i64 count] :: aBlk g_uses 22 [v_uses] :: aMat 23 3 v_uses vs_uses uses :: As) := hM
        refine on_nil ⟨hM.drop.drop.drop, ?_⟩
        exact wc_at (by kernel_rfl) (K13_25 _ _ g4015 g5015 v1015 (hs.sub ⟨rfl, rfl, rfl, rfl, rfl, rfl, trivial⟩) ((((((((((hM.front 9 rfl).front 9 rfl).front 9 rfl).front 9 rfl).front 9 rfl).front 9 rfl).front 9 rfl).front 9 rfl).front 8 rfl).front 9 rfl))
    have K13_12 : ∀ (a : Act) (w : World) (g4015 : Nat) (v3015 : Value), Fr a 13 [(2, .pointer (some ⟨g2, 0, none⟩)), (3, .pointer (some ⟨g4, 0, none⟩)), (4, .pointer (some ⟨g4015, 0, none⟩)), (9, v3015)] → Mem W w (aBlk g4015 23 [.slice none 0 0] :: aBools 4 v3015 (List.replicate (p0).toNat false) :: aBlk g4 76 [.func (.func 87) #[] #[.pointer (some ⟨g_m, 0, none⟩), .pointer (some ⟨g_b, 0, none⟩), .pointer (some ⟨g_count, 0, none⟩), .pointer (some ⟨g_uses, 0, none⟩)]] :: aBlk g2 3 [.int .i64 p0] :: aBlk g_m 22 [v_m] :: aBlk g_b 55 [.int .i64 b_0, v_b_1] :: aBlk g_count 3 [.int .i64 count] :: aBlk g_uses 22 [v_uses] :: aMat 23 3 v_uses vs_uses uses :: As) → T13 4 #[false, true, true, true, false, false, false] a w := by
      intro a w g4015 v3015 hs hM; subst hT13
      refine wc_many (fuel := 3) [0, 4] (by kernel_rfl) (by simp) ⟨?_, ?_, trivial⟩
      · rintro o ⟨rfl⟩
        intro w hw
        replace hM := hM.quiet hw
        refine wmem hs (x_new0I ht_I hM) rfl ?_; intro a v1015 w hs hM
        have hM : Mem W w (aInts 3 v1015 ([]) :: aBlk g4015 23 [.slice none 0 0] :: aBools 4 v3015 (List.replicate (p0).toNat false) :: aBlk g4 76 [.func (.func 87) #[] #[.pointer (some ⟨g_m, 0, none⟩), .pointer (some ⟨g_b, 0, none⟩), .pointer (some ⟨g_count, 0, none⟩), .pointer (some ⟨g_uses, 0, none⟩)]] :: aBlk g2 3 [.int .i64 p0] :: aBlk g_m 22 [v_m] :: aBlk g_b 55 [.int .i64 b_0, v_b_1] :: aBlk g_count 3 [.int .i64 count] :: aBlk g_uses 22 [v_uses] :: aMat 23 3 v_uses vs_uses uses :: As) := hM
        refine on_nil ⟨hM.drop.drop.drop, ?_⟩
        exact wc_at (by kernel_rfl) (K13_13 _ _ g4015 v1015 v3015 (hs.sub ⟨rfl, rfl, rfl, rfl, rfl, trivial⟩) ((((((((((hM.front 9 rfl).front 9 rfl).front 9 rfl).front 9 rfl).front 9 rfl).front 9 rfl).front 9 rfl).front 7 rfl).front 9 rfl).front 9 rfl))
      · rintro o ⟨rfl⟩
        intro w hw
        replace hM := hM.quiet hw
        refine wmem hs (x_alloc he_B rfl hM) rfl ?_; rintro a _ w hs ⟨g5015, rfl, hM⟩
        have hM : Mem W w (aBlk g5015 73 [.slice none 0 0] :: aBlk g4015 23 [.slice none 0 0] :: aBools 4 v3015 (List.replicate (p0).toNat false) :: aBlk g4 76 [.func (.func 87) #[] #[.pointer (some ⟨g_m, 0, none⟩), .pointer (some ⟨g_b, 0, none⟩), .pointer (some ⟨g_count, 0, none⟩), .pointer (some ⟨g_uses, 0, none⟩)]] :: aBlk g2 3 [.int .i64 p0] :: aBlk g_m 22 [v_m] :: aBlk g_b 55 [.int .i64 b_0, v_b_1] :: aBlk g_count 3 [.int .i64 count] :: aBlk g_uses 22 [v_uses] :: aMat 23 3 v_uses vs_uses uses :: As) := hM
        refine on_nil ⟨hM.drop.drop.drop, ?_⟩
        exact wc_at (by kernel_rfl) (K13_28 _ _ g4015 g5015 v3015 (hs.sub ⟨rfl, rfl, rfl, rfl, rfl, trivial⟩) hM)
    have K13_20 : ∀ (a : Act) (w : World) (g5015 : Nat) (v3015 : Value), Fr a 13 [(2, .pointer (some ⟨g2, 0, none⟩)), (3, .pointer (some ⟨g4, 0, none⟩)), (5, .pointer (some ⟨g5015, 0, none⟩)), (9, v3015)] → Mem W w (aBlk g5015 73 [.slice none 0 0] :: aBools 4 v3015 (List.replicate (p0).toNat false) :: aBlk g4 76 [.func (.func 87) #[] #[.pointer (some ⟨g_m, 0, none⟩), .pointer (some ⟨g_b, 0, none⟩), .pointer (some ⟨g_count, 0, none⟩), .pointer (some ⟨g_uses, 0, none⟩)]] :: aBlk g2 3 [.int .i64 p0] :: aBlk g_m 22 [v_m] :: aBlk g_b 55 [.int .i64 b_0, v_b_1] :: aBlk g_count 3 [.int .i64 count] :: aBlk g_uses 22 [v_uses] :: aMat 23 3 v_uses vs_uses uses :: As) → T13 4 #[false, true, true, false, true, false, false] a w := by
      intro a w g5015 v3015 hs hM; subst hT13
      refine wc_many (fuel := 3) [0, 3] (by kernel_rfl) (by simp) ⟨?_, ?_, trivial⟩
      · rintro o ⟨rfl⟩
        intro w hw
        replace hM := hM.quiet hw
        refine wmem hs (x_new0I ht_I hM) rfl ?_; intro a v1015 w hs hM
        have hM : Mem W w (aInts 3 v1015 ([]) :: aBlk g5015 73 [.slice none 0 0] :: aBools 4 v3015 (List.replicate (p0).toNat false) :: aBlk g4 76 [.func (.func 87) #[] #[.pointer (some ⟨g_m, 0, none⟩), .pointer (some ⟨g_b, 0, none⟩), .pointer (some ⟨g_count, 0, none⟩), .pointer (some ⟨g_uses, 0, none⟩)]] :: aBlk g2 3 [.int .i64 p0] :: aBlk g_m 22 [v_m] :: aBlk g_b 55 [.int .i64 b_0, v_b_1] :: aBlk g_count 3 [.int .i64 count] :: aBlk g_uses 22 [v_uses] :: aMat 23 3 v_uses vs_uses uses :: As) := hM
        refine on_nil ⟨hM.drop.drop.drop, ?_⟩
        exact wc_at (by kernel_rfl) (K13_21 _ _ g5015 v1015 v3015 (hs.sub ⟨rfl, rfl, rfl, rfl, rfl, trivial⟩) ((((((((((hM.front 9 rfl).front 9 rfl).front 9 rfl).front 9 rfl).front 9 rfl).front 9 rfl).front 9 rfl).front 7 rfl).front 9 rfl).front 9 rfl))
      · rintro o ⟨rfl⟩
        intro w hw
        replace hM := hM.quiet hw
        refine wmem hs (x_alloc he_I rfl hM) rfl ?_; rintro a _ w hs ⟨g4015, rfl, hM⟩
        have hM : Mem W w (aBlk g4015 23 [.slice none 0 0] :: aBlk g5015 73 [.slice none 0 0] :: aBools 4 v3015 (List.replicate (p0).toNat false) :: aBlk g4 76 [.func (.func 87) #[] #[.pointer (some ⟨g_m, 0, none⟩), .pointer (some ⟨g_b, 0, none⟩), .pointer (some ⟨g_count, 0, none⟩), .pointer (some ⟨g_uses, 0, none⟩)]] :: aBlk g2 3 [.int .i64 p0] :: aBlk g_m 22 [v_m] :: aBlk g_b 55 [.int .i64 b_0, v_b_1] :: aBlk g_count 3 [.int .i64 count] :: aBlk g_uses 22 [v_uses] :: aMat 23 3 v_uses vs_uses uses :: As) := hM
        refine on_nil ⟨hM.drop.drop.drop, ?_⟩
        exact wc_at (by kernel_rfl) (K13_28 _ _ g4015 g5015 v3015 (hs.sub ⟨rfl, rfl, rfl, rfl, rfl, trivial⟩) ((((((((((hM.front 9 rfl).front 9 rfl).front 9 rfl).front 9 rfl).front 9 rfl).front 9 rfl).front 9 rfl).front 9 rfl).front 8 rfl).front 9 rfl))
    have K13_24 : ∀ (a : Act) (w : World) (g4015 : Nat) (g5015 : Nat), Fr a 13 [(2, .pointer (some ⟨g2, 0, none⟩)), (3, .pointer (some ⟨g4, 0, none⟩)), (4, .pointer (some ⟨g4015, 0, none⟩)), (5, .pointer (some ⟨g5015, 0, none⟩)), (8, .int .i64 p0)] → Mem W w (aBlk g5015 73 [.slice none 0 0] :: aBlk g4015 23 [.slice none 0 0] :: aBlk g4 76 [.func (.func 87) #[] #[.pointer (some ⟨g_m, 0, none⟩), .pointer (some ⟨g_b, 0, none⟩), .pointer (some ⟨g_count, 0, none⟩), .pointer (some ⟨g_uses, 0, none⟩)]] :: aBlk g2 3 [.int .i64 p0] :: aBlk g_m 22 [v_m] :: aBlk g_b 55 [.int .i64 b_0, v_b_1] :: aBlk g_count 3 [.int .i64 count] :: aBlk g_uses 22 [v_uses] :: aMat 23 3 v_uses vs_uses uses :: As) → T13 4 #[false, true, false, true, true, false, false] a w := by
      intro a w g4015 g5015 hs hM; subst hT13
      refine wc_many (fuel := 3) [0, 2] (by kernel_rfl) (by simp) ⟨?_, ?_, trivial⟩
      · rintro o ⟨rfl⟩
        intro w hw
        replace hM := hM.quiet hw
        refine wmem hs (x_new0I ht_I hM) rfl ?_; intro a v1015 w hs hM
        have hM : Mem W w (aInts 3 v1015 ([]) :: aBlk g5015 73 [.slice none 0 0] :: aBlk g4015 23 [.slice none 0 0] :: aBlk g4 76 [.func (.func 87) #[] #[.pointer (some ⟨g_m, 0, none⟩), .pointer (some ⟨g_b, 0, none⟩), .pointer (some ⟨g_count, 0, none⟩), .pointer (some ⟨g_uses, 0, none⟩)]] :: aBlk g2 3 [.int .i64 p0] :: aBlk g_m 22 [v_m] :: aBlk g_b 55 [.int .i64 b_0, v_b_1] :: aBlk g_count 3 [.int .i64 count] :: aBlk g_uses 22 [v_uses] :: aMat 23 3 v_uses vs_uses uses :: As) := hM
        refine on_nil ⟨hM.drop.drop.drop, ?_⟩
        exact wc_at (by kernel_rfl) (K13_25 _ _ g4015 g5015 v1015 (hs.sub ⟨rfl, rfl, rfl, rfl, rfl, rfl, trivial⟩) ((((((((((hM.front 9 rfl).front 9 rfl).front 9 rfl).front 9 rfl).front 9 rfl).front 9 rfl).front 9 rfl).front 7 rfl).front 9 rfl).front 9 rfl))
      · rintro o ⟨rfl⟩
        intro w hw
        replace hM := hM.quiet hw
        refine wmem hs (x_makeB hu_B he_bool hs rfl hM h3016) rfl ?_; intro a v3015 w hs hM
        have hM : Mem W w (aBools 4 v3015 (List.replicate (p0).toNat false) :: aBlk g5015 73 [.slice none 0 0] :: aBlk g4015 23 [.slice none 0 0] :: aBlk g4 76 [.func (.func 87) #[] #[.pointer (some ⟨g_m, 0, none⟩), .pointer (some ⟨g_b, 0, none⟩), .pointer (some ⟨g_count, 0, none⟩), .pointer (some ⟨g_uses, 0, none⟩)]] :: aBlk g2 3 [.int .i64 p0] :: aBlk g_m 22 [v_m] :: aBlk g_b 55 [.int .i64 b_0, v_b_1] :: aBlk g_count 3 [.int .i64 count] :: aBlk g_uses 22 [v_uses] :: aMat 23 3 v_uses vs_uses uses :: As) := hM
        refine on_nil ⟨hM.drop.drop.drop, ?_⟩
        exact wc_at (by kernel_rfl) (K13_28 _ _ g4015 g5015 v3015 (hs.sub ⟨rfl, rfl, rfl, rfl, rfl, trivial⟩) ((((((((((hM.front 9 rfl).front 9 rfl).front 9 rfl).front 9 rfl).front 9 rfl).front 9 rfl).front 9 rfl).front 7 rfl).front 9 rfl).front 9 rfl))
    have K13_1 : ∀ (a : Act) (w : World) (v1015 : Value), Fr a 13 [(2, .pointer (some ⟨g2, 0, none⟩)), (3, .pointer (some ⟨g4, 0, none⟩)), (7, v1015), (8, .int .i64 p0)] → Mem W w (aInts 3 v1015 ([]) :: aBlk g4 76 [.func (.func 87) #[] #[.pointer (some ⟨g_m, 0, none⟩), .pointer (some ⟨g_b, 0, none⟩), .pointer (some ⟨g_count, 0, none⟩), .pointer (some ⟨g_uses, 0, none⟩)]] :: aBlk g2 3 [.int .i64 p0] :: aBlk g_m 22 [v_m] :: aBlk g_b 55 [.int .i64 b_0, v_b_1] :: aBlk g_count 3 [.int .i64 count] :: aBlk g_uses 22 [v_uses] :: aMat 23 3 v_uses vs_uses uses :: As) → T13 5 #[true, true, false, false, false, false, false] a w := by
      intro a w v1015 hs hM; subst hT13
      refine wc_many (fuel := 4) [2, 3, 4] (by kernel_rfl) (by simp) ⟨?_, ?_, ?_, trivial⟩
      · rintro o ⟨rfl⟩
        intro w hw
        replace hM := hM.quiet hw
        refine wmem hs (x_makeB hu_B he_bool hs rfl hM h3016) rfl ?_; intro a v3015 w hs hM
        have hM : Mem W w (aBools 4 v3015 (List.replicate (p0).toNat false) :: aInts 3 v1015 ([]) :: aBlk g4 76 [.func (.func 87) #[] #[.pointer (some ⟨g_m, 0, none⟩), .pointer (some ⟨g_b, 0, none⟩), .pointer (some ⟨g_count, 0, none⟩), .pointer (some ⟨g_uses, 0, none⟩)]] :: aBlk g2 3 [.int .i64 p0] :: aBlk g_m 22 [v_m] :: aBlk g_b 55 [.int .i64 b_0, v_b_1] :: aBlk g_count 3 [.int .i64 count] :: aBlk g_uses 22 [v_uses] :: aMat 23 3 v_uses vs_uses uses :: As) := hM
        refine on_nil ⟨hM.drop.drop, ?_⟩
        exact wc_at (by kernel_rfl) (K13_5 _ _ v1015 v3015 (hs.sub ⟨rfl, rfl, rfl, rfl, trivial⟩) hM)
      · rintro o ⟨rfl⟩
        intro w hw
        replace hM := hM.quiet hw
        refine wmem hs (x_alloc he_I rfl hM) rfl ?_; rintro a _ w hs ⟨g4015, rfl, hM⟩
        have hM : Mem W w (aBlk g4015 23 [.slice none 0 0] :: aInts 3 v1015 ([]) :: aBlk g4 76 [.func (.func 87) #[] #[.pointer (some ⟨g_m, 0, none⟩), .pointer (some ⟨g_b, 0, none⟩), .pointer (some ⟨g_count, 0, none⟩), .pointer (some ⟨g_uses, 0, none⟩)]] :: aBlk g2 3 [.int .i64 p0] :: aBlk g_m 22 [v_m] :: aBlk g_b 55 [.int .i64 b_0, v_b_1] :: aBlk g_count 3 [.int .i64 count] :: aBlk g_uses 22 [v_uses] :: aMat 23 3 v_uses vs_uses uses :: As) := hM
        refine on_nil ⟨hM.drop.drop, ?_⟩
        exact wc_at (by kernel_rfl) (K13_9 _ _ g4015 v1015 (hs.sub ⟨rfl, rfl, rfl, rfl, rfl, trivial⟩) hM)
      · rintro o ⟨rfl⟩
        intro w hw
        replace hM := hM.quiet hw
        refine wmem hs (x_alloc he_B rfl hM) rfl ?_; rintro a _ w hs ⟨g5015, rfl, hM⟩
        have hM : Mem W w (aBlk g5015 73 [.slice none 0 0] :: aInts 3 v1015 ([]) :: aBlk g4 76 [.func (.func 87) #[] #[.pointer (some ⟨g_m, 0, none⟩), .pointer (some ⟨g_b, 0, none⟩), .pointer (some ⟨g_count, 0, none⟩), .pointer (some ⟨g_uses, 0, none⟩)]] :: aBlk g2 3 [.int .i64 p0] :: aBlk g_m 22 [v_m] :: aBlk g_b 55 [.int .i64 b_0, v_b_1] :: aBlk g_count 3 [.int .i64 count] :: aBlk g_uses 22 [v_uses] :: aMat 23 3 v_uses vs_uses uses :: As) := hM
        refine on_nil ⟨hM.drop.drop, ?_⟩
        exact wc_at (by kernel_rfl) (K13_17 _ _ g5015 v1015 (hs.sub ⟨rfl, rfl, rfl, rfl, rfl, trivial⟩) hM)
    have K13_4 : ∀ (a : Act) (w : World) (v3015 : Value), Fr a 13 [(2, .pointer (some ⟨g2, 0, none⟩)), (3, .pointer (some ⟨g4, 0, none⟩)), (9, v3015)] → Mem W w (aBools 4 v3015 (List.replicate (p0).toNat false) :: aBlk g4 76 [.func (.func 87) #[] #[.pointer (some ⟨g_m, 0, none⟩), .pointer (some ⟨g_b, 0, none⟩), .pointer (some ⟨g_count, 0, none⟩), .pointer (some ⟨g_uses, 0, none⟩)]] :: aBlk g2 3 [.int .i64 p0] :: aBlk g_m 22 [v_m] :: aBlk g_b 55 [.int .i64 b_0, v_b_1] :: aBlk g_count 3 [.int .i64 count] :: aBlk g_uses 22 [v_uses] :: aMat 23 3 v_uses vs_uses uses :: As) → T13 5 #[false, true, true, false, false, false, false] a w := by
      intro a w v3015 hs hM; subst hT13
      refine wc_many (fuel := 4) [0, 3, 4] (by kernel_rfl) (by simp) ⟨?_, ?_, ?_, trivial⟩
      · rintro o ⟨rfl⟩
        intro w hw
        replace hM := hM.quiet hw
        refine wmem hs (x_new0I ht_I hM) rfl ?_; intro a v1015 w hs hM
        have hM : Mem W w (aInts 3 v1015 ([]) :: aBools 4 v3015 (List.replicate (p0).toNat false) :: aBlk g4 76 [.func (.func 87) #[] #[.pointer (some ⟨g_m, 0, none⟩), .pointer (some ⟨g_b, 0, none⟩), .pointer (some ⟨g_count, 0, none⟩), .pointer (some ⟨g_uses, 0, none⟩)]] :: aBlk g2 3 [.int .i64 p0] :: aBlk g_m 22 [v_m] :: aBlk g_b 55 [.int .i64 b_0, v_b_1] :: aBlk g_count 3 [.int .i64 count] :: aBlk g_uses 22 [v_uses] :: aMat 23 3 v_uses vs_uses uses :: As) := hM
        refine on_nil ⟨hM.drop.drop, ?_⟩
        exact wc_at (by kernel_rfl) (K13_5 _ _ v1015 v3015 (hs.sub ⟨rfl, rfl, rfl, rfl, trivial⟩) (((((((((hM.front 8 rfl).front 8 rfl).front 8 rfl).front 8 rfl).front 8 rfl).front 8 rfl).front 8 rfl).front 7 rfl).front 8 rfl))
      · rintro o ⟨rfl⟩
        intro w hw
        replace hM := hM.quiet hw
        refine wmem hs (x_alloc he_I rfl hM) rfl ?_; rintro a _ w hs ⟨g4015, rfl, hM⟩
        have hM : Mem W w (aBlk g4015 23 [.slice none 0 0] :: aBools 4 v3015 (List.replicate (p0).toNat false) :: aBlk g4 76 [.func (.func 87) #[] #[.pointer (some ⟨g_m, 0, none⟩), .pointer (some ⟨g_b, 0, none⟩), .pointer (some ⟨g_count, 0, none⟩), .pointer (some ⟨g_uses, 0, none⟩)]] :: aBlk g2 3 [.int .i64 p0] :: aBlk g_m 22 [v_m] :: aBlk g_b 55 [.int .i64 b_0, v_b_1] :: aBlk g_count 3 [.int .i64 count] :: aBlk g_uses 22 [v_uses] :: aMat 23 3 v_uses vs_uses uses :: As) := hM
        refine on_nil ⟨hM.drop.drop, ?_⟩
        exact wc_at (by kernel_rfl) (K13_12 _ _ g4015 v3015 (hs.sub ⟨rfl, rfl, rfl, rfl, trivial⟩) hM)
      · rintro o ⟨rfl⟩
        intro w hw
        replace hM := hM.quiet hw
        refine wmem hs (x_alloc he_B rfl hM) rfl ?_; rintro a _ w hs ⟨g5015, rfl, hM⟩
        have hM : Mem W w (aBlk g5015 73 [.slice none 0 0] :: aBools 4 v3015 (List.replicate (p0).toNat false) :: aBlk g4 76 [.func (.func 87) #[] #[.pointer (some ⟨g_m, 0, none⟩), .pointer (some ⟨g_b, 0, none⟩), .pointer (some ⟨g_count, 0, none⟩), .pointer (some ⟨g_uses, 0, none⟩)]] :: aBlk g2 3 [.int .i64 p0] :: aBlk g_m 22 [v_m] :: aBlk g_b 55 [.int .i64 b_0, v_b_1] :: aBlk g_count 3 [.int .i64 count] :: aBlk g_uses 22 [v_uses] :: aMat 23 3 v_uses vs_uses uses :: As) := hM
        refine on_nil ⟨hM.drop.drop, ?_⟩
        exact wc_at (by kernel_rfl) (K13_20 _ _ g5015 v3015 (hs.sub ⟨rfl, rfl, rfl, rfl, trivial⟩) hM)
    have K13_8 : ∀ (a : Act) (w : World) (g4015 : Nat), Fr a 13 [(2, .pointer (some ⟨g2, 0, none⟩)), (3, .pointer (some ⟨g4, 0, none⟩)), (4, .pointer (some ⟨g4015, 0, none⟩)), (8, .int .i64 p0)] → Mem W w (aBlk g4015 23 [.slice none 0 0] :: aBlk g4 76 [.func (.func 87) #[] #[.pointer (some ⟨g_m, 0, none⟩), .pointer (some ⟨g_b, 0, none⟩), .pointer (some ⟨g_count, 0, none⟩), .pointer (some ⟨g_uses, 0, none⟩)]] :: aBlk g2 3 [.int .i64 p0] :: aBlk g_m 22 [v_m] :: aBlk g_b 55 [.int .i64 b_0, v_b_1] :: aBlk g_count 3 [.int .i64 count] :: aBlk g_uses 22 [v_uses] :: aMat 23 3 v_uses vs_uses uses :: As) → T13 5 #[false, true, false, true, false, false, false] a w := by
      intro a w g4015 hs hM; subst hT13
      refine wc_many (fuel := 4) [0, 2, 4] (by kernel_rfl) (by simp) ⟨?_, ?_, ?_, trivial⟩
      · rintro o ⟨rfl⟩
        intro w hw
        replace hM := hM.quiet hw
        refine wmem hs (x_new0I ht_I hM) rfl ?_; intro a v1015 w hs hM
        have hM : Mem W w (aInts 3 v1015 ([]) :: aBlk g4015 23 [.slice none 0 0] :: aBlk g4 76 [.func (.func 87) #[] #[.pointer (some ⟨g_m, 0, none⟩), .pointer (some ⟨g_b, 0, none⟩), .pointer (some ⟨g_count, 0, none⟩), .pointer (some ⟨g_uses, 0, none⟩)]] :: aBlk g2 3 [.int .i64 p0] :: aBlk g_m 22 [v_m] :: aBlk g_b 55 [.int .i64 b_0, v_b_1] :: aBlk g_count 3 [.int .i64 count] :: aBlk g_uses 22 [v_uses] :: aMat 23 3 v_uses vs_uses uses :: As) := hM
        refine on_nil ⟨hM.drop.drop, ?_⟩
        exact wc_at (by kernel_rfl) (K13_9 _ _ g4015 v1015 (hs.sub ⟨rfl, rfl, rfl, rfl, rfl, trivial⟩) (((((((((hM.front 8 rfl).front 8 rfl).front 8 rfl).front 8 rfl).front 8 rfl).front 8 rfl).front 8 rfl).front 7 rfl).front 8 rfl))
      · rintro o ⟨rfl⟩
        intro w hw
        replace hM := hM.quiet hw
        refine wmem hs (x_makeB hu_B he_bool hs rfl hM h3016) rfl ?_; intro a v3015 w hs hM
        have hM : Mem W w (aBools 4 v3015 (List.replicate (p0).toNat false) :: aBlk g4015 23 [.slice none 0 0] :: aBlk g4 76 [.func (.func 87) #[] #[.pointer (some ⟨g_m, 0, none⟩), .pointer (some ⟨g_b, 0, none⟩), .pointer (some ⟨g_count, 0, none⟩), .pointer (some ⟨g_uses, 0, none⟩)]] :: aBlk g2 3 [.int .i64 p0] :: aBlk g_m 22 [v_m] :: aBlk g_b 55 [.int .i64 b_0, v_b_1] :: aBlk g_count 3 [.int .i64 count] :: aBlk g_uses 22 [v_uses] :: aMat 23 3 v_uses vs_uses uses :: As) := hM
        refine on_nil ⟨hM.drop.drop, ?_⟩
        exact wc_at (by kernel_rfl) (K13_12 _ _ g4015 v3015 (hs.sub ⟨rfl, rfl, rfl, rfl, trivial⟩) (((((((((hM.front 8 rfl).front 8 rfl).front 8 rfl).front 8 rfl).front 8 rfl).front 8 rfl).front 8 rfl).front 7 rfl).front 8 rfl))
      · rintro o ⟨rfl⟩
        intro w hw
        replace hM := hM.quiet hw
        refine wmem hs (x_alloc he_B rfl hM) rfl ?_; rintro a _ w hs ⟨g5015, rfl, hM⟩
        have hM : Mem W w (aBlk g5015 73 [.slice none 0 0] :: aBlk g4015 23 [.slice none 0 0] :: aBlk g4 76 [.func (.func 87) #[] #[.pointer (some ⟨g_m, 0, none⟩), .pointer (some ⟨g_b, 0, none⟩), .pointer (some ⟨g_count, 0, none⟩), .pointer (some ⟨g_uses, 0, none⟩)]] :: aBlk g2 3 [.int .i64 p0] :: aBlk g_m 22 [v_m] :: aBlk g_b 55 [.int .i64 b_0, v_b_1] :: aBlk g_count 3 [.int .i64 count] :: aBlk g_uses 22 [v_uses] :: aMat 23 3 v_uses vs_uses uses :: As) := hM
        refine on_nil ⟨hM.drop.drop, ?_⟩
        exact wc_at (by kernel_rfl) (K13_24 _ _ g4015 g5015 (hs.sub ⟨rfl, rfl, rfl, rfl, rfl, trivial⟩) hM)
    have K13_16 : ∀ (a : Act) (w : World) (g5015 : Nat), Fr a 13 [(2, .pointer (some ⟨g2, 0, none⟩)), (3, .pointer (some ⟨g4, 0, none⟩)), (5, .pointer (some ⟨g5015, 0, none⟩)), (8, .int .i64 p0)] → Mem W w (aBlk g5015 73 [.slice none 0 0] :: aBlk g4 76 [.func (.func 87) #[] #[.pointer (some ⟨g_m, 0, none⟩), .pointer (some ⟨g_b, 0, none⟩), .pointer (some ⟨g_count, 0, none⟩), .pointer (some ⟨g_uses, 0, none⟩)]] :: aBlk g2 3 [.int .i64 p0] :: aBlk g_m 22 [v_m] :: aBlk g_b 55 [.int .i64 b_0, v_b_1] :: aBlk g_count 3 [.int .i64 count] :: aBlk g_uses 22 [v_uses] :: aMat 23 3 v_uses vs_uses uses :: As) → T13 5 #[false, true, false, false, true, false, false] a w := by
      intro a w g5015 hs hM; subst hT13
      refine wc_many (fuel := 4) [0, 2, 3] (by kernel_rfl) (by simp) ⟨?_, ?_, ?_, trivial⟩
      · rintro o ⟨rfl⟩
        intro w hw
        replace hM := hM.quiet hw
        refine wmem hs (x_new0I ht_I hM) rfl ?_; intro a v1015 w hs hM
        have hM : Mem W w (aInts 3 v1015 ([]) :: aBlk g5015 73 [.slice none 0 0] :: aBlk g4 76 [.func (.func 87) #[] #[.pointer (some ⟨g_m, 0, none⟩), .pointer (some ⟨g_b, 0, none⟩), .pointer (some ⟨g_count, 0, none⟩), .pointer (some ⟨g_uses, 0, none⟩)]] :: aBlk g2 3 [.int .i64 p0] :: aBlk g_m 22 [v_m] :: aBlk g_b 55 [.int .i64 b_0, v_b_1] :: aBlk g_count 3 [.int .i64 count] :: aBlk g_uses 22 [v_uses] :: aMat 23 3 v_uses vs_uses uses :: As) := hM
        refine on_nil ⟨hM.drop.drop, ?_⟩
        exact wc_at (by kernel_rfl) (K13_17 _ _ g5015 v1015 (hs.sub ⟨rfl, rfl, rfl, rfl, rfl, trivial⟩) (((((((((hM.front 8 rfl).front 8 rfl).front 8 rfl).front 8 rfl).front 8 rfl).front 8 rfl).front 8 rfl).front 7 rfl).front 8 rfl))
      · rintro o ⟨rfl⟩
        intro w hw
        replace hM := hM.quiet hw
        refine wmem hs (x_makeB hu_B he_bool hs rfl hM h3016) rfl ?_; intro a v3015 w hs hM
        have hM : Mem W w (aBools 4 v3015 (List.replicate (p0).toNat false) :: aBlk g5015 73 [.slice none 0 0] :: aBlk g4 76 [.func (.func 87) #[] #[.pointer (some ⟨g_m, 0, none⟩), .pointer (some ⟨g_b, 0, none⟩), .pointer (some ⟨g_count, 0, none⟩), .pointer (some ⟨g_uses, 0, none⟩)]] :: aBlk g2 3 [.int .i64 p0] :: aBlk g_m 22 [v_m] :: aBlk g_b 55 [.int .i64 b_0, v_b_1] :: aBlk g_count 3 [.int .i64 count] :: aBlk g_uses 22 [v_uses] :: aMat 23 3 v_uses vs_uses uses :: As) := hM
        refine on_nil ⟨hM.drop.drop, ?_⟩
        exact wc_at (by kernel_rfl) (K13_20 _ _ g5015 v3015 (hs.sub ⟨rfl, rfl, rfl, rfl, trivial⟩) (((((((((hM.front 8 rfl).front 8 rfl).front 8 rfl).front 8 rfl).front 8 rfl).front 8 rfl).front 8 rfl).front 7 rfl).front 8 rfl))
      · rintro o ⟨rfl⟩
        intro w hw
        replace hM := hM.quiet hw
        refine wmem hs (x_alloc he_I rfl hM) rfl ?_; rintro a _ w hs ⟨g4015, rfl, hM⟩
        have hM : Mem W w (aBlk g4015 23 [.slice none 0 0] :: aBlk g5015 73 [.slice none 0 0] :: aBlk g4 76 [.func (.func 87) #[] #[.pointer (some ⟨g_m, 0, none⟩), .pointer (some ⟨g_b, 0, none⟩), .pointer (some ⟨g_count, 0, none⟩), .pointer (some ⟨g_uses, 0, none⟩)]] :: aBlk g2 3 [.int .i64 p0] :: aBlk g_m 22 [v_m] :: aBlk g_b 55 [.int .i64 b_0, v_b_1] :: aBlk g_count 3 [.int .i64 count] :: aBlk g_uses 22 [v_uses] :: aMat 23 3 v_uses vs_uses uses :: As) := hM
        refine on_nil ⟨hM.drop.drop, ?_⟩
        exact wc_at (by kernel_rfl) (K13_24 _ _ g4015 g5015 (hs.sub ⟨rfl, rfl, rfl, rfl, rfl, trivial⟩) (((((((((hM.front 8 rfl).front 8 rfl).front 8 rfl).front 8 rfl).front 8 rfl).front 8 rfl).front 8 rfl).front 7 rfl).front 8 rfl))
    have K13_0 : ∀ (a : Act) (w : World), Fr a 13 [(2, .pointer (some ⟨g2, 0, none⟩)), (3, .pointer (some ⟨g4, 0, none⟩)), (8, .int .i64 p0)] → Mem W w (aBlk g4 76 [.func (.func 87) #[] #[.pointer (some ⟨g_m, 0, none⟩), .pointer (some ⟨g_b, 0, none⟩), .pointer (some ⟨g_count, 0, none⟩), .pointer (some ⟨g_uses, 0, none⟩)]] :: aBlk g2 3 [.int .i64 p0] :: aBlk g_m 22 [v_m] :: aBlk g_b 55 [.int .i64 b_0, v_b_1] :: aBlk g_count 3 [.int .i64 count] :: aBlk g_uses 22 [v_uses] :: aMat 23 3 v_uses vs_uses uses :: As) → T13 6 #[false, true, false, false, false, false, false] a w := by
      intro a w hs hM; subst hT13
      refine wc_many (fuel := 5) [0, 2, 3, 4] (by kernel_rfl) (by simp) ⟨?_, ?_, ?_, ?_, trivial⟩
      · rintro o ⟨rfl⟩
        intro w hw
        replace hM := hM.quiet hw
        refine wmem hs (x_new0I ht_I hM) rfl ?_; intro a v1015 w hs hM
        have hM : Mem W w (aInts 3 v1015 ([]) :: aBlk g4 76 [.func (.func 87) #[] #[.pointer (some ⟨g_m, 0, none⟩), .pointer (some ⟨g_b, 0, none⟩), .pointer (some ⟨g_count, 0, none⟩), .pointer (some ⟨g_uses, 0, none⟩)]] :: aBlk g2 3 [.int .i64 p0] :: aBlk g_m 22 [v_m] :: aBlk g_b 55 [.int .i64 b_0, v_b_1] :: aBlk g_count 3 [.int .i64 count] :: aBlk g_uses 22 [v_uses] :: aMat 23 3 v_uses vs_uses uses :: As) := hM
        refine on_nil ⟨hM.drop, ?_⟩
        exact wc_at (by kernel_rfl) (K13_1 _ _ v1015 (hs.sub ⟨rfl, rfl, rfl, rfl, trivial⟩) hM)
      · rintro o ⟨rfl⟩
        intro w hw
        replace hM := hM.quiet hw
        refine wmem hs (x_makeB hu_B he_bool hs rfl hM h3016) rfl ?_; intro a v3015 w hs hM
        have hM : Mem W w (aBools 4 v3015 (List.replicate (p0).toNat false) :: aBlk g4 76 [.func (.func 87) #[] #[.pointer (some ⟨g_m, 0, none⟩), .pointer (some ⟨g_b, 0, none⟩), .pointer (some ⟨g_count, 0, none⟩), .pointer (some ⟨g_uses, 0, none⟩)]] :: aBlk g2 3 [.int .i64 p0] :: aBlk g_m 22 [v_m] :: aBlk g_b 55 [.int .i64 b_0, v_b_1] :: aBlk g_count 3 [.int .i64 count] :: aBlk g_uses 22 [v_uses] :: aMat 23 3 v_uses vs_uses uses :: As) := hM
        refine on_nil ⟨hM.drop, ?_⟩
        exact wc_at (by kernel_rfl) (K13_4 _ _ v3015 (hs.sub ⟨rfl, rfl, rfl, trivial⟩) hM)
      · rintro o ⟨rfl⟩
        intro w hw
        replace hM := hM.quiet hw
        refine wmem hs (x_alloc he_I rfl hM) rfl ?_; rintro a _ w hs ⟨g4015, rfl, hM⟩
        have hM : Mem W w (aBlk g4015 23 [.slice none 0 0] :: aBlk g4 76 [.func (.func 87) #[] #[.pointer (some ⟨g_m, 0, none⟩), .pointer (some ⟨g_b, 0, none⟩), .pointer (some ⟨g_count, 0, none⟩), .pointer (some ⟨g_uses, 0, none⟩)]] :: aBlk g2 3 [.int .i64 p0] :: aBlk g_m 22 [v_m] :: aBlk g_b 55 [.int .i64 b_0, v_b_1] :: aBlk g_count 3 [.int .i64 count] :: aBlk g_uses 22 [v_uses] :: aMat 23 3 v_uses vs_uses uses :: As) := hM
        refine on_nil ⟨hM.drop, ?_⟩
        exact wc_at (by kernel_rfl) (K13_8 _ _ g4015 (hs.sub ⟨rfl, rfl, rfl, rfl, trivial⟩) hM)
      · rintro o ⟨rfl⟩
        intro w hw
        replace hM := hM.quiet hw
        refine wmem hs (x_alloc he_B rfl hM) rfl ?_; rintro a _ w hs ⟨g5015, rfl, hM⟩
        have hM : Mem W w (aBlk g5015 73 [.slice none 0 0] :: aBlk g4 76 [.func (.func 87) #[] #[.pointer (some ⟨g_m, 0, none⟩), .pointer (some ⟨g_b, 0, none⟩), .pointer (some ⟨g_count, 0, none⟩), .pointer (some ⟨g_uses, 0, none⟩)]] :: aBlk g2 3 [.int .i64 p0] :: aBlk g_m 22 [v_m] :: aBlk g_b 55 [.int .i64 b_0, v_b_1] :: aBlk g_count 3 [.int .i64 count] :: aBlk g_uses 22 [v_uses] :: aMat 23 3 v_uses vs_uses uses :: As) := hM
        refine on_nil ⟨hM.drop, ?_⟩
        exact wc_at (by kernel_rfl) (K13_16 _ _ g5015 (hs.sub ⟨rfl, rfl, rfl, rfl, trivial⟩) hM)
    exact wc_at (by kernel_rfl) (K13_0 _ _ (hs.sub ⟨rfl, rfl, rfl, trivial⟩) hM)
  rintro a w ⟨g5, g6, v7, l8, v9, l10, rfl, hs, hM⟩
  have hm := hk12
  refine x_nt ?_
  refine wp_seq ?_
  refine wp_region_lit ?_
  refine wmem hs (x_alloc he_1 rfl hM) rfl ?_; rintro a _ w hs ⟨g9015, rfl, hM⟩
  have hM : Mem W w (aBlk g9015 1 [.nilFunc] :: aBlk g5 73 [v7] :: aBlk g6 23 [v9] :: aBools 4 v7 l8 :: aInts 3 v9 l10 :: aBlk g4 76 [.func (.func 87) #[] #[.pointer (some ⟨g_m, 0, none⟩), .pointer (some ⟨g_b, 0, none⟩), .pointer (some ⟨g_count, 0, none⟩), .pointer (some ⟨g_uses, 0, none⟩)]] :: aBlk g2 3 [.int .i64 p0] :: aBlk g_m 22 [v_m] :: aBlk g_b 55 [.int .i64 b_0, v_b_1] :: aBlk g_count 3 [.int .i64 count] :: aBlk g_uses 22 [v_uses] :: aMat 23 3 v_uses vs_uses uses :: As) := hM
  refine wpList_nil ?_
  refine x_nt ?_
  refine wp_seq ?_
  refine wp_region_lit ?_
  refine wl hs (y_makeFunc hs rfl) rfl ?_; intro a hs
  refine wstore hs rfl rfl (x_storeBlk he_1 rfl (hM.front 0 rfl)) ?_; intro w hM
  have hM : Mem W w (aBlk g9015 1 [.func (.func 104) #[] #[.pointer (some ⟨g6, 0, none⟩), .pointer (some ⟨g2, 0, none⟩), .pointer (some ⟨g4, 0, none⟩), .pointer (some ⟨g5, 0, none⟩), .pointer (some ⟨g9015, 0, none⟩)]] :: aBlk g5 73 [v7] :: aBlk g6 23 [v9] :: aBools 4 v7 l8 :: aInts 3 v9 l10 :: aBlk g4 76 [.func (.func 87) #[] #[.pointer (some ⟨g_m, 0, none⟩), .pointer (some ⟨g_b, 0, none⟩), .pointer (some ⟨g_count, 0, none⟩), .pointer (some ⟨g_uses, 0, none⟩)]] :: aBlk g2 3 [.int .i64 p0] :: aBlk g_m 22 [v_m] :: aBlk g_b 55 [.int .i64 b_0, v_b_1] :: aBlk g_count 3 [.int .i64 count] :: aBlk g_uses 22 [v_uses] :: aMat 23 3 v_uses vs_uses uses :: As) := hM
  refine wpList_nil ?_
  refine x_nt ?_
  refine wp_region_lit ?_
  refine wl hs (y_load sc_1 hs rfl (hM.cellBlk 0 rfl 0 rfl)) rfl ?_; intro a hs
  obtain ⟨y9016, h9017, hm⟩ := bindE hm
  refine wcallv is_104 hs rfl rfl rfl (impl_permutations_1_uses_any g6 v9 l10 g2 p0 g4 g5 v7 l8 g9015 g_m v_m m g_b b_0 v_b_1 b_1 g_count count g_uses v_uses uses vs_uses _ _ _ hr_m hr_b_1 ((((((((((((hM.front 11 rfl).front 11 rfl).front 11 rfl).front 11 rfl).front 11 rfl).front 5 rfl).front 8 rfl).front 7 rfl).front 10 rfl).front 11 rfl).front 11 rfl).front 11 rfl) h9017) ?_; rintro a _ w hs ⟨v9018, v9019, v9020, vs9021, rfl, hM⟩
  have hM : Mem W w (aBlk g6 23 [v9018] :: aInts 3 v9018 y9016.1 :: aBlk g2 3 [.int .i64 p0] :: aBlk g4 76 [.func (.func 87) #[] #[.pointer (some ⟨g_m, 0, none⟩), .pointer (some ⟨g_b, 0, none⟩), .pointer (some ⟨g_count, 0, none⟩), .pointer (some ⟨g_uses, 0, none⟩)]] :: aBlk g5 73 [v9019] :: aBools 4 v9019 y9016.2.1 :: aBlk g9015 1 [.func (.func 104) #[] #[.pointer (some ⟨g6, 0, none⟩), .pointer (some ⟨g2, 0, none⟩), .pointer (some ⟨g4, 0, none⟩), .pointer (some ⟨g5, 0, none⟩), .pointer (some ⟨g9015, 0, none⟩)]] :: aBlk g_m 22 [v_m] :: aBlk g_b 55 [.int .i64 b_0, v_b_1] :: aBlk g_count 3 [.int .i64 y9016.2.2.1] :: aBlk g_uses 22 [v9020] :: aMat 23 3 v9020 vs9021 y9016.2.2.2 :: As) := hM
  refine wpList_nil ?_
  have hm : some (y9016.2.2.1, y9016.2.2.2) = some r := hm
  obtain rfl := Option.some.inj hm
  refine x_end0 rfl hs ⟨_, rfl, ?_⟩
  exact ⟨v9020, vs9021, rfl, hM.drop.drop.drop.drop.drop.drop.drop⟩

theorem impl_usesOf_any (v_p0 : Value) (p0 : List (List Int)) (p1_0 : Int) (v_p1_1 : Value) (p1_1 : List Int) (W : World) (hr_p0 : RdM W v_p0 p0) (hr_p1_1 : RdI W v_p1_1 p1_1) {r : (List (List Int)) × Int} (hm : impl_usesOf_m p0 p1_0 p1_1 = some r) : Calls Try.prog 59 [v_p0, .agg #[.int .i64 p1_0, v_p1_1]].toArray W fun e w => ∃ v, e = .returned v ∧ ∃ v0, ∃ vs0, v = .tuple #[v0, .int .i64 r.2] ∧ Mem W w [aMat 23 3 v0 vs0 r.1] := by
  refine x_enter Try.func59 rfl Try.ntmps59 rfl ?_
  intro a hs
  have hM := Mem.start W
  unfold impl_usesOf_m at hm
  refine wp_seq ?_
  refine wp_region_lit ?_
  refine wmem hs (x_box (RdS.one hr_p0) hs rfl hM) rfl ?_; rintro a _ w hs ⟨g2, rfl, hM⟩
  have hM : Mem W w [aBlk g2 22 [v_p0]] := hM
  refine wmem hs (x_boxS (cs := [.int .i64 p1_0, v_p1_1]) hs rfl hM) rfl ?_; rintro a _ w hs ⟨g4, rfl, hM⟩
  have hM : Mem W w [aBlk g4 55 [.int .i64 p1_0, v_p1_1], aBlk g2 22 [v_p0]] := hM
  refine wl hs (y_assign hs rfl) rfl ?_; intro a hs
  refine wl hs (y_assign hs rfl) rfl ?_; intro a hs
  refine wpList_nil ?_
  refine x_nt ?_
  refine wp_seq ?_
  refine wp_region_lit ?_
  refine wl hs (y_load sc_M hs rfl (hM.cellBlk 1 rfl 0 rfl)) rfl ?_; intro a hs
  refine wl hs (y_len hu_M hs rfl (RdM.below hr_p0 hM.bel)) rfl ?_; intro a hs
  obtain ⟨_, h7, hm⟩ := bindE hm
  refine wmem hs (x_makeM (ti := 3) hu_M he_I hs rfl hM h7) rfl ?_; intro a v6 w hs hM
  have hM : Mem W w [aMat 23 3 v6 (List.replicate ((p0.length : Int)).toNat (.slice none 0 0)) (List.replicate ((p0.length : Int)).toNat ([] : List Int)), aBlk g4 55 [.int .i64 p1_0, v_p1_1], aBlk g2 22 [v_p0]] := hM
  refine wmem hs (x_alloc he_M rfl hM) rfl ?_; rintro a _ w hs ⟨g9, rfl, hM⟩
  have hM : Mem W w [aBlk g9 22 [.slice none 0 0], aMat 23 3 v6 (List.replicate ((p0.length : Int)).toNat (.slice none 0 0)) (List.replicate ((p0.length : Int)).toNat ([] : List Int)), aBlk g4 55 [.int .i64 p1_0, v_p1_1], aBlk g2 22 [v_p0]] := hM
  refine wmem hs (x_alloc he_int rfl hM) rfl ?_; rintro a _ w hs ⟨g11, rfl, hM⟩
  have hM : Mem W w [aBlk g11 3 [.int .i64 0], aBlk g9 22 [.slice none 0 0], aMat 23 3 v6 (List.replicate ((p0.length : Int)).toNat (.slice none 0 0)) (List.replicate ((p0.length : Int)).toNat ([] : List Int)), aBlk g4 55 [.int .i64 p1_0, v_p1_1], aBlk g2 22 [v_p0]] := hM
  refine wstore hs rfl rfl (x_storeBlk he_M (Mem.oneM (hM.front 2 rfl)) (hM.front 1 rfl)) ?_; intro w hM
  have hM : Mem W w [aBlk g9 22 [v6], aBlk g11 3 [.int .i64 0], aMat 23 3 v6 (List.replicate ((p0.length : Int)).toNat (.slice none 0 0)) (List.replicate ((p0.length : Int)).toNat ([] : List Int)), aBlk g4 55 [.int .i64 p1_0, v_p1_1], aBlk g2 22 [v_p0]] := hM
  refine wstore hs rfl rfl (x_storeBlk he_int rfl (hM.front 1 rfl)) ?_; intro w hM
  have hM : Mem W w [aBlk g11 3 [.int .i64 0], aBlk g9 22 [v6], aMat 23 3 v6 (List.replicate ((p0.length : Int)).toNat (.slice none 0 0)) (List.replicate ((p0.length : Int)).toNat ([] : List Int)), aBlk g4 55 [.int .i64 p1_0, v_p1_1], aBlk g2 22 [v_p0]] := hM
  refine wpList_nil ?_
  refine x_nt ?_
  refine wp_seq ?_
  refine wp_seq ?_
  refine wp_region_lit ?_
  refine wl hs (y_load sc_M hs rfl (hM.cellBlk 1 rfl 0 rfl)) rfl ?_; intro a hs
  refine wl hs (y_len hu_M hs rfl (hM.rdM 2 rfl)) rfl ?_; intro a hs
  refine wl hs (y_move hs rfl) rfl ?_; intro a hs
  refine wpList_nil ?_
  refine x_nt ?_
  obtain ⟨s17, hm, hk18⟩ := bindE hm
  refine x_mid (fun a w => ∃ (vs15 : List Value), ∃ (l16 : List (List Int)), l16 = s17 ∧ Fr a 30 [(2, .pointer (some ⟨g2, 0, none⟩)), (3, .pointer (some ⟨g4, 0, none⟩)), (6, .pointer (some ⟨g9, 0, none⟩)), (7, .pointer (some ⟨g11, 0, none⟩))] ∧ Mem W w [aBlk g11 3 [.int .i64 0], aBlk g9 22 [v6], aMat 23 3 v6 vs15 l16, aBlk g4 55 [.int .i64 p1_0, v_p1_1], aBlk g2 22 [v_p0]]) ?_ ?_
  · refine wp_block ?_
    obtain ⟨nck, hnck, hm⟩ := bindE hm
    refine x_loop (fun k a w => ∃ (q19 : Nat) (j12 : Nat) (vs13 : List Value) (l14 : List (List Int)) , q19 = k ∧ Fr a 30 [(2, .pointer (some ⟨g2, 0, none⟩)), (3, .pointer (some ⟨g4, 0, none⟩)), (6, .pointer (some ⟨g9, 0, none⟩)), (7, .pointer (some ⟨g11, 0, none⟩)), (13, .int .i64 ((List.replicate ((p0.length : Int)).toNat ([] : List Int)).length : Int)), (14, .int .i64 (j12 : Int))] ∧ Mem W w [aBlk g11 3 [.int .i64 0], aBlk g9 22 [v6], aMat 23 3 v6 vs13 l14, aBlk g4 55 [.int .i64 p1_0, v_p1_1], aBlk g2 22 [v_p0]] ∧ impl_usesOf_l1 p0 q19 j12 l14 = some s17 ∧ (((List.replicate ((p0.length : Int)).toNat ([] : List Int)).length : Int) - (j12 : Int)).toNat = q19) _ ⟨(((List.replicate ((p0.length : Int)).toNat ([] : List Int)).length : Int) - (0 : Nat) : Int).toNat, 0, (List.replicate ((p0.length : Int)).toNat (.slice none 0 0)), (List.replicate ((p0.length : Int)).toNat ([] : List Int)), rfl, hs.sub ⟨rfl, rfl, rfl, rfl, rfl, rfl, trivial⟩, hM, hm, rfl⟩ ?_
    rintro k a w ⟨q19, j12, vs13, l14, rfl, hs, hM, hm, hj12⟩
    rcases q19 with _ | q19
    · rewrite [impl_usesOf_l1] at hm
      refine wp_seq ?_
      refine wp_region_lit ?_
      refine wl hs (y_lss hs rfl rfl) rfl ?_; intro a hs
      refine wpList_nil ?_
      refine x_nt ?_
      refine wp_seq ?_
      refine x_condF hs rfl (cnt_f hj12) ?_
      refine wp_exit ?_
      refine x_et ?_
      refine x_et ?_
      refine x_eb ?_
      have hm : some l14 = some s17 := hm
      exact ⟨vs13, l14, Option.some.inj hm, hs.sub ⟨rfl, rfl, rfl, rfl, trivial⟩, hM⟩
    · rewrite [impl_usesOf_l1] at hm
      have hsj12 := cnt_succ hj12 hnck
      refine wp_seq ?_
      refine wp_region_lit ?_
      refine wl hs (y_lss hs rfl rfl) rfl ?_; intro a hs
      refine wpList_nil ?_
      refine x_nt ?_
      refine wp_seq ?_
      refine x_condT hs rfl (cnt_t hj12) ?_
      refine wp_skip ?_
      refine x_nt ?_
      refine wp_seq ?_
      refine wp_block ?_
      refine wp_seq ?_
      refine wp_region_lit ?_
      refine wl hs (y_move hs rfl) rfl ?_; intro a hs
      refine wl hs (y_assign hs rfl) rfl ?_; intro a hs
      refine wpList_nil ?_
      refine x_nt ?_
      refine wc_start hmix [0, 1, 2, 3] (fun w => Mem W w [aBlk g11 3 [.int .i64 0], aBlk g9 22 [v6], aMat 23 3 v6 vs13 l14, aBlk g4 55 [.int .i64 p1_0, v_p1_1], aBlk g2 22 [v_p0]]) (by rfl) ?_
      refine wc (i := 0) (fuel := 6) rfl (by kernel_rfl) (fun w w2 hS hE => hS.quiet hE) hM hs (fun w1 hS => y_load sc_M hs rfl (hS.cellBlk 1 rfl 0 rfl)) rfl ?_; intro a hs
      refine wc (i := 1) (fuel := 5) rfl (by kernel_rfl) (fun w w2 hS hE => hS.quiet hE) hM hs (fun w1 hS => y_move hs rfl) rfl ?_; intro a hs
      refine wc (i := 2) (fuel := 4) rfl (by kernel_rfl) (fun w w2 hS hE => hS.quiet hE) hM hs (fun w1 hS => y_load sc_M hs rfl (hS.cellBlk 4 rfl 0 rfl)) rfl ?_; intro a hs
      refine wc (i := 3) (fuel := 3) rfl (by kernel_rfl) (fun w w2 hS hE => hS.quiet hE) hM hs (fun w1 hS => y_len hu_M hs rfl (RdM.below hr_p0 hS.bel)) rfl ?_; intro a hs
      refine wc_oneS (fuel := 2) 4 rfl (by kernel_rfl) ?_
      intro w hw
      replace hM := hM.quiet hw
      obtain ⟨_, h22, hm⟩ := bindE hm
      refine wmem hs (x_makeI hu_I he_int hs rfl hM h22) rfl ?_; intro a v21 w hs hM
      have hM : Mem W w [aInts 3 v21 (List.replicate ((p0.length : Int)).toNat (0 : Int)), aBlk g11 3 [.int .i64 0], aBlk g9 22 [v6], aMat 23 3 v6 vs13 l14, aBlk g4 55 [.int .i64 p1_0, v_p1_1], aBlk g2 22 [v_p0]] := hM
      refine on_nil ⟨hM.drop, ?_⟩
      refine wc_one (fuel := 1) 5 rfl (by kernel_rfl) ?_
      intro w hw
      replace hM := hM.quiet hw
      obtain ⟨x23, hx24, hm⟩ := bindE hm
      obtain ⟨u26, hv27, he25⟩ := hM.atM 3 rfl hx24
      refine wl hs (y_index ht_M hs rfl rfl he25) rfl ?_; intro a hs
      refine on_nil ?_
      refine wc_one (fuel := 0) 6 rfl (by kernel_rfl) ?_
      intro w hw
      replace hM := hM.quiet hw
      replace he25 := he25.below hw
      obtain ⟨l28, h29, hm⟩ := bindE hm
      refine wstore hs rfl rfl (x_storeR he_I ((((((hM.front 5 rfl).front 5 rfl).front 4 rfl).front 4 rfl).front 4 rfl).front 5 rfl) h29) ?_; intro w hM
      have hM : Mem W w [aMat 23 3 v6 (vs13.set ((j12 : Int)).toNat v21) l28, aBlk g11 3 [.int .i64 0], aBlk g9 22 [v6], aBlk g4 55 [.int .i64 p1_0, v_p1_1], aBlk g2 22 [v_p0]] := hM
      refine on_nil ?_
      refine wc_done (by kernel_rfl) ?_
      intro w hw
      replace hM := hM.quiet hw
      refine x_nb ?_
      refine x_nt ?_
      refine wp_region_lit ?_
      refine wl hs (y_add hs rfl rfl hsj12) rfl ?_; intro a hs
      refine wl hs (y_move hs rfl) rfl ?_; intro a hs
      refine wpList_nil ?_
      exact ⟨_, Nat.lt_succ_self _, q19, j12 + 1, (vs13.set ((j12 : Int)).toNat v21), l28, rfl, hs.sub ⟨rfl, rfl, rfl, rfl, rfl, rfl, trivial⟩, (((((hM.front 4 rfl).front 4 rfl).front 2 rfl).front 4 rfl).front 4 rfl), hm, cnt_next hj12⟩
  rintro a w ⟨vs15, l16, rfl, hs, hM⟩
  have hm := hk18
  refine x_nt ?_
  refine wp_seq ?_
  refine wp_region_lit ?_
  refine wl hs (y_load sc_M hs rfl (hM.cellBlk 4 rfl 0 rfl)) rfl ?_; intro a hs
  refine wl hs (y_len hu_M hs rfl (RdM.below hr_p0 hM.bel)) rfl ?_; intro a hs
  refine wl hs (y_makeFunc hs rfl) rfl ?_; intro a hs
  obtain ⟨y30, h31, hm⟩ := bindE hm
  refine wcall is_86 hs rfl rfl (impl_permutations_uses_any (p0.length : Int) g2 v_p0 p0 g4 p1_0 v_p1_1 p1_1 g11 0 g9 v6 l16 vs15 _ _ _ hr_p0 hr_p1_1 (((((hM.front 2 rfl).front 2 rfl).front 2 rfl).front 3 rfl).front 4 rfl) h31) ?_; rintro a _ w hs ⟨v32, vs33, rfl, hM⟩
  have hM : Mem W w [aBlk g2 22 [v_p0], aBlk g4 55 [.int .i64 p1_0, v_p1_1], aBlk g11 3 [.int .i64 y30.1], aBlk g9 22 [v32], aMat 23 3 v32 vs33 y30.2] := hM
  refine wpList_nil ?_
  refine x_nt ?_
  refine wp_seq ?_
  refine x_regq hmix (by kernel_rfl) ?_
  refine wq hs (fun w1 hw1 => y_load sc_M hs rfl ((hM.quiet hw1).cellBlk 3 rfl 0 rfl)) rfl ?_; intro a hs
  refine wq hs (fun w1 hw1 => y_load sc_int hs rfl ((hM.quiet hw1).cellBlk 2 rfl 0 rfl)) rfl ?_; intro a hs
  refine wq hs (fun w1 hw1 => y_assign hs rfl) rfl ?_; intro a hs
  refine wq hs (fun w1 hw1 => y_assign hs rfl) rfl ?_; intro a hs
  refine wpQuiet_nil ?_
  intro w hw
  replace hM := hM.quiet hw
  refine x_nt ?_
  refine wp_ret ?_
  have hm : some (y30.2, y30.1) = some r := hm
  obtain rfl := Option.some.inj hm
  refine x_ret2 rfl hs rfl rfl ⟨_, rfl, ?_⟩
  exact ⟨_, _, rfl, hM.drop.drop.drop.drop⟩

theorem impl_CountBest_any (v_p0 : Value) (p0 : List (List Int)) (W : World) (hr_p0 : RdM W v_p0 p0) {r : Int × Bool} (hm : impl_CountBest_m p0 = some r) : Calls Try.prog 23 [v_p0].toArray W fun e w => ∃ v, e = .returned v ∧ v = .tuple #[.int .i64 r.1, .bool r.2] ∧ Mem W w [] := by
  refine x_enter Try.func23 rfl Try.ntmps23 rfl ?_
  intro a hs
  have hM := Mem.start W
  unfold impl_CountBest_m at hm
  refine wp_seq ?_
  refine wp_region_lit ?_
  refine wl hs (y_assign hs rfl) rfl ?_; intro a hs
  refine wl hs (y_assign hs rfl) rfl ?_; intro a hs
  refine wpList_nil ?_
  refine x_nt ?_
  refine wp_seq ?_
  refine wp_region_lit ?_
  refine wl hs (y_move hs rfl) rfl ?_; intro a hs
  obtain ⟨y1, h2, hm⟩ := bindE hm
  refine wcall is_58 hs rfl rfl (impl_bestAsked_any v_p0 p0 _ (RdM.below hr_p0 hM.bel) h2) ?_; rintro a _ w hs ⟨v5, rfl, hX⟩
  have hM : Mem W w [aInts 3 v5 y1.2.1] := hM.call hX
  refine wl hs (y_move hs rfl) rfl ?_; intro a hs
  refine wl hs (y_extract hs rfl rfl) rfl ?_; intro a hs
  refine wl hs (y_extract hs rfl rfl) rfl ?_; intro a hs
  refine wmem hs (x_allocS sT_55 hM) rfl ?_; rintro a _ w hs ⟨g7, rfl, hM⟩
  have hM : Mem W w [aBlk g7 55 [.int .i64 0, .slice none 0 0], aInts 3 v5 y1.2.1] := hM
  refine wstore hs rfl rfl (x_storeS (cs := [.int .i64 0, .slice none 0 0]) (us := [.int .i64 y1.1, v5]) sT_55 ⟨rfl, (Mem.one (hM.front 1 rfl)), trivial⟩ rfl rfl (hM.front 0 rfl)) ?_; intro w hM
  have hM : Mem W w [aBlk g7 55 [.int .i64 y1.1, v5], aInts 3 v5 y1.2.1] := hM
  refine wl hs (y_assign hs rfl) rfl ?_; intro a hs
  refine wpList_nil ?_
  refine x_nt ?_
  refine wp_seq ?_
  refine wp_seq ?_
  refine wp_region_lit ?_
  refine wl hs (y_move hs rfl) rfl ?_; intro a hs
  refine wl hs (y_not hs rfl) rfl ?_; intro a hs
  refine wpList_nil ?_
  refine x_nt ?_
  refine x_cond hs rfl (fun hb => ?_) (fun hb => ?_)
  · replace hm := condT hb hm
    refine wp_seq ?_
    refine wp_region_lit ?_
    refine wl hs (y_assign hs rfl) rfl ?_; intro a hs
    refine wl hs (y_assign hs rfl) rfl ?_; intro a hs
    refine wpList_nil ?_
    refine x_nt ?_
    refine wp_ret ?_
    refine x_rt ?_
    have hm : some (0, false) = some r := hm
    obtain rfl := Option.some.inj hm
    refine x_ret2 rfl hs rfl rfl ⟨_, rfl, ?_⟩
    exact ⟨rfl, hM.none_⟩
  · replace hm := condF hb hm
    refine wp_skip ?_
    refine x_nt ?_
    refine wp_seq ?_
    refine wp_region_lit ?_
    refine wl hs (y_move hs rfl) rfl ?_; intro a hs
    refine wl hs (y_loadS (cs := [.int .i64 y1.1, v5]) sT_55 hs rfl (hM.heapBlk 0 rfl) rfl) rfl ?_; intro a hs
    obtain ⟨y8, h9, hm⟩ := bindE hm
    refine wcall is_59 hs rfl rfl (impl_usesOf_any v_p0 p0 y1.1 v5 y1.2.1 _ (RdM.below hr_p0 hM.bel) (hM.rdI 1 rfl) h9) ?_; rintro a _ w hs ⟨v12, vs13, rfl, hX⟩
    have hM : Mem W w [aMat 23 3 v12 vs13 y8.1, aBlk g7 55 [.int .i64 y1.1, v5], aInts 3 v5 y1.2.1] := hM.call hX
    refine wl hs (y_move hs rfl) rfl ?_; intro a hs
    refine wl hs (y_extract hs rfl rfl) rfl ?_; intro a hs
    refine wl hs (y_extract hs rfl rfl) rfl ?_; intro a hs
    refine wl hs (y_assign hs rfl) rfl ?_; intro a hs
    refine wl hs (y_assign hs rfl) rfl ?_; intro a hs
    refine wpList_nil ?_
    refine x_nt ?_
    refine wp_seq ?_
    refine wp_region_lit ?_
    refine wl hs (y_move hs rfl) rfl ?_; intro a hs
    refine wl hs (y_assign hs rfl) rfl ?_; intro a hs
    refine wl hs (y_assign hs rfl) rfl ?_; intro a hs
    refine wpList_nil ?_
    refine x_nt ?_
    refine wp_ret ?_
    have hm : some (y8.2, true) = some r := hm
    obtain rfl := Option.some.inj hm
    refine x_ret2 rfl hs rfl rfl ⟨_, rfl, ?_⟩
    exact ⟨rfl, hM.none_⟩

theorem impl_ForcedPairs_1_any (p0 : Int) (p1 : Int) (W : World)  {r : Bool} (hm : impl_ForcedPairs_1_m p0 p1 = some r) : Calls Try.prog 72 [.int .i64 p0, .int .i64 p1].toArray W fun e w => ∃ v, e = .returned v ∧ v = .bool r ∧ Mem W w [] := by
  refine x_enter Try.func72 rfl Try.ntmps72 rfl ?_
  intro a hs
  have hM := Mem.start W
  unfold impl_ForcedPairs_1_m at hm
  refine wp_seq ?_
  refine wp_region_lit ?_
  refine wl hs (y_assign hs rfl) rfl ?_; intro a hs
  refine wpList_nil ?_
  refine x_nt ?_
  refine wp_seq ?_
  refine wp_region_lit ?_
  refine wl hs (y_move hs rfl) rfl ?_; intro a hs
  refine wl hs (y_move hs rfl) rfl ?_; intro a hs
  refine wl hs (y_eql hs rfl rfl) rfl ?_; intro a hs
  refine wl hs (y_assign hs rfl) rfl ?_; intro a hs
  refine wpList_nil ?_
  refine x_nt ?_
  refine wp_ret ?_
  have hm : some (p0 == p1) = some r := hm
  obtain rfl := Option.some.inj hm
  refine x_ret1 rfl hs rfl ⟨_, rfl, ?_⟩
  exact ⟨rfl, hM⟩

set_option maxHeartbeats 4000000 in
theorem impl_pairsUsed_forced_any (v_p0 : Value) (p0 : List (List Int)) (W : World) (hr_p0 : RdM W v_p0 p0) {r : (List (List Int)) × Bool} (hm : impl_pairsUsed_forced_m p0 = some r) : Calls Try.prog 71 [v_p0, .func (.func 72) #[] #[]].toArray W fun e w => ∃ v, e = .returned v ∧ ∃ v0, ∃ vs0, v = .tuple #[v0, .bool r.2] ∧ Mem W w [aMat 23 3 v0 vs0 r.1] := by
  refine x_enter Try.func71 rfl Try.ntmps71 rfl ?_
  intro a hs
  have hM := Mem.start W
  unfold impl_pairsUsed_forced_m at hm
  refine wp_seq ?_
  refine wp_region_lit ?_
  refine wl hs (y_assign hs rfl) rfl ?_; intro a hs
  refine wl hs (y_assign hs rfl) rfl ?_; intro a hs
  refine wpList_nil ?_
  refine x_nt ?_
  refine wp_seq ?_
  refine wp_region_lit ?_
  refine wl hs (y_move hs rfl) rfl ?_; intro a hs
  obtain ⟨y1, h2, hm⟩ := bindE hm
  refine wcall is_58 hs rfl rfl (impl_bestAsked_any v_p0 p0 _ (RdM.below hr_p0 hM.bel) h2) ?_; rintro a _ w hs ⟨v5, rfl, hX⟩
  have hM : Mem W w [aInts 3 v5 y1.2.1] := hM.call hX
  refine wl hs (y_move hs rfl) rfl ?_; intro a hs
  refine wl hs (y_extract hs rfl rfl) rfl ?_; intro a hs
  refine wl hs (y_extract hs rfl rfl) rfl ?_; intro a hs
  refine wmem hs (x_allocS sT_55 hM) rfl ?_; rintro a _ w hs ⟨g7, rfl, hM⟩
  have hM : Mem W w [aBlk g7 55 [.int .i64 0, .slice none 0 0], aInts 3 v5 y1.2.1] := hM
  refine wstore hs rfl rfl (x_storeS (cs := [.int .i64 0, .slice none 0 0]) (us := [.int .i64 y1.1, v5]) sT_55 ⟨rfl, (Mem.one (hM.front 1 rfl)), trivial⟩ rfl rfl (hM.front 0 rfl)) ?_; intro w hM
  have hM : Mem W w [aBlk g7 55 [.int .i64 y1.1, v5], aInts 3 v5 y1.2.1] := hM
  refine wl hs (y_assign hs rfl) rfl ?_; intro a hs
  refine wpList_nil ?_
  refine x_nt ?_
  refine wp_seq ?_
  refine wp_seq ?_
  refine wp_region_lit ?_
  refine wl hs (y_move hs rfl) rfl ?_; intro a hs
  refine wl hs (y_not hs rfl) rfl ?_; intro a hs
  refine wpList_nil ?_
  refine x_nt ?_
  refine x_cond hs rfl (fun hb => ?_) (fun hb => ?_)
  · replace hm := condT hb hm
    refine wp_seq ?_
    refine wp_region_lit ?_
    refine wl hs (y_assign hs rfl) rfl ?_; intro a hs
    refine wl hs (y_assign hs rfl) rfl ?_; intro a hs
    refine wpList_nil ?_
    refine x_nt ?_
    refine wp_ret ?_
    refine x_rt ?_
    have hm : some ([], false) = some r := hm
    obtain rfl := Option.some.inj hm
    refine x_ret2 rfl hs rfl rfl ⟨_, rfl, ?_⟩
    have hM := hM.nilM 23 3
    exact ⟨_, _, rfl, (hM.keep_ 1)⟩
  · replace hm := condF hb hm
    refine wp_skip ?_
    refine x_nt ?_
    refine wp_seq ?_
    refine wp_region_lit ?_
    refine wl hs (y_move hs rfl) rfl ?_; intro a hs
    refine wl hs (y_loadS (cs := [.int .i64 y1.1, v5]) sT_55 hs rfl (hM.heapBlk 0 rfl) rfl) rfl ?_; intro a hs
    obtain ⟨y9, h10, hm⟩ := bindE hm
    refine wcall is_59 hs rfl rfl (impl_usesOf_any v_p0 p0 y1.1 v5 y1.2.1 _ (RdM.below hr_p0 hM.bel) (hM.rdI 1 rfl) h10) ?_; rintro a _ w hs ⟨v13, vs14, rfl, hX⟩
    have hM : Mem W w [aMat 23 3 v13 vs14 y9.1, aBlk g7 55 [.int .i64 y1.1, v5], aInts 3 v5 y1.2.1] := hM.call hX
    refine wl hs (y_move hs rfl) rfl ?_; intro a hs
    refine wl hs (y_extract hs rfl rfl) rfl ?_; intro a hs
    refine wl hs (y_extract hs rfl rfl) rfl ?_; intro a hs
    refine wl hs (y_assign hs rfl) rfl ?_; intro a hs
    refine wl hs (y_assign hs rfl) rfl ?_; intro a hs
    refine wpList_nil ?_
    refine x_nt ?_
    refine wp_seq ?_
    refine wp_region_lit ?_
    refine wmem hs (x_new0M (ti := 3) ht_M hM) rfl ?_; intro a v16 w hs hM
    have hM : Mem W w [aMat 23 3 v16 ([]) ([]), aMat 23 3 v13 vs14 y9.1, aBlk g7 55 [.int .i64 y1.1, v5], aInts 3 v5 y1.2.1] := hM
    refine wl hs (y_assign hs rfl) rfl ?_; intro a hs
    refine wpList_nil ?_
    refine x_nt ?_
    refine wp_seq ?_
    refine wp_seq ?_
    refine wp_region_lit ?_
    refine wl hs (y_move hs rfl) rfl ?_; intro a hs
    refine wl hs (y_len hu_M hs rfl (hM.rdM 1 rfl)) rfl ?_; intro a hs
    refine wl hs (y_move hs rfl) rfl ?_; intro a hs
    refine wpList_nil ?_
    refine x_nt ?_
    obtain ⟨s24, hm, hk25⟩ := bindE hm
    refine x_mid (fun a w => ∃ (v21 : Value), ∃ (vs22 : List Value), ∃ (l23 : List (List Int)), l23 = s24 ∧ Fr a 56 [(10, v21)] ∧ Mem W w [aMat 23 3 v21 vs22 l23]) ?_ ?_
    · refine wp_block ?_
      refine x_loop (fun k a w => ∃ (q26 : List (List Int)) (j17 : Nat) (v18 : Value) (vs19 : List Value) (l20 : List (List Int)) , k = q26.length ∧ Fr a 56 [(1, .func (.func 72) #[] #[]), (9, .int .i64 y9.2), (10, v18), (29, v13), (30, .int .i64 (y9.1.length : Int)), (31, .int .i64 (j17 : Int))] ∧ Mem W w [aMat 23 3 v18 vs19 l20, aMat 23 3 v13 vs14 y9.1] ∧ impl_pairsUsed_forced_l1 y9 q26 j17 l20 = some s24 ∧ List.drop j17 y9.1 = q26) _ ⟨y9.1, 0, v16, [], [], rfl, hs.sub ⟨rfl, rfl, rfl, rfl, rfl, rfl, trivial⟩, (hM.keep_ 2), hm, rfl⟩ ?_
      rintro k a w ⟨q26, j17, v18, vs19, l20, rfl, hs, hM, hm, hj17⟩
      rcases q26 with _ | ⟨x27, q26⟩
      · rewrite [impl_pairsUsed_forced_l1] at hm
        refine wp_seq ?_
        refine wp_region_lit ?_
        refine wl hs (y_lss hs rfl rfl) rfl ?_; intro a hs
        refine wpList_nil ?_
        refine x_nt ?_
        refine wp_seq ?_
        refine x_condF hs rfl (drop_f hj17) ?_
        refine wp_exit ?_
        refine x_et ?_
        refine x_et ?_
        refine x_eb ?_
        have hm : some l20 = some s24 := hm
        exact ⟨v18, vs19, l20, Option.some.inj hm, hs.sub ⟨rfl, trivial⟩, (hM.keep_ 1)⟩
      · rewrite [impl_pairsUsed_forced_l1] at hm
        have hx28 := drop_idx hj17
        have hsj17 := ck_succ hj17 (RdS.len (hM.rdM 1 rfl))
        refine wp_seq ?_
        refine wp_region_lit ?_
        refine wl hs (y_lss hs rfl rfl) rfl ?_; intro a hs
        refine wpList_nil ?_
        refine x_nt ?_
        refine wp_seq ?_
        refine x_condT hs rfl (drop_t hj17) ?_
        refine wp_skip ?_
        refine x_nt ?_
        refine wp_seq ?_
        refine wp_block ?_
        refine wp_seq ?_
        refine wp_region_lit ?_
        refine wl hs (y_move hs rfl) rfl ?_; intro a hs
        obtain ⟨u30, hv31, he29⟩ := hM.atM 1 rfl hx28
        refine wl hs (y_index ht_M hs rfl rfl he29) rfl ?_; intro a hs
        refine wl hs (y_load sc_I hs rfl he29.cell) rfl ?_; intro a hs
        refine wl hs (y_assign hs rfl) rfl ?_; intro a hs
        refine wl hs (y_assign hs rfl) rfl ?_; intro a hs
        refine wpList_nil ?_
        refine x_nt ?_
        refine wp_seq ?_
        refine wp_region_lit ?_
        refine wl hs (y_move hs rfl) rfl ?_; intro a hs
        refine wl hs (y_len hu_I hs rfl (hM.rdRow 1 rfl rfl hv31 (idx_spec hx28).2.2)) rfl ?_; intro a hs
        refine wl hs (y_move hs rfl) rfl ?_; intro a hs
        refine wpList_nil ?_
        refine x_nt ?_
        obtain ⟨s39, hm, hk40⟩ := bindE hm
        refine x_mid (fun a w => ∃ (v36 : Value), ∃ (vs37 : List Value), ∃ (l38 : List (List Int)), l38 = s39 ∧ Fr a 56 [(1, .func (.func 72) #[] #[]), (9, .int .i64 y9.2), (10, v36), (29, v13), (30, .int .i64 (y9.1.length : Int)), (31, .int .i64 (j17 : Int))] ∧ Mem W w [aMat 23 3 v36 vs37 l38, aMat 23 3 v13 vs14 y9.1]) ?_ ?_
        · refine wp_block ?_
          refine x_loop (fun k a w => ∃ (q41 : List Int) (j32 : Nat) (v33 : Value) (vs34 : List Value) (l35 : List (List Int)) , k = q41.length ∧ Fr a 56 [(1, .func (.func 72) #[] #[]), (9, .int .i64 y9.2), (10, v33), (11, .int .i64 (j17 : Int)), (29, v13), (30, .int .i64 (y9.1.length : Int)), (31, .int .i64 (j17 : Int)), (36, u30), (37, .int .i64 (x27.length : Int)), (38, .int .i64 (j32 : Int))] ∧ Mem W w [aMat 23 3 v33 vs34 l35, aMat 23 3 v13 vs14 y9.1] ∧ impl_pairsUsed_forced_l2 y9 j17 q41 j32 l35 = some s39 ∧ List.drop j32 x27 = q41) _ ⟨x27, 0, v18, vs19, l20, rfl, hs.sub ⟨rfl, rfl, rfl, rfl, rfl, rfl, rfl, rfl, rfl, rfl, trivial⟩, hM, hm, rfl⟩ ?_
          rintro k a w ⟨q41, j32, v33, vs34, l35, rfl, hs, hM, hm, hj32⟩
          rcases q41 with _ | ⟨x42, q41⟩
          · rewrite [impl_pairsUsed_forced_l2] at hm
            refine wp_seq ?_
            refine wp_region_lit ?_
            refine wl hs (y_lss hs rfl rfl) rfl ?_; intro a hs
            refine wpList_nil ?_
            refine x_nt ?_
            refine wp_seq ?_
            refine x_condF hs rfl (drop_f hj32) ?_
            refine wp_exit ?_
            refine x_et ?_
            refine x_et ?_
            refine x_eb ?_
            have hm : some l35 = some s39 := hm
            exact ⟨v33, vs34, l35, Option.some.inj hm, hs.sub ⟨rfl, rfl, rfl, rfl, rfl, rfl, trivial⟩, hM⟩
          · rewrite [impl_pairsUsed_forced_l2] at hm
            have hx43 := drop_idx hj32
            have hsj32 := ck_succ hj32 (RdS.len (hM.rdRow 1 rfl rfl hv31 (idx_spec hx28).2.2))
            refine wp_seq ?_
            refine wp_region_lit ?_
            refine wl hs (y_lss hs rfl rfl) rfl ?_; intro a hs
            refine wpList_nil ?_
            refine x_nt ?_
            refine wp_seq ?_
            refine x_condT hs rfl (drop_t hj32) ?_
            refine wp_skip ?_
            refine x_nt ?_
            refine wp_seq ?_
            refine wp_block ?_
            refine wp_seq ?_
            refine wp_region_lit ?_
            refine wl hs (y_move hs rfl) rfl ?_; intro a hs
            have he44 := RdI.at_ (hM.rdRow 1 rfl rfl hv31 (idx_spec hx28).2.2) hx43
            refine wl hs (y_index ht_I hs rfl rfl he44) rfl ?_; intro a hs
            refine wl hs (y_load sc_int hs rfl he44.cell) rfl ?_; intro a hs
            refine wl hs (y_assign hs rfl) rfl ?_; intro a hs
            refine wl hs (y_assign hs rfl) rfl ?_; intro a hs
            refine wpList_nil ?_
            refine x_nt ?_
            refine wp_seq ?_
            refine wp_region_lit ?_
            refine wl hs (y_move hs rfl) rfl ?_; intro a hs
            refine wl hs (y_move hs rfl) rfl ?_; intro a hs
            refine wl hs (y_move hs rfl) rfl ?_; intro a hs
            obtain ⟨y45, h46, hm⟩ := bindE hm
            refine wcallv is_72 hs rfl rfl rfl (impl_ForcedPairs_1_any x42 y9.2 _  h46) ?_; rintro a _ w hs ⟨rfl, hX⟩
            have hM : Mem W w [aMat 23 3 v33 vs34 l35, aMat 23 3 v13 vs14 y9.1] := hM.call hX
            refine wpList_nil ?_
            refine x_nt ?_
            refine x_cond hs rfl (fun hb => ?_) (fun hb => ?_)
            · replace hm := condT hb hm
              refine wp_region_lit ?_
              refine wl hs (y_move hs rfl) rfl ?_; intro a hs
              refine wl hs (y_move hs rfl) rfl ?_; intro a hs
              refine wl hs (y_move hs rfl) rfl ?_; intro a hs
              refine wmem hs (x_new2I hu_I he_int hs rfl rfl hM) rfl ?_; intro a v48 w hs hM
              have hM : Mem W w [aInts 3 v48 ([(j17 : Int), (j32 : Int)]), aMat 23 3 v33 vs34 l35, aMat 23 3 v13 vs14 y9.1] := hM
              obtain ⟨l49, h50, hm⟩ := bindE hm
              refine wappM hu_M he_I hs (((hM.front 2 rfl).front 1 rfl).front 2 rfl) rfl rfl h50 rfl rfl rfl ?_; intro a v51 w u52 hs hM
              have hM : Mem W w [aMat 23 3 v51 (vs34 ++ [v48]) l49, aMat 23 3 v13 vs14 y9.1] := hM
              refine wl hs (y_assign hs rfl) rfl ?_; intro a hs
              refine wpList_nil ?_
              refine x_nb ?_
              refine x_nt ?_
              refine wp_region_lit ?_
              refine wl hs (y_add hs rfl rfl hsj32) rfl ?_; intro a hs
              refine wl hs (y_move hs rfl) rfl ?_; intro a hs
              refine wpList_nil ?_
              exact ⟨_, by simp, q41, j32 + 1, v51, (vs34 ++ [v48]), l49, rfl, hs.sub ⟨rfl, rfl, rfl, rfl, rfl, rfl, rfl, rfl, rfl, rfl, trivial⟩, hM, hm, drop_next hj32⟩
            · replace hm := condF hb hm
              refine wp_skip ?_
              refine x_nb ?_
              refine x_nt ?_
              refine wp_region_lit ?_
              refine wl hs (y_add hs rfl rfl hsj32) rfl ?_; intro a hs
              refine wl hs (y_move hs rfl) rfl ?_; intro a hs
              refine wpList_nil ?_
              exact ⟨_, by simp, q41, j32 + 1, v33, vs34, l35, rfl, hs.sub ⟨rfl, rfl, rfl, rfl, rfl, rfl, rfl, rfl, rfl, rfl, trivial⟩, hM, hm, drop_next hj32⟩
        rintro a w ⟨v36, vs37, l38, rfl, hs, hM⟩
        have hm := hk40
        refine x_nb ?_
        refine x_nt ?_
        refine wp_region_lit ?_
        refine wl hs (y_add hs rfl rfl hsj17) rfl ?_; intro a hs
        refine wl hs (y_move hs rfl) rfl ?_; intro a hs
        refine wpList_nil ?_
        exact ⟨_, by simp, q26, j17 + 1, v36, vs37, l38, rfl, hs.sub ⟨rfl, rfl, rfl, rfl, rfl, rfl, trivial⟩, hM, hm, drop_next hj17⟩
    rintro a w ⟨v21, vs22, l23, rfl, hs, hM⟩
    have hm := hk25
    refine x_nt ?_
    refine wp_seq ?_
    refine wp_region_lit ?_
    refine wl hs (y_move hs rfl) rfl ?_; intro a hs
    refine wl hs (y_assign hs rfl) rfl ?_; intro a hs
    refine wl hs (y_assign hs rfl) rfl ?_; intro a hs
    refine wpList_nil ?_
    refine x_nt ?_
    refine wp_ret ?_
    have hm : some (l23, true) = some r := hm
    obtain rfl := Option.some.inj hm
    refine x_ret2 rfl hs rfl rfl ⟨_, rfl, ?_⟩
    exact ⟨_, _, rfl, hM⟩

theorem impl_ForcedPairs_any (v_p0 : Value) (p0 : List (List Int)) (W : World) (hr_p0 : RdM W v_p0 p0) {r : (List (List Int)) × Bool} (hm : impl_ForcedPairs_m p0 = some r) : Calls Try.prog 34 [v_p0].toArray W fun e w => ∃ v, e = .returned v ∧ ∃ v0, ∃ vs0, v = .tuple #[v0, .bool r.2] ∧ Mem W w [aMat 23 3 v0 vs0 r.1] := by
  refine x_enter Try.func34 rfl Try.ntmps34 rfl ?_
  intro a hs
  have hM := Mem.start W
  unfold impl_ForcedPairs_m at hm
  refine wp_seq ?_
  refine wp_region_lit ?_
  refine wl hs (y_assign hs rfl) rfl ?_; intro a hs
  refine wl hs (y_assign hs rfl) rfl ?_; intro a hs
  refine wpList_nil ?_
  refine x_nt ?_
  refine wp_seq ?_
  refine wp_region_lit ?_
  refine wl hs (y_move hs rfl) rfl ?_; intro a hs
  obtain ⟨y1, h2, hm⟩ := bindE hm
  refine wcall is_71 hs rfl rfl (impl_pairsUsed_forced_any v_p0 p0 _ (RdM.below hr_p0 hM.bel) h2) ?_; rintro a _ w hs ⟨v5, vs6, rfl, hX⟩
  have hM : Mem W w [aMat 23 3 v5 vs6 y1.1] := hM.call hX
  refine wl hs (y_extract hs rfl rfl) rfl ?_; intro a hs
  refine wl hs (y_extract hs rfl rfl) rfl ?_; intro a hs
  refine wl hs (y_assign hs rfl) rfl ?_; intro a hs
  refine wl hs (y_assign hs rfl) rfl ?_; intro a hs
  refine wpList_nil ?_
  refine x_nt ?_
  refine wp_ret ?_
  have hm : some (y1.1, y1.2) = some r := hm
  obtain rfl := Option.some.inj hm
  refine x_ret2 rfl hs rfl rfl ⟨_, rfl, ?_⟩
  exact ⟨_, _, rfl, hM⟩

theorem impl_PossiblePairs_1_any (p0 : Int) (p1 : Int) (W : World)  {r : Bool} (hm : impl_PossiblePairs_1_m p0 p1 = some r) : Calls Try.prog 74 [.int .i64 p0, .int .i64 p1].toArray W fun e w => ∃ v, e = .returned v ∧ v = .bool r ∧ Mem W w [] := by
  refine x_enter Try.func74 rfl Try.ntmps74 rfl ?_
  intro a hs
  have hM := Mem.start W
  unfold impl_PossiblePairs_1_m at hm
  refine wp_seq ?_
  refine wp_region_lit ?_
  refine wl hs (y_assign hs rfl) rfl ?_; intro a hs
  refine wpList_nil ?_
  refine x_nt ?_
  refine wp_seq ?_
  refine wp_region_lit ?_
  refine wl hs (y_move hs rfl) rfl ?_; intro a hs
  refine wl hs (y_gtr hs rfl rfl) rfl ?_; intro a hs
  refine wl hs (y_assign hs rfl) rfl ?_; intro a hs
  refine wpList_nil ?_
  refine x_nt ?_
  refine wp_ret ?_
  have hm : some (decide (p0 > 0)) = some r := hm
  obtain rfl := Option.some.inj hm
  refine x_ret1 rfl hs rfl ⟨_, rfl, ?_⟩
  exact ⟨rfl, hM⟩

set_option maxHeartbeats 4000000 in
theorem impl_pairsUsed_possible_any (v_p0 : Value) (p0 : List (List Int)) (W : World) (hr_p0 : RdM W v_p0 p0) {r : (List (List Int)) × Bool} (hm : impl_pairsUsed_possible_m p0 = some r) : Calls Try.prog 71 [v_p0, .func (.func 74) #[] #[]].toArray W fun e w => ∃ v, e = .returned v ∧ ∃ v0, ∃ vs0, v = .tuple #[v0, .bool r.2] ∧ Mem W w [aMat 23 3 v0 vs0 r.1] := by
  refine x_enter Try.func71 rfl Try.ntmps71 rfl ?_
  intro a hs
  have hM := Mem.start W
  unfold impl_pairsUsed_possible_m at hm
  refine wp_seq ?_
  refine wp_region_lit ?_
  refine wl hs (y_assign hs rfl) rfl ?_; intro a hs
  refine wl hs (y_assign hs rfl) rfl ?_; intro a hs
  refine wpList_nil ?_
  refine x_nt ?_
  refine wp_seq ?_
  refine wp_region_lit ?_
  refine wl hs (y_move hs rfl) rfl ?_; intro a hs
  obtain ⟨y1, h2, hm⟩ := bindE hm
  refine wcall is_58 hs rfl rfl (impl_bestAsked_any v_p0 p0 _ (RdM.below hr_p0 hM.bel) h2) ?_; rintro a _ w hs ⟨v5, rfl, hX⟩
  have hM : Mem W w [aInts 3 v5 y1.2.1] := hM.call hX
  refine wl hs (y_move hs rfl) rfl ?_; intro a hs
  refine wl hs (y_extract hs rfl rfl) rfl ?_; intro a hs
  refine wl hs (y_extract hs rfl rfl) rfl ?_; intro a hs
  refine wmem hs (x_allocS sT_55 hM) rfl ?_; rintro a _ w hs ⟨g7, rfl, hM⟩
  have hM : Mem W w [aBlk g7 55 [.int .i64 0, .slice none 0 0], aInts 3 v5 y1.2.1] := hM
  refine wstore hs rfl rfl (x_storeS (cs := [.int .i64 0, .slice none 0 0]) (us := [.int .i64 y1.1, v5]) sT_55 ⟨rfl, (Mem.one (hM.front 1 rfl)), trivial⟩ rfl rfl (hM.front 0 rfl)) ?_; intro w hM
  have hM : Mem W w [aBlk g7 55 [.int .i64 y1.1, v5], aInts 3 v5 y1.2.1] := hM
  refine wl hs (y_assign hs rfl) rfl ?_; intro a hs
  refine wpList_nil ?_
  refine x_nt ?_
  refine wp_seq ?_
  refine wp_seq ?_
  refine wp_region_lit ?_
  refine wl hs (y_move hs rfl) rfl ?_; intro a hs
  refine wl hs (y_not hs rfl) rfl ?_; intro a hs
  refine wpList_nil ?_
  refine x_nt ?_
  refine x_cond hs rfl (fun hb => ?_) (fun hb => ?_)
  · replace hm := condT hb hm
    refine wp_seq ?_
    refine wp_region_lit ?_
    refine wl hs (y_assign hs rfl) rfl ?_; intro a hs
    refine wl hs (y_assign hs rfl) rfl ?_; intro a hs
    refine wpList_nil ?_
    refine x_nt ?_
    refine wp_ret ?_
    refine x_rt ?_
    have hm : some ([], false) = some r := hm
    obtain rfl := Option.some.inj hm
    refine x_ret2 rfl hs rfl rfl ⟨_, rfl, ?_⟩
    have hM := hM.nilM 23 3
    exact ⟨_, _, rfl, (hM.keep_ 1)⟩
  · replace hm := condF hb hm
    refine wp_skip ?_
    refine x_nt ?_
    refine wp_seq ?_
    refine wp_region_lit ?_
    refine wl hs (y_move hs rfl) rfl ?_; intro a hs
    refine wl hs (y_loadS (cs := [.int .i64 y1.1, v5]) sT_55 hs rfl (hM.heapBlk 0 rfl) rfl) rfl ?_; intro a hs
    obtain ⟨y9, h10, hm⟩ := bindE hm
    refine wcall is_59 hs rfl rfl (impl_usesOf_any v_p0 p0 y1.1 v5 y1.2.1 _ (RdM.below hr_p0 hM.bel) (hM.rdI 1 rfl) h10) ?_; rintro a _ w hs ⟨v13, vs14, rfl, hX⟩
    have hM : Mem W w [aMat 23 3 v13 vs14 y9.1, aBlk g7 55 [.int .i64 y1.1, v5], aInts 3 v5 y1.2.1] := hM.call hX
    refine wl hs (y_move hs rfl) rfl ?_; intro a hs
    refine wl hs (y_extract hs rfl rfl) rfl ?_; intro a hs
    refine wl hs (y_extract hs rfl rfl) rfl ?_; intro a hs
    refine wl hs (y_assign hs rfl) rfl ?_; intro a hs
    refine wl hs (y_assign hs rfl) rfl ?_; intro a hs
    refine wpList_nil ?_
    refine x_nt ?_
    refine wp_seq ?_
    refine wp_region_lit ?_
    refine wmem hs (x_new0M (ti := 3) ht_M hM) rfl ?_; intro a v16 w hs hM
    have hM : Mem W w [aMat 23 3 v16 ([]) ([]), aMat 23 3 v13 vs14 y9.1, aBlk g7 55 [.int .i64 y1.1, v5], aInts 3 v5 y1.2.1] := hM
    refine wl hs (y_assign hs rfl) rfl ?_; intro a hs
    refine wpList_nil ?_
    refine x_nt ?_
    refine wp_seq ?_
    refine wp_seq ?_
    refine wp_region_lit ?_
    refine wl hs (y_move hs rfl) rfl ?_; intro a hs
    refine wl hs (y_len hu_M hs rfl (hM.rdM 1 rfl)) rfl ?_; intro a hs
    refine wl hs (y_move hs rfl) rfl ?_; intro a hs
    refine wpList_nil ?_
    refine x_nt ?_
    obtain ⟨s24, hm, hk25⟩ := bindE hm
    refine x_mid (fun a w => ∃ (v21 : Value), ∃ (vs22 : List Value), ∃ (l23 : List (List Int)), l23 = s24 ∧ Fr a 56 [(10, v21)] ∧ Mem W w [aMat 23 3 v21 vs22 l23]) ?_ ?_
    · refine wp_block ?_
      refine x_loop (fun k a w => ∃ (q26 : List (List Int)) (j17 : Nat) (v18 : Value) (vs19 : List Value) (l20 : List (List Int)) , k = q26.length ∧ Fr a 56 [(1, .func (.func 74) #[] #[]), (9, .int .i64 y9.2), (10, v18), (29, v13), (30, .int .i64 (y9.1.length : Int)), (31, .int .i64 (j17 : Int))] ∧ Mem W w [aMat 23 3 v18 vs19 l20, aMat 23 3 v13 vs14 y9.1] ∧ impl_pairsUsed_possible_l1 y9 q26 j17 l20 = some s24 ∧ List.drop j17 y9.1 = q26) _ ⟨y9.1, 0, v16, [], [], rfl, hs.sub ⟨rfl, rfl, rfl, rfl, rfl, rfl, trivial⟩, (hM.keep_ 2), hm, rfl⟩ ?_
      rintro k a w ⟨q26, j17, v18, vs19, l20, rfl, hs, hM, hm, hj17⟩
      rcases q26 with _ | ⟨x27, q26⟩
      · rewrite [impl_pairsUsed_possible_l1] at hm
        refine wp_seq ?_
        refine wp_region_lit ?_
        refine wl hs (y_lss hs rfl rfl) rfl ?_; intro a hs
        refine wpList_nil ?_
        refine x_nt ?_
        refine wp_seq ?_
        refine x_condF hs rfl (drop_f hj17) ?_
        refine wp_exit ?_
        refine x_et ?_
        refine x_et ?_
        refine x_eb ?_
        have hm : some l20 = some s24 := hm
        exact ⟨v18, vs19, l20, Option.some.inj hm, hs.sub ⟨rfl, trivial⟩, (hM.keep_ 1)⟩
      · rewrite [impl_pairsUsed_possible_l1] at hm
        have hx28 := drop_idx hj17
        have hsj17 := ck_succ hj17 (RdS.len (hM.rdM 1 rfl))
        refine wp_seq ?_
        refine wp_region_lit ?_
        refine wl hs (y_lss hs rfl rfl) rfl ?_; intro a hs
        refine wpList_nil ?_
        refine x_nt ?_
        refine wp_seq ?_
        refine x_condT hs rfl (drop_t hj17) ?_
        refine wp_skip ?_
        refine x_nt ?_
        refine wp_seq ?_
        refine wp_block ?_
        refine wp_seq ?_
        refine wp_region_lit ?_
        refine wl hs (y_move hs rfl) rfl ?_; intro a hs
        obtain ⟨u30, hv31, he29⟩ := hM.atM 1 rfl hx28
        refine wl hs (y_index ht_M hs rfl rfl he29) rfl ?_; intro a hs
        refine wl hs (y_load sc_I hs rfl he29.cell) rfl ?_; intro a hs
        refine wl hs (y_assign hs rfl) rfl ?_; intro a hs
        refine wl hs (y_assign hs rfl) rfl ?_; intro a hs
        refine wpList_nil ?_
        refine x_nt ?_
        refine wp_seq ?_
        refine wp_region_lit ?_
        refine wl hs (y_move hs rfl) rfl ?_; intro a hs
        refine wl hs (y_len hu_I hs rfl (hM.rdRow 1 rfl rfl hv31 (idx_spec hx28).2.2)) rfl ?_; intro a hs
        refine wl hs (y_move hs rfl) rfl ?_; intro a hs
        refine wpList_nil ?_
        refine x_nt ?_
        obtain ⟨s39, hm, hk40⟩ := bindE hm
        refine x_mid (fun a w => ∃ (v36 : Value), ∃ (vs37 : List Value), ∃ (l38 : List (List Int)), l38 = s39 ∧ Fr a 56 [(1, .func (.func 74) #[] #[]), (9, .int .i64 y9.2), (10, v36), (29, v13), (30, .int .i64 (y9.1.length : Int)), (31, .int .i64 (j17 : Int))] ∧ Mem W w [aMat 23 3 v36 vs37 l38, aMat 23 3 v13 vs14 y9.1]) ?_ ?_
        · refine wp_block ?_
          refine x_loop (fun k a w => ∃ (q41 : List Int) (j32 : Nat) (v33 : Value) (vs34 : List Value) (l35 : List (List Int)) , k = q41.length ∧ Fr a 56 [(1, .func (.func 74) #[] #[]), (9, .int .i64 y9.2), (10, v33), (11, .int .i64 (j17 : Int)), (29, v13), (30, .int .i64 (y9.1.length : Int)), (31, .int .i64 (j17 : Int)), (36, u30), (37, .int .i64 (x27.length : Int)), (38, .int .i64 (j32 : Int))] ∧ Mem W w [aMat 23 3 v33 vs34 l35, aMat 23 3 v13 vs14 y9.1] ∧ impl_pairsUsed_possible_l2 y9 j17 q41 j32 l35 = some s39 ∧ List.drop j32 x27 = q41) _ ⟨x27, 0, v18, vs19, l20, rfl, hs.sub ⟨rfl, rfl, rfl, rfl, rfl, rfl, rfl, rfl, rfl, rfl, trivial⟩, hM, hm, rfl⟩ ?_
          rintro k a w ⟨q41, j32, v33, vs34, l35, rfl, hs, hM, hm, hj32⟩
          rcases q41 with _ | ⟨x42, q41⟩
          · rewrite [impl_pairsUsed_possible_l2] at hm
            refine wp_seq ?_
            refine wp_region_lit ?_
            refine wl hs (y_lss hs rfl rfl) rfl ?_; intro a hs
            refine wpList_nil ?_
            refine x_nt ?_
            refine wp_seq ?_
            refine x_condF hs rfl (drop_f hj32) ?_
            refine wp_exit ?_
            refine x_et ?_
            refine x_et ?_
            refine x_eb ?_
            have hm : some l35 = some s39 := hm
            exact ⟨v33, vs34, l35, Option.some.inj hm, hs.sub ⟨rfl, rfl, rfl, rfl, rfl, rfl, trivial⟩, hM⟩
          · rewrite [impl_pairsUsed_possible_l2] at hm
            have hx43 := drop_idx hj32
            have hsj32 := ck_succ hj32 (RdS.len (hM.rdRow 1 rfl rfl hv31 (idx_spec hx28).2.2))
            refine wp_seq ?_
            refine wp_region_lit ?_
            refine wl hs (y_lss hs rfl rfl) rfl ?_; intro a hs
            refine wpList_nil ?_
            refine x_nt ?_
            refine wp_seq ?_
            refine x_condT hs rfl (drop_t hj32) ?_
            refine wp_skip ?_
            refine x_nt ?_
            refine wp_seq ?_
            refine wp_block ?_
            refine wp_seq ?_
            refine wp_region_lit ?_
            refine wl hs (y_move hs rfl) rfl ?_; intro a hs
            have he44 := RdI.at_ (hM.rdRow 1 rfl rfl hv31 (idx_spec hx28).2.2) hx43
            refine wl hs (y_index ht_I hs rfl rfl he44) rfl ?_; intro a hs
            refine wl hs (y_load sc_int hs rfl he44.cell) rfl ?_; intro a hs
            refine wl hs (y_assign hs rfl) rfl ?_; intro a hs
            refine wl hs (y_assign hs rfl) rfl ?_; intro a hs
            refine wpList_nil ?_
            refine x_nt ?_
            refine wp_seq ?_
            refine wp_region_lit ?_
            refine wl hs (y_move hs rfl) rfl ?_; intro a hs
            refine wl hs (y_move hs rfl) rfl ?_; intro a hs
            refine wl hs (y_move hs rfl) rfl ?_; intro a hs
            obtain ⟨y45, h46, hm⟩ := bindE hm
            refine wcallv is_74 hs rfl rfl rfl (impl_PossiblePairs_1_any x42 y9.2 _  h46) ?_; rintro a _ w hs ⟨rfl, hX⟩
            have hM : Mem W w [aMat 23 3 v33 vs34 l35, aMat 23 3 v13 vs14 y9.1] := hM.call hX
            refine wpList_nil ?_
            refine x_nt ?_
            refine x_cond hs rfl (fun hb => ?_) (fun hb => ?_)
            · replace hm := condT hb hm
              refine wp_region_lit ?_
              refine wl hs (y_move hs rfl) rfl ?_; intro a hs
              refine wl hs (y_move hs rfl) rfl ?_; intro a hs
              refine wl hs (y_move hs rfl) rfl ?_; intro a hs
              refine wmem hs (x_new2I hu_I he_int hs rfl rfl hM) rfl ?_; intro a v48 w hs hM
              have hM : Mem W w [aInts 3 v48 ([(j17 : Int), (j32 : Int)]), aMat 23 3 v33 vs34 l35, aMat 23 3 v13 vs14 y9.1] := hM
              obtain ⟨l49, h50, hm⟩ := bindE hm
              refine wappM hu_M he_I hs (((hM.front 2 rfl).front 1 rfl).front 2 rfl) rfl rfl h50 rfl rfl rfl ?_; intro a v51 w u52 hs hM
              have hM : Mem W w [aMat 23 3 v51 (vs34 ++ [v48]) l49, aMat 23 3 v13 vs14 y9.1] := hM
              refine wl hs (y_assign hs rfl) rfl ?_; intro a hs
              refine wpList_nil ?_
              refine x_nb ?_
              refine x_nt ?_
              refine wp_region_lit ?_
              refine wl hs (y_add hs rfl rfl hsj32) rfl ?_; intro a hs
              refine wl hs (y_move hs rfl) rfl ?_; intro a hs
              refine wpList_nil ?_
              exact ⟨_, by simp, q41, j32 + 1, v51, (vs34 ++ [v48]), l49, rfl, hs.sub ⟨rfl, rfl, rfl, rfl, rfl, rfl, rfl, rfl, rfl, rfl, trivial⟩, hM, hm, drop_next hj32⟩
            · replace hm := condF hb hm
              refine wp_skip ?_
              refine x_nb ?_
              refine x_nt ?_
              refine wp_region_lit ?_
              refine wl hs (y_add hs rfl rfl hsj32) rfl ?_; intro a hs
              refine wl hs (y_move hs rfl) rfl ?_; intro a hs
              refine wpList_nil ?_
              exact ⟨_, by simp, q41, j32 + 1, v33, vs34, l35, rfl, hs.sub ⟨rfl, rfl, rfl, rfl, rfl, rfl, rfl, rfl, rfl, rfl, trivial⟩, hM, hm, drop_next hj32⟩
        rintro a w ⟨v36, vs37, l38, rfl, hs, hM⟩
        have hm := hk40
        refine x_nb ?_
        refine x_nt ?_
        refine wp_region_lit ?_
        refine wl hs (y_add hs rfl rfl hsj17) rfl ?_; intro a hs
        refine wl hs (y_move hs rfl) rfl ?_; intro a hs
        refine wpList_nil ?_
        exact ⟨_, by simp, q26, j17 + 1, v36, vs37, l38, rfl, hs.sub ⟨rfl, rfl, rfl, rfl, rfl, rfl, trivial⟩, hM, hm, drop_next hj17⟩
    rintro a w ⟨v21, vs22, l23, rfl, hs, hM⟩
    have hm := hk25
    refine x_nt ?_
    refine wp_seq ?_
    refine wp_region_lit ?_
    refine wl hs (y_move hs rfl) rfl ?_; intro a hs
    refine wl hs (y_assign hs rfl) rfl ?_; intro a hs
    refine wl hs (y_assign hs rfl) rfl ?_; intro a hs
    refine wpList_nil ?_
    refine x_nt ?_
    refine wp_ret ?_
    have hm : some (l23, true) = some r := hm
    obtain rfl := Option.some.inj hm
    refine x_ret2 rfl hs rfl rfl ⟨_, rfl, ?_⟩
    exact ⟨_, _, rfl, hM⟩

theorem impl_PossiblePairs_any (v_p0 : Value) (p0 : List (List Int)) (W : World) (hr_p0 : RdM W v_p0 p0) {r : (List (List Int)) × Bool} (hm : impl_PossiblePairs_m p0 = some r) : Calls Try.prog 37 [v_p0].toArray W fun e w => ∃ v, e = .returned v ∧ ∃ v0, ∃ vs0, v = .tuple #[v0, .bool r.2] ∧ Mem W w [aMat 23 3 v0 vs0 r.1] := by
  refine x_enter Try.func37 rfl Try.ntmps37 rfl ?_
  intro a hs
  have hM := Mem.start W
  unfold impl_PossiblePairs_m at hm
  refine wp_seq ?_
  refine wp_region_lit ?_
  refine wl hs (y_assign hs rfl) rfl ?_; intro a hs
  refine wl hs (y_assign hs rfl) rfl ?_; intro a hs
  refine wpList_nil ?_
  refine x_nt ?_
  refine wp_seq ?_
  refine wp_region_lit ?_
  refine wl hs (y_move hs rfl) rfl ?_; intro a hs
  obtain ⟨y1, h2, hm⟩ := bindE hm
  refine wcall is_71 hs rfl rfl (impl_pairsUsed_possible_any v_p0 p0 _ (RdM.below hr_p0 hM.bel) h2) ?_; rintro a _ w hs ⟨v5, vs6, rfl, hX⟩
  have hM : Mem W w [aMat 23 3 v5 vs6 y1.1] := hM.call hX
  refine wl hs (y_extract hs rfl rfl) rfl ?_; intro a hs
  refine wl hs (y_extract hs rfl rfl) rfl ?_; intro a hs
  refine wl hs (y_assign hs rfl) rfl ?_; intro a hs
  refine wl hs (y_assign hs rfl) rfl ?_; intro a hs
  refine wpList_nil ?_
  refine x_nt ?_
  refine wp_ret ?_
  have hm : some (y1.1, y1.2) = some r := hm
  obtain rfl := Option.some.inj hm
  refine x_ret2 rfl hs rfl rfl ⟨_, rfl, ?_⟩
  exact ⟨_, _, rfl, hM⟩

end Go.Proofs.Ytnnhbkhlipekeaa
