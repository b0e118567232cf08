/- The code of this unit computes what its mirrors say. Written by program (wip/gen). -/
import Derived.Test.YtaagklbiebogfaaFacts
import Derived.Test.YtaagklbiebogfaaChiM
import Derived.Test.YtaagklbiebogfaaNumW
import Derived.Test.YtaagklbiebogfaaMatW
import Derived.Test.YtaagklbiebogfaaOwnW
import Derived.Test.YtaagklbiebogfaaRk2W
import Derived.Test.YtaagklbiebogfaaSgiW
namespace Go.Proofs.Ytaagklbiebogfaa
open Go.RowKit
set_option linter.unusedVariables false

theorem impl_firstRegular_1_1_any (v_p0 : Value) (p0 : List Int) (g_m : Nat) (v_m : Value) (m : List (List Int)) (g_rr : Nat) (v_rr : Value) (rr : List Int) (g_rows : Nat) (v_rows : Value) (rows : List Int) (g_columns : Nat) (v_columns : Value) (columns : List Int) (W w : World) (As : List Atom) (hr_m : RdM W v_m m) (hM : Mem W w (aInts 3 v_p0 p0 :: aBlk g_m 22 [v_m] :: aBlk g_rr 24 [v_rr] :: aInts 3 v_rr rr :: aBlk g_rows 24 [v_rows] :: aInts 3 v_rows rows :: aBlk g_columns 24 [v_columns] :: aInts 3 v_columns columns :: As)) {r : Bool × (List Int) × (List Int)} (hm : impl_firstRegular_1_1_m p0 m rr rows columns = some r) : Calls Try.prog 112 [v_p0, .pointer (some ⟨g_m, 0, none⟩), .pointer (some ⟨g_rr, 0, none⟩), .pointer (some ⟨g_rows, 0, none⟩), .pointer (some ⟨g_columns, 0, none⟩)].toArray w fun e w' => ∃ v, e = .returned v ∧ ∃ v_rows', ∃ v_columns', v = .bool r.1 ∧ Mem W w' (aInts 3 v_p0 p0 :: aBlk g_m 22 [v_m] :: aBlk g_rr 24 [v_rr] :: aInts 3 v_rr rr :: aBlk g_rows 24 [v_rows'] :: aInts 3 v_rows' r.2.1 :: aBlk g_columns 24 [v_columns'] :: aInts 3 v_columns' r.2.2 :: As) := by
  refine x_enter Try.func112 rfl Try.ntmps112 rfl ?_
  intro a hs
  unfold impl_firstRegular_1_1_m at hm
  refine wp_seq ?_
  refine wp_region_lit ?_
  refine wl hs (y_assign hs rfl) rfl ?_; intro a hs
  refine wpList_nil ?_
  refine x_nt ?_
  refine wp_seq ?_
  refine wp_seq ?_
  refine wp_region_lit ?_
  refine wl hs (y_load sc_M hs rfl (hM.cellBlk 1 rfl 0 rfl)) rfl ?_; intro a hs
  refine wl hs (y_load sc_I hs rfl (hM.cellBlk 2 rfl 0 rfl)) rfl ?_; intro a hs
  refine wl hs (y_move hs rfl) rfl ?_; intro a hs
  obtain ⟨y1, h2, hm⟩ := bindE hm
  refine wcall is_67 hs rfl rfl (impl_partOf_any v_m m v_rr rr v_p0 p0 _ (RdM.below hr_m hM.bel) (hM.rdI 3 rfl) (hM.rdI 0 rfl) h2) ?_; rintro a v3 w hs ⟨vs5, hX⟩
  have hM : Mem W w (aMat 24 3 v3 vs5 y1 :: aInts 3 v_p0 p0 :: aBlk g_m 22 [v_m] :: aBlk g_rr 24 [v_rr] :: aInts 3 v_rr rr :: aBlk g_rows 24 [v_rows] :: aInts 3 v_rows rows :: aBlk g_columns 24 [v_columns] :: aInts 3 v_columns columns :: As) := hM.call hX
  obtain ⟨y6, h7, hm⟩ := bindE hm
  refine wcall is_71 hs rfl rfl (impl_isRegular_any v3 y1 _ (hM.rdM 0 rfl) h7) ?_; rintro a _ w hs ⟨rfl, hX⟩
  have hM : Mem W w (aMat 24 3 v3 vs5 y1 :: aInts 3 v_p0 p0 :: aBlk g_m 22 [v_m] :: aBlk g_rr 24 [v_rr] :: aInts 3 v_rr rr :: aBlk g_rows 24 [v_rows] :: aInts 3 v_rows rows :: aBlk g_columns 24 [v_columns] :: aInts 3 v_columns columns :: As) := hM.call hX
  refine wl hs (y_not hs rfl) rfl ?_; intro a hs
  refine wpList_nil ?_
  refine x_nt ?_
  refine x_cond hs rfl (fun hb => ?_) (fun hb => ?_)
  · replace hm := condT hb hm
    refine wp_seq ?_
    refine wp_region_lit ?_
    refine wl hs (y_assign hs rfl) rfl ?_; intro a hs
    refine wpList_nil ?_
    refine x_nt ?_
    refine wp_ret ?_
    refine x_rt ?_
    have hm : some (true, rows, columns) = some r := hm
    obtain rfl := Option.some.inj hm
    refine x_ret1 rfl hs rfl ⟨_, rfl, ?_⟩
    exact ⟨v_rows, v_columns, rfl, hM.drop⟩
  · replace hm := condF hb hm
    refine wp_skip ?_
    refine x_nt ?_
    refine wp_seq ?_
    refine wp_region_lit ?_
    refine wl hs (y_load sc_I hs rfl (hM.cellBlk 3 rfl 0 rfl)) rfl ?_; intro a hs
    obtain ⟨y8, h9, hm⟩ := bindE hm
    refine wcall is_61 hs rfl rfl (slices_Clone_int_int_any v_rr rr _ (hM.rdI 4 rfl) h9) ?_; rintro a v10 w hs hX
    have hM : Mem W w (aInts 3 v10 y8 :: aMat 24 3 v3 vs5 y1 :: aInts 3 v_p0 p0 :: aBlk g_m 22 [v_m] :: aBlk g_rr 24 [v_rr] :: aInts 3 v_rr rr :: aBlk g_rows 24 [v_rows] :: aInts 3 v_rows rows :: aBlk g_columns 24 [v_columns] :: aInts 3 v_columns columns :: As) := hM.call hX
    refine wl hs (y_move hs rfl) rfl ?_; intro a hs
    obtain ⟨y12, h13, hm⟩ := bindE hm
    refine wcall is_61 hs rfl rfl (slices_Clone_int_int_any v_p0 p0 _ (hM.rdI 2 rfl) h13) ?_; rintro a v14 w hs hX
    have hM : Mem W w (aInts 3 v14 y12 :: aInts 3 v10 y8 :: aMat 24 3 v3 vs5 y1 :: aInts 3 v_p0 p0 :: aBlk g_m 22 [v_m] :: aBlk g_rr 24 [v_rr] :: aInts 3 v_rr rr :: aBlk g_rows 24 [v_rows] :: aInts 3 v_rows rows :: aBlk g_columns 24 [v_columns] :: aInts 3 v_columns columns :: As) := hM.call hX
    refine wstore hs rfl rfl (x_storeBlk he_I (Mem.one (hM.front 1 rfl)) (hM.front 7 rfl)) ?_; intro w hM
    have hM : Mem W w (aBlk g_rows 24 [v10] :: aInts 3 v14 y12 :: aInts 3 v10 y8 :: aMat 24 3 v3 vs5 y1 :: aInts 3 v_p0 p0 :: aBlk g_m 22 [v_m] :: aBlk g_rr 24 [v_rr] :: aInts 3 v_rr rr :: aInts 3 v_rows rows :: aBlk g_columns 24 [v_columns] :: aInts 3 v_columns columns :: As) := hM
    refine wstore hs rfl rfl (x_storeBlk he_I (Mem.one (hM.front 1 rfl)) (hM.front 9 rfl)) ?_; intro w hM
    have hM : Mem W w (aBlk g_columns 24 [v14] :: aBlk g_rows 24 [v10] :: aInts 3 v14 y12 :: aInts 3 v10 y8 :: aMat 24 3 v3 vs5 y1 :: aInts 3 v_p0 p0 :: aBlk g_m 22 [v_m] :: aBlk g_rr 24 [v_rr] :: aInts 3 v_rr rr :: aInts 3 v_rows rows :: aInts 3 v_columns columns :: As) := hM
    refine wpList_nil ?_
    refine x_nt ?_
    refine wp_seq ?_
    refine wp_region_lit ?_
    refine wl hs (y_assign hs rfl) rfl ?_; intro a hs
    refine wpList_nil ?_
    refine x_nt ?_
    refine wp_ret ?_
    have hm : some (false, y8, y12) = some r := hm
    obtain rfl := Option.some.inj hm
    refine x_ret1 rfl hs rfl ⟨_, rfl, ?_⟩
    exact ⟨v10, v14, rfl, (((((((((((hM.front 4 rfl).drop.front 8 rfl).drop.front 8 rfl).drop.front 2 rfl).front 1 rfl).front 3 rfl).front 3 rfl).front 7 rfl).front 7 rfl).front 7 rfl).front 7 rfl)⟩

set_option maxHeartbeats 4000000 in
theorem impl_choices_1_in_rec : ∀ (k : Nat) (p0 : Int) (g_l : Nat) (v_l : Value) (l : List Int) (g_kk : Nat) (kk : Int) (g_visit : Nat) (g_n : Nat) (n : Int) (g_next : Nat) (g_m : Nat) (v_m : Value) (m : List (List Int)) (g_rr : Nat) (v_rr : Value) (rr : List Int) (g_rows : Nat) (v_rows : Value) (rows : List Int) (g_columns : Nat) (v_columns : Value) (columns : List Int) (W w : World) (As : List Atom) (hr_m : RdM W v_m m) (hM : Mem W w (aBlk g_l 24 [v_l] :: aInts 3 v_l l :: aBlk g_kk 3 [.int .i64 kk] :: aBlk g_visit 95 [.func (.func 112) #[] #[.pointer (some ⟨g_m, 0, none⟩), .pointer (some ⟨g_rr, 0, none⟩), .pointer (some ⟨g_rows, 0, none⟩), .pointer (some ⟨g_columns, 0, none⟩)]] :: aBlk g_n 3 [.int .i64 n] :: aBlk g_next 97 [.func (.func 140) #[] #[.pointer (some ⟨g_l, 0, none⟩), .pointer (some ⟨g_kk, 0, none⟩), .pointer (some ⟨g_visit, 0, none⟩), .pointer (some ⟨g_n, 0, none⟩), .pointer (some ⟨g_next, 0, none⟩)]] :: aBlk g_m 22 [v_m] :: aBlk g_rr 24 [v_rr] :: aInts 3 v_rr rr :: aBlk g_rows 24 [v_rows] :: aInts 3 v_rows rows :: aBlk g_columns 24 [v_columns] :: aInts 3 v_columns columns :: As)) {r : Bool × (List Int) × (List Int) × (List Int)} (hm : impl_choices_1_in_r k p0 l kk n m rr rows columns = some r), Calls Try.prog 140 [.int .i64 p0, .pointer (some ⟨g_l, 0, none⟩), .pointer (some ⟨g_kk, 0, none⟩), .pointer (some ⟨g_visit, 0, none⟩), .pointer (some ⟨g_n, 0, none⟩), .pointer (some ⟨g_next, 0, none⟩)].toArray w fun e w' => ∃ v, e = .returned v ∧ ∃ v_l', ∃ v_rows', ∃ v_columns', v = .bool r.1 ∧ Mem W w' (aBlk g_l 24 [v_l'] :: aInts 3 v_l' r.2.1 :: aBlk g_kk 3 [.int .i64 kk] :: aBlk g_visit 95 [.func (.func 112) #[] #[.pointer (some ⟨g_m, 0, none⟩), .pointer (some ⟨g_rr, 0, none⟩), .pointer (some ⟨g_rows, 0, none⟩), .pointer (some ⟨g_columns, 0, none⟩)]] :: aBlk g_n 3 [.int .i64 n] :: aBlk g_next 97 [.func (.func 140) #[] #[.pointer (some ⟨g_l, 0, none⟩), .pointer (some ⟨g_kk, 0, none⟩), .pointer (some ⟨g_visit, 0, none⟩), .pointer (some ⟨g_n, 0, none⟩), .pointer (some ⟨g_next, 0, none⟩)]] :: aBlk g_m 22 [v_m] :: aBlk g_rr 24 [v_rr] :: aInts 3 v_rr rr :: aBlk g_rows 24 [v_rows'] :: aInts 3 v_rows' r.2.2.1 :: aBlk g_columns 24 [v_columns'] :: aInts 3 v_columns' r.2.2.2 :: As) := by
  intro k
  induction k with
  | zero => intro p0 g_l v_l l g_kk kk g_visit g_n n g_next g_m v_m m g_rr v_rr rr g_rows v_rows rows g_columns v_columns columns W w As hr_m hM r hm; have hm : none = some r := hm; cases hm
  | succ k ih =>
  intro p0 g_l v_l l g_kk kk g_visit g_n n g_next g_m v_m m g_rr v_rr rr g_rows v_rows rows g_columns v_columns columns W w As hr_m hM r hm
  have hm : impl_choices_1_in_b (impl_choices_1_in_r k) p0 l kk n m rr rows columns = some r := hm
  generalize impl_choices_1_in_r k = rec at hm ih
  refine x_enter Try.func140 rfl Try.ntmps140 rfl ?_
  intro a hs
  unfold impl_choices_1_in_b at hm
  refine wp_seq ?_
  refine wp_region_lit ?_
  refine wl hs (y_assign hs rfl) rfl ?_; intro a hs
  refine wpList_nil ?_
  refine x_nt ?_
  refine wp_seq ?_
  refine wp_seq ?_
  refine wp_region_lit ?_
  refine wl hs (y_load sc_I hs rfl (hM.cellBlk 0 rfl 0 rfl)) rfl ?_; intro a hs
  refine wl hs (y_len hu_I hs rfl (hM.rdI 1 rfl)) rfl ?_; intro a hs
  refine wl hs (y_load sc_int hs rfl (hM.cellBlk 2 rfl 0 rfl)) rfl ?_; intro a hs
  refine wl hs (y_eql hs rfl rfl) rfl ?_; intro a hs
  refine wpList_nil ?_
  refine x_nt ?_
  refine x_cond hs rfl (fun hb => ?_) (fun hb => ?_)
  · replace hm := condT hb hm
    refine wp_seq ?_
    refine wp_region_lit ?_
    refine wl hs (y_load sc_95 hs rfl (hM.cellBlk 3 rfl 0 rfl)) rfl ?_; intro a hs
    refine wl hs (y_load sc_I hs rfl (hM.cellBlk 0 rfl 0 rfl)) rfl ?_; intro a hs
    obtain ⟨y1, h2, hm⟩ := bindE hm
    refine wcallv is_112 hs rfl rfl rfl (impl_firstRegular_1_1_any v_l l g_m v_m m g_rr v_rr rr g_rows v_rows rows g_columns v_columns columns _ _ _ hr_m (((((((((((((hM.front 5 rfl).front 5 rfl).front 5 rfl).front 5 rfl).front 4 rfl).front 12 rfl).front 12 rfl).front 12 rfl).front 12 rfl).front 12 rfl).front 12 rfl).front 12 rfl).front 12 rfl) h2) ?_; rintro a _ w hs ⟨v3, v4, rfl, hM⟩
    have hM : Mem W w (aInts 3 v_l l :: aBlk g_m 22 [v_m] :: aBlk g_rr 24 [v_rr] :: aInts 3 v_rr rr :: aBlk g_rows 24 [v3] :: aInts 3 v3 y1.2.1 :: aBlk g_columns 24 [v4] :: aInts 3 v4 y1.2.2 :: aBlk g_l 24 [v_l] :: aBlk g_kk 3 [.int .i64 kk] :: aBlk g_visit 95 [.func (.func 112) #[] #[.pointer (some ⟨g_m, 0, none⟩), .pointer (some ⟨g_rr, 0, none⟩), .pointer (some ⟨g_rows, 0, none⟩), .pointer (some ⟨g_columns, 0, none⟩)]] :: aBlk g_n 3 [.int .i64 n] :: aBlk g_next 97 [.func (.func 140) #[] #[.pointer (some ⟨g_l, 0, none⟩), .pointer (some ⟨g_kk, 0, none⟩), .pointer (some ⟨g_visit, 0, none⟩), .pointer (some ⟨g_n, 0, none⟩), .pointer (some ⟨g_next, 0, none⟩)]] :: As) := hM
    refine wl hs (y_assign hs rfl) rfl ?_; intro a hs
    refine wpList_nil ?_
    refine x_nt ?_
    refine wp_ret ?_
    refine x_rt ?_
    have hm : some (y1.1, l, y1.2.1, y1.2.2) = some r := hm
    obtain rfl := Option.some.inj hm
    refine x_ret1 rfl hs rfl ⟨_, rfl, ?_⟩
    exact ⟨v_l, v3, v4, rfl, (((((((((((((hM.front 7 rfl).front 7 rfl).front 7 rfl).front 7 rfl).front 7 rfl).front 7 rfl).front 7 rfl).front 12 rfl).front 12 rfl).front 12 rfl).front 12 rfl).front 11 rfl).front 12 rfl)⟩
  · replace hm := condF hb hm
    refine wp_skip ?_
    refine x_nt ?_
    refine wp_seq ?_
    refine wp_seq ?_
    refine wp_region_lit ?_
    refine wl hs (y_move hs rfl) rfl ?_; intro a hs
    refine wl hs (y_assign hs rfl) rfl ?_; intro a hs
    refine wpList_nil ?_
    refine x_nt ?_
    obtain ⟨s18, hm, hk19⟩ := bindE hm
    refine x_mid (fun a w => ∃ (v12 : Value), ∃ (l13 : List Int), ∃ (v14 : Value), ∃ (l15 : List Int), ∃ (v16 : Value), ∃ (l17 : List Int), Sum.inr (l13, l15, l17) = s18 ∧ Fr a 36 [] ∧ Mem W w (aBlk g_l 24 [v12] :: aInts 3 v12 l13 :: aBlk g_kk 3 [.int .i64 kk] :: aBlk g_visit 95 [.func (.func 112) #[] #[.pointer (some ⟨g_m, 0, none⟩), .pointer (some ⟨g_rr, 0, none⟩), .pointer (some ⟨g_rows, 0, none⟩), .pointer (some ⟨g_columns, 0, none⟩)]] :: aBlk g_n 3 [.int .i64 n] :: aBlk g_next 97 [.func (.func 140) #[] #[.pointer (some ⟨g_l, 0, none⟩), .pointer (some ⟨g_kk, 0, none⟩), .pointer (some ⟨g_visit, 0, none⟩), .pointer (some ⟨g_n, 0, none⟩), .pointer (some ⟨g_next, 0, none⟩)]] :: aBlk g_m 22 [v_m] :: aBlk g_rr 24 [v_rr] :: aInts 3 v_rr rr :: aBlk g_rows 24 [v14] :: aInts 3 v14 l15 :: aBlk g_columns 24 [v16] :: aInts 3 v16 l17 :: As)) ?_ ?_
    · refine wp_block ?_
      refine x_loop (fun k a w => ∃ (v5 : Value) (l6 : List Int) (v7 : Value) (l8 : List Int) (v9 : Value) (l10 : List Int) (n11 : Int) , Fr a 36 [(1, .pointer (some ⟨g_l, 0, none⟩)), (4, .pointer (some ⟨g_n, 0, none⟩)), (5, .pointer (some ⟨g_next, 0, none⟩)), (8, .int .i64 n11)] ∧ Mem W w (aBlk g_l 24 [v5] :: aInts 3 v5 l6 :: aBlk g_kk 3 [.int .i64 kk] :: aBlk g_visit 95 [.func (.func 112) #[] #[.pointer (some ⟨g_m, 0, none⟩), .pointer (some ⟨g_rr, 0, none⟩), .pointer (some ⟨g_rows, 0, none⟩), .pointer (some ⟨g_columns, 0, none⟩)]] :: aBlk g_n 3 [.int .i64 n] :: aBlk g_next 97 [.func (.func 140) #[] #[.pointer (some ⟨g_l, 0, none⟩), .pointer (some ⟨g_kk, 0, none⟩), .pointer (some ⟨g_visit, 0, none⟩), .pointer (some ⟨g_n, 0, none⟩), .pointer (some ⟨g_next, 0, none⟩)]] :: aBlk g_m 22 [v_m] :: aBlk g_rr 24 [v_rr] :: aInts 3 v_rr rr :: aBlk g_rows 24 [v7] :: aInts 3 v7 l8 :: aBlk g_columns 24 [v9] :: aInts 3 v9 l10 :: As) ∧ impl_choices_1_in_l1 kk n m rr rec k l6 l8 l10 n11 = some s18) 4000000 ⟨v_l, l, v_rows, rows, v_columns, columns, p0, hs.sub ⟨rfl, rfl, rfl, rfl, trivial⟩, hM, hm⟩ ?_
      rintro k a w ⟨v5, l6, v7, l8, v9, l10, n11, hs, hM, hm⟩
      rcases k with _ | k
      · rewrite [impl_choices_1_in_l1] at hm; cases hm
      rewrite [impl_choices_1_in_l1] at hm
      refine wp_seq ?_
      refine wp_seq ?_
      refine wp_region_lit ?_
      refine wl hs (y_move hs rfl) rfl ?_; intro a hs
      refine wl hs (y_load sc_int hs rfl (hM.cellBlk 4 rfl 0 rfl)) rfl ?_; intro a hs
      refine wl hs (y_lss hs rfl rfl) rfl ?_; intro a hs
      refine wpList_nil ?_
      refine x_nt ?_
      refine x_cond hs rfl (fun hb => ?_) (fun hb => ?_)
      · replace hm := condT hb hm
        refine wp_skip ?_
        refine x_nt ?_
        refine wp_seq ?_
        refine wp_block ?_
        refine wp_seq ?_
        refine wp_region_lit ?_
        refine wl hs (y_load sc_I hs rfl (hM.cellBlk 0 rfl 0 rfl)) rfl ?_; intro a hs
        refine wl hs (y_move hs rfl) rfl ?_; intro a hs
        obtain ⟨l21, h22, hm⟩ := bindE hm
        refine wappI hu_I he_int hs (hM.front 1 rfl) rfl rfl h22 rfl rfl rfl ?_; intro a v23 w u24 hs hM
        have hM : Mem W w (aInts 3 v23 l21 :: aBlk g_l 24 [v5] :: aBlk g_kk 3 [.int .i64 kk] :: aBlk g_visit 95 [.func (.func 112) #[] #[.pointer (some ⟨g_m, 0, none⟩), .pointer (some ⟨g_rr, 0, none⟩), .pointer (some ⟨g_rows, 0, none⟩), .pointer (some ⟨g_columns, 0, none⟩)]] :: aBlk g_n 3 [.int .i64 n] :: aBlk g_next 97 [.func (.func 140) #[] #[.pointer (some ⟨g_l, 0, none⟩), .pointer (some ⟨g_kk, 0, none⟩), .pointer (some ⟨g_visit, 0, none⟩), .pointer (some ⟨g_n, 0, none⟩), .pointer (some ⟨g_next, 0, none⟩)]] :: aBlk g_m 22 [v_m] :: aBlk g_rr 24 [v_rr] :: aInts 3 v_rr rr :: aBlk g_rows 24 [v7] :: aInts 3 v7 l8 :: aBlk g_columns 24 [v9] :: aInts 3 v9 l10 :: As) := hM
        refine wstore hs rfl rfl (x_storeBlk he_I (Mem.one (hM.front 0 rfl)) (hM.front 1 rfl)) ?_; intro w hM
        have hM : Mem W w (aBlk g_l 24 [v23] :: aInts 3 v23 l21 :: aBlk g_kk 3 [.int .i64 kk] :: aBlk g_visit 95 [.func (.func 112) #[] #[.pointer (some ⟨g_m, 0, none⟩), .pointer (some ⟨g_rr, 0, none⟩), .pointer (some ⟨g_rows, 0, none⟩), .pointer (some ⟨g_columns, 0, none⟩)]] :: aBlk g_n 3 [.int .i64 n] :: aBlk g_next 97 [.func (.func 140) #[] #[.pointer (some ⟨g_l, 0, none⟩), .pointer (some ⟨g_kk, 0, none⟩), .pointer (some ⟨g_visit, 0, none⟩), .pointer (some ⟨g_n, 0, none⟩), .pointer (some ⟨g_next, 0, none⟩)]] :: aBlk g_m 22 [v_m] :: aBlk g_rr 24 [v_rr] :: aInts 3 v_rr rr :: aBlk g_rows 24 [v7] :: aInts 3 v7 l8 :: aBlk g_columns 24 [v9] :: aInts 3 v9 l10 :: As) := hM
        refine wpList_nil ?_
        refine x_nt ?_
        refine wp_seq ?_
        refine wp_seq ?_
        refine wp_region_lit ?_
        refine wl hs (y_load sc_97 hs rfl (hM.cellBlk 5 rfl 0 rfl)) rfl ?_; intro a hs
        refine wl hs (y_move hs rfl) rfl ?_; intro a hs
        obtain ⟨n25, h26, hm⟩ := bindE hm
        refine wl hs (y_add hs rfl rfl h26) rfl ?_; intro a hs
        obtain ⟨y27, h28, hm⟩ := bindE hm
        refine wcallv is_140 hs rfl rfl rfl (ih n25 g_l v23 l21 g_kk kk g_visit g_n n g_next g_m v_m m g_rr v_rr rr g_rows v7 l8 g_columns v9 l10 _ _ _ hr_m hM h28) ?_; rintro a _ w hs ⟨v29, v30, v31, rfl, hM⟩
        have hM : Mem W w (aBlk g_l 24 [v29] :: aInts 3 v29 y27.2.1 :: aBlk g_kk 3 [.int .i64 kk] :: aBlk g_visit 95 [.func (.func 112) #[] #[.pointer (some ⟨g_m, 0, none⟩), .pointer (some ⟨g_rr, 0, none⟩), .pointer (some ⟨g_rows, 0, none⟩), .pointer (some ⟨g_columns, 0, none⟩)]] :: aBlk g_n 3 [.int .i64 n] :: aBlk g_next 97 [.func (.func 140) #[] #[.pointer (some ⟨g_l, 0, none⟩), .pointer (some ⟨g_kk, 0, none⟩), .pointer (some ⟨g_visit, 0, none⟩), .pointer (some ⟨g_n, 0, none⟩), .pointer (some ⟨g_next, 0, none⟩)]] :: aBlk g_m 22 [v_m] :: aBlk g_rr 24 [v_rr] :: aInts 3 v_rr rr :: aBlk g_rows 24 [v30] :: aInts 3 v30 y27.2.2.1 :: aBlk g_columns 24 [v31] :: aInts 3 v31 y27.2.2.2 :: As) := hM
        refine wl hs (y_not hs rfl) rfl ?_; intro a hs
        refine wpList_nil ?_
        refine x_nt ?_
        refine x_cond hs rfl (fun hb => ?_) (fun hb => ?_)
        · replace hm := condT hb hm
          refine wp_seq ?_
          refine wp_region_lit ?_
          refine wl hs (y_assign hs rfl) rfl ?_; intro a hs
          refine wpList_nil ?_
          refine x_nt ?_
          refine wp_ret ?_
          refine x_rt ?_
          refine x_rb ?_
          refine x_rt ?_
          refine x_rt ?_
          refine x_rb ?_
          refine x_rt ?_
          refine x_rt ?_
          have hm : some (Sum.inl (false, y27.2.1, y27.2.2.1, y27.2.2.2)) = some s18 := hm
          cases Option.some.inj hm
          have hm := hk19
          have hm : some (false, y27.2.1, y27.2.2.1, y27.2.2.2) = some r := hm
          obtain rfl := Option.some.inj hm
          refine x_ret1 rfl hs rfl ⟨_, rfl, ?_⟩
          exact ⟨v29, v30, v31, rfl, hM⟩
        · replace hm := condF hb hm
          refine wp_skip ?_
          refine x_nt ?_
          refine wp_region_lit ?_
          refine wl hs (y_load sc_I hs rfl (hM.cellBlk 0 rfl 0 rfl)) rfl ?_; intro a hs
          refine wl hs (y_load sc_I hs rfl (hM.cellBlk 0 rfl 0 rfl)) rfl ?_; intro a hs
          refine wl hs (y_len hu_I hs rfl (hM.rdI 1 rfl)) rfl ?_; intro a hs
          obtain ⟨n32, h33, hm⟩ := bindE hm
          refine wl hs (y_sub hs rfl rfl h33) rfl ?_; intro a hs
          obtain ⟨l34, h35, hm⟩ := bindE hm
          obtain ⟨v36, h37, hM⟩ := (hM.front 1 rfl).cutI hu_I he_int h35
          have hM : Mem W w (aInts 3 v36 l34 :: aBlk g_l 24 [v29] :: aBlk g_kk 3 [.int .i64 kk] :: aBlk g_visit 95 [.func (.func 112) #[] #[.pointer (some ⟨g_m, 0, none⟩), .pointer (some ⟨g_rr, 0, none⟩), .pointer (some ⟨g_rows, 0, none⟩), .pointer (some ⟨g_columns, 0, none⟩)]] :: aBlk g_n 3 [.int .i64 n] :: aBlk g_next 97 [.func (.func 140) #[] #[.pointer (some ⟨g_l, 0, none⟩), .pointer (some ⟨g_kk, 0, none⟩), .pointer (some ⟨g_visit, 0, none⟩), .pointer (some ⟨g_n, 0, none⟩), .pointer (some ⟨g_next, 0, none⟩)]] :: aBlk g_m 22 [v_m] :: aBlk g_rr 24 [v_rr] :: aInts 3 v_rr rr :: aBlk g_rows 24 [v30] :: aInts 3 v30 y27.2.2.1 :: aBlk g_columns 24 [v31] :: aInts 3 v31 y27.2.2.2 :: As) := hM
          refine wl hs (y_cut hs rfl rfl h37) rfl ?_; intro a hs
          refine wstore hs rfl rfl (x_storeBlk he_I (Mem.one (hM.front 0 rfl)) (hM.front 1 rfl)) ?_; intro w hM
          have hM : Mem W w (aBlk g_l 24 [v36] :: aInts 3 v36 l34 :: aBlk g_kk 3 [.int .i64 kk] :: aBlk g_visit 95 [.func (.func 112) #[] #[.pointer (some ⟨g_m, 0, none⟩), .pointer (some ⟨g_rr, 0, none⟩), .pointer (some ⟨g_rows, 0, none⟩), .pointer (some ⟨g_columns, 0, none⟩)]] :: aBlk g_n 3 [.int .i64 n] :: aBlk g_next 97 [.func (.func 140) #[] #[.pointer (some ⟨g_l, 0, none⟩), .pointer (some ⟨g_kk, 0, none⟩), .pointer (some ⟨g_visit, 0, none⟩), .pointer (some ⟨g_n, 0, none⟩), .pointer (some ⟨g_next, 0, none⟩)]] :: aBlk g_m 22 [v_m] :: aBlk g_rr 24 [v_rr] :: aInts 3 v_rr rr :: aBlk g_rows 24 [v30] :: aInts 3 v30 y27.2.2.1 :: aBlk g_columns 24 [v31] :: aInts 3 v31 y27.2.2.2 :: As) := hM
          refine wpList_nil ?_
          refine x_nb ?_
          refine x_nt ?_
          refine wp_region_lit ?_
          refine wl hs (y_move hs rfl) rfl ?_; intro a hs
          obtain ⟨n38, h39, hm⟩ := bindE hm
          refine wl hs (y_add hs rfl rfl h39) rfl ?_; intro a hs
          refine wl hs (y_assign hs rfl) rfl ?_; intro a hs
          refine wpList_nil ?_
          exact ⟨k, Nat.lt_succ_self _, v36, l34, v30, y27.2.2.1, v31, y27.2.2.2, n38, hs.sub ⟨rfl, rfl, rfl, rfl, trivial⟩, hM, hm⟩
      · replace hm := condF hb hm
        refine wp_exit ?_
        refine x_et ?_
        refine x_et ?_
        refine x_eb ?_
        have hm : some (Sum.inr (l6, l8, l10)) = some s18 := hm
        exact ⟨v5, l6, v7, l8, v9, l10, Option.some.inj hm, hs.sub trivial, hM⟩
    rintro a w ⟨v12, l13, v14, l15, v16, l17, rfl, hs, hM⟩
    have hm := hk19
    refine x_nt ?_
    refine wp_seq ?_
    refine wp_region_lit ?_
    refine wl hs (y_assign hs rfl) rfl ?_; intro a hs
    refine wpList_nil ?_
    refine x_nt ?_
    refine wp_ret ?_
    have hm : some (true, l13, l15, l17) = some r := hm
    obtain rfl := Option.some.inj hm
    refine x_ret1 rfl hs rfl ⟨_, rfl, ?_⟩
    exact ⟨v12, v14, v16, rfl, hM⟩
theorem impl_choices_1_in_any (p0 : Int) (g_l : Nat) (v_l : Value) (l : List Int) (g_kk : Nat) (kk : Int) (g_visit : Nat) (g_n : Nat) (n : Int) (g_next : Nat) (g_m : Nat) (v_m : Value) (m : List (List Int)) (g_rr : Nat) (v_rr : Value) (rr : List Int) (g_rows : Nat) (v_rows : Value) (rows : List Int) (g_columns : Nat) (v_columns : Value) (columns : List Int) (W w : World) (As : List Atom) (hr_m : RdM W v_m m) (hM : Mem W w (aBlk g_l 24 [v_l] :: aInts 3 v_l l :: aBlk g_kk 3 [.int .i64 kk] :: aBlk g_visit 95 [.func (.func 112) #[] #[.pointer (some ⟨g_m, 0, none⟩), .pointer (some ⟨g_rr, 0, none⟩), .pointer (some ⟨g_rows, 0, none⟩), .pointer (some ⟨g_columns, 0, none⟩)]] :: aBlk g_n 3 [.int .i64 n] :: aBlk g_next 97 [.func (.func 140) #[] #[.pointer (some ⟨g_l, 0, none⟩), .pointer (some ⟨g_kk, 0, none⟩), .pointer (some ⟨g_visit, 0, none⟩), .pointer (some ⟨g_n, 0, none⟩), .pointer (some ⟨g_next, 0, none⟩)]] :: aBlk g_m 22 [v_m] :: aBlk g_rr 24 [v_rr] :: aInts 3 v_rr rr :: aBlk g_rows 24 [v_rows] :: aInts 3 v_rows rows :: aBlk g_columns 24 [v_columns] :: aInts 3 v_columns columns :: As)) {r : Bool × (List Int) × (List Int) × (List Int)} (hm : impl_choices_1_in_m p0 l kk n m rr rows columns = some r) : Calls Try.prog 140 [.int .i64 p0, .pointer (some ⟨g_l, 0, none⟩), .pointer (some ⟨g_kk, 0, none⟩), .pointer (some ⟨g_visit, 0, none⟩), .pointer (some ⟨g_n, 0, none⟩), .pointer (some ⟨g_next, 0, none⟩)].toArray w fun e w' => ∃ v, e = .returned v ∧ ∃ v_l', ∃ v_rows', ∃ v_columns', v = .bool r.1 ∧ Mem W w' (aBlk g_l 24 [v_l'] :: aInts 3 v_l' r.2.1 :: aBlk g_kk 3 [.int .i64 kk] :: aBlk g_visit 95 [.func (.func 112) #[] #[.pointer (some ⟨g_m, 0, none⟩), .pointer (some ⟨g_rr, 0, none⟩), .pointer (some ⟨g_rows, 0, none⟩), .pointer (some ⟨g_columns, 0, none⟩)]] :: aBlk g_n 3 [.int .i64 n] :: aBlk g_next 97 [.func (.func 140) #[] #[.pointer (some ⟨g_l, 0, none⟩), .pointer (some ⟨g_kk, 0, none⟩), .pointer (some ⟨g_visit, 0, none⟩), .pointer (some ⟨g_n, 0, none⟩), .pointer (some ⟨g_next, 0, none⟩)]] :: aBlk g_m 22 [v_m] :: aBlk g_rr 24 [v_rr] :: aInts 3 v_rr rr :: aBlk g_rows 24 [v_rows'] :: aInts 3 v_rows' r.2.2.1 :: aBlk g_columns 24 [v_columns'] :: aInts 3 v_columns' r.2.2.2 :: As) := impl_choices_1_in_rec 64 p0 g_l v_l l g_kk kk g_visit g_n n g_next g_m v_m m g_rr v_rr rr g_rows v_rows rows g_columns v_columns columns W w As hr_m hM hm

theorem impl_choices_in_any (p0 : Int) (p1 : Int) (g_m : Nat) (v_m : Value) (m : List (List Int)) (g_rr : Nat) (v_rr : Value) (rr : List Int) (g_rows : Nat) (v_rows : Value) (rows : List Int) (g_columns : Nat) (v_columns : Value) (columns : List Int) (W w : World) (As : List Atom) (hr_m : RdM W v_m m) (hM : Mem W w (aBlk g_m 22 [v_m] :: aBlk g_rr 24 [v_rr] :: aInts 3 v_rr rr :: aBlk g_rows 24 [v_rows] :: aInts 3 v_rows rows :: aBlk g_columns 24 [v_columns] :: aInts 3 v_columns columns :: As)) {r : Bool × (List Int) × (List Int)} (hm : impl_choices_in_m p0 p1 m rr rows columns = some r) : Calls Try.prog 110 [.int .i64 p0, .int .i64 p1, .func (.func 112) #[] #[.pointer (some ⟨g_m, 0, none⟩), .pointer (some ⟨g_rr, 0, none⟩), .pointer (some ⟨g_rows, 0, none⟩), .pointer (some ⟨g_columns, 0, none⟩)]].toArray w fun e w' => ∃ v, e = .returned v ∧ ∃ v_rows', ∃ v_columns', v = .bool r.1 ∧ Mem W w' (aBlk g_m 22 [v_m] :: aBlk g_rr 24 [v_rr] :: aInts 3 v_rr rr :: aBlk g_rows 24 [v_rows'] :: aInts 3 v_rows' r.2.1 :: aBlk g_columns 24 [v_columns'] :: aInts 3 v_columns' r.2.2 :: As) := by
  refine x_enter Try.func110 rfl Try.ntmps110 rfl ?_
  intro a hs
  unfold impl_choices_in_m at hm
  refine wp_seq ?_
  refine wp_region_lit ?_
  refine wmem hs (x_box rfl hs rfl hM) rfl ?_; rintro a _ w hs ⟨g2, rfl, hM⟩
  have hM : Mem W w (aBlk g2 3 [.int .i64 p0] :: aBlk g_m 22 [v_m] :: aBlk g_rr 24 [v_rr] :: aInts 3 v_rr rr :: aBlk g_rows 24 [v_rows] :: aInts 3 v_rows rows :: aBlk g_columns 24 [v_columns] :: aInts 3 v_columns columns :: As) := hM
  refine wmem hs (x_box rfl hs rfl hM) rfl ?_; rintro a _ w hs ⟨g4, rfl, hM⟩
  have hM : Mem W w (aBlk g4 3 [.int .i64 p1] :: aBlk g2 3 [.int .i64 p0] :: aBlk g_m 22 [v_m] :: aBlk g_rr 24 [v_rr] :: aInts 3 v_rr rr :: aBlk g_rows 24 [v_rows] :: aInts 3 v_rows rows :: aBlk g_columns 24 [v_columns] :: aInts 3 v_columns columns :: As) := hM
  refine wmem hs (x_box rfl hs rfl hM) rfl ?_; rintro a _ w hs ⟨g6, rfl, hM⟩
  have hM : Mem W w (aBlk g6 95 [.func (.func 112) #[] #[.pointer (some ⟨g_m, 0, none⟩), .pointer (some ⟨g_rr, 0, none⟩), .pointer (some ⟨g_rows, 0, none⟩), .pointer (some ⟨g_columns, 0, none⟩)]] :: aBlk g4 3 [.int .i64 p1] :: aBlk g2 3 [.int .i64 p0] :: aBlk g_m 22 [v_m] :: aBlk g_rr 24 [v_rr] :: aInts 3 v_rr rr :: aBlk g_rows 24 [v_rows] :: aInts 3 v_rows rows :: aBlk g_columns 24 [v_columns] :: aInts 3 v_columns columns :: As) := hM
  refine wl hs (y_assign hs rfl) rfl ?_; intro a hs
  refine wpList_nil ?_
  refine x_nt ?_
  refine wp_seq ?_
  refine wp_region_lit ?_
  refine wmem hs (x_new0I ht_I hM) rfl ?_; intro a v8 w hs hM
  have hM : Mem W w (aInts 3 v8 ([]) :: aBlk g6 95 [.func (.func 112) #[] #[.pointer (some ⟨g_m, 0, none⟩), .pointer (some ⟨g_rr, 0, none⟩), .pointer (some ⟨g_rows, 0, none⟩), .pointer (some ⟨g_columns, 0, none⟩)]] :: aBlk g4 3 [.int .i64 p1] :: aBlk g2 3 [.int .i64 p0] :: aBlk g_m 22 [v_m] :: aBlk g_rr 24 [v_rr] :: aInts 3 v_rr rr :: aBlk g_rows 24 [v_rows] :: aInts 3 v_rows rows :: aBlk g_columns 24 [v_columns] :: aInts 3 v_columns columns :: As) := hM
  refine wmem hs (x_alloc he_I rfl hM) rfl ?_; rintro a _ w hs ⟨g10, rfl, hM⟩
  have hM : Mem W w (aBlk g10 24 [.slice none 0 0] :: aInts 3 v8 ([]) :: aBlk g6 95 [.func (.func 112) #[] #[.pointer (some ⟨g_m, 0, none⟩), .pointer (some ⟨g_rr, 0, none⟩), .pointer (some ⟨g_rows, 0, none⟩), .pointer (some ⟨g_columns, 0, none⟩)]] :: aBlk g4 3 [.int .i64 p1] :: aBlk g2 3 [.int .i64 p0] :: aBlk g_m 22 [v_m] :: aBlk g_rr 24 [v_rr] :: aInts 3 v_rr rr :: aBlk g_rows 24 [v_rows] :: aInts 3 v_rows rows :: aBlk g_columns 24 [v_columns] :: aInts 3 v_columns columns :: As) := hM
  refine wstore hs rfl rfl (x_storeBlk he_I (Mem.one (hM.front 1 rfl)) (hM.front 0 rfl)) ?_; intro w hM
  have hM : Mem W w (aBlk g10 24 [v8] :: aInts 3 v8 ([]) :: aBlk g6 95 [.func (.func 112) #[] #[.pointer (some ⟨g_m, 0, none⟩), .pointer (some ⟨g_rr, 0, none⟩), .pointer (some ⟨g_rows, 0, none⟩), .pointer (some ⟨g_columns, 0, none⟩)]] :: aBlk g4 3 [.int .i64 p1] :: aBlk g2 3 [.int .i64 p0] :: aBlk g_m 22 [v_m] :: aBlk g_rr 24 [v_rr] :: aInts 3 v_rr rr :: aBlk g_rows 24 [v_rows] :: aInts 3 v_rows rows :: aBlk g_columns 24 [v_columns] :: aInts 3 v_columns columns :: As) := hM
  refine wpList_nil ?_
  refine x_nt ?_
  refine wp_seq ?_
  refine wp_region_lit ?_
  refine wmem hs (x_alloc he_97 rfl hM) rfl ?_; rintro a _ w hs ⟨g12, rfl, hM⟩
  have hM : Mem W w (aBlk g12 97 [.nilFunc] :: aBlk g10 24 [v8] :: aInts 3 v8 ([]) :: aBlk g6 95 [.func (.func 112) #[] #[.pointer (some ⟨g_m, 0, none⟩), .pointer (some ⟨g_rr, 0, none⟩), .pointer (some ⟨g_rows, 0, none⟩), .pointer (some ⟨g_columns, 0, none⟩)]] :: aBlk g4 3 [.int .i64 p1] :: aBlk g2 3 [.int .i64 p0] :: aBlk g_m 22 [v_m] :: aBlk g_rr 24 [v_rr] :: aInts 3 v_rr rr :: aBlk g_rows 24 [v_rows] :: aInts 3 v_rows rows :: aBlk g_columns 24 [v_columns] :: aInts 3 v_columns columns :: As) := hM
  refine wpList_nil ?_
  refine x_nt ?_
  refine wp_seq ?_
  refine wp_region_lit ?_
  refine wl hs (y_makeFunc hs rfl) rfl ?_; intro a hs
  refine wstore hs rfl rfl (x_storeBlk he_97 rfl (hM.front 0 rfl)) ?_; intro w hM
  have hM : Mem W w (aBlk g12 97 [.func (.func 140) #[] #[.pointer (some ⟨g10, 0, none⟩), .pointer (some ⟨g4, 0, none⟩), .pointer (some ⟨g6, 0, none⟩), .pointer (some ⟨g2, 0, none⟩), .pointer (some ⟨g12, 0, none⟩)]] :: aBlk g10 24 [v8] :: aInts 3 v8 ([]) :: aBlk g6 95 [.func (.func 112) #[] #[.pointer (some ⟨g_m, 0, none⟩), .pointer (some ⟨g_rr, 0, none⟩), .pointer (some ⟨g_rows, 0, none⟩), .pointer (some ⟨g_columns, 0, none⟩)]] :: aBlk g4 3 [.int .i64 p1] :: aBlk g2 3 [.int .i64 p0] :: aBlk g_m 22 [v_m] :: aBlk g_rr 24 [v_rr] :: aInts 3 v_rr rr :: aBlk g_rows 24 [v_rows] :: aInts 3 v_rows rows :: aBlk g_columns 24 [v_columns] :: aInts 3 v_columns columns :: As) := hM
  refine wpList_nil ?_
  refine x_nt ?_
  refine wp_seq ?_
  refine wp_region_lit ?_
  refine wl hs (y_load sc_97 hs rfl (hM.cellBlk 0 rfl 0 rfl)) rfl ?_; intro a hs
  obtain ⟨y13, h14, hm⟩ := bindE hm
  refine wcallv is_140 hs rfl rfl rfl (impl_choices_1_in_any 0 g10 v8 ([]) g4 p1 g6 g2 p0 g12 g_m v_m m g_rr v_rr rr g_rows v_rows rows g_columns v_columns columns _ _ _ hr_m (((((((((((((hM.front 12 rfl).front 12 rfl).front 12 rfl).front 12 rfl).front 12 rfl).front 12 rfl).front 12 rfl).front 7 rfl).front 12 rfl).front 11 rfl).front 12 rfl).front 12 rfl).front 12 rfl) h14) ?_; rintro a _ w hs ⟨v15, v16, v17, rfl, hM⟩
  have hM : Mem W w (aBlk g10 24 [v15] :: aInts 3 v15 y13.2.1 :: aBlk g4 3 [.int .i64 p1] :: aBlk g6 95 [.func (.func 112) #[] #[.pointer (some ⟨g_m, 0, none⟩), .pointer (some ⟨g_rr, 0, none⟩), .pointer (some ⟨g_rows, 0, none⟩), .pointer (some ⟨g_columns, 0, none⟩)]] :: aBlk g2 3 [.int .i64 p0] :: aBlk g12 97 [.func (.func 140) #[] #[.pointer (some ⟨g10, 0, none⟩), .pointer (some ⟨g4, 0, none⟩), .pointer (some ⟨g6, 0, none⟩), .pointer (some ⟨g2, 0, none⟩), .pointer (some ⟨g12, 0, none⟩)]] :: aBlk g_m 22 [v_m] :: aBlk g_rr 24 [v_rr] :: aInts 3 v_rr rr :: aBlk g_rows 24 [v16] :: aInts 3 v16 y13.2.2.1 :: aBlk g_columns 24 [v17] :: aInts 3 v17 y13.2.2.2 :: As) := hM
  refine wl hs (y_assign hs rfl) rfl ?_; intro a hs
  refine wpList_nil ?_
  refine x_nt ?_
  refine wp_ret ?_
  have hm : some (y13.1, y13.2.2.1, y13.2.2.2) = some r := hm
  obtain rfl := Option.some.inj hm
  refine x_ret1 rfl hs rfl ⟨_, rfl, ?_⟩
  exact ⟨v16, v17, rfl, hM.drop.drop.drop.drop.drop.drop⟩

theorem impl_firstRegular_1_any (v_p0 : Value) (p0 : List Int) (g_m : Nat) (v_m : Value) (m : List (List Int)) (g_nn : Nat) (nn : Int) (g_rows : Nat) (v_rows : Value) (rows : List Int) (g_columns : Nat) (v_columns : Value) (columns : List Int) (W w : World) (As : List Atom) (hr_m : RdM W v_m m) (hM : Mem W w (aInts 3 v_p0 p0 :: aBlk g_m 22 [v_m] :: aBlk g_nn 3 [.int .i64 nn] :: aBlk g_rows 24 [v_rows] :: aInts 3 v_rows rows :: aBlk g_columns 24 [v_columns] :: aInts 3 v_columns columns :: As)) {r : Bool × (List Int) × (List Int)} (hm : impl_firstRegular_1_m p0 m nn rows columns = some r) : Calls Try.prog 111 [v_p0, .pointer (some ⟨g_m, 0, none⟩), .pointer (some ⟨g_nn, 0, none⟩), .pointer (some ⟨g_rows, 0, none⟩), .pointer (some ⟨g_columns, 0, none⟩)].toArray w fun e w' => ∃ v, e = .returned v ∧ ∃ v_rows', ∃ v_columns', v = .bool r.1 ∧ Mem W w' (aInts 3 v_p0 p0 :: aBlk g_m 22 [v_m] :: aBlk g_nn 3 [.int .i64 nn] :: aBlk g_rows 24 [v_rows'] :: aInts 3 v_rows' r.2.1 :: aBlk g_columns 24 [v_columns'] :: aInts 3 v_columns' r.2.2 :: As) := by
  refine x_enter Try.func111 rfl Try.ntmps111 rfl ?_
  intro a hs
  unfold impl_firstRegular_1_m at hm
  refine wp_seq ?_
  refine wp_region_lit ?_
  refine wmem hs (x_box (Mem.one (hM.front 0 rfl)) hs rfl hM) rfl ?_; rintro a _ w hs ⟨g2, rfl, hM⟩
  have hM : Mem W w (aBlk g2 24 [v_p0] :: aInts 3 v_p0 p0 :: aBlk g_m 22 [v_m] :: aBlk g_nn 3 [.int .i64 nn] :: aBlk g_rows 24 [v_rows] :: aInts 3 v_rows rows :: aBlk g_columns 24 [v_columns] :: aInts 3 v_columns columns :: As) := hM
  refine wl hs (y_assign hs rfl) rfl ?_; intro a hs
  refine wpList_nil ?_
  refine x_nt ?_
  refine wp_seq ?_
  refine wc_start hmix [0, 1, 2, 3, 4, 5] (fun w => Mem W w (aBlk g2 24 [v_p0] :: aInts 3 v_p0 p0 :: aBlk g_m 22 [v_m] :: aBlk g_nn 3 [.int .i64 nn] :: aBlk g_rows 24 [v_rows] :: aInts 3 v_rows rows :: aBlk g_columns 24 [v_columns] :: aInts 3 v_columns columns :: As)) (by rfl) ?_
  refine wc (i := 0) (fuel := 7) rfl (by kernel_rfl) (fun w w2 hS hE => hS.quiet hE) hM hs (fun w1 hS => y_load sc_M hs rfl (hS.cellBlk 2 rfl 0 rfl)) rfl ?_; intro a hs
  obtain ⟨x3, hx4, hm⟩ := bindE hm
  obtain ⟨u6, he5, hr7⟩ := RdM.at_ hr_m hx4
  have he8 := fun (w1 : World) (hS : Mem W w1 (aBlk g2 24 [v_p0] :: aInts 3 v_p0 p0 :: aBlk g_m 22 [v_m] :: aBlk g_nn 3 [.int .i64 nn] :: aBlk g_rows 24 [v_rows] :: aInts 3 v_rows rows :: aBlk g_columns 24 [v_columns] :: aInts 3 v_columns columns :: As)) => he5.below hS.bel
  refine wc (i := 1) (fuel := 6) rfl (by kernel_rfl) (fun w w2 hS hE => hS.quiet hE) hM hs (fun w1 hS => y_index ht_M hs rfl rfl (he8 w1 hS)) rfl ?_; intro a hs
  refine wc (i := 2) (fuel := 5) rfl (by kernel_rfl) (fun w w2 hS hE => hS.quiet hE) hM hs (fun w1 hS => y_load sc_I hs rfl (he8 w1 hS).cell) rfl ?_; intro a hs
  refine wc (i := 3) (fuel := 4) rfl (by kernel_rfl) (fun w w2 hS hE => hS.quiet hE) hM hs (fun w1 hS => y_len hu_I hs rfl (RdI.below hr7 hS.bel)) rfl ?_; intro a hs
  refine wc (i := 4) (fuel := 3) rfl (by kernel_rfl) (fun w w2 hS hE => hS.quiet hE) hM hs (fun w1 hS => y_load sc_int hs rfl (hS.cellBlk 3 rfl 0 rfl)) rfl ?_; intro a hs
  refine wc (i := 5) (fuel := 2) rfl (by kernel_rfl) (fun w w2 hS hE => hS.quiet hE) hM hs (fun w1 hS => y_makeFunc hs rfl) rfl ?_; intro a hs
  refine wc_one (fuel := 1) 6 rfl (by kernel_rfl) ?_
  intro w hw
  replace hM := hM.quiet hw
  obtain ⟨y9, h10, hm⟩ := bindE hm
  refine wcall is_110 hs rfl rfl (impl_choices_in_any (x3.length : Int) nn g_m v_m m g2 v_p0 p0 g_rows v_rows rows g_columns v_columns columns _ _ _ hr_m ((((((((hM.front 3 rfl).front 7 rfl).front 7 rfl).front 7 rfl).front 7 rfl).front 6 rfl).front 6 rfl).front 7 rfl) h10) ?_; rintro a _ w hs ⟨v11, v12, rfl, hM⟩
  have hM : Mem W w (aBlk g_m 22 [v_m] :: aBlk g2 24 [v_p0] :: aInts 3 v_p0 p0 :: aBlk g_rows 24 [v11] :: aInts 3 v11 y9.2.1 :: aBlk g_columns 24 [v12] :: aInts 3 v12 y9.2.2 :: aBlk g_nn 3 [.int .i64 nn] :: As) := hM
  refine on_nil ?_
  refine wc_one (fuel := 0) 7 rfl (by kernel_rfl) ?_
  intro w hw
  replace hM := hM.quiet hw
  refine wl hs (y_assign hs rfl) rfl ?_; intro a hs
  refine on_nil ?_
  refine wc_done (by kernel_rfl) ?_
  intro w hw
  replace hM := hM.quiet hw
  refine x_nt ?_
  refine wp_ret ?_
  have hm : some (y9.1, y9.2.1, y9.2.2) = some r := hm
  obtain rfl := Option.some.inj hm
  refine x_ret1 rfl hs rfl ⟨_, rfl, ?_⟩
  exact ⟨v11, v12, rfl, ((((((((hM.front 1 rfl).drop.front 5 rfl).front 5 rfl).front 5 rfl).front 5 rfl).front 6 rfl).front 5 rfl).front 6 rfl)⟩

set_option maxHeartbeats 4000000 in
theorem impl_choices_1_out_rec : ∀ (k : Nat) (p0 : Int) (g_l : Nat) (v_l : Value) (l : List Int) (g_kk : Nat) (kk : Int) (g_visit : Nat) (g_n : Nat) (n : Int) (g_next : Nat) (g_m : Nat) (v_m : Value) (m : List (List Int)) (g_nn : Nat) (nn : Int) (g_rows : Nat) (v_rows : Value) (rows : List Int) (g_columns : Nat) (v_columns : Value) (columns : List Int) (W w : World) (As : List Atom) (hr_m : RdM W v_m m) (hM : Mem W w (aBlk g_l 24 [v_l] :: aInts 3 v_l l :: aBlk g_kk 3 [.int .i64 kk] :: aBlk g_visit 95 [.func (.func 111) #[] #[.pointer (some ⟨g_m, 0, none⟩), .pointer (some ⟨g_nn, 0, none⟩), .pointer (some ⟨g_rows, 0, none⟩), .pointer (some ⟨g_columns, 0, none⟩)]] :: aBlk g_n 3 [.int .i64 n] :: aBlk g_next 97 [.func (.func 140) #[] #[.pointer (some ⟨g_l, 0, none⟩), .pointer (some ⟨g_kk, 0, none⟩), .pointer (some ⟨g_visit, 0, none⟩), .pointer (some ⟨g_n, 0, none⟩), .pointer (some ⟨g_next, 0, none⟩)]] :: aBlk g_m 22 [v_m] :: aBlk g_nn 3 [.int .i64 nn] :: aBlk g_rows 24 [v_rows] :: aInts 3 v_rows rows :: aBlk g_columns 24 [v_columns] :: aInts 3 v_columns columns :: As)) {r : Bool × (List Int) × (List Int) × (List Int)} (hm : impl_choices_1_out_r k p0 l kk n m nn rows columns = some r), Calls Try.prog 140 [.int .i64 p0, .pointer (some ⟨g_l, 0, none⟩), .pointer (some ⟨g_kk, 0, none⟩), .pointer (some ⟨g_visit, 0, none⟩), .pointer (some ⟨g_n, 0, none⟩), .pointer (some ⟨g_next, 0, none⟩)].toArray w fun e w' => ∃ v, e = .returned v ∧ ∃ v_l', ∃ v_rows', ∃ v_columns', v = .bool r.1 ∧ Mem W w' (aBlk g_l 24 [v_l'] :: aInts 3 v_l' r.2.1 :: aBlk g_kk 3 [.int .i64 kk] :: aBlk g_visit 95 [.func (.func 111) #[] #[.pointer (some ⟨g_m, 0, none⟩), .pointer (some ⟨g_nn, 0, none⟩), .pointer (some ⟨g_rows, 0, none⟩), .pointer (some ⟨g_columns, 0, none⟩)]] :: aBlk g_n 3 [.int .i64 n] :: aBlk g_next 97 [.func (.func 140) #[] #[.pointer (some ⟨g_l, 0, none⟩), .pointer (some ⟨g_kk, 0, none⟩), .pointer (some ⟨g_visit, 0, none⟩), .pointer (some ⟨g_n, 0, none⟩), .pointer (some ⟨g_next, 0, none⟩)]] :: aBlk g_m 22 [v_m] :: aBlk g_nn 3 [.int .i64 nn] :: aBlk g_rows 24 [v_rows'] :: aInts 3 v_rows' r.2.2.1 :: aBlk g_columns 24 [v_columns'] :: aInts 3 v_columns' r.2.2.2 :: As) := by
  intro k
  induction k with
  | zero => intro p0 g_l v_l l g_kk kk g_visit g_n n g_next g_m v_m m g_nn nn g_rows v_rows rows g_columns v_columns columns W w As hr_m hM r hm; have hm : none = some r := hm; cases hm
  | succ k ih =>
  intro p0 g_l v_l l g_kk kk g_visit g_n n g_next g_m v_m m g_nn nn g_rows v_rows rows g_columns v_columns columns W w As hr_m hM r hm
  have hm : impl_choices_1_out_b (impl_choices_1_out_r k) p0 l kk n m nn rows columns = some r := hm
  generalize impl_choices_1_out_r k = rec at hm ih
  refine x_enter Try.func140 rfl Try.ntmps140 rfl ?_
  intro a hs
  unfold impl_choices_1_out_b at hm
  refine wp_seq ?_
  refine wp_region_lit ?_
  refine wl hs (y_assign hs rfl) rfl ?_; intro a hs
  refine wpList_nil ?_
  refine x_nt ?_
  refine wp_seq ?_
  refine wp_seq ?_
  refine wp_region_lit ?_
  refine wl hs (y_load sc_I hs rfl (hM.cellBlk 0 rfl 0 rfl)) rfl ?_; intro a hs
  refine wl hs (y_len hu_I hs rfl (hM.rdI 1 rfl)) rfl ?_; intro a hs
  refine wl hs (y_load sc_int hs rfl (hM.cellBlk 2 rfl 0 rfl)) rfl ?_; intro a hs
  refine wl hs (y_eql hs rfl rfl) rfl ?_; intro a hs
  refine wpList_nil ?_
  refine x_nt ?_
  refine x_cond hs rfl (fun hb => ?_) (fun hb => ?_)
  · replace hm := condT hb hm
    refine wp_seq ?_
    refine wp_region_lit ?_
    refine wl hs (y_load sc_95 hs rfl (hM.cellBlk 3 rfl 0 rfl)) rfl ?_; intro a hs
    refine wl hs (y_load sc_I hs rfl (hM.cellBlk 0 rfl 0 rfl)) rfl ?_; intro a hs
    obtain ⟨y1, h2, hm⟩ := bindE hm
    refine wcallv is_111 hs rfl rfl rfl (impl_firstRegular_1_any v_l l g_m v_m m g_nn nn g_rows v_rows rows g_columns v_columns columns _ _ _ hr_m ((((((((((((hM.front 5 rfl).front 5 rfl).front 5 rfl).front 5 rfl).front 4 rfl).front 11 rfl).front 11 rfl).front 11 rfl).front 11 rfl).front 11 rfl).front 11 rfl).front 11 rfl) h2) ?_; rintro a _ w hs ⟨v3, v4, rfl, hM⟩
    have hM : Mem W w (aInts 3 v_l l :: aBlk g_m 22 [v_m] :: aBlk g_nn 3 [.int .i64 nn] :: aBlk g_rows 24 [v3] :: aInts 3 v3 y1.2.1 :: aBlk g_columns 24 [v4] :: aInts 3 v4 y1.2.2 :: aBlk g_l 24 [v_l] :: aBlk g_kk 3 [.int .i64 kk] :: aBlk g_visit 95 [.func (.func 111) #[] #[.pointer (some ⟨g_m, 0, none⟩), .pointer (some ⟨g_nn, 0, none⟩), .pointer (some ⟨g_rows, 0, none⟩), .pointer (some ⟨g_columns, 0, none⟩)]] :: aBlk g_n 3 [.int .i64 n] :: aBlk g_next 97 [.func (.func 140) #[] #[.pointer (some ⟨g_l, 0, none⟩), .pointer (some ⟨g_kk, 0, none⟩), .pointer (some ⟨g_visit, 0, none⟩), .pointer (some ⟨g_n, 0, none⟩), .pointer (some ⟨g_next, 0, none⟩)]] :: As) := hM
    refine wl hs (y_assign hs rfl) rfl ?_; intro a hs
    refine wpList_nil ?_
    refine x_nt ?_
    refine wp_ret ?_
    refine x_rt ?_
    have hm : some (y1.1, l, y1.2.1, y1.2.2) = some r := hm
    obtain rfl := Option.some.inj hm
    refine x_ret1 rfl hs rfl ⟨_, rfl, ?_⟩
    exact ⟨v_l, v3, v4, rfl, ((((((((((((hM.front 6 rfl).front 6 rfl).front 6 rfl).front 6 rfl).front 6 rfl).front 6 rfl).front 11 rfl).front 11 rfl).front 11 rfl).front 11 rfl).front 10 rfl).front 11 rfl)⟩
  · replace hm := condF hb hm
    refine wp_skip ?_
    refine x_nt ?_
    refine wp_seq ?_
    refine wp_seq ?_
    refine wp_region_lit ?_
    refine wl hs (y_move hs rfl) rfl ?_; intro a hs
    refine wl hs (y_assign hs rfl) rfl ?_; intro a hs
    refine wpList_nil ?_
    refine x_nt ?_
    obtain ⟨s18, hm, hk19⟩ := bindE hm
    refine x_mid (fun a w => ∃ (v12 : Value), ∃ (l13 : List Int), ∃ (v14 : Value), ∃ (l15 : List Int), ∃ (v16 : Value), ∃ (l17 : List Int), Sum.inr (l13, l15, l17) = s18 ∧ Fr a 36 [] ∧ Mem W w (aBlk g_l 24 [v12] :: aInts 3 v12 l13 :: aBlk g_kk 3 [.int .i64 kk] :: aBlk g_visit 95 [.func (.func 111) #[] #[.pointer (some ⟨g_m, 0, none⟩), .pointer (some ⟨g_nn, 0, none⟩), .pointer (some ⟨g_rows, 0, none⟩), .pointer (some ⟨g_columns, 0, none⟩)]] :: aBlk g_n 3 [.int .i64 n] :: aBlk g_next 97 [.func (.func 140) #[] #[.pointer (some ⟨g_l, 0, none⟩), .pointer (some ⟨g_kk, 0, none⟩), .pointer (some ⟨g_visit, 0, none⟩), .pointer (some ⟨g_n, 0, none⟩), .pointer (some ⟨g_next, 0, none⟩)]] :: aBlk g_m 22 [v_m] :: aBlk g_nn 3 [.int .i64 nn] :: aBlk g_rows 24 [v14] :: aInts 3 v14 l15 :: aBlk g_columns 24 [v16] :: aInts 3 v16 l17 :: As)) ?_ ?_
    · refine wp_block ?_
      refine x_loop (fun k a w => ∃ (v5 : Value) (l6 : List Int) (v7 : Value) (l8 : List Int) (v9 : Value) (l10 : List Int) (n11 : Int) , Fr a 36 [(1, .pointer (some ⟨g_l, 0, none⟩)), (4, .pointer (some ⟨g_n, 0, none⟩)), (5, .pointer (some ⟨g_next, 0, none⟩)), (8, .int .i64 n11)] ∧ Mem W w (aBlk g_l 24 [v5] :: aInts 3 v5 l6 :: aBlk g_kk 3 [.int .i64 kk] :: aBlk g_visit 95 [.func (.func 111) #[] #[.pointer (some ⟨g_m, 0, none⟩), .pointer (some ⟨g_nn, 0, none⟩), .pointer (some ⟨g_rows, 0, none⟩), .pointer (some ⟨g_columns, 0, none⟩)]] :: aBlk g_n 3 [.int .i64 n] :: aBlk g_next 97 [.func (.func 140) #[] #[.pointer (some ⟨g_l, 0, none⟩), .pointer (some ⟨g_kk, 0, none⟩), .pointer (some ⟨g_visit, 0, none⟩), .pointer (some ⟨g_n, 0, none⟩), .pointer (some ⟨g_next, 0, none⟩)]] :: aBlk g_m 22 [v_m] :: aBlk g_nn 3 [.int .i64 nn] :: aBlk g_rows 24 [v7] :: aInts 3 v7 l8 :: aBlk g_columns 24 [v9] :: aInts 3 v9 l10 :: As) ∧ impl_choices_1_out_l1 kk n m nn rec k l6 l8 l10 n11 = some s18) 4000000 ⟨v_l, l, v_rows, rows, v_columns, columns, p0, hs.sub ⟨rfl, rfl, rfl, rfl, trivial⟩, hM, hm⟩ ?_
      rintro k a w ⟨v5, l6, v7, l8, v9, l10, n11, hs, hM, hm⟩
      rcases k with _ | k
      · rewrite [impl_choices_1_out_l1] at hm; cases hm
      rewrite [impl_choices_1_out_l1] at hm
      refine wp_seq ?_
      refine wp_seq ?_
      refine wp_region_lit ?_
      refine wl hs (y_move hs rfl) rfl ?_; intro a hs
      refine wl hs (y_load sc_int hs rfl (hM.cellBlk 4 rfl 0 rfl)) rfl ?_; intro a hs
      refine wl hs (y_lss hs rfl rfl) rfl ?_; intro a hs
      refine wpList_nil ?_
      refine x_nt ?_
      refine x_cond hs rfl (fun hb => ?_) (fun hb => ?_)
      · replace hm := condT hb hm
        refine wp_skip ?_
        refine x_nt ?_
        refine wp_seq ?_
        refine wp_block ?_
        refine wp_seq ?_
        refine wp_region_lit ?_
        refine wl hs (y_load sc_I hs rfl (hM.cellBlk 0 rfl 0 rfl)) rfl ?_; intro a hs
        refine wl hs (y_move hs rfl) rfl ?_; intro a hs
        obtain ⟨l21, h22, hm⟩ := bindE hm
        refine wappI hu_I he_int hs (hM.front 1 rfl) rfl rfl h22 rfl rfl rfl ?_; intro a v23 w u24 hs hM
        have hM : Mem W w (aInts 3 v23 l21 :: aBlk g_l 24 [v5] :: aBlk g_kk 3 [.int .i64 kk] :: aBlk g_visit 95 [.func (.func 111) #[] #[.pointer (some ⟨g_m, 0, none⟩), .pointer (some ⟨g_nn, 0, none⟩), .pointer (some ⟨g_rows, 0, none⟩), .pointer (some ⟨g_columns, 0, none⟩)]] :: aBlk g_n 3 [.int .i64 n] :: aBlk g_next 97 [.func (.func 140) #[] #[.pointer (some ⟨g_l, 0, none⟩), .pointer (some ⟨g_kk, 0, none⟩), .pointer (some ⟨g_visit, 0, none⟩), .pointer (some ⟨g_n, 0, none⟩), .pointer (some ⟨g_next, 0, none⟩)]] :: aBlk g_m 22 [v_m] :: aBlk g_nn 3 [.int .i64 nn] :: aBlk g_rows 24 [v7] :: aInts 3 v7 l8 :: aBlk g_columns 24 [v9] :: aInts 3 v9 l10 :: As) := hM
        refine wstore hs rfl rfl (x_storeBlk he_I (Mem.one (hM.front 0 rfl)) (hM.front 1 rfl)) ?_; intro w hM
        have hM : Mem W w (aBlk g_l 24 [v23] :: aInts 3 v23 l21 :: aBlk g_kk 3 [.int .i64 kk] :: aBlk g_visit 95 [.func (.func 111) #[] #[.pointer (some ⟨g_m, 0, none⟩), .pointer (some ⟨g_nn, 0, none⟩), .pointer (some ⟨g_rows, 0, none⟩), .pointer (some ⟨g_columns, 0, none⟩)]] :: aBlk g_n 3 [.int .i64 n] :: aBlk g_next 97 [.func (.func 140) #[] #[.pointer (some ⟨g_l, 0, none⟩), .pointer (some ⟨g_kk, 0, none⟩), .pointer (some ⟨g_visit, 0, none⟩), .pointer (some ⟨g_n, 0, none⟩), .pointer (some ⟨g_next, 0, none⟩)]] :: aBlk g_m 22 [v_m] :: aBlk g_nn 3 [.int .i64 nn] :: aBlk g_rows 24 [v7] :: aInts 3 v7 l8 :: aBlk g_columns 24 [v9] :: aInts 3 v9 l10 :: As) := hM
        refine wpList_nil ?_
        refine x_nt ?_
        refine wp_seq ?_
        refine wp_seq ?_
        refine wp_region_lit ?_
        refine wl hs (y_load sc_97 hs rfl (hM.cellBlk 5 rfl 0 rfl)) rfl ?_; intro a hs
        refine wl hs (y_move hs rfl) rfl ?_; intro a hs
        obtain ⟨n25, h26, hm⟩ := bindE hm
        refine wl hs (y_add hs rfl rfl h26) rfl ?_; intro a hs
        obtain ⟨y27, h28, hm⟩ := bindE hm
        refine wcallv is_140 hs rfl rfl rfl (ih n25 g_l v23 l21 g_kk kk g_visit g_n n g_next g_m v_m m g_nn nn g_rows v7 l8 g_columns v9 l10 _ _ _ hr_m hM h28) ?_; rintro a _ w hs ⟨v29, v30, v31, rfl, hM⟩
        have hM : Mem W w (aBlk g_l 24 [v29] :: aInts 3 v29 y27.2.1 :: aBlk g_kk 3 [.int .i64 kk] :: aBlk g_visit 95 [.func (.func 111) #[] #[.pointer (some ⟨g_m, 0, none⟩), .pointer (some ⟨g_nn, 0, none⟩), .pointer (some ⟨g_rows, 0, none⟩), .pointer (some ⟨g_columns, 0, none⟩)]] :: aBlk g_n 3 [.int .i64 n] :: aBlk g_next 97 [.func (.func 140) #[] #[.pointer (some ⟨g_l, 0, none⟩), .pointer (some ⟨g_kk, 0, none⟩), .pointer (some ⟨g_visit, 0, none⟩), .pointer (some ⟨g_n, 0, none⟩), .pointer (some ⟨g_next, 0, none⟩)]] :: aBlk g_m 22 [v_m] :: aBlk g_nn 3 [.int .i64 nn] :: aBlk g_rows 24 [v30] :: aInts 3 v30 y27.2.2.1 :: aBlk g_columns 24 [v31] :: aInts 3 v31 y27.2.2.2 :: As) := hM
        refine wl hs (y_not hs rfl) rfl ?_; intro a hs
        refine wpList_nil ?_
        refine x_nt ?_
        refine x_cond hs rfl (fun hb => ?_) (fun hb => ?_)
        · replace hm := condT hb hm
          refine wp_seq ?_
          refine wp_region_lit ?_
          refine wl hs (y_assign hs rfl) rfl ?_; intro a hs
          refine wpList_nil ?_
          refine x_nt ?_
          refine wp_ret ?_
          refine x_rt ?_
          refine x_rb ?_
          refine x_rt ?_
          refine x_rt ?_
          refine x_rb ?_
          refine x_rt ?_
          refine x_rt ?_
          have hm : some (Sum.inl (false, y27.2.1, y27.2.2.1, y27.2.2.2)) = some s18 := hm
          cases Option.some.inj hm
          have hm := hk19
          have hm : some (false, y27.2.1, y27.2.2.1, y27.2.2.2) = some r := hm
          obtain rfl := Option.some.inj hm
          refine x_ret1 rfl hs rfl ⟨_, rfl, ?_⟩
          exact ⟨v29, v30, v31, rfl, hM⟩
        · replace hm := condF hb hm
          refine wp_skip ?_
          refine x_nt ?_
          refine wp_region_lit ?_
          refine wl hs (y_load sc_I hs rfl (hM.cellBlk 0 rfl 0 rfl)) rfl ?_; intro a hs
          refine wl hs (y_load sc_I hs rfl (hM.cellBlk 0 rfl 0 rfl)) rfl ?_; intro a hs
          refine wl hs (y_len hu_I hs rfl (hM.rdI 1 rfl)) rfl ?_; intro a hs
          obtain ⟨n32, h33, hm⟩ := bindE hm
          refine wl hs (y_sub hs rfl rfl h33) rfl ?_; intro a hs
          obtain ⟨l34, h35, hm⟩ := bindE hm
          obtain ⟨v36, h37, hM⟩ := (hM.front 1 rfl).cutI hu_I he_int h35
          have hM : Mem W w (aInts 3 v36 l34 :: aBlk g_l 24 [v29] :: aBlk g_kk 3 [.int .i64 kk] :: aBlk g_visit 95 [.func (.func 111) #[] #[.pointer (some ⟨g_m, 0, none⟩), .pointer (some ⟨g_nn, 0, none⟩), .pointer (some ⟨g_rows, 0, none⟩), .pointer (some ⟨g_columns, 0, none⟩)]] :: aBlk g_n 3 [.int .i64 n] :: aBlk g_next 97 [.func (.func 140) #[] #[.pointer (some ⟨g_l, 0, none⟩), .pointer (some ⟨g_kk, 0, none⟩), .pointer (some ⟨g_visit, 0, none⟩), .pointer (some ⟨g_n, 0, none⟩), .pointer (some ⟨g_next, 0, none⟩)]] :: aBlk g_m 22 [v_m] :: aBlk g_nn 3 [.int .i64 nn] :: aBlk g_rows 24 [v30] :: aInts 3 v30 y27.2.2.1 :: aBlk g_columns 24 [v31] :: aInts 3 v31 y27.2.2.2 :: As) := hM
          refine wl hs (y_cut hs rfl rfl h37) rfl ?_; intro a hs
          refine wstore hs rfl rfl (x_storeBlk he_I (Mem.one (hM.front 0 rfl)) (hM.front 1 rfl)) ?_; intro w hM
          have hM : Mem W w (aBlk g_l 24 [v36] :: aInts 3 v36 l34 :: aBlk g_kk 3 [.int .i64 kk] :: aBlk g_visit 95 [.func (.func 111) #[] #[.pointer (some ⟨g_m, 0, none⟩), .pointer (some ⟨g_nn, 0, none⟩), .pointer (some ⟨g_rows, 0, none⟩), .pointer (some ⟨g_columns, 0, none⟩)]] :: aBlk g_n 3 [.int .i64 n] :: aBlk g_next 97 [.func (.func 140) #[] #[.pointer (some ⟨g_l, 0, none⟩), .pointer (some ⟨g_kk, 0, none⟩), .pointer (some ⟨g_visit, 0, none⟩), .pointer (some ⟨g_n, 0, none⟩), .pointer (some ⟨g_next, 0, none⟩)]] :: aBlk g_m 22 [v_m] :: aBlk g_nn 3 [.int .i64 nn] :: aBlk g_rows 24 [v30] :: aInts 3 v30 y27.2.2.1 :: aBlk g_columns 24 [v31] :: aInts 3 v31 y27.2.2.2 :: As) := hM
          refine wpList_nil ?_
          refine x_nb ?_
          refine x_nt ?_
          refine wp_region_lit ?_
          refine wl hs (y_move hs rfl) rfl ?_; intro a hs
          obtain ⟨n38, h39, hm⟩ := bindE hm
          refine wl hs (y_add hs rfl rfl h39) rfl ?_; intro a hs
          refine wl hs (y_assign hs rfl) rfl ?_; intro a hs
          refine wpList_nil ?_
          exact ⟨k, Nat.lt_succ_self _, v36, l34, v30, y27.2.2.1, v31, y27.2.2.2, n38, hs.sub ⟨rfl, rfl, rfl, rfl, trivial⟩, hM, hm⟩
      · replace hm := condF hb hm
        refine wp_exit ?_
        refine x_et ?_
        refine x_et ?_
        refine x_eb ?_
        have hm : some (Sum.inr (l6, l8, l10)) = some s18 := hm
        exact ⟨v5, l6, v7, l8, v9, l10, Option.some.inj hm, hs.sub trivial, hM⟩
    rintro a w ⟨v12, l13, v14, l15, v16, l17, rfl, hs, hM⟩
    have hm := hk19
    refine x_nt ?_
    refine wp_seq ?_
    refine wp_region_lit ?_
    refine wl hs (y_assign hs rfl) rfl ?_; intro a hs
    refine wpList_nil ?_
    refine x_nt ?_
    refine wp_ret ?_
    have hm : some (true, l13, l15, l17) = some r := hm
    obtain rfl := Option.some.inj hm
    refine x_ret1 rfl hs rfl ⟨_, rfl, ?_⟩
    exact ⟨v12, v14, v16, rfl, hM⟩
theorem impl_choices_1_out_any (p0 : Int) (g_l : Nat) (v_l : Value) (l : List Int) (g_kk : Nat) (kk : Int) (g_visit : Nat) (g_n : Nat) (n : Int) (g_next : Nat) (g_m : Nat) (v_m : Value) (m : List (List Int)) (g_nn : Nat) (nn : Int) (g_rows : Nat) (v_rows : Value) (rows : List Int) (g_columns : Nat) (v_columns : Value) (columns : List Int) (W w : World) (As : List Atom) (hr_m : RdM W v_m m) (hM : Mem W w (aBlk g_l 24 [v_l] :: aInts 3 v_l l :: aBlk g_kk 3 [.int .i64 kk] :: aBlk g_visit 95 [.func (.func 111) #[] #[.pointer (some ⟨g_m, 0, none⟩), .pointer (some ⟨g_nn, 0, none⟩), .pointer (some ⟨g_rows, 0, none⟩), .pointer (some ⟨g_columns, 0, none⟩)]] :: aBlk g_n 3 [.int .i64 n] :: aBlk g_next 97 [.func (.func 140) #[] #[.pointer (some ⟨g_l, 0, none⟩), .pointer (some ⟨g_kk, 0, none⟩), .pointer (some ⟨g_visit, 0, none⟩), .pointer (some ⟨g_n, 0, none⟩), .pointer (some ⟨g_next, 0, none⟩)]] :: aBlk g_m 22 [v_m] :: aBlk g_nn 3 [.int .i64 nn] :: aBlk g_rows 24 [v_rows] :: aInts 3 v_rows rows :: aBlk g_columns 24 [v_columns] :: aInts 3 v_columns columns :: As)) {r : Bool × (List Int) × (List Int) × (List Int)} (hm : impl_choices_1_out_m p0 l kk n m nn rows columns = some r) : Calls Try.prog 140 [.int .i64 p0, .pointer (some ⟨g_l, 0, none⟩), .pointer (some ⟨g_kk, 0, none⟩), .pointer (some ⟨g_visit, 0, none⟩), .pointer (some ⟨g_n, 0, none⟩), .pointer (some ⟨g_next, 0, none⟩)].toArray w fun e w' => ∃ v, e = .returned v ∧ ∃ v_l', ∃ v_rows', ∃ v_columns', v = .bool r.1 ∧ Mem W w' (aBlk g_l 24 [v_l'] :: aInts 3 v_l' r.2.1 :: aBlk g_kk 3 [.int .i64 kk] :: aBlk g_visit 95 [.func (.func 111) #[] #[.pointer (some ⟨g_m, 0, none⟩), .pointer (some ⟨g_nn, 0, none⟩), .pointer (some ⟨g_rows, 0, none⟩), .pointer (some ⟨g_columns, 0, none⟩)]] :: aBlk g_n 3 [.int .i64 n] :: aBlk g_next 97 [.func (.func 140) #[] #[.pointer (some ⟨g_l, 0, none⟩), .pointer (some ⟨g_kk, 0, none⟩), .pointer (some ⟨g_visit, 0, none⟩), .pointer (some ⟨g_n, 0, none⟩), .pointer (some ⟨g_next, 0, none⟩)]] :: aBlk g_m 22 [v_m] :: aBlk g_nn 3 [.int .i64 nn] :: aBlk g_rows 24 [v_rows'] :: aInts 3 v_rows' r.2.2.1 :: aBlk g_columns 24 [v_columns'] :: aInts 3 v_columns' r.2.2.2 :: As) := impl_choices_1_out_rec 64 p0 g_l v_l l g_kk kk g_visit g_n n g_next g_m v_m m g_nn nn g_rows v_rows rows g_columns v_columns columns W w As hr_m hM hm

theorem impl_choices_out_any (p0 : Int) (p1 : Int) (g_m : Nat) (v_m : Value) (m : List (List Int)) (g_nn : Nat) (nn : Int) (g_rows : Nat) (v_rows : Value) (rows : List Int) (g_columns : Nat) (v_columns : Value) (columns : List Int) (W w : World) (As : List Atom) (hr_m : RdM W v_m m) (hM : Mem W w (aBlk g_m 22 [v_m] :: aBlk g_nn 3 [.int .i64 nn] :: aBlk g_rows 24 [v_rows] :: aInts 3 v_rows rows :: aBlk g_columns 24 [v_columns] :: aInts 3 v_columns columns :: As)) {r : Bool × (List Int) × (List Int)} (hm : impl_choices_out_m p0 p1 m nn rows columns = some r) : Calls Try.prog 110 [.int .i64 p0, .int .i64 p1, .func (.func 111) #[] #[.pointer (some ⟨g_m, 0, none⟩), .pointer (some ⟨g_nn, 0, none⟩), .pointer (some ⟨g_rows, 0, none⟩), .pointer (some ⟨g_columns, 0, none⟩)]].toArray w fun e w' => ∃ v, e = .returned v ∧ ∃ v_rows', ∃ v_columns', v = .bool r.1 ∧ Mem W w' (aBlk g_m 22 [v_m] :: aBlk g_nn 3 [.int .i64 nn] :: aBlk g_rows 24 [v_rows'] :: aInts 3 v_rows' r.2.1 :: aBlk g_columns 24 [v_columns'] :: aInts 3 v_columns' r.2.2 :: As) := by
  refine x_enter Try.func110 rfl Try.ntmps110 rfl ?_
  intro a hs
  unfold impl_choices_out_m at hm
  refine wp_seq ?_
  refine wp_region_lit ?_
  refine wmem hs (x_box rfl hs rfl hM) rfl ?_; rintro a _ w hs ⟨g2, rfl, hM⟩
  have hM : Mem W w (aBlk g2 3 [.int .i64 p0] :: aBlk g_m 22 [v_m] :: aBlk g_nn 3 [.int .i64 nn] :: aBlk g_rows 24 [v_rows] :: aInts 3 v_rows rows :: aBlk g_columns 24 [v_columns] :: aInts 3 v_columns columns :: As) := hM
  refine wmem hs (x_box rfl hs rfl hM) rfl ?_; rintro a _ w hs ⟨g4, rfl, hM⟩
  have hM : Mem W w (aBlk g4 3 [.int .i64 p1] :: aBlk g2 3 [.int .i64 p0] :: aBlk g_m 22 [v_m] :: aBlk g_nn 3 [.int .i64 nn] :: aBlk g_rows 24 [v_rows] :: aInts 3 v_rows rows :: aBlk g_columns 24 [v_columns] :: aInts 3 v_columns columns :: As) := hM
  refine wmem hs (x_box rfl hs rfl hM) rfl ?_; rintro a _ w hs ⟨g6, rfl, hM⟩
  have hM : Mem W w (aBlk g6 95 [.func (.func 111) #[] #[.pointer (some ⟨g_m, 0, none⟩), .pointer (some ⟨g_nn, 0, none⟩), .pointer (some ⟨g_rows, 0, none⟩), .pointer (some ⟨g_columns, 0, none⟩)]] :: aBlk g4 3 [.int .i64 p1] :: aBlk g2 3 [.int .i64 p0] :: aBlk g_m 22 [v_m] :: aBlk g_nn 3 [.int .i64 nn] :: aBlk g_rows 24 [v_rows] :: aInts 3 v_rows rows :: aBlk g_columns 24 [v_columns] :: aInts 3 v_columns columns :: As) := hM
  refine wl hs (y_assign hs rfl) rfl ?_; intro a hs
  refine wpList_nil ?_
  refine x_nt ?_
  refine wp_seq ?_
  refine wp_region_lit ?_
  refine wmem hs (x_new0I ht_I hM) rfl ?_; intro a v8 w hs hM
  have hM : Mem W w (aInts 3 v8 ([]) :: aBlk g6 95 [.func (.func 111) #[] #[.pointer (some ⟨g_m, 0, none⟩), .pointer (some ⟨g_nn, 0, none⟩), .pointer (some ⟨g_rows, 0, none⟩), .pointer (some ⟨g_columns, 0, none⟩)]] :: aBlk g4 3 [.int .i64 p1] :: aBlk g2 3 [.int .i64 p0] :: aBlk g_m 22 [v_m] :: aBlk g_nn 3 [.int .i64 nn] :: aBlk g_rows 24 [v_rows] :: aInts 3 v_rows rows :: aBlk g_columns 24 [v_columns] :: aInts 3 v_columns columns :: As) := hM
  refine wmem hs (x_alloc he_I rfl hM) rfl ?_; rintro a _ w hs ⟨g10, rfl, hM⟩
  have hM : Mem W w (aBlk g10 24 [.slice none 0 0] :: aInts 3 v8 ([]) :: aBlk g6 95 [.func (.func 111) #[] #[.pointer (some ⟨g_m, 0, none⟩), .pointer (some ⟨g_nn, 0, none⟩), .pointer (some ⟨g_rows, 0, none⟩), .pointer (some ⟨g_columns, 0, none⟩)]] :: aBlk g4 3 [.int .i64 p1] :: aBlk g2 3 [.int .i64 p0] :: aBlk g_m 22 [v_m] :: aBlk g_nn 3 [.int .i64 nn] :: aBlk g_rows 24 [v_rows] :: aInts 3 v_rows rows :: aBlk g_columns 24 [v_columns] :: aInts 3 v_columns columns :: As) := hM
  refine wstore hs rfl rfl (x_storeBlk he_I (Mem.one (hM.front 1 rfl)) (hM.front 0 rfl)) ?_; intro w hM
  have hM : Mem W w (aBlk g10 24 [v8] :: aInts 3 v8 ([]) :: aBlk g6 95 [.func (.func 111) #[] #[.pointer (some ⟨g_m, 0, none⟩), .pointer (some ⟨g_nn, 0, none⟩), .pointer (some ⟨g_rows, 0, none⟩), .pointer (some ⟨g_columns, 0, none⟩)]] :: aBlk g4 3 [.int .i64 p1] :: aBlk g2 3 [.int .i64 p0] :: aBlk g_m 22 [v_m] :: aBlk g_nn 3 [.int .i64 nn] :: aBlk g_rows 24 [v_rows] :: aInts 3 v_rows rows :: aBlk g_columns 24 [v_columns] :: aInts 3 v_columns columns :: As) := hM
  refine wpList_nil ?_
  refine x_nt ?_
  refine wp_seq ?_
  refine wp_region_lit ?_
  refine wmem hs (x_alloc he_97 rfl hM) rfl ?_; rintro a _ w hs ⟨g12, rfl, hM⟩
  have hM : Mem W w (aBlk g12 97 [.nilFunc] :: aBlk g10 24 [v8] :: aInts 3 v8 ([]) :: aBlk g6 95 [.func (.func 111) #[] #[.pointer (some ⟨g_m, 0, none⟩), .pointer (some ⟨g_nn, 0, none⟩), .pointer (some ⟨g_rows, 0, none⟩), .pointer (some ⟨g_columns, 0, none⟩)]] :: aBlk g4 3 [.int .i64 p1] :: aBlk g2 3 [.int .i64 p0] :: aBlk g_m 22 [v_m] :: aBlk g_nn 3 [.int .i64 nn] :: aBlk g_rows 24 [v_rows] :: aInts 3 v_rows rows :: aBlk g_columns 24 [v_columns] :: aInts 3 v_columns columns :: As) := hM
  refine wpList_nil ?_
  refine x_nt ?_
  refine wp_seq ?_
  refine wp_region_lit ?_
  refine wl hs (y_makeFunc hs rfl) rfl ?_; intro a hs
  refine wstore hs rfl rfl (x_storeBlk he_97 rfl (hM.front 0 rfl)) ?_; intro w hM
  have hM : Mem W w (aBlk g12 97 [.func (.func 140) #[] #[.pointer (some ⟨g10, 0, none⟩), .pointer (some ⟨g4, 0, none⟩), .pointer (some ⟨g6, 0, none⟩), .pointer (some ⟨g2, 0, none⟩), .pointer (some ⟨g12, 0, none⟩)]] :: aBlk g10 24 [v8] :: aInts 3 v8 ([]) :: aBlk g6 95 [.func (.func 111) #[] #[.pointer (some ⟨g_m, 0, none⟩), .pointer (some ⟨g_nn, 0, none⟩), .pointer (some ⟨g_rows, 0, none⟩), .pointer (some ⟨g_columns, 0, none⟩)]] :: aBlk g4 3 [.int .i64 p1] :: aBlk g2 3 [.int .i64 p0] :: aBlk g_m 22 [v_m] :: aBlk g_nn 3 [.int .i64 nn] :: aBlk g_rows 24 [v_rows] :: aInts 3 v_rows rows :: aBlk g_columns 24 [v_columns] :: aInts 3 v_columns columns :: As) := hM
  refine wpList_nil ?_
  refine x_nt ?_
  refine wp_seq ?_
  refine wp_region_lit ?_
  refine wl hs (y_load sc_97 hs rfl (hM.cellBlk 0 rfl 0 rfl)) rfl ?_; intro a hs
  obtain ⟨y13, h14, hm⟩ := bindE hm
  refine wcallv is_140 hs rfl rfl rfl (impl_choices_1_out_any 0 g10 v8 ([]) g4 p1 g6 g2 p0 g12 g_m v_m m g_nn nn g_rows v_rows rows g_columns v_columns columns _ _ _ hr_m ((((((((((((hM.front 11 rfl).front 11 rfl).front 11 rfl).front 11 rfl).front 11 rfl).front 11 rfl).front 6 rfl).front 11 rfl).front 10 rfl).front 11 rfl).front 11 rfl).front 11 rfl) h14) ?_; rintro a _ w hs ⟨v15, v16, v17, rfl, hM⟩
  have hM : Mem W w (aBlk g10 24 [v15] :: aInts 3 v15 y13.2.1 :: aBlk g4 3 [.int .i64 p1] :: aBlk g6 95 [.func (.func 111) #[] #[.pointer (some ⟨g_m, 0, none⟩), .pointer (some ⟨g_nn, 0, none⟩), .pointer (some ⟨g_rows, 0, none⟩), .pointer (some ⟨g_columns, 0, none⟩)]] :: aBlk g2 3 [.int .i64 p0] :: aBlk g12 97 [.func (.func 140) #[] #[.pointer (some ⟨g10, 0, none⟩), .pointer (some ⟨g4, 0, none⟩), .pointer (some ⟨g6, 0, none⟩), .pointer (some ⟨g2, 0, none⟩), .pointer (some ⟨g12, 0, none⟩)]] :: aBlk g_m 22 [v_m] :: aBlk g_nn 3 [.int .i64 nn] :: aBlk g_rows 24 [v16] :: aInts 3 v16 y13.2.2.1 :: aBlk g_columns 24 [v17] :: aInts 3 v17 y13.2.2.2 :: As) := hM
  refine wl hs (y_assign hs rfl) rfl ?_; intro a hs
  refine wpList_nil ?_
  refine x_nt ?_
  refine wp_ret ?_
  have hm : some (y13.1, y13.2.2.1, y13.2.2.2) = some r := hm
  obtain rfl := Option.some.inj hm
  refine x_ret1 rfl hs rfl ⟨_, rfl, ?_⟩
  exact ⟨v16, v17, rfl, hM.drop.drop.drop.drop.drop.drop⟩

theorem impl_firstRegular_any (v_p0 : Value) (p0 : List (List Int)) (p1 : Int) (W : World) (hr_p0 : RdM W v_p0 p0) {r : (List Int) × (List Int) × Bool} (hm : impl_firstRegular_m p0 p1 = some r) : Calls Try.prog 77 [v_p0, .int .i64 p1].toArray W fun e w => ∃ v, e = .returned v ∧ ∃ v0, ∃ v1, v = .tuple #[v0, v1, .bool r.2.2] ∧ Mem W w [aInts 3 v0 r.1, aInts 3 v1 r.2.1] := by
  refine x_enter Try.func77 rfl Try.ntmps77 rfl ?_
  intro a hs
  have hM := Mem.start W
  unfold impl_firstRegular_m at hm
  refine wp_seq ?_
  refine wp_region_lit ?_
  refine wmem hs (x_box (RdS.one hr_p0) hs rfl hM) rfl ?_; rintro a _ w hs ⟨g2, rfl, hM⟩
  have hM : Mem W w [aBlk g2 22 [v_p0]] := hM
  refine wmem hs (x_box rfl hs rfl hM) rfl ?_; rintro a _ w hs ⟨g4, rfl, hM⟩
  have hM : Mem W w [aBlk g4 3 [.int .i64 p1], aBlk g2 22 [v_p0]] := hM
  refine wl hs (y_assign hs rfl) rfl ?_; intro a hs
  refine wl hs (y_assign hs rfl) rfl ?_; intro a hs
  refine wl hs (y_assign hs rfl) rfl ?_; intro a hs
  refine wpList_nil ?_
  refine x_nt ?_
  refine wp_seq ?_
  refine wp_region_lit ?_
  refine wmem hs (x_alloc he_I rfl hM) rfl ?_; rintro a _ w hs ⟨g6, rfl, hM⟩
  have hM : Mem W w [aBlk g6 24 [.slice none 0 0], aBlk g4 3 [.int .i64 p1], aBlk g2 22 [v_p0]] := hM
  refine wmem hs (x_alloc he_I rfl hM) rfl ?_; rintro a _ w hs ⟨g8, rfl, hM⟩
  have hM : Mem W w [aBlk g8 24 [.slice none 0 0], aBlk g6 24 [.slice none 0 0], aBlk g4 3 [.int .i64 p1], aBlk g2 22 [v_p0]] := hM
  refine wpList_nil ?_
  refine x_nt ?_
  refine wp_seq ?_
  refine wp_region_lit ?_
  refine wl hs (y_load sc_M hs rfl (hM.cellBlk 3 rfl 0 rfl)) rfl ?_; intro a hs
  refine wl hs (y_len hu_M hs rfl (RdM.below hr_p0 hM.bel)) rfl ?_; intro a hs
  refine wl hs (y_load sc_int hs rfl (hM.cellBlk 2 rfl 0 rfl)) rfl ?_; intro a hs
  refine wl hs (y_makeFunc hs rfl) rfl ?_; intro a hs
  have hM := hM.nilI 3
  have hM := hM.nilI 3
  obtain ⟨y11, h12, hm⟩ := bindE hm
  refine wcall is_110 hs rfl rfl (impl_choices_out_any (p0.length : Int) p1 g2 v_p0 p0 g4 p1 g6 (.slice none 0 0) ([]) g8 (.slice none 0 0) ([]) _ _ _ hr_p0 (((((hM.front 2 rfl).front 2 rfl).front 3 rfl).front 4 rfl).front 5 rfl) h12) ?_; rintro a _ w hs ⟨v13, v14, rfl, hM⟩
  have hM : Mem W w [aBlk g2 22 [v_p0], aBlk g4 3 [.int .i64 p1], aBlk g6 24 [v13], aInts 3 v13 y11.2.1, aBlk g8 24 [v14], aInts 3 v14 y11.2.2] := hM
  refine wl hs (y_assign hs rfl) rfl ?_; intro a hs
  refine wpList_nil ?_
  refine x_nt ?_
  refine wp_seq ?_
  refine x_regq hmix (by kernel_rfl) ?_
  refine wq hs (fun w1 hw1 => y_load sc_I hs rfl ((hM.quiet hw1).cellBlk 2 rfl 0 rfl)) rfl ?_; intro a hs
  refine wq hs (fun w1 hw1 => y_load sc_I hs rfl ((hM.quiet hw1).cellBlk 4 rfl 0 rfl)) rfl ?_; intro a hs
  refine wq hs (fun w1 hw1 => y_move hs rfl) rfl ?_; intro a hs
  refine wq hs (fun w1 hw1 => y_not hs rfl) rfl ?_; intro a hs
  refine wq hs (fun w1 hw1 => y_assign hs rfl) rfl ?_; intro a hs
  refine wq hs (fun w1 hw1 => y_assign hs rfl) rfl ?_; intro a hs
  refine wq hs (fun w1 hw1 => y_assign hs rfl) rfl ?_; intro a hs
  refine wpQuiet_nil ?_
  intro w hw
  replace hM := hM.quiet hw
  refine x_nt ?_
  refine wp_ret ?_
  have hm : some (y11.2.1, y11.2.2, !y11.1) = some r := hm
  obtain rfl := Option.some.inj hm
  refine x_ret3 rfl hs rfl rfl rfl ⟨_, rfl, ?_⟩
  exact ⟨_, _, rfl, (hM.drop.drop.drop.front 1 rfl).drop⟩

theorem impl_tropicalRank_any (v_p0 : Value) (p0 : List (List Int)) (W : World) (hr_p0 : RdM W v_p0 p0) {r : Int} (hm : impl_tropicalRank_m p0 = some r) : Calls Try.prog 79 [v_p0].toArray W fun e w => ∃ v, e = .returned v ∧ v = .int .i64 r ∧ Mem W w [] := by
  refine x_enter Try.func79 rfl Try.ntmps79 rfl ?_
  intro a hs
  have hM := Mem.start W
  unfold impl_tropicalRank_m at hm
  refine wp_seq ?_
  refine wp_region_lit ?_
  refine wl hs (y_assign hs rfl) rfl ?_; intro a hs
  refine wpList_nil ?_
  refine x_nt ?_
  refine wp_seq ?_
  refine wp_seq ?_
  refine wp_region_lit ?_
  refine wl hs (y_move hs rfl) rfl ?_; intro a hs
  refine wl hs (y_len hu_M hs rfl (RdM.below hr_p0 hM.bel)) rfl ?_; intro a hs
  refine wl hs (y_move hs rfl) rfl ?_; intro a hs
  obtain ⟨x1, hx2, hm⟩ := bindE hm
  obtain ⟨u4, he3, hr5⟩ := RdM.at_ hr_p0 hx2
  replace he3 := he3.below hM.bel
  refine wl hs (y_index ht_M hs rfl rfl he3) rfl ?_; intro a hs
  refine wl hs (y_load sc_I hs rfl he3.cell) rfl ?_; intro a hs
  refine wl hs (y_len hu_I hs rfl (RdI.below hr5 hM.bel)) rfl ?_; intro a hs
  refine wl hs (y_min hs rfl rfl) rfl ?_; intro a hs
  refine wl hs (y_assign hs rfl) rfl ?_; intro a hs
  refine wpList_nil ?_
  refine x_nt ?_
  obtain ⟨s7, hm, hk8⟩ := bindE hm
  refine x_mid (fun a w => Sum.inr () = s7 ∧ Fr a 27 [] ∧ Mem W w []) ?_ ?_
  · refine wp_block ?_
    refine x_loop (fun k a w => ∃ (n6 : Int) , Fr a 27 [(0, v_p0), (3, .int .i64 n6)] ∧ Mem W w [] ∧ impl_tropicalRank_l1 p0 k n6 = some s7) 4000000 ⟨min (p0.length : Int) (x1.length : Int), hs.sub ⟨rfl, rfl, trivial⟩, hM, hm⟩ ?_
    rintro k a w ⟨n6, hs, hM, hm⟩
    rcases k with _ | k
    · rewrite [impl_tropicalRank_l1] at hm; cases hm
    rewrite [impl_tropicalRank_l1] at hm
    refine wp_seq ?_
    refine wp_seq ?_
    refine wp_region_lit ?_
    refine wl hs (y_move hs rfl) rfl ?_; intro a hs
    refine wl hs (y_gtr hs rfl rfl) rfl ?_; intro a hs
    refine wpList_nil ?_
    refine x_nt ?_
    refine x_cond hs rfl (fun hb => ?_) (fun hb => ?_)
    · replace hm := condT hb hm
      refine wp_skip ?_
      refine x_nt ?_
      refine wp_seq ?_
      refine wp_block ?_
      refine wp_seq ?_
      refine wp_region_lit ?_
      refine wl hs (y_move hs rfl) rfl ?_; intro a hs
      refine wl hs (y_move hs rfl) rfl ?_; intro a hs
      obtain ⟨y10, h11, hm⟩ := bindE hm
      refine wcall is_77 hs rfl rfl (impl_firstRegular_any v_p0 p0 n6 _ (RdM.below hr_p0 hM.bel) h11) ?_; rintro a _ w hs ⟨v14, v16, rfl, hX⟩
      have hM : Mem W w [aInts 3 v14 y10.1, aInts 3 v16 y10.2.1] := hM.call hX
      refine wl hs (y_move hs rfl) rfl ?_; intro a hs
      refine wl hs (y_extract hs rfl rfl) rfl ?_; intro a hs
      refine wl hs (y_extract hs rfl rfl) rfl ?_; intro a hs
      refine wl hs (y_extract hs rfl rfl) rfl ?_; intro a hs
      refine wl hs (y_assign hs rfl) rfl ?_; intro a hs
      refine wl hs (y_assign hs rfl) rfl ?_; intro a hs
      refine wl hs (y_assign hs rfl) rfl ?_; intro a hs
      refine wpList_nil ?_
      refine x_nt ?_
      refine wp_seq ?_
      refine wp_region_lit ?_
      refine wl hs (y_move hs rfl) rfl ?_; intro a hs
      refine wpList_nil ?_
      refine x_nt ?_
      refine x_cond hs rfl (fun hb => ?_) (fun hb => ?_)
      · replace hm := condT hb hm
        refine wp_seq ?_
        refine wp_region_lit ?_
        refine wl hs (y_move hs rfl) rfl ?_; intro a hs
        refine wl hs (y_assign hs rfl) rfl ?_; intro a hs
        refine wpList_nil ?_
        refine x_nt ?_
        refine wp_ret ?_
        refine x_rb ?_
        refine x_rt ?_
        refine x_rt ?_
        refine x_rb ?_
        refine x_rt ?_
        refine x_rt ?_
        have hm : some (Sum.inl n6) = some s7 := hm
        cases Option.some.inj hm
        have hm := hk8
        have hm : some n6 = some r := hm
        obtain rfl := Option.some.inj hm
        refine x_ret1 rfl hs rfl ⟨_, rfl, ?_⟩
        exact ⟨rfl, hM.none_⟩
      · replace hm := condF hb hm
        refine wp_skip ?_
        refine x_nb ?_
        refine x_nt ?_
        refine wp_region_lit ?_
        refine wl hs (y_move hs rfl) rfl ?_; intro a hs
        obtain ⟨n17, h18, hm⟩ := bindE hm
        refine wl hs (y_sub hs rfl rfl h18) rfl ?_; intro a hs
        refine wl hs (y_assign hs rfl) rfl ?_; intro a hs
        refine wpList_nil ?_
        exact ⟨k, Nat.lt_succ_self _, n17, hs.sub ⟨rfl, rfl, trivial⟩, hM.none_, hm⟩
    · replace hm := condF hb hm
      refine wp_exit ?_
      refine x_et ?_
      refine x_et ?_
      refine x_eb ?_
      have hm : some (Sum.inr ()) = some s7 := hm
      exact ⟨Option.some.inj hm, hs.sub trivial, hM⟩
  rintro a w ⟨rfl, hs, hM⟩
  have hm := hk8
  refine x_nt ?_
  refine wp_seq ?_
  refine wp_region_lit ?_
  refine wl hs (y_assign hs rfl) rfl ?_; intro a hs
  refine wpList_nil ?_
  refine x_nt ?_
  refine wp_ret ?_
  have hm : some 0 = some r := hm
  obtain rfl := Option.some.inj hm
  refine x_ret1 rfl hs rfl ⟨_, rfl, ?_⟩
  exact ⟨rfl, hM⟩

theorem impl_FirstRegular_any (v_p0 : Value) (p0 : List (List Int)) (p1 : Int) (W : World) (hr_p0 : RdM W v_p0 p0) {r : (List Int) × (List Int) × Bool} (hm : impl_FirstRegular_m p0 p1 = some r) : Calls Try.prog 33 [v_p0, .int .i64 p1].toArray W fun e w => ∃ v, e = .returned v ∧ ∃ v0, ∃ v1, v = .tuple #[v0, v1, .bool r.2.2] ∧ Mem W w [aInts 3 v0 r.1, aInts 3 v1 r.2.1] := by
  refine x_enter Try.func33 rfl Try.ntmps33 rfl ?_
  intro a hs
  have hM := Mem.start W
  unfold impl_FirstRegular_m at hm
  refine wp_seq ?_
  refine wp_region_lit ?_
  refine wl hs (y_assign hs rfl) rfl ?_; intro a hs
  refine wl hs (y_assign hs rfl) rfl ?_; intro a hs
  refine wl hs (y_assign hs rfl) rfl ?_; intro a hs
  refine wpList_nil ?_
  refine x_nt ?_
  refine wp_seq ?_
  refine wp_seq ?_
  refine wp_region_lit ?_
  refine wl hs (y_move hs rfl) rfl ?_; intro a hs
  obtain ⟨y1, h2, hm⟩ := bindE hm
  refine wcall is_59 hs rfl rfl (impl_isMatrix_any v_p0 p0 _ (RdM.below hr_p0 hM.bel) h2) ?_; rintro a _ w hs ⟨rfl, hX⟩
  have hM : Mem W w [] := hM.call hX
  refine wl hs (y_not hs rfl) rfl ?_; intro a hs
  refine wl hs (y_move hs rfl) rfl ?_; intro a hs
  obtain ⟨b3, hb4, hm⟩ := bindE hm
  refine wlguard (N := 21) (L' := [(14, .bool b3), (0, v_p0), (1, .int .i64 p1)]) (fun w => Mem W w []) 4 ?_ ?_
  · intro K; rcases Bool.eq_false_or_eq_true (!y1) with hg5 | hg5
    · have hm := condT hg5 hb4
      refine wls hs rfl hg5 rfl ?_; intro a hs
      refine wls hs rfl hg5 rfl ?_; intro a hs
      refine wls hs rfl hg5 rfl ?_; intro a hs
      have hm : some true = some b3 := hm
      cases Option.some.inj hm
      refine wl hs (y_pickT hs rfl hg5 rfl) rfl ?_; intro a hs
      exact K _ _ (hs.sub ⟨rfl, rfl, rfl, trivial⟩) hM
    · have hm := condF hg5 hb4
      refine wlg hs rfl hg5 (y_move hs rfl) rfl ?_; intro a hs
      obtain ⟨y6, h7, hm⟩ := bindE hm
      refine wcallg is_76 hs rfl hg5 rfl rfl (impl_within_any p1 1 6 _  h7) ?_; rintro a _ w hs ⟨rfl, hX⟩
      have hM : Mem W w [] := hM.call hX
      refine wlg hs rfl hg5 (y_not hs rfl) rfl ?_; intro a hs
      have hm : some (!y6) = some b3 := hm
      cases Option.some.inj hm
      refine wl hs (y_pickF hs rfl hg5 rfl) rfl ?_; intro a hs
      exact K _ _ (hs.sub ⟨rfl, rfl, rfl, trivial⟩) hM
  intro a w hs hM
  simp only [List.drop_succ_cons, List.drop_zero]
  refine wpList_nil ?_
  refine x_nt ?_
  refine x_cond hs rfl (fun hb => ?_) (fun hb => ?_)
  · replace hm := condT hb hm
    refine wp_seq ?_
    refine wp_region_lit ?_
    refine wl hs (y_assign hs rfl) rfl ?_; intro a hs
    refine wl hs (y_assign hs rfl) rfl ?_; intro a hs
    refine wl hs (y_assign hs rfl) rfl ?_; intro a hs
    refine wpList_nil ?_
    refine x_nt ?_
    refine wp_ret ?_
    refine x_rt ?_
    have hm : some ([], [], false) = some r := hm
    obtain rfl := Option.some.inj hm
    refine x_ret3 rfl hs rfl rfl rfl ⟨_, rfl, ?_⟩
    have hM := hM.nilI 3
    have hM := hM.nilI 3
    exact ⟨_, _, rfl, (hM.front 1 rfl)⟩
  · replace hm := condF hb hm
    refine wp_skip ?_
    refine x_nt ?_
    refine wp_seq ?_
    refine wp_region_lit ?_
    refine wl hs (y_move hs rfl) rfl ?_; intro a hs
    refine wl hs (y_move hs rfl) rfl ?_; intro a hs
    obtain ⟨y10, h11, hm⟩ := bindE hm
    refine wcall is_77 hs rfl rfl (impl_firstRegular_any v_p0 p0 p1 _ (RdM.below hr_p0 hM.bel) h11) ?_; rintro a _ w hs ⟨v14, v16, rfl, hX⟩
    have hM : Mem W w [aInts 3 v14 y10.1, aInts 3 v16 y10.2.1] := hM.call hX
    refine wl hs (y_extract hs rfl rfl) rfl ?_; intro a hs
    refine wl hs (y_extract hs rfl rfl) rfl ?_; intro a hs
    refine wl hs (y_extract hs rfl rfl) rfl ?_; intro a hs
    refine wl hs (y_assign hs rfl) rfl ?_; intro a hs
    refine wl hs (y_assign hs rfl) rfl ?_; intro a hs
    refine wl hs (y_assign hs rfl) rfl ?_; intro a hs
    refine wpList_nil ?_
    refine x_nt ?_
    refine wp_ret ?_
    have hm : some (y10.1, y10.2.1, y10.2.2) = some r := hm
    obtain rfl := Option.some.inj hm
    refine x_ret3 rfl hs rfl rfl rfl ⟨_, rfl, ?_⟩
    exact ⟨_, _, rfl, hM⟩

theorem impl_TropicalRank_any (v_p0 : Value) (p0 : List (List Int)) (W : World) (hr_p0 : RdM W v_p0 p0) {r : Int × Bool} (hm : impl_TropicalRank_m p0 = some r) : Calls Try.prog 35 [v_p0].toArray W fun e w => ∃ v, e = .returned v ∧ v = .tuple #[.int .i64 r.1, .bool r.2] ∧ Mem W w [] := by
  refine x_enter Try.func35 rfl Try.ntmps35 rfl ?_
  intro a hs
  have hM := Mem.start W
  unfold impl_TropicalRank_m at hm
  refine wp_seq ?_
  refine wp_region_lit ?_
  refine wl hs (y_assign hs rfl) rfl ?_; intro a hs
  refine wl hs (y_assign hs rfl) rfl ?_; intro a hs
  refine wpList_nil ?_
  refine x_nt ?_
  refine wp_seq ?_
  refine wp_seq ?_
  refine wp_region_lit ?_
  refine wl hs (y_move hs rfl) rfl ?_; intro a hs
  obtain ⟨y1, h2, hm⟩ := bindE hm
  refine wcall is_59 hs rfl rfl (impl_isMatrix_any v_p0 p0 _ (RdM.below hr_p0 hM.bel) h2) ?_; rintro a _ w hs ⟨rfl, hX⟩
  have hM : Mem W w [] := hM.call hX
  refine wl hs (y_not hs rfl) rfl ?_; intro a hs
  refine wpList_nil ?_
  refine x_nt ?_
  refine x_cond hs rfl (fun hb => ?_) (fun hb => ?_)
  · replace hm := condT hb hm
    refine wp_seq ?_
    refine wp_region_lit ?_
    refine wl hs (y_assign hs rfl) rfl ?_; intro a hs
    refine wl hs (y_assign hs rfl) rfl ?_; intro a hs
    refine wpList_nil ?_
    refine x_nt ?_
    refine wp_ret ?_
    refine x_rt ?_
    have hm : some (0, false) = some r := hm
    obtain rfl := Option.some.inj hm
    refine x_ret2 rfl hs rfl rfl ⟨_, rfl, ?_⟩
    exact ⟨rfl, hM⟩
  · replace hm := condF hb hm
    refine wp_skip ?_
    refine x_nt ?_
    refine wp_seq ?_
    refine wp_region_lit ?_
    refine wl hs (y_move hs rfl) rfl ?_; intro a hs
    obtain ⟨y3, h4, hm⟩ := bindE hm
    refine wcall is_79 hs rfl rfl (impl_tropicalRank_any v_p0 p0 _ (RdM.below hr_p0 hM.bel) h4) ?_; rintro a _ w hs ⟨rfl, hX⟩
    have hM : Mem W w [] := hM.call hX
    refine wl hs (y_assign hs rfl) rfl ?_; intro a hs
    refine wl hs (y_assign hs rfl) rfl ?_; intro a hs
    refine wpList_nil ?_
    refine x_nt ?_
    refine wp_ret ?_
    have hm : some (y3, true) = some r := hm
    obtain rfl := Option.some.inj hm
    refine x_ret2 rfl hs rfl rfl ⟨_, rfl, ?_⟩
    exact ⟨rfl, hM⟩

end Go.Proofs.Ytaagklbiebogfaa
