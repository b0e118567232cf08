/- Plain laws: is the matrix of rank one, and the outer product of two vectors. -/
import Derived.Test.YtefjnpdpeablpaaRk1M
import Derived.Test.YtefjnpdpeablpaaPMat
namespace Go.Proofs.Ytefjnpdpeablpaa
set_option linter.unusedVariables false
set_option linter.unusedSimpArgs false

/-- Entry x of row r at column j is as in a matrix of rank one, whose first row is h. -/
def r1 (h r : List Int) (j : Nat) (x : Int) : Bool := !(x == 1000000000) && decide (x - nth r 0 = nth h j - nth h 0)
def r1' (h r : List Int) (j : Nat) (x : Int) : Bool := !(x == 1000000000) && (!(nth h j == 1000000000) && decide (x - nth r 0 = nth h j - nth h 0))
theorem rkOne_l2_eq {m : List (List Int)} {c : Nat} (g : Good m c) {r : List Int} (hr : r ∈ m) (q : List Int) : ∀ j, j + q.length = c → (∀ x ∈ q, num x = true) → spec_rkOne_l2 m r q j = some (cond (allI (r1 (hd m) r) q j) (Sum.inr ()) (Sum.inl false)) := by
  have := g.lo; have := g.clo
  have hh : (hd m).length = c := g.head
  have hhm : hd m ∈ m := by cases m with | nil => simp at hr | cons x m => rw [hd_cons]; exact List.mem_cons_self
  have hrl := g.row r hr
  induction q with
  | nil => intro j _ _; rfl
  | cons x q ih =>
    intro j hj hn
    simp only [List.length_cons] at hj
    have n1 := num_rng (hn x List.mem_cons_self)
    have n2 := num_rng (g.nums r hr _ (nth_mem (show 0 < r.length by omega)))
    have n3 := num_rng (g.nums _ hhm _ (nth_mem (show j < (hd m).length by omega)))
    have n4 := num_rng (g.nums _ hhm _ (nth_mem (show 0 < (hd m).length by omega)))
    rw [spec_rkOne_l2, idx_head (by omega), idx_nth0 (by omega)]
    simp only [bs]
    rw [idx_nth (by omega), idx_nth0 (by omega), ck_in (by omega) (by omega), allI]
    simp only [bs]
    rw [ck_in (by omega) (by omega)]
    simp only [bs, ibne]
    rw [ih (j + 1) (by omega) (fun y hy => hn y (List.mem_cons_of_mem _ hy))]
    unfold r1
    cases x == 1000000000
    · cases decide (x - nth r 0 = nth (hd m) j - nth (hd m) 0) <;> rfl
    · rfl
theorem isRankOne_l2_eq {m : List (List Int)} {c : Nat} (g : Good m c) {r : List Int} (hr : r ∈ m) (q : List Int) : ∀ j, j + q.length = c → (∀ x ∈ q, num x = true) → impl_isRankOne_l2 m r q j = some (cond (allI (r1' (hd m) r) q j) (Sum.inr ()) (Sum.inl false)) := by
  have := g.lo; have := g.clo
  have hh : (hd m).length = c := g.head
  have hhm : hd m ∈ m := by cases m with | nil => simp at hr | cons x m => rw [hd_cons]; exact List.mem_cons_self
  have hrl := g.row r hr
  induction q with
  | nil => intro j _ _; rfl
  | cons x q ih =>
    intro j hj hn
    simp only [List.length_cons] at hj
    have hx := hn x List.mem_cons_self
    have n1 := num_rng hx
    have n2 := num_rng (g.nums r hr _ (nth_mem (show 0 < r.length by omega)))
    have n3 := num_rng (g.nums _ hhm _ (nth_mem (show j < (hd m).length by omega)))
    have n4 := num_rng (g.nums _ hhm _ (nth_mem (show 0 < (hd m).length by omega)))
    rw [impl_isRankOne_l2, idx_head (by omega), idx_nth0 (by omega), isFinite_eq, fin_of_num hx]
    simp only [bs]
    rw [idx_nth (by omega), idx_nth0 (by omega), ck_in (by omega) (by omega), allI]
    simp only [bs]
    rw [ck_in (by omega) (by omega)]
    simp only [bs, ibne]
    rw [ih (j + 1) (by omega) (fun y hy => hn y (List.mem_cons_of_mem _ hy))]
    unfold r1'
    cases x == 1000000000
    · cases nth (hd m) j == 1000000000
      · cases decide (x - nth r 0 = nth (hd m) j - nth (hd m) 0) <;> rfl
      · rfl
    · rfl
theorem rkOne_l1_eq {m : List (List Int)} {c : Nat} (g : Good m c) (q : List (List Int)) : ∀ j, (∀ x ∈ q, x ∈ m) → spec_rkOne_l1 m q j = some (cond (q.all fun r => allI (r1 (hd m) r) r 0) (Sum.inr ()) (Sum.inl false)) := by
  induction q with
  | nil => intro j _; rfl
  | cons x q ih =>
    intro j h
    have hx := h x List.mem_cons_self
    rw [spec_rkOne_l1, rkOne_l2_eq g hx x 0 (by have := g.row x hx; omega) (g.nums x hx), List.all_cons]
    simp only [bs]
    cases allI (r1 (hd m) x) x 0
    · rfl
    · simp only [cT, Sum.elim_inr, Bool.true_and]
      exact ih _ (fun y hy => h y (List.mem_cons_of_mem _ hy))
theorem isRankOne_l1_eq {m : List (List Int)} {c : Nat} (g : Good m c) (q : List (List Int)) : ∀ j, (∀ x ∈ q, x ∈ m) → impl_isRankOne_l1 m q j = some (cond (q.all fun r => allI (r1' (hd m) r) r 0) (Sum.inr ()) (Sum.inl false)) := by
  induction q with
  | nil => intro j _; rfl
  | cons x q ih =>
    intro j h
    have hx := h x List.mem_cons_self
    rw [impl_isRankOne_l1, isRankOne_l2_eq g hx x 0 (by have := g.row x hx; omega) (g.nums x hx), List.all_cons]
    simp only [bs]
    cases allI (r1' (hd m) x) x 0
    · rfl
    · simp only [cT, Sum.elim_inr, Bool.true_and]
      exact ih _ (fun y hy => h y (List.mem_cons_of_mem _ hy))
theorem r1_same {m : List (List Int)} {c : Nat} (g : Good m c) : (m.all fun r => allI (r1 (hd m) r) r 0) = (m.all fun r => allI (r1' (hd m) r) r 0) := by
  have := g.lo
  have hh : (hd m).length = c := g.head
  have hhm : hd m ∈ m := by cases m with | nil => simp at this | cons x m => rw [hd_cons]; exact List.mem_cons_self
  rw [Bool.eq_iff_iff]
  simp only [List.all_eq_true, allI_iff _ (0 : Int), Nat.zero_add]
  constructor
  · intro h r hr i hi
    have h1 := h r hr i hi
    have h2 := h _ hhm i (by have := g.row r hr; omega)
    simp only [r1, r1', Bool.and_eq_true] at *
    exact ⟨h1.1, h2.1, h1.2⟩
  · intro h r hr i hi
    have h1 := h r hr i hi
    simp only [r1, r1', Bool.and_eq_true] at *
    exact ⟨h1.1, h1.2.2⟩
theorem isRankOne_both {m : List (List Int)} {c : Nat} (g : Good m c) : ∃ b, spec_rkOne_m m = some b ∧ impl_isRankOne_m m = some b := by
  unfold spec_rkOne_m impl_isRankOne_m
  rw [rkOne_l1_eq g m 0 (fun _ h => h), isRankOne_l1_eq g m 0 (fun _ h => h), r1_same g]
  cases m.all fun r => allI (r1' (hd m) r) r 0
  · exact ⟨false, rfl, rfl⟩
  · exact ⟨true, rfl, rfl⟩
theorem IsRankOne_both (m : List (List Int)) : ∃ r, spec_IsRankOne_m m = some r ∧ impl_IsRankOne_m m = some r ∧ True := by
  unfold spec_IsRankOne_m impl_IsRankOne_m
  rw [mxGood_eq, isMatrix_eq]
  simp only [bs]
  cases h : mat m
  · exact ⟨_, rfl, rfl, trivial⟩
  · obtain ⟨b, h1, h2⟩ := isRankOne_both (mat_good h)
    rw [h1, h2]
    exact ⟨_, rfl, rfl, trivial⟩

/-! ### The outer product -/
theorem OuterProduct_l2_eq (x : Int) (hx : -1000000000 ≤ x ∧ x ≤ 1000000000) (q : List Int) : ∀ j l, l.length + q.length < 1000000 → (∀ y ∈ q, num y = true) → spec_OuterProduct_l2 x q j l = some (l ++ q.map (fun y => x + y)) := by
  induction q with
  | nil => intro j l _ _; simp [spec_OuterProduct_l2]
  | cons y q ih =>
    intro j l hl hn
    simp only [List.length_cons] at hl
    have := num_rng (hn y List.mem_cons_self)
    rw [spec_OuterProduct_l2, ck_in (by omega) (by omega)]
    simp only [bs]
    rw [app_lt (by omega)]
    simp only [bs]
    rw [ih _ _ (by simp; omega) (fun z hz => hn z (List.mem_cons_of_mem _ hz))]
    simp
theorem OuterProduct_l1_eq (b : List Int) (hb : b.length ≤ 6) (hbn : ∀ y ∈ b, num y = true) (q : List Int) : ∀ j l, l.length + q.length < 1000000 → (∀ y ∈ q, num y = true) → spec_OuterProduct_l1 b q j l = some (l ++ q.map (fun x => b.map (fun y => x + y))) := by
  induction q with
  | nil => intro j l _ _; simp [spec_OuterProduct_l1]
  | cons x q ih =>
    intro j l hl hn
    simp only [List.length_cons] at hl
    rw [spec_OuterProduct_l1, OuterProduct_l2_eq x (num_rng (hn x List.mem_cons_self)) b 0 [] (by simp; omega) hbn]
    simp only [bs, List.nil_append]
    rw [app_lt (by omega)]
    simp only [bs]
    rw [ih _ _ (by simp; omega) (fun z hz => hn z (List.mem_cons_of_mem _ hz))]
    simp
theorem shifted_l1_eq (x : Int) (hx : fin x = true) (q : List Int) : ∀ j l, l.length + q.length < 1000000 → (∀ y ∈ q, fin y = true) → impl_shifted_l1 x q j l = some (l ++ q.map (fun y => x + y)) := by
  have hx := (fin_iff x).1 hx
  induction q with
  | nil => intro j l _ _; simp [impl_shifted_l1]
  | cons y q ih =>
    intro j l hl hn
    simp only [List.length_cons] at hl
    have := (fin_iff y).1 (hn y List.mem_cons_self)
    rw [impl_shifted_l1, product_eq (by omega) (by omega)]
    simp only [bs]
    rw [app_lt (by omega)]
    simp only [bs]
    rw [ih _ _ (by simp; omega) (fun z hz => hn z (List.mem_cons_of_mem _ hz))]
    have e : plus y x = x + y := by unfold plus; rw [if_neg (by omega)]; omega
    simp [e]
theorem shifted_eq (b : List Int) (hb : b.length ≤ 6) (hbn : ∀ y ∈ b, fin y = true) (x : Int) (hx : fin x = true) : impl_shifted_m b x = some (b.map (fun y => x + y)) := by
  unfold impl_shifted_m
  rw [guardO_t (by simp; omega)]
  simp only [bs]
  rw [shifted_l1_eq x hx b 0 [] (by simp; omega) hbn]
  rfl
theorem OuterProduct_i_eq (b : List Int) (hb : b.length ≤ 6) (hbn : ∀ y ∈ b, fin y = true) (q : List Int) : ∀ j l, l.length + q.length < 1000000 → (∀ y ∈ q, fin y = true) → impl_OuterProduct_l1 b q j l = some (l ++ q.map (fun x => b.map (fun y => x + y))) := by
  induction q with
  | nil => intro j l _ _; simp [impl_OuterProduct_l1]
  | cons x q ih =>
    intro j l hl hn
    simp only [List.length_cons] at hl
    rw [impl_OuterProduct_l1, shifted_eq b hb hbn x (hn x List.mem_cons_self)]
    simp only [bs]
    rw [app_lt (by omega)]
    simp only [bs]
    rw [ih _ _ (by simp; omega) (fun z hz => hn z (List.mem_cons_of_mem _ hz))]
    simp
def outer (a b : List Int) : List (List Int) := a.map (fun x => b.map (fun y => x + y))
theorem OuterProduct_both (a b : List Int) : ∃ r, spec_OuterProduct_m a b = some r ∧ impl_OuterProduct_m a b = some r ∧ SmallM r.1 := by
  unfold spec_OuterProduct_m impl_OuterProduct_m
  rw [mxVector_eq, mxVector_eq, isFiniteVector_eq, isFiniteVector_eq, l1Has_eq, l1Has_eq]
  simp only [bs]
  cases ha : vec a
  · exact ⟨([], false), rfl, rfl, smallM_nil⟩
  cases hb : vec b
  · exact ⟨([], false), by simp, by simp, smallM_nil⟩
  rw [noInf ha, noInf hb]
  cases fa : a.all fin
  · exact ⟨([], false), rfl, rfl, smallM_nil⟩
  cases fb : b.all fin
  · exact ⟨([], false), rfl, rfl, smallM_nil⟩
  have va := (vec_iff a).1 ha
  have vb := (vec_iff b).1 hb
  have fa := List.all_eq_true.1 fa
  have fb := List.all_eq_true.1 fb
  simp only [Bool.not_true, cF, cT, bs, Bool.true_and]
  rw [OuterProduct_l1_eq b vb.1.2 vb.2 a 0 [] (by simp; omega) va.2, OuterProduct_i_eq b vb.1.2 fb a 0 [] (by simp; omega) fa]
  simp only [bs, List.nil_append]
  rw [mxGood_eq, toldMatrix_eq]
  simp only [bs]
  cases h : mat (a.map (fun x => b.map (fun y => x + y)))
  · exact ⟨([], false), rfl, rfl, smallM_nil⟩
  · exact ⟨(_, true), rfl, rfl, (mat_good h).small⟩
end Go.Proofs.Ytefjnpdpeablpaa
