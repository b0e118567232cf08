/- Plain laws: own copies; the sum of two matrices, a matrix on a vector, the shift, the product, the power. -/
import Derived.Test.YtjhaealoneennaaOwnM
import Derived.Test.YtjhaealoneennaaMx2M
import Derived.Test.YtjhaealoneennaaPMx1
import Derived.Test.YtjhaealoneennaaPBas
import Derived.Test.YtjhaealoneennaaPRk1
namespace Go.Proofs.Ytjhaealoneennaa
set_option linter.unusedVariables false
set_option linter.unusedSimpArgs false

/-! ### Own copies -/
theorem mxOwn_l1_eq (q : List (List Int)) : ∀ j l, l.length + q.length < 1000000000 → (∀ r ∈ q, r.length < 1000000000) → spec_mxOwn_l1 q j l = some (l ++ q) := by
  induction q with
  | nil => intro j l _ _; simp [spec_mxOwn_l1]
  | cons x q ih =>
    intro j l hl hr
    simp only [List.length_cons] at hl
    rw [spec_mxOwn_l1, l1Own_eq (hr x List.mem_cons_self)]
    simp only [bs]
    rw [app_lt (by omega)]
    simp only [bs]
    rw [ih _ _ (by simp; omega) (fun r h => hr r (List.mem_cons_of_mem _ h))]
    simp
theorem clones_l1_eq (q : List (List Int)) : ∀ j l, l.length + q.length < 1000000000 → (∀ r ∈ q, r.length < 1000000000) → impl_clones_l1 q j l = some (l ++ q) := by
  induction q with
  | nil => intro j l _ _; simp [impl_clones_l1]
  | cons x q ih =>
    intro j l hl hr
    simp only [List.length_cons] at hl
    rw [impl_clones_l1, Clone_eq (hr x List.mem_cons_self)]
    simp only [bs]
    rw [app_lt (by omega)]
    simp only [bs]
    rw [ih _ _ (by simp; omega) (fun r h => hr r (List.mem_cons_of_mem _ h))]
    simp
theorem mxOwn_eq {m : List (List Int)} (h : SmallM m) : spec_mxOwn_m m = some m := by
  have h1 := h.1; unfold Small at h1
  unfold spec_mxOwn_m
  rw [mxOwn_l1_eq m 0 [] (by simp; omega) (fun r hr => by have := h.2 r hr; unfold Small at this; omega)]
  rfl
theorem clones_eq {m : List (List Int)} (h : SmallM m) : impl_clones_m m = some m := by
  have h1 := h.1; unfold Small at h1
  unfold impl_clones_m
  rw [clones_l1_eq m 0 [] (by simp; omega) (fun r hr => by have := h.2 r hr; unfold Small at this; omega)]
  rfl

/-! ### The shape of a matrix that is written to -/
/-! ### The sum -/
/-! ### The least of the sums: one entry of a product -/
def dotF (y : List Int) : List Int → Nat → Int → Int
  | [], _, n => n
  | x :: q, j, n => dotF y q (j + 1) (min n (plus x (nth y j)))
theorem plus_num {a b : Int} (ha : num a = true) (hb : num b = true) : plus a b = 1000000000 ∨ (-2000000 ≤ plus a b ∧ plus a b ≤ 2000000 ∧ plus a b = a + b) := by
  have ha := (num_iff a).1 ha
  have hb := (num_iff b).1 hb
  unfold plus
  by_cases h : a = 1000000000 ∨ b = 1000000000
  · rw [if_pos h]; exact .inl rfl
  · rw [if_neg h]; exact .inr ⟨by omega, by omega, rfl⟩
theorem nuPlus_num {a b : Int} (ha : num a = true) (hb : num b = true) : spec_nuPlus_m a b = some (plus a b) := by
  have := num_rng ha; have := num_rng hb
  exact nuPlus_eq (by omega) (by omega)
theorem product_num {a b : Int} (ha : num a = true) (hb : num b = true) : impl_product_m a b = some (plus a b) := nuPlus_num ha hb
theorem dot_l1_eq (y : List Int) (hy : ∀ x ∈ y, num x = true) (q : List Int) : ∀ j n, j + q.length = y.length → (∀ x ∈ q, num x = true) → impl_dot_l1 y q j n = some (dotF y q j n) := by
  induction q with
  | nil => intro j n _ _; rfl
  | cons x q ih =>
    intro j n hj hq
    simp only [List.length_cons] at hj
    rw [impl_dot_l1, idx_nth (by omega)]
    simp only [bs]
    rw [product_num (hq x List.mem_cons_self) (hy _ (nth_mem (by omega)))]
    simp only [bs]
    rw [ih _ _ (by omega) (fun z hz => hq z (List.mem_cons_of_mem _ hz))]
    rfl
def dot (x y : List Int) : Int := dotF y x 0 1000000000
theorem dot_eq {x y : List Int} (hl : x.length = y.length) (hx : ∀ z ∈ x, num z = true) (hy : ∀ z ∈ y, num z = true) : impl_dot_m x y = some (dot x y) := by
  unfold impl_dot_m
  rw [dot_l1_eq y hy x 0 _ (by omega) hx]
  rfl
theorem toldList_eq (l : List Int) : impl_toldList_m l = some (l.all num, l.all num) := by
  unfold impl_toldList_m
  rw [areNumbers_eq]
  cases l.all num <;> rfl
theorem applied_l1_eq (y : List Int) (hy : ∀ x ∈ y, num x = true) (q : List (List Int)) : ∀ j l, l.length + q.length < 1000000 → (∀ r ∈ q, r.length = y.length) → (∀ r ∈ q, ∀ x ∈ r, num x = true) →
    impl_applied_l1 y q j l = some (l ++ q.map fun r => dot r y) := by
  induction q with
  | nil => intro j l _ _ _; simp [impl_applied_l1]
  | cons x q ih =>
    intro j l hl hr hq
    simp only [List.length_cons] at hl
    rw [impl_applied_l1, dot_eq (hr x List.mem_cons_self) (hq x List.mem_cons_self) hy]
    simp only [bs]
    rw [app_lt (by omega)]
    simp only [bs]
    rw [ih _ _ (by simp; omega) (fun r h => hr r (List.mem_cons_of_mem _ h)) (fun r h => hq r (List.mem_cons_of_mem _ h))]
    simp
theorem applied_eq {m : List (List Int)} {c : Nat} (g : Good m c) {y : List Int} (hy : ∀ x ∈ y, num x = true) (hc : y.length = c) :
    impl_applied_m m y = some (m.map fun r => dot r y) := by
  have := g.hi
  unfold impl_applied_m
  rw [applied_l1_eq y hy m 0 [] (by simp; omega) (fun r h => by rw [hc]; exact g.row r h) g.nums]
  rfl
theorem small_nil : Small ([] : List Int) := by simp [Small]
/-! ### The product -/
def mulM (a b : List (List Int)) (c : Nat) : List (List Int) := a.map fun r => (List.range c).map fun k => dot r (colAt b k)
theorem colAt_len (b : List (List Int)) (k : Nat) : (colAt b k).length = b.length := by simp [colAt]
theorem colAt_num {b : List (List Int)} {c : Nat} (g : Good b c) {k : Nat} (hk : k < c) : ∀ z ∈ colAt b k, num z = true := by
  intro z hz
  simp only [colAt, List.mem_map] at hz
  obtain ⟨r, hr, rfl⟩ := hz
  exact g.nums r hr _ (nth_mem (by have := g.row r hr; omega))
theorem nth_colAt {b : List (List Int)} {j k : Nat} (hj : j < b.length) : nth (colAt b k) j = nth (nthM b j) k := by
  simp [nth, colAt, nthM, hj]
def mulRow (b : List (List Int)) (r : List Int) (k n : Nat) : List Int := (List.range' k n).map fun k => dot r (colAt b k)
theorem mulM_shape (a b : List (List Int)) (c : Nat) : Shape (mulM a b c) a.length c := ⟨by simp [mulM], fun l hl => by
  simp only [mulM, List.mem_map] at hl
  obtain ⟨r, _, rfl⟩ := hl
  simp⟩
/-- A list of rows of one length is a matrix if all are numbers. -/
theorem Shape.mat_eq {m : List (List Int)} {r c : Nat} (h : Shape m r c) (hr : 1 ≤ r) (hr6 : r ≤ 6) (hc : 1 ≤ c) (hc6 : c ≤ 6) : mat m = m.all fun l => l.all num := by
  have hl := h.len
  have hh : (hd m).length = c := h.row _ (by cases m with | nil => simp at hl; omega | cons x m => rw [hd_cons]; exact List.mem_cons_self)
  rw [mat_all, (inR_iff _ _ _).2 (by omega), Bool.true_and]
  rw [Bool.eq_iff_iff, List.all_eq_true, List.all_eq_true]
  constructor
  · intro h1 l hl
    have := h1 l hl
    simp only [rowOk, vec, Bool.and_eq_true] at this
    exact this.1.2
  · intro h1 l hl
    have h2 := h1 l hl
    have h3 := h.row l hl
    simp only [rowOk, vec, Bool.and_eq_true, decide_eq_true_eq, inR_iff]
    exact ⟨⟨by omega, h2⟩, by omega⟩
/-! ### The power -/
theorem unitM_good (n : Nat) (h0 : 1 ≤ n) (h1 : n ≤ 6) : mat (unitM n) = true ∧ (unitM n).length = n ∧ (hd (unitM n)).length = n := by
  have : n = 1 ∨ n = 2 ∨ n = 3 ∨ n = 4 ∨ n = 5 ∨ n = 6 := by omega
  rcases this with e | e | e | e | e | e <;> subst e <;> decide +kernel
/-! ### The shift -/
theorem nthM_set {m : List (List Int)} {i : Nat} {l : List Int} (h : i < m.length) : nthM (m.set i l) i = l := by simp [nthM, h]
theorem nthM_set_ne {m : List (List Int)} {i j : Nat} {l : List Int} (h : i ≠ j) : nthM (m.set i l) j = nthM m j := by simp [nthM, h]
theorem shifted_num_l1 (p : Int) (hp : num p = true) (q : List Int) : ∀ j l, l.length + q.length < 1000000 → (∀ y ∈ q, num y = true) → impl_shifted_l1 p q j l = some (l ++ q.map fun y => plus y p) := by
  induction q with
  | nil => intro j l _ _; simp [impl_shifted_l1]
  | cons y q ih =>
    intro j l hl hn
    simp only [List.length_cons] at hl
    rw [impl_shifted_l1, product_num (hn y List.mem_cons_self) hp]
    simp only [bs]
    rw [app_lt (by omega)]
    simp only [bs]
    rw [ih _ _ (by simp; omega) (fun z hz => hn z (List.mem_cons_of_mem _ hz))]
    simp
theorem shifted_num (p : Int) (hp : num p = true) {l : List Int} (hl : l.length ≤ 6) (hn : ∀ y ∈ l, num y = true) : impl_shifted_m l p = some (l.map fun y => plus y p) := by
  unfold impl_shifted_m
  rw [guardO_t (by simp; omega)]
  simp only [bs]
  rw [shifted_num_l1 p hp l 0 [] (by simp; omega) hn]
  rfl
end Go.Proofs.Ytjhaealoneennaa
