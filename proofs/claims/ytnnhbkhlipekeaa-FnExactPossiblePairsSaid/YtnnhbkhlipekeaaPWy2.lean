/- Plain laws: the cost of a way; is it a system. -/
import Derived.Test.YtnnhbkhlipekeaaWy2M
import Derived.Test.YtnnhbkhlipekeaaPMx1
import Derived.Test.YtnnhbkhlipekeaaPBas
namespace Go.Proofs.Ytnnhbkhlipekeaa
set_option linter.unusedVariables false
set_option linter.unusedSimpArgs false

/-! ### The cost of a way -/
def isV (m : List (List Int)) (x : Int) : Bool := inR x 0 ((m.length : Int) - 1)
theorem areVertices_l1_eq (m : List (List Int)) (h : m.length < 1000000) (l : List Int) : ∀ j : Nat, (l.all (isV m) = true ∧ slices_IndexFunc_int_int_impl_areVertices_1_l1 m l j = some (Sum.inr ())) ∨ (l.all (isV m) = false ∧ ∃ k : Nat, slices_IndexFunc_int_int_impl_areVertices_1_l1 m l j = some (Sum.inl (k : Int))) := by
  induction l with
  | nil => intro j; exact .inl ⟨rfl, rfl⟩
  | cons x l ih =>
    intro j
    rw [slices_IndexFunc_int_int_impl_areVertices_1_l1]
    unfold impl_areVertices_1_m
    rw [ck_in (by omega) (by omega)]
    simp only [bs, within_eq]
    cases hx : isV m x
    · refine .inr ⟨by rw [List.all_cons, hx]; rfl, j, ?_⟩
      rw [show inR x 0 ((m.length : Int) - 1) = false from hx]; rfl
    · rw [show inR x 0 ((m.length : Int) - 1) = true from hx]
      simp only [bs, Bool.not_true, cF, List.all_cons, hx, Bool.true_and]
      exact ih (j + 1)
theorem areVertices_eq (m : List (List Int)) (h : m.length < 1000000) (l : List Int) : impl_areVertices_m m l = some (l.all (isV m)) := by
  unfold impl_areVertices_m slices_ContainsFunc_int_int_impl_areVertices_1_m slices_IndexFunc_int_int_impl_areVertices_1_m
  rcases areVertices_l1_eq m h l 0 with ⟨h1, h2⟩ | ⟨h1, k, h2⟩
  · rw [h1, h2]; rfl
  · rw [h1, h2]
    simp only [bs, Sum.elim_inl]
    rw [decide_eq_true (show (k : Int) ≥ 0 by omega)]; rfl
/-- The entry that step i of the way w takes. -/
def stp (m : List (List Int)) (w : List Int) (i : Nat) : Int := nth (nthM m (nth w (i - 1)).toNat) (nth w i).toNat
structure WayOk (m : List (List Int)) (w : List Int) : Prop where
  good : Good m m.length
  len : w.length ≤ 20
  ver : ∀ x ∈ w, 0 ≤ x ∧ x < m.length
theorem WayOk.step {m : List (List Int)} {w : List Int} (h : WayOk m w) {i : Nat} (h1 : 1 ≤ i) (h2 : i < w.length) :
    ck ((i : Int) - 1) = some ((i - 1 : Nat) : Int) ∧ idx w ((i - 1 : Nat) : Int) = some (nth w (i - 1)) ∧ idx m (nth w (i - 1)) = some (nthM m (nth w (i - 1)).toNat) ∧ idx w (i : Int) = some (nth w i) ∧ idx (nthM m (nth w (i - 1)).toNat) (nth w i) = some (stp m w i) ∧ num (stp m w i) = true ∧ ck ((i : Int) + 1) = some ((i + 1 : Nat) : Int) := by
  have v1 := h.ver _ (nth_mem (show i - 1 < w.length by omega))
  have v2 := h.ver _ (nth_mem h2)
  have hm : nthM m (nth w (i - 1)).toNat ∈ m := nthM_mem (by omega)
  have hl := h.good.row _ hm
  have := h.len
  refine ⟨?_, idx_nth (by omega), idx_intM v1.1 v1.2, idx_nth h2, ?_, h.good.nums _ hm _ (nth_mem (by omega)), ck_nat (by omega)⟩
  · rw [show ((i : Int) - 1) = ((i - 1 : Nat) : Int) by omega]; exact ck_in (by omega) (by omega)
  · exact idx_int v2.1 (by omega)
theorem nuIf_told (n : Int) : spec_nuIf_m n = impl_told_m n := by rw [nuIf_eq, told_eq]
/-! ### Is it a system -/
def noInfIn (m : List (List Int)) (j : Nat) : Bool := m.any fun r => !(nth r j == 1000000000)
theorem fold_min (l : List Int) : ∀ n : Int, n ≤ 1000000000 → (l.foldl min n = 1000000000 ↔ n = 1000000000 ∧ ∀ x ∈ l, 1000000000 ≤ x) := by
  induction l with
  | nil => intro n _; simp
  | cons x l ih =>
    intro n hn
    rw [List.foldl_cons, ih _ (by omega)]
    simp only [List.mem_cons, forall_eq_or_imp]
    constructor
    · rintro ⟨h1, h2⟩; exact ⟨by omega, by omega, h2⟩
    · rintro ⟨h1, h2, h3⟩; exact ⟨by omega, h3⟩
def infCol (r : List Int) : Bool := r.foldl min 1000000000 == 1000000000
theorem infCol_col {m : List (List Int)} {c : Nat} (g : Good m c) {j : Nat} (hj : j < c) : infCol (colAt m j) = !noInfIn m j := by
  rw [Bool.eq_iff_iff]
  unfold infCol noInfIn
  rw [beq_iff_eq, fold_min _ _ (by omega)]
  simp only [Bool.not_eq_true', List.any_eq_false, colAt, List.mem_map, true_and, forall_exists_index, and_imp, forall_apply_eq_imp_iff₂]
  constructor
  · intro h r hr
    have := h r hr
    have n := num_rng (g.nums r hr _ (nth_mem (show j < r.length by have := g.row r hr; omega)))
    have e : nth r j = 1000000000 := by omega
    rw [e]; decide
  · intro h r hr
    have := h r hr
    simp at this
    omega
end Go.Proofs.Ytnnhbkhlipekeaa
