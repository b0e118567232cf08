/- Plain laws: the reduced matrix; does a vector prove a way. -/
import Derived.Test.YtjhaealoneennaaPMx2
import Derived.Test.YtjhaealoneennaaPMn1
import Derived.Test.YtjhaealoneennaaPWy2
namespace Go.Proofs.Ytjhaealoneennaa
set_option linter.unusedVariables false
set_option linter.unusedSimpArgs false

/-! ### The reduced matrix -/
def redRow (p : List Int) (i : Nat) : List Int → Nat → List Int
  | [], _ => []
  | x :: q, j => plus x (nth p i - nth p j) :: redRow p i q (j + 1)
def redM (p : List Int) : List (List Int) → Nat → List (List Int)
  | [], _ => []
  | x :: q, i => redRow p i x 0 :: redM p q (i + 1)
theorem redRow_len (p : List Int) (i : Nat) (q : List Int) : ∀ j, (redRow p i q j).length = q.length := by
  induction q with
  | nil => intro j; rfl
  | cons x q ih => intro j; simp [redRow, ih]
theorem redM_shape (p : List Int) (c : Nat) (q : List (List Int)) : ∀ i, (∀ x ∈ q, x.length = c) → Shape (redM p q i) q.length c := by
  induction q with
  | nil => intro i _; exact ⟨rfl, fun l hl => by cases hl⟩
  | cons x q ih =>
    intro i h
    have := ih (i + 1) (fun y hy => h y (List.mem_cons_of_mem _ hy))
    refine ⟨by simp [redM, this.len], fun l hl => ?_⟩
    rcases List.mem_cons.1 hl with e | e
    · rw [e, redRow_len]; exact h x List.mem_cons_self
    · exact this.row l e
theorem plus_dif {x d : Int} (hx : num x = true) (hd : -2000000 ≤ d ∧ d ≤ 2000000) : spec_nuPlus_m x d = some (plus x d) := by
  have := num_rng hx
  exact nuPlus_eq (by omega) (by omega)
theorem appS_one {l : List Int} {y : Int} (h : l.length < 1000000) : appS l [y] = some (l ++ [y]) := by
  unfold appS; rw [decide_eq_true (by simp; omega)]; rfl
section
variable {p : List Int} {c : Nat} (hp : ∀ x ∈ p, fin x = true) (hc : p.length = c)
include hp hc
theorem dif {i j : Nat} (hi : i < c) (hj : j < c) : ck (nth p i - nth p j) = some (nth p i - nth p j) ∧ -2000000 ≤ nth p i - nth p j ∧ nth p i - nth p j ≤ 2000000 := by
  have h1 := (fin_iff _).1 (hp _ (nth_mem (show i < p.length by omega)))
  have h2 := (fin_iff _).1 (hp _ (nth_mem (show j < p.length by omega)))
  exact ⟨ck_in (by omega) (by omega), by omega, by omega⟩
end
/-! ### Ways -/
theorem cost_inf {m : List (List Int)} {w : List Int} (h : WayOk m w) : ∀ (k i : Nat), w.length - i < k → 1 ≤ i → impl_costOfSteps_l1 m w k 1000000000 i = some 1000000000 := by
  intro k
  induction k with
  | zero => intro i hk; omega
  | succ k ih =>
    intro i hk h1
    rw [impl_costOfSteps_l1]
    by_cases hc : i < w.length
    · rw [decide_eq_true (show (i : Int) < (w.length : Int) by omega)]
      obtain ⟨e1, e2, e3, e4, e5, e6, e7⟩ := h.step h1 hc
      simp only [cT, bs, e1, e2, e3, e4, e5, e7]
      have e6 := num_rng e6
      have p1 : impl_product_m 1000000000 (stp m w i) = some (plus 1000000000 (stp m w i)) := product_eq (by omega) (by omega)
      have : plus 1000000000 (stp m w i) = 1000000000 := by simp [plus]
      rw [p1, this]
      simp only [bs]
      exact ih (i + 1) (by omega) (by omega)
    · rw [decide_eq_false (by omega)]; rfl
end Go.Proofs.Ytjhaealoneennaa
