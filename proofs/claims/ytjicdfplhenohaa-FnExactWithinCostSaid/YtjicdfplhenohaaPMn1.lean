/- Plain laws: does a vector prove a mean, are these prices, are these potentials. -/
import Derived.Test.YtjicdfplhenohaaWy1M
import Derived.Test.YtjicdfplhenohaaPMat
namespace Go.Proofs.Ytjicdfplhenohaa
set_option linter.unusedVariables false
set_option linter.unusedSimpArgs false

theorem l1All_fin (l : List Int) : spec_l1All_m l (-1000000) 1000000 = some (l.all fin) := l1All_eq l _ _
def pm (p : Int) (v : List Int) (i j : Nat) (x : Int) : Bool := x == 1000000000 || !decide (x + nth v j < p + nth v i)
/-! ### Prices -/
/-! ### Potentials -/
theorem wyPotentials_l2_eq (a : List Int) (c i : Nat) (ha : ∀ x ∈ a, fin x = true) (hac : a.length = c) (hi : i < c) (q : List Int) : ∀ j, j + q.length = c → (∀ x ∈ q, num x = true) →
    ∃ r, spec_wyPotentials_l2 a i q j = some r ∧ impl_arePotentials_l2 a i q j = some r := by
  induction q with
  | nil => intro j _ _; exact ⟨_, rfl, rfl⟩
  | cons x q ih =>
    intro j hj hn
    simp only [List.length_cons] at hj
    have n1 := (num_iff _).1 (hn x List.mem_cons_self)
    have n2 := (fin_iff _).1 (ha _ (nth_mem (show j < a.length by omega)))
    have n3 := (fin_iff _).1 (ha _ (nth_mem (show i < a.length by omega)))
    obtain ⟨r, h1, h2⟩ := ih (j + 1) (by omega) (fun y hy => hn y (List.mem_cons_of_mem _ hy))
    rw [spec_wyPotentials_l2, impl_arePotentials_l2, h1, h2, idx_nth (by omega), idx_nth (by omega)]
    simp only [bs]
    rw [nuPlus_eq (by omega) (by omega), ck_in (by omega) (by omega)]
    simp only [bs]
    by_cases e : x = 1000000000
    · subst e
      have e1 : plus (nth a i) 1000000000 = 1000000000 := by simp [plus]
      rw [e1, decide_eq_false (by omega)]
      exact ⟨_, rfl, rfl⟩
    · have e1 : (x != 1000000000) = true := by simpa using e
      have e2 : plus (nth a i) x = nth a i + x := by unfold plus; rw [if_neg (by omega)]
      rw [e1, e2]
      cases decide (nth a j > nth a i + x) <;> exact ⟨_, rfl, rfl⟩
theorem wyPotentials_l1_eq (a : List Int) (c : Nat) (ha : ∀ x ∈ a, fin x = true) (hac : a.length = c) (q : List (List Int)) : ∀ i, i + q.length = c → (∀ l ∈ q, l.length = c) → (∀ l ∈ q, ∀ x ∈ l, num x = true) →
    ∃ r, spec_wyPotentials_l1 a q i = some r ∧ impl_arePotentials_l1 a q i = some r := by
  induction q with
  | nil => intro i _ _ _; exact ⟨_, rfl, rfl⟩
  | cons x q ih =>
    intro i hi hl hn
    simp only [List.length_cons] at hi
    obtain ⟨r, h1, h2⟩ := ih (i + 1) (by omega) (fun y hy => hl y (List.mem_cons_of_mem _ hy)) (fun y hy => hn y (List.mem_cons_of_mem _ hy))
    obtain ⟨s, g1, g2⟩ := wyPotentials_l2_eq a c i ha hac (by omega) x 0 (by have := hl x List.mem_cons_self; omega) (hn x List.mem_cons_self)
    rw [spec_wyPotentials_l1, impl_arePotentials_l1, g1, g2]
    simp only [bs]
    cases s with
    | inl v => exact ⟨_, rfl, rfl⟩
    | inr v => exact ⟨r, h1, h2⟩
theorem arePotentials_both {m : List (List Int)} (g : Good m m.length) (a : List Int) (ha : ∀ x ∈ a, fin x = true) (hac : a.length = m.length) : ∃ r, spec_wyPotentials_m m a = some r ∧ impl_arePotentials_m m a = some r := by
  unfold spec_wyPotentials_m impl_arePotentials_m
  obtain ⟨r, h1, h2⟩ := wyPotentials_l1_eq a m.length ha hac m 0 (by omega) g.row g.nums
  rw [h1, h2]
  cases r <;> exact ⟨_, rfl, rfl⟩
theorem wyAsked_eq (m : List (List Int)) (v : List Int) : spec_wyAsked_m m v = some (sqr m && (decide (v.length = m.length) && v.all fin)) := by
  unfold spec_wyAsked_m
  rw [mxSquare_eq, l1All_fin]
  simp only [bs, nbeq]
  cases sqr m
  · rfl
  · cases decide (v.length = m.length) <;> rfl
end Go.Proofs.Ytjicdfplhenohaa
