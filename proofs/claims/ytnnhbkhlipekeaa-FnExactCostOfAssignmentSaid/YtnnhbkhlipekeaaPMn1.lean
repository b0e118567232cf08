/- Plain laws: does a vector prove a mean, are these prices, are these potentials. -/
import Derived.Test.YtnnhbkhlipekeaaAs1M
import Derived.Test.YtnnhbkhlipekeaaPMat
namespace Go.Proofs.Ytnnhbkhlipekeaa
set_option linter.unusedVariables false
set_option linter.unusedSimpArgs false

theorem l1All_fin (l : List Int) : spec_l1All_m l (-1000000) 1000000 = some (l.all fin) := l1All_eq l _ _
def pm (p : Int) (v : List Int) (i j : Nat) (x : Int) : Bool := x == 1000000000 || !decide (x + nth v j < p + nth v i)
/-! ### Prices -/
theorem asPrices_l2_eq (a b : List Int) (c i : Nat) (ha : ∀ x ∈ a, fin x = true) (hb : ∀ x ∈ b, fin x = true) (hac : a.length = c) (hbc : b.length = c) (hi : i < c) (q : List Int) : ∀ j, j + q.length = c →
    ∃ r, spec_asPrices_l2 a b i q j = some r ∧ impl_arePrices_l2 a b i q j = some r := by
  induction q with
  | nil => intro j _; exact ⟨_, rfl, rfl⟩
  | cons x q ih =>
    intro j hj
    simp only [List.length_cons] at hj
    have n2 := (fin_iff _).1 (hb _ (nth_mem (show j < b.length by omega)))
    have n3 := (fin_iff _).1 (ha _ (nth_mem (show i < a.length by omega)))
    obtain ⟨r, h1, h2⟩ := ih (j + 1) (by omega)
    rw [spec_asPrices_l2, impl_arePrices_l2, h1, h2, idx_nth (by omega), idx_nth (by omega)]
    simp only [bs]
    rw [ck_in (by omega) (by omega)]
    simp only [bs]
    cases decide (nth a i + nth b j > x) <;> exact ⟨_, rfl, rfl⟩
theorem asPrices_l1_eq (a b : List Int) (c : Nat) (ha : ∀ x ∈ a, fin x = true) (hb : ∀ x ∈ b, fin x = true) (hac : a.length = c) (hbc : b.length = c) (q : List (List Int)) : ∀ i, i + q.length = c → (∀ l ∈ q, l.length = c) →
    ∃ r, spec_asPrices_l1 a b q i = some r ∧ impl_arePrices_l1 a b q i = some r := by
  induction q with
  | nil => intro i _ _; exact ⟨_, rfl, rfl⟩
  | cons x q ih =>
    intro i hi hl
    simp only [List.length_cons] at hi
    obtain ⟨r, h1, h2⟩ := ih (i + 1) (by omega) (fun y hy => hl y (List.mem_cons_of_mem _ hy))
    obtain ⟨s, g1, g2⟩ := asPrices_l2_eq a b c i ha hb hac hbc (by omega) x 0 (by have := hl x List.mem_cons_self; omega)
    rw [spec_asPrices_l1, impl_arePrices_l1, g1, g2]
    simp only [bs]
    cases s with
    | inl v => exact ⟨_, rfl, rfl⟩
    | inr v => exact ⟨r, h1, h2⟩
theorem arePrices_both {m : List (List Int)} (g : Good m m.length) (a b : List Int) (ha : ∀ x ∈ a, fin x = true) (hb : ∀ x ∈ b, fin x = true) (hac : a.length = m.length) (hbc : b.length = m.length) : ∃ r, spec_asPrices_m m a b = some r ∧ impl_arePrices_m m a b = some r := by
  unfold spec_asPrices_m impl_arePrices_m
  obtain ⟨r, h1, h2⟩ := asPrices_l1_eq a b m.length ha hb hac hbc m 0 (by omega) g.row
  rw [h1, h2]
  cases r <;> exact ⟨_, rfl, rfl⟩
theorem asNumbers_eq (m : List (List Int)) (a b : List Int) : spec_asNumbers_m m a b = some (sqr m && ((decide (a.length = m.length) && a.all fin) && (decide (b.length = m.length) && b.all fin))) := by
  unfold spec_asNumbers_m
  rw [mxSquare_eq, l1All_fin, l1All_fin]
  simp only [bs, nbeq]
  cases sqr m
  · rfl
  · cases decide (a.length = m.length)
    · cases decide (b.length = m.length) <;> rfl
    · cases decide (b.length = m.length)
      · cases a.all fin <;> rfl
      · cases a.all fin <;> rfl
/-! ### Potentials -/
end Go.Proofs.Ytnnhbkhlipekeaa
