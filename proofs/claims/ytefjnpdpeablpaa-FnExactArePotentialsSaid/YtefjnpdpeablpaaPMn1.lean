/- Plain laws: does a vector prove a mean, are these prices, are these potentials. -/
import Derived.Test.YtefjnpdpeablpaaMn1M
import Derived.Test.YtefjnpdpeablpaaAs1M
import Derived.Test.YtefjnpdpeablpaaWy1M
import Derived.Test.YtefjnpdpeablpaaPMat
namespace Go.Proofs.Ytefjnpdpeablpaa
set_option linter.unusedVariables false
set_option linter.unusedSimpArgs false

theorem l1All_fin (l : List Int) : spec_l1All_m l (-1000000) 1000000 = some (l.all fin) := l1All_eq l _ _
theorem isQuestion_eq (m : List (List Int)) (n : Int) (v : List Int) : impl_isQuestion_m m n v = some (sqr m && (fin n && (decide (v.length = m.length) && v.all fin))) := by
  unfold impl_isQuestion_m
  rw [isSquare_eq, isFinite_eq, areOnePerVertex_eq]
  simp only [bs]
  cases sqr m
  · rfl
  · cases fin n <;> rfl
theorem mnVector_eq (m : List (List Int)) (v : List Int) : spec_mnVector_m m v = some (sqr m && (decide (v.length = m.length) && v.all fin)) := by
  unfold spec_mnVector_m
  rw [mxSquare_eq, l1All_fin]
  simp only [bs, nbeq]
  cases sqr m
  · rfl
  · cases decide (v.length = m.length) <;> rfl

def pm (p : Int) (v : List Int) (i j : Nat) (x : Int) : Bool := x == 1000000000 || !decide (x + nth v j < p + nth v i)
theorem ProvesMean_l2_eq (p : Int) (v : List Int) (c i : Nat) (hp : fin p = true) (hv : ∀ x ∈ v, fin x = true) (hc : v.length = c) (hi : i < c) (q : List Int) : ∀ j, j + q.length = c → (∀ x ∈ q, num x = true) →
    spec_ProvesMean_l2 p v i q j = some (cond (allI (pm p v i) q j) (Sum.inr ()) (Sum.inl (false, true))) ∧ impl_ProvesMean_l2 p v i q j = some (cond (allI (pm p v i) q j) (Sum.inr ()) (Sum.inl (false, true))) := by
  induction q with
  | nil => intro j _ _; exact ⟨rfl, rfl⟩
  | cons x q ih =>
    intro j hj hn
    simp only [List.length_cons] at hj
    have n1 := num_rng (hn x List.mem_cons_self)
    have n2 := (fin_iff _).1 (hv _ (nth_mem (show j < v.length by omega)))
    have n3 := (fin_iff _).1 (hv _ (nth_mem (show i < v.length by omega)))
    have n4 := (fin_iff _).1 hp
    obtain ⟨h1, h2⟩ := ih (j + 1) (by omega) (fun y hy => hn y (List.mem_cons_of_mem _ hy))
    have k1 : ck (x + nth v j) = some (x + nth v j) := ck_in (by omega) (by omega)
    have k2 : ck (p + nth v i) = some (p + nth v i) := ck_in (by omega) (by omega)
    rw [spec_ProvesMean_l2, impl_ProvesMean_l2, h1, h2, idx_nth (by omega), idx_nth (by omega), allI]
    simp only [bs, k1, k2]
    unfold pm
    by_cases e : x = 1000000000
    · subst e; exact ⟨rfl, rfl⟩
    · have e1 : (x != 1000000000) = true := by simpa using e
      have e2 : (x == 1000000000) = false := by simpa using e
      rw [e1, e2]
      cases decide (x + nth v j < p + nth v i) <;> exact ⟨rfl, rfl⟩
theorem ProvesMean_l1_eq (p : Int) (v : List Int) (c : Nat) (hp : fin p = true) (hv : ∀ x ∈ v, fin x = true) (hc : v.length = c) (q : List (List Int)) : ∀ i, i + q.length = c → (∀ l ∈ q, l.length = c) → (∀ l ∈ q, ∀ x ∈ l, num x = true) →
    spec_ProvesMean_l1 p v q i = some (cond (allI (fun i r => allI (pm p v i) r 0) q i) (Sum.inr ()) (Sum.inl (false, true))) ∧ impl_ProvesMean_l1 p v q i = some (cond (allI (fun i r => allI (pm p v i) r 0) q i) (Sum.inr ()) (Sum.inl (false, true))) := by
  induction q with
  | nil => intro j _ _ _; exact ⟨rfl, rfl⟩
  | cons r q ih =>
    intro i hi hl hn
    simp only [List.length_cons] at hi
    obtain ⟨h1, h2⟩ := ih (i + 1) (by omega) (fun y hy => hl y (List.mem_cons_of_mem _ hy)) (fun y hy => hn y (List.mem_cons_of_mem _ hy))
    obtain ⟨g1, g2⟩ := ProvesMean_l2_eq p v c i hp hv hc (by omega) r 0 (by have := hl r List.mem_cons_self; omega) (hn r List.mem_cons_self)
    rw [spec_ProvesMean_l1, impl_ProvesMean_l1, g1, g2, allI]
    simp only [bs]
    cases allI (pm p v i) r 0
    · exact ⟨rfl, rfl⟩
    · simp only [cT, Sum.elim_inr, Bool.true_and]
      exact ⟨h1, h2⟩
theorem ProvesMean_both (m : List (List Int)) (p : Int) (v : List Int) : ∃ r, spec_ProvesMean_m m p v = some r ∧ impl_ProvesMean_m m p v = some r ∧ True := by
  unfold spec_ProvesMean_m impl_ProvesMean_m
  rw [mnVector_eq, isQuestion_eq, poFinite_eq]
  simp only [bs]
  cases hs : sqr m
  · exact ⟨_, rfl, rfl, trivial⟩
  cases hp : fin p
  · refine ⟨(false, false), ?_, rfl, trivial⟩
    cases (decide (v.length = m.length) && v.all fin) <;> rfl
  by_cases hl : v.length = m.length
  · cases hv : v.all fin
    · rw [decide_eq_true hl]; exact ⟨_, rfl, rfl, trivial⟩
    · have g := sqr_good hs
      obtain ⟨h1, h2⟩ := ProvesMean_l1_eq p v m.length hp (List.all_eq_true.1 hv) hl m 0 (by omega) g.row g.nums
      rw [h1, h2, decide_eq_true hl]
      cases allI (fun i r => allI (pm p v i) r 0) m 0 <;> exact ⟨_, rfl, rfl, trivial⟩
  · rw [decide_eq_false hl]; exact ⟨_, rfl, rfl, trivial⟩

/-! ### Prices -/
theorem asPrices_l2_eq (a b : List Int) (c i : Nat) (ha : ∀ x ∈ a, fin x = true) (hb : ∀ x ∈ b, fin x = true) (hac : a.length = c) (hbc : b.length = c) (hi : i < c) (q : List Int) : ∀ j, j + q.length = c →
    ∃ r, spec_asPrices_l2 a b i q j = some r ∧ impl_arePrices_l2 a b i q j = some r := by
  induction q with
  | nil => intro j _; exact ⟨_, rfl, rfl⟩
  | cons x q ih =>
    intro j hj
    simp only [List.length_cons] at hj
    have n2 := (fin_iff _).1 (hb _ (nth_mem (show j < b.length by omega)))
    have n3 := (fin_iff _).1 (ha _ (nth_mem (show i < a.length by omega)))
    obtain ⟨r, h1, h2⟩ := ih (j + 1) (by omega)
    rw [spec_asPrices_l2, impl_arePrices_l2, h1, h2, idx_nth (by omega), idx_nth (by omega)]
    simp only [bs]
    rw [ck_in (by omega) (by omega)]
    simp only [bs]
    cases decide (nth a i + nth b j > x) <;> exact ⟨_, rfl, rfl⟩
theorem asPrices_l1_eq (a b : List Int) (c : Nat) (ha : ∀ x ∈ a, fin x = true) (hb : ∀ x ∈ b, fin x = true) (hac : a.length = c) (hbc : b.length = c) (q : List (List Int)) : ∀ i, i + q.length = c → (∀ l ∈ q, l.length = c) →
    ∃ r, spec_asPrices_l1 a b q i = some r ∧ impl_arePrices_l1 a b q i = some r := by
  induction q with
  | nil => intro i _ _; exact ⟨_, rfl, rfl⟩
  | cons x q ih =>
    intro i hi hl
    simp only [List.length_cons] at hi
    obtain ⟨r, h1, h2⟩ := ih (i + 1) (by omega) (fun y hy => hl y (List.mem_cons_of_mem _ hy))
    obtain ⟨s, g1, g2⟩ := asPrices_l2_eq a b c i ha hb hac hbc (by omega) x 0 (by have := hl x List.mem_cons_self; omega)
    rw [spec_asPrices_l1, impl_arePrices_l1, g1, g2]
    simp only [bs]
    cases s with
    | inl v => exact ⟨_, rfl, rfl⟩
    | inr v => exact ⟨r, h1, h2⟩
theorem arePrices_both {m : List (List Int)} (g : Good m m.length) (a b : List Int) (ha : ∀ x ∈ a, fin x = true) (hb : ∀ x ∈ b, fin x = true) (hac : a.length = m.length) (hbc : b.length = m.length) : ∃ r, spec_asPrices_m m a b = some r ∧ impl_arePrices_m m a b = some r := by
  unfold spec_asPrices_m impl_arePrices_m
  obtain ⟨r, h1, h2⟩ := asPrices_l1_eq a b m.length ha hb hac hbc m 0 (by omega) g.row
  rw [h1, h2]
  cases r <;> exact ⟨_, rfl, rfl⟩
theorem asNumbers_eq (m : List (List Int)) (a b : List Int) : spec_asNumbers_m m a b = some (sqr m && ((decide (a.length = m.length) && a.all fin) && (decide (b.length = m.length) && b.all fin))) := by
  unfold spec_asNumbers_m
  rw [mxSquare_eq, l1All_fin, l1All_fin]
  simp only [bs, nbeq]
  cases sqr m
  · rfl
  · cases decide (a.length = m.length)
    · cases decide (b.length = m.length) <;> rfl
    · cases decide (b.length = m.length)
      · cases a.all fin <;> rfl
      · cases a.all fin <;> rfl
theorem ArePrices_both (m : List (List Int)) (a b : List Int) : ∃ r, spec_ArePrices_m m a b = some r ∧ impl_ArePrices_m m a b = some r ∧ True := by
  unfold spec_ArePrices_m impl_ArePrices_m
  rw [asNumbers_eq, isSquare_eq, areOnePerVertex_eq, areOnePerVertex_eq]
  simp only [bs]
  cases hs : sqr m
  · exact ⟨_, rfl, rfl, trivial⟩
  cases ha : (decide (a.length = m.length) && a.all fin)
  · exact ⟨_, rfl, rfl, trivial⟩
  cases hb : (decide (b.length = m.length) && b.all fin)
  · exact ⟨_, rfl, rfl, trivial⟩
  simp only [Bool.and_eq_true, decide_eq_true_eq, List.all_eq_true] at ha hb
  obtain ⟨r, h1, h2⟩ := arePrices_both (sqr_good hs) a b ha.2 hb.2 ha.1 hb.1
  rw [h1, h2]
  exact ⟨_, rfl, rfl, trivial⟩

/-! ### Potentials -/
theorem wyPotentials_l2_eq (a : List Int) (c i : Nat) (ha : ∀ x ∈ a, fin x = true) (hac : a.length = c) (hi : i < c) (q : List Int) : ∀ j, j + q.length = c → (∀ x ∈ q, num x = true) →
    ∃ r, spec_wyPotentials_l2 a i q j = some r ∧ impl_arePotentials_l2 a i q j = some r := by
  induction q with
  | nil => intro j _ _; exact ⟨_, rfl, rfl⟩
  | cons x q ih =>
    intro j hj hn
    simp only [List.length_cons] at hj
    have n1 := (num_iff _).1 (hn x List.mem_cons_self)
    have n2 := (fin_iff _).1 (ha _ (nth_mem (show j < a.length by omega)))
    have n3 := (fin_iff _).1 (ha _ (nth_mem (show i < a.length by omega)))
    obtain ⟨r, h1, h2⟩ := ih (j + 1) (by omega) (fun y hy => hn y (List.mem_cons_of_mem _ hy))
    rw [spec_wyPotentials_l2, impl_arePotentials_l2, h1, h2, idx_nth (by omega), idx_nth (by omega)]
    simp only [bs]
    rw [nuPlus_eq (by omega) (by omega), ck_in (by omega) (by omega)]
    simp only [bs]
    by_cases e : x = 1000000000
    · subst e
      have e1 : plus (nth a i) 1000000000 = 1000000000 := by simp [plus]
      rw [e1, decide_eq_false (by omega)]
      exact ⟨_, rfl, rfl⟩
    · have e1 : (x != 1000000000) = true := by simpa using e
      have e2 : plus (nth a i) x = nth a i + x := by unfold plus; rw [if_neg (by omega)]
      rw [e1, e2]
      cases decide (nth a j > nth a i + x) <;> exact ⟨_, rfl, rfl⟩
theorem wyPotentials_l1_eq (a : List Int) (c : Nat) (ha : ∀ x ∈ a, fin x = true) (hac : a.length = c) (q : List (List Int)) : ∀ i, i + q.length = c → (∀ l ∈ q, l.length = c) → (∀ l ∈ q, ∀ x ∈ l, num x = true) →
    ∃ r, spec_wyPotentials_l1 a q i = some r ∧ impl_arePotentials_l1 a q i = some r := by
  induction q with
  | nil => intro i _ _ _; exact ⟨_, rfl, rfl⟩
  | cons x q ih =>
    intro i hi hl hn
    simp only [List.length_cons] at hi
    obtain ⟨r, h1, h2⟩ := ih (i + 1) (by omega) (fun y hy => hl y (List.mem_cons_of_mem _ hy)) (fun y hy => hn y (List.mem_cons_of_mem _ hy))
    obtain ⟨s, g1, g2⟩ := wyPotentials_l2_eq a c i ha hac (by omega) x 0 (by have := hl x List.mem_cons_self; omega) (hn x List.mem_cons_self)
    rw [spec_wyPotentials_l1, impl_arePotentials_l1, g1, g2]
    simp only [bs]
    cases s with
    | inl v => exact ⟨_, rfl, rfl⟩
    | inr v => exact ⟨r, h1, h2⟩
theorem arePotentials_both {m : List (List Int)} (g : Good m m.length) (a : List Int) (ha : ∀ x ∈ a, fin x = true) (hac : a.length = m.length) : ∃ r, spec_wyPotentials_m m a = some r ∧ impl_arePotentials_m m a = some r := by
  unfold spec_wyPotentials_m impl_arePotentials_m
  obtain ⟨r, h1, h2⟩ := wyPotentials_l1_eq a m.length ha hac m 0 (by omega) g.row g.nums
  rw [h1, h2]
  cases r <;> exact ⟨_, rfl, rfl⟩
theorem wyAsked_eq (m : List (List Int)) (v : List Int) : spec_wyAsked_m m v = some (sqr m && (decide (v.length = m.length) && v.all fin)) := by
  unfold spec_wyAsked_m
  rw [mxSquare_eq, l1All_fin]
  simp only [bs, nbeq]
  cases sqr m
  · rfl
  · cases decide (v.length = m.length) <;> rfl
theorem ArePotentials_both (m : List (List Int)) (a : List Int) : ∃ r, spec_ArePotentials_m m a = some r ∧ impl_ArePotentials_m m a = some r ∧ True := by
  unfold spec_ArePotentials_m impl_ArePotentials_m
  rw [wyAsked_eq, isSquare_eq, areOnePerVertex_eq]
  simp only [bs]
  cases hs : sqr m
  · exact ⟨_, rfl, rfl, trivial⟩
  cases ha : (decide (a.length = m.length) && a.all fin)
  · exact ⟨_, rfl, rfl, trivial⟩
  simp only [Bool.and_eq_true, decide_eq_true_eq, List.all_eq_true] at ha
  obtain ⟨r, h1, h2⟩ := arePotentials_both (sqr_good hs) a ha.2 ha.1
  rw [h1, h2]
  exact ⟨_, rfl, rfl, trivial⟩
end Go.Proofs.Ytefjnpdpeablpaa
