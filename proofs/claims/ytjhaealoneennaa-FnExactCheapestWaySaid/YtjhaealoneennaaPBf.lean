/- Plain laws: the costs of ways after so many steps, in the program. -/
import Derived.Test.YtjhaealoneennaaPFwC
import Derived.Test.YtjhaealoneennaaPSame
namespace Go.Proofs.Ytjhaealoneennaa
set_option linter.unusedVariables false
set_option linter.unusedSimpArgs false
set_option linter.unusedSectionVars false

theorem wyStart_eq (n : Nat) (h0 : 1 ≤ n) (h1 : n ≤ 6) : spec_wyStart_m (n : Int) = some (unitM n) := by
  have : n = 1 ∨ n = 2 ∨ n = 3 ∨ n = 4 ∨ n = 5 ∨ n = 6 := by omega
  rcases this with e | e | e | e | e | e <;> subst e <;> decide +kernel
theorem unitM_En {n a b : Nat} (ha : a < n) (hb : b < n) : En (unitM n) a b = if a = b then 0 else 1000000000 := by
  simp [En, nth, nthM, unitM, ha, hb]
theorem unitM_shape (n : Nat) : Shape (unitM n) n n := ⟨by simp [unitM], fun l hl => by
  simp only [unitM, List.mem_map] at hl
  obtain ⟨i, _, rfl⟩ := hl
  simp⟩
theorem stepF_congr {n : Nat} {m c c' : Mt} (h : ∀ a b, a < n → b < n → c a b = c' a b) {a b : Nat} (ha : a < n) (hb : b < n) : stepF n m c a b = stepF n m c' a b := by
  unfold stepF
  rw [h a b ha hb]
  have : ∀ (l : List Nat) (z : Ex), (∀ j ∈ l, j < n) → inf (fun j => padd (c a j) (m j b)) l z = inf (fun j => padd (c' a j) (m j b)) l z := by
    intro l
    induction l with
    | nil => intro z _; rfl
    | cons j l ih =>
      intro z hl
      rw [inf, inf, h a j ha (hl j List.mem_cons_self)]
      exact ih _ (fun x hx => hl x (List.mem_cons_of_mem _ hx))
  exact this _ _ (fun j hj => List.mem_range.1 hj)
theorem wySame_l1_eq (b : List (List Int)) (q : List (List Int)) : ∀ j, j + q.length = b.length → spec_wySame_l1 b q j = some (cond (decide (q = b.drop j)) (Sum.inr ()) (Sum.inl false)) := by
  induction q with
  | nil => intro j hj; simp only [List.length_nil, Nat.add_zero] at hj; subst hj; simp [spec_wySame_l1]
  | cons x q ih =>
    intro j hj
    simp only [List.length_cons] at hj
    rw [spec_wySame_l1, idx_lt (show j < b.length by omega), drop_cons (show j < b.length by omega)]
    simp only [bs, l1Same_eq, List.cons.injEq]
    by_cases e : x = b[j]
    · rw [ih (j + 1) (by omega)]; simp [e]
    · simp [e]
theorem wySame_eq {a b : List (List Int)} (h : a.length = b.length) : spec_wySame_m a b = some (decide (a = b)) := by
  unfold spec_wySame_m
  rw [wySame_l1_eq b a 0 (by omega), List.drop_zero]
  cases decide (a = b) <;> rfl
/-- c holds the costs after t steps of a matrix with entries up to D. -/
structure Aft (n : Nat) (D : Int) (m : List (List Int)) (t : Nat) (c : List (List Int)) : Prop where
  sh : Shape c n n
  eq : ∀ a b, a < n → b < n → A n c a b = cs n (A n m) t a b
  wi : ∀ a b, a < n → b < n → wi (-(t * D)) (t * D) (En c a b)
section
variable {m : List (List Int)} {n : Nat} {D : Int} (hm : Shape m n n) (hmw : ∀ a b, a < n → b < n → wi (-D) D (En m a b)) (hD : 0 ≤ D) (hD2 : D ≤ 10000000) (h6 : n ≤ 6)
include hm hmw hD hD2 h6
theorem aft_0 : Aft n D m 0 (unitM n) := ⟨unitM_shape n, fun a b ha hb => by
  rw [A_in ha hb, unitM_En ha hb]
  simp only [cs, startF]
  by_cases e : a = b
  · simp [e, conv]
  · simp [e, conv], fun a b ha hb => by
  rw [unitM_En ha hb]
  split
  · right; simp
  · left; rfl⟩
theorem aft_step {t : Nat} {c : List (List Int)} (h : Aft n D m t c) (ht : t ≤ 7) : ∃ c', spec_wyStep_m m c = some c' ∧ Aft n D m (t + 1) c' := by
  have h1 : 0 ≤ (t : Int) * D := Int.mul_nonneg (by omega) hD
  have h2 : (t : Int) * D ≤ 7 * 10000000 := Int.mul_le_mul (by omega) hD2 hD (by omega)
  have h3 : ((t + 1 : Nat) : Int) * D = (t : Int) * D + D := by rw [show ((t + 1 : Nat) : Int) = (t : Int) + 1 by omega, Int.add_mul, Int.one_mul]
  obtain ⟨c', k1, k2, k3, k4⟩ := wyStep_eq (B := (t : Int) * D) (D := D) hm h.sh hmw h.wi h1 (by omega) hD hD2 h6
  refine ⟨c', k1, k2, fun a b ha hb => ?_, fun a b ha hb => ?_⟩
  · rw [k3 a b ha hb, stepF_congr h.eq ha hb]
    rfl
  · rw [h3]; exact k4 a b ha hb
theorem aft_l1 (q : List (List Int)) : ∀ t j c, Aft n D m t c → t + q.length ≤ 7 → ∃ c', spec_wyCosts_l1 m q j c = some c' ∧ Aft n D m (t + q.length) c' := by
  induction q with
  | nil => intro t j c h _; exact ⟨c, rfl, h⟩
  | cons x q ih =>
    intro t j c h ht
    simp only [List.length_cons] at ht
    obtain ⟨c1, h1, h2⟩ := aft_step hm hmw hD hD2 h6 h (by omega)
    rw [spec_wyCosts_l1, h1]
    simp only [bs]
    obtain ⟨c', k1, k2⟩ := ih (t + 1) (j + 1) c1 h2 (by omega)
    exact ⟨c', k1, by rw [List.length_cons, show t + (q.length + 1) = t + 1 + q.length by omega]; exact k2⟩
theorem wyCosts_aft (h1 : 1 ≤ n) : ∃ c b, spec_wyCosts_m m = some (c, b) ∧ Aft n D m n c := by
  have hml := hm.len
  obtain ⟨c, k1, k2⟩ := aft_l1 hm hmw hD hD2 h6 m 0 0 (unitM n) (aft_0 hm hmw hD hD2 h6) (by omega)
  rw [Nat.zero_add, hml] at k2
  obtain ⟨c', k3, k4⟩ := aft_step hm hmw hD hD2 h6 k2 (by omega)
  unfold spec_wyCosts_m
  rw [hml, wyStart_eq n h1 h6]
  simp only [bs]
  rw [k1]
  simp only [bs]
  rw [k3]
  simp only [bs]
  rw [wySame_eq (by rw [k2.sh.len, k4.sh.len])]
  exact ⟨c, _, rfl, k2⟩
end
end Go.Proofs.Ytjhaealoneennaa
