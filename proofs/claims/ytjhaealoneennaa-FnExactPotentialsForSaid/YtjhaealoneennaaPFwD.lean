/- Plain laws: the costs of ways, the centre, what lies within a cost. -/
import Derived.Test.YtjhaealoneennaaPFwC
import Derived.Test.YtjhaealoneennaaPWy3
namespace Go.Proofs.Ytjhaealoneennaa
set_option linter.unusedVariables false
set_option linter.unusedSimpArgs false
set_option linter.unusedSectionVars false

theorem wyStart_eq (n : Nat) (h0 : 1 ≤ n) (h1 : n ≤ 6) : spec_wyStart_m (n : Int) = some (unitM n) := by
  have : n = 1 ∨ n = 2 ∨ n = 3 ∨ n = 4 ∨ n = 5 ∨ n = 6 := by omega
  rcases this with e | e | e | e | e | e <;> subst e <;> decide +kernel
theorem unitM_En {n a b : Nat} (ha : a < n) (hb : b < n) : En (unitM n) a b = if a = b then 0 else 1000000000 := by
  simp [En, nth, nthM, unitM, ha, hb]
theorem unitM_shape (n : Nat) : Shape (unitM n) n n := ⟨by simp [unitM], fun l hl => by
  simp only [unitM, List.mem_map] at hl
  obtain ⟨i, _, rfl⟩ := hl
  simp⟩
theorem stepF_congr {n : Nat} {m c c' : Mt} (h : ∀ a b, a < n → b < n → c a b = c' a b) {a b : Nat} (ha : a < n) (hb : b < n) : stepF n m c a b = stepF n m c' a b := by
  unfold stepF
  rw [h a b ha hb]
  have : ∀ (l : List Nat) (z : Ex), (∀ j ∈ l, j < n) → inf (fun j => padd (c a j) (m j b)) l z = inf (fun j => padd (c' a j) (m j b)) l z := by
    intro l
    induction l with
    | nil => intro z _; rfl
    | cons j l ih =>
      intro z hl
      rw [inf, inf, h a j ha (hl j List.mem_cons_self)]
      exact ih _ (fun x hx => hl x (List.mem_cons_of_mem _ hx))
  exact this _ _ (fun j hj => List.mem_range.1 hj)
/-- c holds the costs after t steps. -/
structure After (n : Nat) (m : List (List Int)) (t : Nat) (c : List (List Int)) : Prop where
  sh : Shape c n n
  eq : ∀ a b, a < n → b < n → A n c a b = cs n (A n m) t a b
  wi : ∀ a b, a < n → b < n → wi (-(t * 1000000)) (t * 1000000) (En c a b)
section
variable {m : List (List Int)} {n : Nat} (g : Good m n) (hn : m.length = n)
include g hn
theorem after_0 : After n m 0 (unitM n) := ⟨unitM_shape n, fun a b ha hb => by
  rw [A_in ha hb, unitM_En ha hb]
  simp only [cs, startF]
  by_cases e : a = b
  · simp [e, conv]
  · simp [e, conv], fun a b ha hb => by
  rw [unitM_En ha hb]
  split
  · right; omega
  · left; rfl⟩
theorem after_step {t : Nat} {c : List (List Int)} (h : After n m t c) (ht : t ≤ 7) : ∃ c', spec_wyStep_m m c = some c' ∧ After n m (t + 1) c' := by
  have hm : Shape m n n := ⟨hn, g.row⟩
  obtain ⟨c', h1, h2, h3, h4⟩ := wyStep_eq (B := (t : Int) * 1000000) hm h.sh (fun a b ha hb => num_wi (En_num g (by omega) hb)) h.wi (by omega) (by omega) g.chi
  refine ⟨c', h1, h2, fun a b ha hb => ?_, fun a b ha hb => (h4 a b ha hb).mono (by omega) (by omega)⟩
  rw [h3 a b ha hb, stepF_congr h.eq ha hb]
  rfl
theorem after_l1 (q : List (List Int)) : ∀ t j c, After n m t c → t + q.length ≤ 7 → ∃ c', spec_wyCosts_l1 m q j c = some c' ∧ After n m (t + q.length) c' := by
  induction q with
  | nil => intro t j c h _; exact ⟨c, rfl, h⟩
  | cons x q ih =>
    intro t j c h ht
    simp only [List.length_cons] at ht
    obtain ⟨c1, h1, h2⟩ := after_step g hn h (by omega)
    rw [spec_wyCosts_l1, h1]
    simp only [bs]
    obtain ⟨c', k1, k2⟩ := ih (t + 1) (j + 1) c1 h2 (by omega)
    exact ⟨c', k1, by rw [List.length_cons, show t + (q.length + 1) = t + 1 + q.length by omega]; exact k2⟩
end
theorem l1Same_l1_eq (b : List Int) (q : List Int) : ∀ j, j + q.length = b.length → spec_l1Same_l1 b q j = some (cond (decide (q = b.drop j)) (Sum.inr ()) (Sum.inl false)) := by
  induction q with
  | nil => intro j hj; simp only [List.length_nil, Nat.add_zero] at hj; subst hj; simp [spec_l1Same_l1]
  | cons x q ih =>
    intro j hj
    simp only [List.length_cons] at hj
    rw [spec_l1Same_l1, idx_lt (show j < b.length by omega), drop_cons (show j < b.length by omega)]
    simp only [bs, List.cons.injEq]
    by_cases e : x = b[j]
    · rw [ih (j + 1) (by omega)]; simp [e]
    · have h' : (x != b[j]) = true := by simpa using e
      rw [h']; simp [e]
theorem l1Same_eq (a b : List Int) : spec_l1Same_m a b = some (decide (a = b)) := by
  unfold spec_l1Same_m
  rw [nbne]
  by_cases h : a.length = b.length
  · rw [decide_eq_true h, l1Same_l1_eq b a 0 (by omega)]
    simp only [Bool.not_true, cF, bs, List.drop_zero]
    cases decide (a = b) <;> rfl
  · rw [decide_eq_false h, decide_eq_false (fun e => h (by rw [e]))]; rfl
theorem wySame_l1_eq (b : List (List Int)) (q : List (List Int)) : ∀ j, j + q.length = b.length → spec_wySame_l1 b q j = some (cond (decide (q = b.drop j)) (Sum.inr ()) (Sum.inl false)) := by
  induction q with
  | nil => intro j hj; simp only [List.length_nil, Nat.add_zero] at hj; subst hj; simp [spec_wySame_l1]
  | cons x q ih =>
    intro j hj
    simp only [List.length_cons] at hj
    rw [spec_wySame_l1, idx_lt (show j < b.length by omega), drop_cons (show j < b.length by omega)]
    simp only [bs, l1Same_eq, List.cons.injEq]
    by_cases e : x = b[j]
    · rw [ih (j + 1) (by omega)]; simp [e]
    · simp [e]
theorem wySame_eq {a b : List (List Int)} (h : a.length = b.length) : spec_wySame_m a b = some (decide (a = b)) := by
  unfold spec_wySame_m
  rw [wySame_l1_eq b a 0 (by omega), List.drop_zero]
  cases decide (a = b) <;> rfl
/-- The two ways to the costs: the same matrix, or none for both. -/
theorem ways_both {m : List (List Int)} (g : Good m m.length) : ∃ c ok d, spec_wyCosts_m m = some (c, ok) ∧ impl_wayCosts_m m = some (d, ok) ∧ (ok = true → c = d ∧ Shape d m.length m.length) ∧ (ok = false → d = []) := by
  generalize hn : m.length = n at *
  have hhi := g.chi; have hlo := g.clo
  obtain ⟨c, c1, c2⟩ := after_l1 g hn m 0 0 (unitM n) (after_0 g hn) (by omega)
  rw [hn, Nat.zero_add] at c2
  obtain ⟨c', s1, s2⟩ := after_step g hn c2 (by omega)
  have g' : Good m m.length := hn.symm ▸ g
  obtain ⟨d, d1, d2, ⟨d0, e1, e2, e3⟩, d3⟩ := wayCosts_eq g'
  rw [hn] at d1 d2 e1 e2 e3 d3
  obtain ⟨f1, f2⟩ := fw_bf e2 e3
  have hsp : spec_wyCosts_m m = some (c, decide (c = c')) := by
    unfold spec_wyCosts_m
    rw [hn, wyStart_eq n hlo hhi]
    simp only [bs]
    rw [c1]
    simp only [bs]
    rw [s1]
    simp only [bs]
    rw [wySame_eq (by rw [c2.sh.len, s2.sh.len])]
    rfl
  have hdiag : ∀ i, i < n → (0 ≤ En d i i ↔ ple (some 0) (fwF n n 0 d0 i i)) := fun i hi => by
    rw [← e1, A_in hi hi]
    unfold conv
    by_cases e : En d i i = 1000000000
    · rw [if_pos e, e]; exact ⟨fun _ => trivial, fun _ => by omega⟩
    · rw [if_neg e]; exact Iff.rfl
  rcases d3 with ⟨h1, h2⟩ | ⟨⟨i, hi, h1⟩, h2⟩
  · have hf := f1 (fun i hi => (hdiag i hi).1 (h1 i hi))
    have hcd : c = d := c2.sh.ext d1 fun a b ha hb => conv_inj (by
      rw [← A_in ha hb, ← A_in ha hb, c2.eq a b ha hb, (hf a b ha hb).1, e1])
    have hcc : c = c' := c2.sh.ext s2.sh fun a b ha hb => conv_inj (by
      rw [← A_in ha hb, ← A_in ha hb, c2.eq a b ha hb, s2.eq a b ha hb, (hf a b ha hb).1, (hf a b ha hb).2])
    refine ⟨c, true, d, ?_, h2, fun _ => ⟨hcd, d1⟩, fun h => by cases h⟩
    rw [hsp, decide_eq_true hcc]
  · refine ⟨c, false, [], ?_, h2, (fun h => by cases h), fun _ => rfl⟩
    rw [hsp, decide_eq_false]
    intro hcc
    have := f2 (fun a b ha hb => by rw [← s2.eq a b ha hb, ← c2.eq a b ha hb, hcc]) i hi
    have := (hdiag i hi).2 this
    omega
/-! ### The centre -/
theorem l1Most_eq (a b : Int) : spec_l1Most_m a b = some (max a b) := by
  unfold spec_l1Most_m
  by_cases h : a > b
  · rw [decide_eq_true h]; simp; omega
  · rw [decide_eq_false h]; simp; omega
/-! ### Within a cost -/
end Go.Proofs.Ytjhaealoneennaa
