/- Plain laws: two lists are the same. -/
import Derived.Test.YtnnhbkhlipekeaaEigM
import Derived.Test.YtnnhbkhlipekeaaPBas
namespace Go.Proofs.Ytnnhbkhlipekeaa
set_option linter.unusedVariables false
set_option linter.unusedSimpArgs false

theorem l1Same_l1_eq (b : List Int) (q : List Int) : ∀ j, j + q.length = b.length → spec_l1Same_l1 b q j = some (cond (decide (q = b.drop j)) (Sum.inr ()) (Sum.inl false)) := by
  induction q with
  | nil => intro j hj; simp only [List.length_nil, Nat.add_zero] at hj; subst hj; simp [spec_l1Same_l1]
  | cons x q ih =>
    intro j hj
    simp only [List.length_cons] at hj
    rw [spec_l1Same_l1, idx_lt (show j < b.length by omega), drop_cons (show j < b.length by omega)]
    simp only [bs, List.cons.injEq]
    by_cases e : x = b[j]
    · rw [ih (j + 1) (by omega)]; simp [e]
    · have h' : (x != b[j]) = true := by simpa using e
      rw [h']; simp [e]
theorem l1Same_eq (a b : List Int) : spec_l1Same_m a b = some (decide (a = b)) := by
  unfold spec_l1Same_m
  rw [nbne]
  by_cases h : a.length = b.length
  · rw [decide_eq_true h, l1Same_l1_eq b a 0 (by omega)]
    simp only [Bool.not_true, cF, bs, List.drop_zero]
    cases decide (a = b) <;> rfl
  · rw [decide_eq_false h, decide_eq_false (fun e => h (by rw [e]))]; rfl
theorem Equal_l1_eq (b : List Int) (q : List Int) : ∀ j, j + q.length = b.length → slices_Equal_int_int_l1 b q j = some (cond (decide (q = b.drop j)) (Sum.inr ()) (Sum.inl false)) := by
  induction q with
  | nil => intro j hj; simp only [List.length_nil, Nat.add_zero] at hj; subst hj; simp [slices_Equal_int_int_l1]
  | cons x q ih =>
    intro j hj
    simp only [List.length_cons] at hj
    rw [slices_Equal_int_int_l1, idx_lt (show j < b.length by omega), drop_cons (show j < b.length by omega)]
    simp only [bs, List.cons.injEq]
    by_cases e : x = b[j]
    · rw [ih (j + 1) (by omega)]; simp [e]
    · have h' : (x != b[j]) = true := by simpa using e
      rw [h']; simp [e]
theorem Equal_eq (a b : List Int) : slices_Equal_int_int_m a b = some (decide (a = b)) := by
  unfold slices_Equal_int_int_m
  rw [nbne]
  by_cases h : a.length = b.length
  · rw [decide_eq_true h, Equal_l1_eq b a 0 (by omega)]
    simp only [Bool.not_true, cF, bs, List.drop_zero]
    cases decide (a = b) <;> rfl
  · rw [decide_eq_false h, decide_eq_false (fun e => h (by rw [e]))]; rfl
end Go.Proofs.Ytnnhbkhlipekeaa
