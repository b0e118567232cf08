/- Plain laws: the unit matrix, is it a matrix, the trace, the transpose; and their four checks answer true. -/
import Derived.Test.YtefjnpdpeablpaaEUnitMatrixM
import Derived.Test.YtefjnpdpeablpaaEIsMatrixM
import Derived.Test.YtefjnpdpeablpaaETraceOfM
import Derived.Test.YtefjnpdpeablpaaETransposeMatrixM
import Derived.Test.YtefjnpdpeablpaaPMat
namespace Go.Proofs.Ytefjnpdpeablpaa
set_option linter.unusedVariables false
set_option linter.unusedSimpArgs false

theorem dec_self {α : Type} [DecidableEq α] (a : α) : decide (a = a) = true := decide_eq_true rfl
theorem bne_self' {α : Type} [BEq α] [LawfulBEq α] (a : α) : (a != a) = false := bne_self_eq_false a
theorem pos_f (a : Int) (n : Nat) (h : 0 ≤ a) : decide (a + (n : Int) < 0) = false := decide_eq_false (by omega)
theorem imp_f (n : Nat) : decide (1 + (n : Int) < 0) = false := decide_eq_false (by omega)
theorem neg1 : decide ((-1 : Int) < 0) = true := rfl
theorem nonneg {n : Int} (h : 0 ≤ n) : decide (n < 0) = false := decide_eq_false (by omega)

def unitM (n : Nat) : List (List Int) := (List.range n).map fun i => (List.range n).map fun j => if i = j then 0 else 1000000000
theorem unit_both (n : Int) (h : inR n 1 6 = true) : spec_mxUnit_m n = some (unitM n.toNat) ∧ impl_unit_m n = some (unitM n.toNat) ∧ SmallM (unitM n.toNat) := by
  have h := (inR_iff _ _ _).1 h
  have : n = 1 ∨ n = 2 ∨ n = 3 ∨ n = 4 ∨ n = 5 ∨ n = 6 := by omega
  rcases this with e | e | e | e | e | e <;> subst e <;> exact ⟨by decide +kernel, by decide +kernel, by unfold SmallM Small; decide +kernel⟩
theorem UnitMatrix_both (n : Int) : ∃ r, spec_UnitMatrix_m n = some r ∧ impl_UnitMatrix_m n = some r ∧ SmallM r.1 := by
  unfold spec_UnitMatrix_m impl_UnitMatrix_m
  rw [l1In_eq, within_eq]
  cases h : inR n 1 6
  · exact ⟨([], false), rfl, rfl, smallM_nil⟩
  · obtain ⟨h1, h2, h3⟩ := unit_both n h
    rw [h1, h2]
    exact ⟨(_, true), rfl, rfl, h3⟩
theorem FnExactUnitMatrix_true (n : Int) (_ : i64R n) : laws_FnExactUnitMatrix_m n = some true := by
  obtain ⟨r, h1, h2, h3⟩ := UnitMatrix_both n
  unfold laws_FnExactUnitMatrix_m
  rw [h1, h2]
  simp only [bs, eqIntSS_eq _ _ h3, markIntSS_eq _ h3, heldIntSS_eq _ h3, dec_self, bne_self', imp_f, Bool.not_true, cond_false, decide_true]
end Go.Proofs.Ytefjnpdpeablpaa
