/-
  The plain function that mirrors 'FnExactUnitMatrix' answers true, whatever the input: what the program and the specification compute is the same. Written by program (wip/gen/lawgen.py) over the plain texts.
-/
import Derived.Test.YtefjnpdpeablpaaEUnitMatrixM
import Derived.Test.YtefjnpdpeablpaaPMx1
namespace Go.Proofs.Ytefjnpdpeablpaa
set_option linter.unusedVariables false
set_option linter.unusedSimpArgs false

theorem FnExactUnitMatrix_true (p0 : Int) (w0 : i64R p0) : laws_FnExactUnitMatrix_m p0 = some true := by
  unfold laws_FnExactUnitMatrix_m
  obtain ⟨r, h1, h2, h3⟩ := UnitMatrix_both p0
  simp only [bs, h1, h2, markIntSS_eq _ h3, heldIntSS_eq _ h3, eqIntSS_eq _ _ h3, dec_self, bne_self', imp_f, Bool.not_true, cF, cT, decide_true]
end Go.Proofs.Ytefjnpdpeablpaa
