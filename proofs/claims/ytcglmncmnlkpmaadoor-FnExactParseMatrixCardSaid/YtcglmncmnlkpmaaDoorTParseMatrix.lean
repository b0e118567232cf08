/-
  The plain function that mirrors 'FnExactParseMatrix' answers true, whatever the input: what the program and the specification compute is the same. Written by program (wip/gen/lawgen.py) over the plain texts.
-/
import Derived.Test.YtcglmncmnlkpmaaDoorEParseMatrixM
import Derived.Test.YtcglmncmnlkpmaaDoorPTs3
namespace Go.Proofs.YtcglmncmnlkpmaaDoor
set_option linter.unusedVariables false
set_option linter.unusedSimpArgs false

theorem FnExactParseMatrix_true (p0 : List UInt8) : laws_FnExactParseMatrix_m p0 = some true := by
  unfold laws_FnExactParseMatrix_m
  by_cases s0 : p0.length ≤ 1048576
  case neg => rw [big_t s0]; simp only [cT]
  rw [big_f s0]
  simp only [cF]
  have s0 : Small p0 := s0
  obtain ⟨r, h1, h2, h3⟩ := ParseMatrix_both p0 s0
  simp only [bs, h1, h2, eqIntSS_eq _ _ h3, markIntSS_eq _ h3, heldIntSS_eq _ h3, dec_self, bne_self', imp_f, Bool.not_true, cF, cT, decide_true]
end Go.Proofs.YtcglmncmnlkpmaaDoor
