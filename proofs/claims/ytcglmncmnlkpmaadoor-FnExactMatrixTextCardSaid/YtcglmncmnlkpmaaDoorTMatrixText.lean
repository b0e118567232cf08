/-
  The plain function that mirrors 'FnExactMatrixText' answers true, whatever the input: what the program and the specification compute is the same. Written by program (wip/gen/lawgen.py) over the plain texts.
-/
import Derived.Test.YtcglmncmnlkpmaaDoorEMatrixTextM
import Derived.Test.YtcglmncmnlkpmaaDoorPTxt
namespace Go.Proofs.YtcglmncmnlkpmaaDoor
set_option linter.unusedVariables false
set_option linter.unusedSimpArgs false

theorem FnExactMatrixText_true (p0 : List (List Int)) (w0 : InM p0) : laws_FnExactMatrixText_m p0 = some true := by
  unfold laws_FnExactMatrixText_m
  rcases szIntSS_eq p0 1048576 (by decide) (by decide) w0.len (fun l hl => (w0.row l hl).len) with z0 | ⟨n0, na0, nb0, z0, s0⟩
  · rw [z0]; simp only [bs, neg1, cT]
  rw [z0]
  simp only [bs, nonneg na0, cF]
  obtain ⟨r, h1, h2, h3⟩ := MatrixText_both p0
  simp only [bs, h1, h2, toIntSS_eq _ s0, eqIntSS_eq _ _ s0, dec_self, bne_self', imp_f, Bool.not_true, cF, cT, decide_true]
end Go.Proofs.YtcglmncmnlkpmaaDoor
