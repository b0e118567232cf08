/-
  The plain function that mirrors 'FnExactOuterProduct' answers true, whatever the input: what the program and the specification compute is the same. Written by program (wip/gen/lawgen.py) over the plain texts.
-/
import Derived.Test.YtefjnpdpeablpaaEOuterProductM
import Derived.Test.YtefjnpdpeablpaaPRk1
namespace Go.Proofs.Ytefjnpdpeablpaa
set_option linter.unusedVariables false
set_option linter.unusedSimpArgs false

theorem FnExactOuterProduct_true (p0 : List Int) (p1 : List Int) (w0 : InI p0) (w1 : InI p1) : laws_FnExactOuterProduct_m p0 p1 = some true := by
  unfold laws_FnExactOuterProduct_m
  by_cases s0 : p0.length ≤ 1048576
  case neg => rw [big_t s0]; simp only [cT]
  rw [big_f s0]
  simp only [cF]
  have s0 : Small p0 := s0
  by_cases s1 : p1.length ≤ 1048576
  case neg => rw [big_t s1]; simp only [cT]
  rw [big_f s1]
  simp only [cF]
  have s1 : Small p1 := s1
  obtain ⟨r, h1, h2, h3⟩ := OuterProduct_both p0 p1
  obtain ⟨k0, l0, e0, ka0, kb0⟩ := markIntS_ok p0 1 s0 (by omega) (by omega)
  obtain ⟨k1, l1, e1, ka1, kb1⟩ := markIntS_ok p1 k0 s1 (by omega) (by omega)
  simp only [bs, h1, h2, toIntS_eq _ s0, eqIntS_eq _ _ s0, toIntS_eq _ s1, eqIntS_eq _ _ s1, e0, nonneg (show 0 ≤ k0 by omega), e1, nonneg (show 0 ≤ k1 by omega), markIntSS_eq _ h3, heldIntSS_eq _ h3, eqIntSS_eq _ _ h3, dec_self, bne_self', imp_f, Bool.not_true, cF, cT, decide_true]
end Go.Proofs.Ytefjnpdpeablpaa
