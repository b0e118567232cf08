/-
  The plain function that mirrors 'FnExactCircuitMean' answers true, whatever the input: what the program and the specification compute is the same. Written by program (wip/gen/lawgen.py) over the plain texts.
-/
import Derived.Test.YtjhaealoneennaaECircuitMeanM
import Derived.Test.YtjhaealoneennaaPCmn
namespace Go.Proofs.Ytjhaealoneennaa
set_option linter.unusedVariables false
set_option linter.unusedSimpArgs false

theorem FnExactCircuitMean_true (p0 : List (List Int)) (p1 : List Int) (w0 : InM p0) (w1 : InI p1) : laws_FnExactCircuitMean_m p0 p1 = some true := by
  unfold laws_FnExactCircuitMean_m
  by_cases s1 : p1.length ≤ 1048576
  case neg => rw [big_t s1]; simp only [cT]
  rw [big_f s1]
  simp only [cF]
  have s1 : Small p1 := s1
  rcases szIntSS_eq p0 1048576 (by decide) (by decide) w0.len (fun l hl => (w0.row l hl).len) with z0 | ⟨n0, na0, nb0, z0, s0⟩
  · rw [z0]; simp only [bs, neg1, cT]
  rw [z0]
  simp only [bs, nonneg na0, cF]
  obtain ⟨r, h1, h2, h3⟩ := CircuitMean_both p0 p1
  simp only [bs, h1, h2, toIntSS_eq _ s0, eqIntSS_eq _ _ s0, toIntS_eq _ s1, eqIntS_eq _ _ s1, eqFrac_self, dec_self, bne_self', imp_f, Bool.not_true, cF, cT, decide_true]
end Go.Proofs.Ytjhaealoneennaa
