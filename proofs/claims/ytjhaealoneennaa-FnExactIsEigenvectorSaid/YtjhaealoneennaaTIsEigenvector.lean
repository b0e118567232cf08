/-
  The plain function that mirrors 'FnExactIsEigenvector' answers true, whatever the input: what the program and the specification compute is the same. Written by program (wip/gen/lawgen.py) over the plain texts.
-/
import Derived.Test.YtjhaealoneennaaEIsEigenvectorM
import Derived.Test.YtjhaealoneennaaPPot
namespace Go.Proofs.Ytjhaealoneennaa
set_option linter.unusedVariables false
set_option linter.unusedSimpArgs false

theorem FnExactIsEigenvector_true (p0 : List (List Int)) (p1 : Int) (p2 : List Int) (w0 : InM p0) (w1 : i64R p1) (w2 : InI p2) : laws_FnExactIsEigenvector_m p0 p1 p2 = some true := by
  unfold laws_FnExactIsEigenvector_m
  by_cases s2 : p2.length ≤ 1048576
  case neg => rw [big_t s2]; simp only [cT]
  rw [big_f s2]
  simp only [cF]
  have s2 : Small p2 := s2
  rcases szIntSS_eq p0 1048576 (by decide) (by decide) w0.len (fun l hl => (w0.row l hl).len) with z0 | ⟨n0, na0, nb0, z0, s0⟩
  · rw [z0]; simp only [bs, neg1, cT]
  rw [z0]
  simp only [bs, nonneg na0, cF]
  obtain ⟨r, h1, h2, h3⟩ := IsEigenvector_both p0 p1 p2
  simp only [bs, h1, h2, toIntSS_eq _ s0, eqIntSS_eq _ _ s0, toIntS_eq _ s2, eqIntS_eq _ _ s2, dec_self, bne_self', imp_f, Bool.not_true, cF, cT, decide_true]
end Go.Proofs.Ytjhaealoneennaa
