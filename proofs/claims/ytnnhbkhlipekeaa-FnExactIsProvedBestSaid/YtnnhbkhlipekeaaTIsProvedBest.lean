/-
  The plain function that mirrors 'FnExactIsProvedBest' answers true, whatever the input: what the program and the specification compute is the same. Written by program (wip/gen/lawgen.py) over the plain texts.
-/
import Derived.Test.YtnnhbkhlipekeaaEIsProvedBestM
import Derived.Test.YtnnhbkhlipekeaaPAs2
namespace Go.Proofs.Ytnnhbkhlipekeaa
set_option linter.unusedVariables false
set_option linter.unusedSimpArgs false

theorem FnExactIsProvedBest_true (p0 : List (List Int)) (p1 : List Int) (p2 : List Int) (p3 : List Int) (w0 : InM p0) (w1 : InI p1) (w2 : InI p2) (w3 : InI p3) : laws_FnExactIsProvedBest_m p0 p1 p2 p3 = some true := by
  unfold laws_FnExactIsProvedBest_m
  by_cases s1 : p1.length ≤ 1048576
  case neg => rw [big_t s1]; simp only [cT]
  rw [big_f s1]
  simp only [cF]
  have s1 : Small p1 := s1
  by_cases s2 : p2.length ≤ 1048576
  case neg => rw [big_t s2]; simp only [cT]
  rw [big_f s2]
  simp only [cF]
  have s2 : Small p2 := s2
  by_cases s3 : p3.length ≤ 1048576
  case neg => rw [big_t s3]; simp only [cT]
  rw [big_f s3]
  simp only [cF]
  have s3 : Small p3 := s3
  rcases szIntSS_eq p0 1048576 (by decide) (by decide) w0.len (fun l hl => (w0.row l hl).len) with z0 | ⟨n0, na0, nb0, z0, s0⟩
  · rw [z0]; simp only [bs, neg1, cT]
  rw [z0]
  simp only [bs, nonneg na0, cF]
  obtain ⟨r, h1, h2, h3⟩ := IsProvedBest_both p0 p1 p2 p3
  simp only [bs, h1, h2, toIntSS_eq _ s0, eqIntSS_eq _ _ s0, toIntS_eq _ s1, eqIntS_eq _ _ s1, toIntS_eq _ s2, eqIntS_eq _ _ s2, toIntS_eq _ s3, eqIntS_eq _ _ s3, dec_self, bne_self', imp_f, Bool.not_true, cF, cT, decide_true]
end Go.Proofs.Ytnnhbkhlipekeaa
