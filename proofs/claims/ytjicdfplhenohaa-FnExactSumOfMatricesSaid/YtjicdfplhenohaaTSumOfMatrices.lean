/-
  The plain function that mirrors 'FnExactSumOfMatrices' answers true, whatever the input: what the program and the specification compute is the same. Written by program (wip/gen/lawgen.py) over the plain texts.
-/
import Derived.Test.YtjicdfplhenohaaESumOfMatricesM
import Derived.Test.YtjicdfplhenohaaPMx2
namespace Go.Proofs.Ytjicdfplhenohaa
set_option linter.unusedVariables false
set_option linter.unusedSimpArgs false

theorem FnExactSumOfMatrices_true (p0 : List (List Int)) (p1 : List (List Int)) (w0 : InM p0) (w1 : InM p1) : laws_FnExactSumOfMatrices_m p0 p1 = some true := by
  unfold laws_FnExactSumOfMatrices_m
  rcases szIntSS_eq p0 1048576 (by decide) (by decide) w0.len (fun l hl => (w0.row l hl).len) with z0 | ⟨n0, na0, nb0, z0, s0⟩
  · rw [z0]; simp only [bs, neg1, cT]
  rw [z0]
  simp only [bs, nonneg na0, cF]
  rcases szIntSS_eq p1 n0 na0 nb0 w1.len (fun l hl => (w1.row l hl).len) with z1 | ⟨n1, na1, nb1, z1, s1⟩
  · rw [z1]; simp only [bs, neg1, cT]
  rw [z1]
  simp only [bs, nonneg na1, cF]
  obtain ⟨r, h1, h2, h3⟩ := SumOfMatrices_both p0 p1
  obtain ⟨k0, l0, e0, ka0, kb0⟩ := markIntSS_ok p0 1 s0 (by omega) (by omega)
  obtain ⟨k1, l1, e1, ka1, kb1⟩ := markIntSS_ok p1 k0 s1 (by omega) (by omega)
  simp only [bs, h1, h2, toIntSS_eq _ s0, eqIntSS_eq _ _ s0, toIntSS_eq _ s1, eqIntSS_eq _ _ s1, e0, nonneg (show 0 ≤ k0 by omega), e1, nonneg (show 0 ≤ k1 by omega), markIntSS_eq _ h3, heldIntSS_eq _ h3, eqIntSS_eq _ _ h3, dec_self, bne_self', imp_f, Bool.not_true, cF, cT, decide_true]
end Go.Proofs.Ytjicdfplhenohaa
