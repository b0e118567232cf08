/-
  The plain function that mirrors 'FnExactPossiblePairs' answers true, whatever the input: what the program and the specification compute is the same. Written by program (wip/gen/lawgen.py) over the plain texts.
-/
import Derived.Test.YtnnhbkhlipekeaaEPossiblePairsM
import Derived.Test.YtnnhbkhlipekeaaPPos
namespace Go.Proofs.Ytnnhbkhlipekeaa
set_option linter.unusedVariables false
set_option linter.unusedSimpArgs false

theorem FnExactPossiblePairs_true (p0 : List (List Int)) (w0 : InM p0) : laws_FnExactPossiblePairs_m p0 = some true := by
  unfold laws_FnExactPossiblePairs_m
  rcases szIntSS_eq p0 1048576 (by decide) (by decide) w0.len (fun l hl => (w0.row l hl).len) with z0 | ⟨n0, na0, nb0, z0, s0⟩
  · rw [z0]; simp only [bs, neg1, cT]
  rw [z0]
  simp only [bs, nonneg na0, cF]
  obtain ⟨r, h1, h2, h3⟩ := PossiblePairs_both p0
  obtain ⟨k0, l0, e0, ka0, kb0⟩ := markIntSS_ok p0 1 s0 (by omega) (by omega)
  simp only [bs, h1, h2, toIntSS_eq _ s0, eqIntSS_eq _ _ s0, eqIntSS_eq _ _ h3, e0, nonneg (show 0 ≤ k0 by omega), markIntSS_eq _ h3, heldIntSS_eq _ h3, dec_self, bne_self', imp_f, Bool.not_true, cF, cT, decide_true]
end Go.Proofs.Ytnnhbkhlipekeaa
