/-
  The plain function that mirrors 'FnExactMeetingPairs' answers true, whatever the input: what the program and the specification compute is the same. Written by program (wip/gen/lawgen.py) over the plain texts.
-/
import Derived.Test.YtaagklbiebogfaaEMeetingPairsM
import Derived.Test.YtaagklbiebogfaaPRay
import Derived.Test.YtaagklbiebogfaaPLry
namespace Go.Proofs.Ytaagklbiebogfaa
set_option linter.unusedVariables false
set_option linter.unusedSimpArgs false

theorem FnExactMeetingPairs_true (p0 : List Y3) (p1 : List Y3) (p2 : Int) (p3 : Int) (w0 : InY p0) (w1 : InY p1) (w2 : i64R p2) (w3 : i64R p3) : laws_FnExactMeetingPairs_m p0 p1 p2 p3 = some true := by
  unfold laws_FnExactMeetingPairs_m
  rcases szRayS_big p0 1048576 (by decide) (by decide) w0 with z0 | ⟨n0, na0, nb0, z0, s0⟩
  · rw [z0]; simp only [bs, neg1, cT]
  rw [z0]
  simp only [bs, nonneg na0, cF]
  rcases szRayS_big p1 n0 na0 nb0 w1 with z1 | ⟨n1, na1, nb1, z1, s1⟩
  · rw [z1]; simp only [bs, neg1, cT]
  rw [z1]
  simp only [bs, nonneg na1, cF]
  obtain ⟨r, h1, h2, h3⟩ := MeetingPairs_both p0 p1 p2 p3 s0 s1
  obtain ⟨k0, l0, e0, ka0, kb0⟩ := markRayS_ok p0 1 s0 (by omega) (by omega)
  obtain ⟨k1, l1, e1, ka1, kb1⟩ := markRayS_ok p1 k0 s1 (by omega) (by omega)
  simp only [bs, h1, h2, toRayS_eq _ s0, eqRayS_eq _ _ s0, toRayS_eq _ s1, eqRayS_eq _ _ s1, eqIntSS_eq _ _ h3, e0, nonneg (show 0 ≤ k0 by omega), e1, nonneg (show 0 ≤ k1 by omega), markIntSS_eq _ h3, heldIntSS_eq _ h3, dec_self, bne_self', imp_f, Bool.not_true, cF, cT, decide_true]
end Go.Proofs.Ytaagklbiebogfaa
