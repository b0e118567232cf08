/-
  The plain function that mirrors 'FnExactMeetDefect' answers true, whatever the input: what the program and the specification compute is the same. Written by program (wip/gen/lawgen.py) over the plain texts.
-/
import Derived.Test.YtaagklbiebogfaaEMeetDefectM
import Derived.Test.YtaagklbiebogfaaPRay
import Derived.Test.YtaagklbiebogfaaPLry
namespace Go.Proofs.Ytaagklbiebogfaa
set_option linter.unusedVariables false
set_option linter.unusedSimpArgs false

theorem FnExactMeetDefect_true (p0 : List Y3) (p1 : List Y3) (w0 : InY p0) (w1 : InY p1) : laws_FnExactMeetDefect_m p0 p1 = some true := by
  unfold laws_FnExactMeetDefect_m
  rcases szRayS_big p0 1048576 (by decide) (by decide) w0 with z0 | ⟨n0, na0, nb0, z0, s0⟩
  · rw [z0]; simp only [bs, neg1, cT]
  rw [z0]
  simp only [bs, nonneg na0, cF]
  rcases szRayS_big p1 n0 na0 nb0 w1 with z1 | ⟨n1, na1, nb1, z1, s1⟩
  · rw [z1]; simp only [bs, neg1, cT]
  rw [z1]
  simp only [bs, nonneg na1, cF]
  obtain ⟨r, h1, h2, h3⟩ := MeetDefect_both p0 p1 s0 s1
  simp only [bs, h1, h2, toRayS_eq _ s0, eqRayS_eq _ _ s0, toRayS_eq _ s1, eqRayS_eq _ _ s1, dec_self, bne_self', imp_f, Bool.not_true, cF, cT, decide_true]
end Go.Proofs.Ytaagklbiebogfaa
