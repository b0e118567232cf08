/-
  The plain function that mirrors 'FnExactFirstRegular' answers true, whatever the input: what the program and the specification compute is the same. Written by program (wip/gen/lawgen.py) over the plain texts.
-/
import Derived.Test.YtaagklbiebogfaaEFirstRegularM
import Derived.Test.YtaagklbiebogfaaPCho
namespace Go.Proofs.Ytaagklbiebogfaa
set_option linter.unusedVariables false
set_option linter.unusedSimpArgs false

theorem FnExactFirstRegular_true (p0 : List (List Int)) (p1 : Int) (w0 : InM p0) (w1 : i64R p1) : laws_FnExactFirstRegular_m p0 p1 = some true := by
  unfold laws_FnExactFirstRegular_m
  rcases szIntSS_eq p0 1048576 (by decide) (by decide) w0.len (fun l hl => (w0.row l hl).len) with z0 | ⟨n0, na0, nb0, z0, s0⟩
  · rw [z0]; simp only [bs, neg1, cT]
  rw [z0]
  simp only [bs, nonneg na0, cF]
  obtain ⟨r, h1, h2, h3⟩ := FirstRegular_both p0 p1
  obtain ⟨k0, l0, e0, ka0, kb0⟩ := markIntSS_ok p0 1 s0 (by omega) (by omega)
  simp only [bs, h1, h2, toIntSS_eq _ s0, eqIntSS_eq _ _ s0, eqIntS_eq _ _ h3.1, eqIntS_eq _ _ h3.2, e0, nonneg (show 0 ≤ k0 by omega), markIntS_eq r.1 (1) h3.1 (by omega) (by have := h3.1; unfold Small at this; have := h3.2; unfold Small at this; omega), heldIntS_eq (1) r.1.length h3.1 (by omega) (by have := h3.1; unfold Small at this; have := h3.2; unfold Small at this; omega), nonneg (show 0 ≤ 1 + (r.1.length : Int) by omega), markIntS_eq r.2.1 (1 + (r.1.length : Int)) h3.2 (by omega) (by have := h3.1; unfold Small at this; have := h3.2; unfold Small at this; omega), heldIntS_eq (1 + (r.1.length : Int)) r.2.1.length h3.2 (by omega) (by have := h3.1; unfold Small at this; have := h3.2; unfold Small at this; omega), nonneg (show 0 ≤ 1 + (r.1.length : Int) + (r.2.1.length : Int) by omega), dec_self, bne_self', imp_f, Bool.not_true, cF, cT, decide_true]
end Go.Proofs.Ytaagklbiebogfaa
