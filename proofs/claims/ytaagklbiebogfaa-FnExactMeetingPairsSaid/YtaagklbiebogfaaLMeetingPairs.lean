/-
  The statement 'Rows.FnExactMeetingPairsSaid': for every input the law 'FnExactMeetingPairs' returns true, and each argument reads as it read. Its last step is written by program (wip/gen/lawgen.py).
-/
import Derived.Test.YtaagklbiebogfaaLawY
import Derived.Test.YtaagklbiebogfaaEMeetingPairsW
import Derived.Test.YtaagklbiebogfaaTMeetingPairs
namespace Go.Proofs.Ytaagklbiebogfaa.fnExactMeetingPairs
open Go.ChangeShapes Go.WideShapes Go.ChangeAt Go.RowKit
set_option linter.unusedVariables false

set_option maxRecDepth 100000 in
theorem lifted (os : Os) (started : os.Started) (H : Type) (enc : TypeId × Value → H) :
    ReturnsInHanded {} Try.checked os 13 .any (Rows.fnExactMeetingPairsSpec.pre6 enc Try.prog Try.f13 Rows.fnExactMeetingPairsRow.domain false) (Rows.fnExactMeetingPairsSpec.post enc Try.prog Try.f13 false true false false) := by
  refine returnsInHanded_of_change (C := Try.checked) own_knob started (by kernel_rfl) Try.func13
    (ChangeSpec.witness6 (enc := enc) (C := Try.checked) false ⟨#[], #[.slice none 0 0, .slice none 0 0, .int .i64 0, .int .i64 0], []⟩ 8 (by kernel_rfl) (by kernel_rfl) (by kernel_rfl) (by kernel_rfl)) ?_
  intro W base args ds gs before hval0 hW hcnd _
  have hval : ∀ (j : Nat) t v, Try.f13.params[j]? = some t → args[j]? = some v → Value.okWide Try.prog W .any base t v := hval0
  have hW' := hW
  obtain ⟨p, q, hA0, hV, rfl, hfz, hnd⟩ := hW
  have hA : DataW.TrodAll enc Try.prog W 0 (fun _ => true) true Try.f13.params.toList args.toList ds p := hA0
  rw [Try.params13] at hA hval
  obtain ⟨rfl, rfl⟩ := trodVars_none hV
  simp only [List.append_nil] at hW'
  clear hA0 hval0
  obtain ⟨v0, vs0, d0, ds0, p0, q0, hargs, rfl, rfl, h0, r0⟩ := trodAll_cons hA
  obtain ⟨v1, vs1, d1, ds1, p1, q1, rfl, rfl, rfl, h1, r1⟩ := trodAll_cons r0
  obtain ⟨v2, vs2, d2, ds2, p2, q2, rfl, rfl, rfl, h2, r2⟩ := trodAll_cons r1
  obtain ⟨v3, vs3, d3, ds3, p3, q3, rfl, rfl, rfl, h3, r3⟩ := trodAll_cons r2
  obtain ⟨rfl, rfl, rfl⟩ := trodAll_nil r3
  obtain rfl : args = #[v0, v1, v2, v3] := by cases args; simp_all
  obtain ⟨a0, R0, w0⟩ := open_Y hu_48 ⟨by kernel_rfl, by kernel_rfl, by kernel_rfl⟩ (hval 0 48 v0 rfl rfl) h0
  obtain ⟨a1, R1, w1⟩ := open_Y hu_48 ⟨by kernel_rfl, by kernel_rfl, by kernel_rfl⟩ (hval 1 48 v1 rfl rfl) h1
  obtain ⟨a2, ev2, ed2, ep2, w2⟩ := open_int hu_int (hval 2 3 v2 rfl rfl) h2
  have w2 := i64_wf w2
  subst ev2
  obtain ⟨a3, ev3, ed3, ep3, w3⟩ := open_int hu_int (hval 3 3 v3 rfl rfl) h3
  have w3 := i64_wf w3
  subst ev3
  have ht := FnExactMeetingPairs_true a0 a1 a2 a3 w0 w1 w2 w3
  refine (laws_FnExactMeetingPairs_any v0 a0 v1 a1 a2 a3 W R0 R1 ht).mono fun e W' ⟨v, he, ev, hm⟩ => ?_
  subst he; subst ev
  have hb := hm.bel
  exact ⟨_, rfl, post_true hW' rfl (fun _ _ _ => trodAll_cons_mk (shut_bool hu_bool _) trodAll_mk0)
    (fun sp hs => (trodAll_cons_mk (stays (by kernel_rfl) (of_decide_eq_true (by kernel_rfl)) h0 hb (fun x hx => hs x (by simp [hx]))) (trodAll_cons_mk (stays (by kernel_rfl) (of_decide_eq_true (by kernel_rfl)) h1 hb (fun x hx => hs x (by simp [hx]))) (trodAll_cons_mk (stays (by kernel_rfl) (of_decide_eq_true (by kernel_rfl)) h2 hb (fun x hx => hs x (by simp [hx]))) (trodAll_cons_mk (stays (by kernel_rfl) (of_decide_eq_true (by kernel_rfl)) h3 hb (fun x hx => hs x (by simp [hx]))) trodAll_mk0)))))
    rfl hb (ok_one (by kernel_rfl) rfl (okWide_bool_mk hu_bool _))⟩

theorem proved : Rows.FnExactMeetingPairsSaid :=
  OpenClaim.holds_of_wide 13 Try.f13 rfl rfl rfl rfl rfl rfl rfl ⟨rfl, rfl, rfl, rfl, rfl⟩ rfl rfl rfl rfl rfl (by kernel_rfl) Try.func13 (by kernel_rfl)
    (of_decide_eq_true (by kernel_rfl)) (by unfold Func.isWrapper; first | (rw [if_pos (by decide +kernel)]; kernel_rfl) | (rw [if_neg (by decide +kernel)]; exact ⟨rfl, rfl⟩))
    (fun os started H enc _ => lifted os started H enc)
end Go.Proofs.Ytaagklbiebogfaa.fnExactMeetingPairs
