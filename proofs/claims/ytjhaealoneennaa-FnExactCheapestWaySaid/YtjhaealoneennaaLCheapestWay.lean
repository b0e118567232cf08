/-
  The statement 'Rows.FnExactCheapestWaySaid': for every input the law 'FnExactCheapestWay' returns true, and each argument reads as it read. Its last step is written by program (wip/gen/lawgen.py).
-/
import Derived.Test.YtjhaealoneennaaLaw
import Derived.Test.YtjhaealoneennaaECheapestWayW
import Derived.Test.YtjhaealoneennaaTCheapestWay
namespace Go.Proofs.Ytjhaealoneennaa.fnExactCheapestWay
open Go.ChangeShapes Go.WideShapes Go.ChangeAt Go.RowKit
set_option linter.unusedVariables false

set_option maxRecDepth 100000 in
theorem lifted (os : Os) (started : os.Started) (H : Type) (enc : TypeId × Value → H) :
    ReturnsInHanded {} Try.checked os 4 .any (Rows.fnExactCheapestWaySpec.pre6 enc Try.prog Try.f4 Rows.fnExactCheapestWayRow.domain false) (Rows.fnExactCheapestWaySpec.post enc Try.prog Try.f4 false true false false) := by
  refine returnsInHanded_of_change (C := Try.checked) own_knob started (by kernel_rfl) Try.func4
    (ChangeSpec.witness6 (enc := enc) (C := Try.checked) false ⟨#[], #[.slice none 0 0, .int .i64 0, .int .i64 0], []⟩ 8 (by kernel_rfl) (by kernel_rfl) (by kernel_rfl) (by kernel_rfl)) ?_
  intro W base args ds gs before hval0 hW hcnd _
  have hval : ∀ (j : Nat) t v, Try.f4.params[j]? = some t → args[j]? = some v → Value.okWide Try.prog W .any base t v := hval0
  have hW' := hW
  obtain ⟨p, q, hA0, hV, rfl, hfz, hnd⟩ := hW
  have hA : DataW.TrodAll enc Try.prog W 0 (fun _ => true) true Try.f4.params.toList args.toList ds p := hA0
  rw [Try.params4] at hA hval
  obtain ⟨rfl, rfl⟩ := trodVars_none hV
  simp only [List.append_nil] at hW'
  clear hA0 hval0
  obtain ⟨v0, vs0, d0, ds0, p0, q0, hargs, rfl, rfl, h0, r0⟩ := trodAll_cons hA
  obtain ⟨v1, vs1, d1, ds1, p1, q1, rfl, rfl, rfl, h1, r1⟩ := trodAll_cons r0
  obtain ⟨v2, vs2, d2, ds2, p2, q2, rfl, rfl, rfl, h2, r2⟩ := trodAll_cons r1
  obtain ⟨rfl, rfl, rfl⟩ := trodAll_nil r2
  obtain rfl : args = #[v0, v1, v2] := by cases args; simp_all
  obtain ⟨a0, R0, w0⟩ := open_M hu_M hu_I hu_int (by kernel_rfl) (by kernel_rfl) (hval 0 22 v0 rfl rfl) h0
  obtain ⟨a1, ev1, ed1, ep1, w1⟩ := open_int hu_int (hval 1 3 v1 rfl rfl) h1
  have w1 := i64_wf w1
  subst ev1
  obtain ⟨a2, ev2, ed2, ep2, w2⟩ := open_int hu_int (hval 2 3 v2 rfl rfl) h2
  have w2 := i64_wf w2
  subst ev2
  have ht := FnExactCheapestWay_true a0 a1 a2 w0 w1 w2
  refine (laws_FnExactCheapestWay_any v0 a0 a1 a2 W R0 ht).mono fun e W' ⟨v, he, ev, hm⟩ => ?_
  subst he; subst ev
  have hb := hm.bel
  exact ⟨_, rfl, post_true hW' rfl (fun _ _ _ => trodAll_cons_mk (shut_bool hu_bool _) trodAll_mk0)
    (fun sp hs => (trodAll_cons_mk (stays (by kernel_rfl) (of_decide_eq_true (by kernel_rfl)) h0 hb (fun x hx => hs x (by simp [hx]))) (trodAll_cons_mk (stays (by kernel_rfl) (of_decide_eq_true (by kernel_rfl)) h1 hb (fun x hx => hs x (by simp [hx]))) (trodAll_cons_mk (stays (by kernel_rfl) (of_decide_eq_true (by kernel_rfl)) h2 hb (fun x hx => hs x (by simp [hx]))) trodAll_mk0))))
    rfl hb (ok_one (by kernel_rfl) rfl (okWide_bool_mk hu_bool _))⟩

theorem proved : Rows.FnExactCheapestWaySaid :=
  OpenClaim.holds_of_wide 4 Try.f4 rfl rfl rfl rfl rfl rfl rfl ⟨rfl, rfl, rfl, rfl, rfl⟩ rfl rfl rfl rfl rfl (by kernel_rfl) Try.func4 (by kernel_rfl)
    (of_decide_eq_true (by kernel_rfl)) (by unfold Func.isWrapper; first | (rw [if_pos (by decide +kernel)]; kernel_rfl) | (rw [if_neg (by decide +kernel)]; exact ⟨rfl, rfl⟩))
    (fun os started H enc _ => lifted os started H enc)
end Go.Proofs.Ytjhaealoneennaa.fnExactCheapestWay
