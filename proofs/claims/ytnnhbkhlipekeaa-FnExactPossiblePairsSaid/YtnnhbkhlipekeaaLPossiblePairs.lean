/-
  The statement 'Rows.FnExactPossiblePairsSaid': for every input the law 'FnExactPossiblePairs' returns true, and each argument reads as it read. Its last step is written by program (wip/gen/lawgen.py).
-/
import Derived.Test.YtnnhbkhlipekeaaLaw
import Derived.Test.YtnnhbkhlipekeaaEPossiblePairsW
import Derived.Test.YtnnhbkhlipekeaaTPossiblePairs
namespace Go.Proofs.Ytnnhbkhlipekeaa.fnExactPossiblePairs
open Go.ChangeShapes Go.WideShapes Go.ChangeAt Go.RowKit
set_option linter.unusedVariables false

set_option maxRecDepth 100000 in
theorem lifted (os : Os) (started : os.Started) (H : Type) (enc : TypeId × Value → H) :
    ReturnsInHanded {} Try.checked os 10 .any (Rows.fnExactPossiblePairsSpec.pre6 enc Try.prog Try.f10 Rows.fnExactPossiblePairsRow.domain false) (Rows.fnExactPossiblePairsSpec.post enc Try.prog Try.f10 false true false false) := by
  refine returnsInHanded_of_change (C := Try.checked) own_knob started (by kernel_rfl) Try.func10
    (ChangeSpec.witness6 (enc := enc) (C := Try.checked) false ⟨#[], #[.slice none 0 0], []⟩ 8 (by kernel_rfl) (by kernel_rfl) (by kernel_rfl) (by kernel_rfl)) ?_
  intro W base args ds gs before hval0 hW hcnd _
  have hval : ∀ (j : Nat) t v, Try.f10.params[j]? = some t → args[j]? = some v → Value.okWide Try.prog W .any base t v := hval0
  have hW' := hW
  obtain ⟨p, q, hA0, hV, rfl, hfz, hnd⟩ := hW
  have hA : DataW.TrodAll enc Try.prog W 0 (fun _ => true) true Try.f10.params.toList args.toList ds p := hA0
  rw [Try.params10] at hA hval
  obtain ⟨rfl, rfl⟩ := trodVars_none hV
  simp only [List.append_nil] at hW'
  clear hA0 hval0
  obtain ⟨v0, vs0, d0, ds0, p0, q0, hargs, rfl, rfl, h0, r0⟩ := trodAll_cons hA
  obtain ⟨rfl, rfl, rfl⟩ := trodAll_nil r0
  obtain rfl : args = #[v0] := by cases args; simp_all
  obtain ⟨a0, R0, w0⟩ := open_M hu_M hu_I hu_int (by kernel_rfl) (by kernel_rfl) (hval 0 22 v0 rfl rfl) h0
  have ht := FnExactPossiblePairs_true a0 w0
  refine (laws_FnExactPossiblePairs_any v0 a0 W R0 ht).mono fun e W' ⟨v, he, ev, hm⟩ => ?_
  subst he; subst ev
  have hb := hm.bel
  exact ⟨_, rfl, post_true hW' rfl (fun _ _ _ => trodAll_cons_mk (shut_bool hu_bool _) trodAll_mk0)
    (fun sp hs => (trodAll_cons_mk (stays (by kernel_rfl) (of_decide_eq_true (by kernel_rfl)) h0 hb (fun x hx => hs x (by simp [hx]))) trodAll_mk0))
    rfl hb (ok_one (by kernel_rfl) rfl (okWide_bool_mk hu_bool _))⟩

theorem proved : Rows.FnExactPossiblePairsSaid :=
  OpenClaim.holds_of_wide 10 Try.f10 rfl rfl rfl rfl rfl rfl rfl ⟨rfl, rfl, rfl, rfl, rfl⟩ rfl rfl rfl rfl rfl (by kernel_rfl) Try.func10 (by kernel_rfl)
    (of_decide_eq_true (by kernel_rfl)) (by unfold Func.isWrapper; first | (rw [if_pos (by decide +kernel)]; kernel_rfl) | (rw [if_neg (by decide +kernel)]; exact ⟨rfl, rfl⟩))
    (fun os started H enc _ => lifted os started H enc)
end Go.Proofs.Ytnnhbkhlipekeaa.fnExactPossiblePairs
