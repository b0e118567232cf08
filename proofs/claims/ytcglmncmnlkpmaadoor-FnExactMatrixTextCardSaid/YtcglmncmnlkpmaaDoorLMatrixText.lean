/-
  The tied card 'Rows.FnExactMatrixTextCardSaid': for every input the law 'FnExactMatrixText' returns true, and each argument reads as it read. Condition: the three listed tables of Go's library lie as the program's own text lays them, which the card's tie (given) ties to that text.
-/
import Derived.Test.YtcglmncmnlkpmaaDoorLaw
import Derived.Test.YtcglmncmnlkpmaaDoorEMatrixTextW
import Derived.Test.YtcglmncmnlkpmaaDoorTMatrixText
import Derived.Test.YtcglmncmnlkpmaaDoorTie
import Derived.Test.YtcglmncmnlkpmaaDoorCards
import Derived.ProofKit
import Derived.OpenShut
import Derived.LaidMore
import Derived.Lay
import Derived.SevenTiedAt
import Derived.Stop.Joined
import Derived.Stop.LaidErr
namespace Go.Proofs.YtcglmncmnlkpmaaDoor.fnExactMatrixText
open Go.ChangeShapes Go.WideShapes Go.ChangeAt Go.RowKit
set_option linter.unusedVariables false

theorem tab_ok {W : World} (h : laidMetH Tryd.prog Rows.fnExactMatrixTextRow.laid W) : TabOk W := by
  rw [MakeChecks.laidMetH_plain _ _ _ (by kernel_rfl)] at h
  have h2 : laidMet Tryd.prog [("internal/strconv.uint64pow10", Lib.tabData .u64 Lib.pow10Tab)] W := h.tail.tail
  exact Lib.tabIs_of_head pow_named (show (Tryd.prog.globals[5]?).map (·.type) = some 115 by kernel_rfl) (show Tryd.prog.underlying 115 = some (.array 20 95) by kernel_rfl) (show Tryd.prog.underlying 95 = some (.int .u64) by kernel_rfl) (by kernel_rfl) (by kernel_rfl) h2

set_option maxRecDepth 100000 in
theorem lifted (os : Os) (started : os.Started) (H : Type) (enc : TypeId × Value → H) :
    ReturnsInHanded {} Tryd.checked os 3 .any (fun w args => (Rows.fnExactMatrixTextSpec.pre enc Tryd.prog Tryd.f3 Rows.fnExactMatrixTextRow.domain false w args ∧ laidMetH Tryd.prog Rows.fnExactMatrixTextRow.laid w) ∧ sizedMet enc Tryd.prog Tryd.f3 (OpenSpec.ofChange Rows.fnExactMatrixTextSpec) false w args)
      (Rows.fnExactMatrixTextSpec.post enc Tryd.prog Tryd.f3 false true false false) := by
  refine returnsInHanded_of_change_and (C := Tryd.checked) (X := fun w _ => laidMetH Tryd.prog Rows.fnExactMatrixTextRow.laid w) (fun _ _ _ hh h => h.of_heap hh) own_knob started (by kernel_rfl) Tryd.func3
    (ChangeSpec.witness_shaped (enc := enc) (C := Tryd.checked) (os := os) (X := fun w _ => laidMetH Tryd.prog Rows.fnExactMatrixTextRow.laid w) false (World.laidAll Tryd.prog os Rows.fnExactMatrixTextRow.laid) #[.slice none 0 0] 8 (World.laidAll_os _ _ _)
      (World.shaped_of_ZipB (by kernel_rfl) (by kernel_rfl)) (by kernel_rfl) (by kernel_rfl) (by kernel_rfl)
      (by rw [MakeChecks.laidMetH_plain _ _ _ (by kernel_rfl)]; exact laidMet_laidAll _ (by kernel_rfl) (by kernel_rfl))) ?_
  intro W base args ds gs before hval0 hW hcnd _ hL _
  have hval : ∀ (j : Nat) t v, Tryd.f3.params[j]? = some t → args[j]? = some v → Value.okWide Tryd.prog W .any base t v := hval0
  have hW' := hW
  obtain ⟨p, q, hA0, hV, rfl, hfz, hnd⟩ := hW
  have hA : DataW.TrodAll enc Tryd.prog W 0 (fun _ => true) true Tryd.f3.params.toList args.toList ds p := hA0
  rw [Tryd.params3] at hA hval
  obtain ⟨rfl, rfl⟩ := trodVars_none hV
  simp only [List.append_nil] at hW'
  clear hA0 hval0
  obtain ⟨v0, vs0, d0, ds0, p0, q0, hargs, rfl, rfl, h0, r0⟩ := trodAll_cons hA
  obtain ⟨rfl, rfl, rfl⟩ := trodAll_nil r0
  obtain rfl : args = #[v0] := by cases args; simp_all
  obtain ⟨a0, R0, w0⟩ := open_M hu_M hu_I hu_int (by kernel_rfl) (by kernel_rfl) (hval 0 22 v0 rfl rfl) h0
  have ht := FnExactMatrixText_true a0 w0
  refine (laws_FnExactMatrixText_any v0 a0 W (tab_ok hL) R0 ht).mono fun e W' ⟨v, he, ev, hm⟩ => ?_
  subst he; subst ev
  have hb := hm.bel
  exact ⟨_, rfl, post_true hW' rfl (fun _ _ _ => trodAll_cons_mk (shut_bool hu_bool _) trodAll_mk0)
    (fun sp hs => (trodAll_cons_mk (stays (by kernel_rfl) (of_decide_eq_true (by kernel_rfl)) h0 hb (fun x hx => hs x (by simp [hx]))) trodAll_mk0))
    rfl hb (ok_one (by kernel_rfl) rfl (okWide_bool_mk hu_bool _))⟩

theorem row_holds : Rows.FnExactMatrixTextSaid :=
  OpenClaim.holds_of_wide 3 Tryd.f3 rfl rfl rfl rfl rfl rfl rfl ⟨rfl, rfl, rfl, rfl, rfl⟩ rfl rfl rfl rfl rfl (by kernel_rfl) Tryd.func3 (by kernel_rfl)
    (of_decide_eq_true (by kernel_rfl)) (by unfold Func.isWrapper; first | (rw [if_pos (by decide +kernel)]; kernel_rfl) | (rw [if_neg (by decide +kernel)]; exact ⟨rfl, rfl⟩))
    (fun os started H enc _ => lifted os started H enc)

theorem proved : Rows.FnExactMatrixTextCardSaid :=
  Claim7.holds_tied_plain_at .later [] [.data, .data, .data] true (true, "659fcaf6daec1d94d87c10a58ddd14ded93dd6d58006f2a1d626a6214f806c5e") true
    row_holds (fun _ h => by cases h) (by kernel_rfl) (fun _ h => by cases h) fnExactMatrixText_row_tie rfl ⟨rfl, rfl⟩ (by kernel_rfl) rfl
    (fun f fn hf hfn => by
      obtain rfl : f = 3 := Option.some.inj ((show Tryd.prog.funcNamed "loop.example/g01056/laws.FnExactMatrixText" = some 3 by kernel_rfl).symm.trans hf) |>.symm
      obtain rfl : fn = Tryd.f3 := (Option.some.inj (Tryd.func3.symm.trans hfn)).symm
      exact ⟨by kernel_rfl, fun j t ht => by
        rw [Tryd.params3] at ht
        have hm : t ∈ [22] := by simpa using Array.mem_of_getElem? ht
        have hall : ([22].all fun u => !Tryd.prog.wantsStandIn u) = true := by kernel_rfl
        exact (show Tryd.prog.wantsStandIn t = false by simpa using List.all_eq_true.1 hall t hm)⟩)
    (by kernel_rfl)
end Go.Proofs.YtcglmncmnlkpmaaDoor.fnExactMatrixText
