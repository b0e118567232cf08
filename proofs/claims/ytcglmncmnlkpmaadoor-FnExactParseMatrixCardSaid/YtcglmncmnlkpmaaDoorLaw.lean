/- What every law's last step needs: the arguments read as lists, they stay, and the row's post where the world has at most new blocks. -/
import Derived.Test.YtcglmncmnlkpmaaDoorFacts
import Derived.Test.YtcglmncmnlkpmaaDoorPNum
import Derived.WalkKit
import Derived.ProofKit
import Derived.OpenShut
import Derived.ShutString
import Derived.Deep.Matrix
import Derived.Below
import Derived.ChangeSame
namespace Go.Proofs.YtcglmncmnlkpmaaDoor
open Go.ChangeShapes Go.WideShapes Go.ChangeAt Go.RowKit
set_option linter.unusedVariables false

theorem own_knob : ownKnob Tryd.prog.godebug = none := by kernel_rfl
theorem laid_out : laidOutB Tryd.prog = true := by kernel_rfl
theorem i64_wf {n : Int} (h : (Lit.int .i64 n).wf = true) : i64R n := by
  simp only [Lit.wf, decide_eq_true_eq, Bool.and_eq_true] at h
  unfold i64R
  have e : (2 : Int) ^ (IntKind.i64.bits - 1) = 9223372036854775808 := by decide +kernel
  have e2 : IntKind.i64.min = -9223372036854775808 := by decide +kernel
  have e3 : IntKind.i64.max = 9223372036854775807 := by decide +kernel
  rw [e2, e3] at h
  exact h
theorem maxLen_eq : maxLen = 9223372036854775807 := by decide +kernel
section
variable {H : Type} {enc : TypeId × Value → H} {W : World} {P : Program}

theorem lt_of_cell {w : World} {ad : Addr} {v : Value} (h : w.cell? ad = some v) : ad.block < w.heap.size := World.block_lt_of_cell? _ _ h

theorem open_I {t e : TypeId} (hu_I : P.underlying t = some (.slice e)) (hu_int : P.underlying e = some (.int .i64)) (ce : P.cellsOf e = 1) {v : Value} {d : DataW H} {ps : List MemPlace} (hv : Value.okWide P W .any 0 t v) (h : DataW.Trod enc P W 0 (fun _ => true) true t v d ps) : ∃ l, RdI W v l ∧ InI l := by
  obtain ⟨a0, len, cap, rfl⟩ := okWide_slice hu_I hv
  obtain ⟨fuel, hf⟩ := h
  rcases open_ints hu_I hu_int ce hf with ⟨hcs, _⟩ | ⟨x, l, c, zs, hcs, _, hl, hm, hz, _, hcell, hwz⟩
  · simp [Value.cells] at hcs
    obtain ⟨rfl, rfl, rfl⟩ := hcs
    exact ⟨[], RdI.nil_ _, (fun n hn => by cases hn), by simp⟩
  · simp [Value.cells] at hcs
    obtain ⟨rfl, rfl, rfl⟩ := hcs
    simp only [if_true] at hz
    refine ⟨zs.take len, ⟨some x, cap, by simp; omega, by simp; omega, fun h0 => ⟨x, rfl, ?_, fun i y hy => ?_⟩⟩, ⟨fun n hn => i64_wf (hwz n (List.mem_of_mem_take hn)), by simp only [maxLen_eq, List.length_take] at *; omega⟩⟩
    · simp only [List.length_take] at h0
      have := lt_of_cell (hcell 0 (by omega))
      rwa [add_block] at this
    · have hi := (List.getElem?_eq_some_iff.1 hy).1
      simp only [List.length_take] at hi
      refine ⟨_, hcell i (by omega), ?_⟩
      rw [List.getElem?_take_of_lt (by omega)] at hy
      rw [List.getD_eq_getElem?_getD, hy]
      rfl

theorem open_M {t e q : TypeId} (hu_M : P.underlying t = some (.slice e)) (hu_I : P.underlying e = some (.slice q)) (hu_int : P.underlying q = some (.int .i64)) (ce : P.cellsOf e = 1) (cq : P.cellsOf q = 1) {v : Value} {d : DataW H} {ps : List MemPlace} (hv : Value.okWide P W .any 0 t v) (h : DataW.Trod enc P W 0 (fun _ => true) true t v d ps) : ∃ m, RdM W v m ∧ InM m := by
  obtain ⟨a0, len, cap, rfl⟩ := okWide_slice hu_M hv
  obtain ⟨fuel, hf⟩ := h
  rcases Go.Deep.open_int_rows hu_M hu_I hu_int ce cq hf with ⟨hcs, _⟩ | ⟨x, l, c, A, L, C, Z, hcs, _, hl, hm, _, hr⟩
  · simp [Value.cells] at hcs
    obtain ⟨rfl, rfl, rfl⟩ := hcs
    exact ⟨[], RdM.nil_ _, (fun n hn => by cases hn), by simp⟩
  · simp [Value.cells] at hcs
    obtain ⟨rfl, rfl, rfl⟩ := hcs
    refine ⟨(List.range len).map fun r => (Z r).take (L r), ⟨some x, cap, by simp, by simp; omega, fun h0 => ⟨x, rfl, ?_, fun i y hy => ?_⟩⟩, ⟨fun l hl' => ⟨?_, ?_⟩, by simp only [maxLen_eq, List.length_map, List.length_range] at *; omega⟩⟩
    · simp only [List.length_map, List.length_range] at h0
      have := lt_of_cell (hr 0 (by omega)).1
      rwa [add_block] at this
    · obtain ⟨hi, hy⟩ := List.getElem?_eq_some_iff.1 hy
      simp only [List.length_map, List.length_range] at hi
      simp only [List.getElem_map, List.getElem_range] at hy
      obtain ⟨h1, h2, h3, h4, h5, h6, h7⟩ := hr i (by omega)
      refine ⟨_, h1, ?_⟩
      subst hy
      refine ⟨A i, C i, by simp; omega, by simp; omega, fun h0 => ?_⟩
      simp only [List.length_take] at h0
      cases ha : A i with
      | none => have := h6 ha; omega
      | some a' =>
        have hc := (h7 a' ha).2
        refine ⟨a', rfl, ?_, fun j z hz => ?_⟩
        · have := lt_of_cell (hc 0 (by omega))
          rwa [add_block] at this
        · have hj := (List.getElem?_eq_some_iff.1 hz).1
          simp only [List.length_take] at hj
          refine ⟨_, hc j (by omega), ?_⟩
          rw [List.getElem?_take_of_lt (by omega)] at hz
          rw [List.getD_eq_getElem?_getD, hz]
          rfl
    · obtain ⟨r, hr', rfl⟩ := List.mem_map.1 hl'
      have := List.mem_range.1 hr'
      exact fun n hn => i64_wf ((hr r (by omega)).2.2.2.2.1 n (List.mem_of_mem_take hn))
    · obtain ⟨r, hr', rfl⟩ := List.mem_map.1 hl'
      have := List.mem_range.1 hr'
      have := hr r (by omega)
      simp only [maxLen_eq, List.length_take] at *
      omega

theorem stays {t : TypeId} (hr : Tryd.prog.readableRec t = true) (hrow : t < Tryd.prog.types.size) {W' : World} {v : Value} {d : DataW H} {ps : List MemPlace}
    (h : DataW.Trod enc Tryd.prog W 0 (fun _ => true) true t v d ps) (hb : Below W.heap.size W W') {sp : Nat → Bool} (hs : ∀ p ∈ ps, sp p.block = true) : DataW.Trod enc Tryd.prog W' 0 sp true t v d ps := by
  have hlt : ∀ x ∈ ps, x.block < W.heap.size := by obtain ⟨m, hm⟩ := h; exact DataW.trod_lt m _ _ _ hm
  exact WideElems.Trod_stays laid_out hr hrow h (fun p hp => hb.same (hlt p hp)) hs

/-- The row's post: the world has at most new blocks, each argument reads as it read, true comes out. -/
theorem post_true {f : Func} {s : ChangeSpec} {apart fresh : Bool} {W W' : World} {args : Array Value} {ds : List (DataW H)} {before : List MemPlace}
    (hW : DataW.Whole enc P f.params.toList s.vars apart W args.toList ds [] before)
    (hvs : s.vars = [])
    (hres : ∀ (b : Nat) (sp : Nat → Bool) (hd : Bool), DataW.TrodAll enc P W' b sp hd f.resultTypes.toList ((Value.bool true).resultList f.resultTypes.size) (s.fn H (ds ++ [])).results [])
    (hargs : ∀ sp : Nat → Bool, (∀ p ∈ before, sp p.block = true) → DataW.TrodAll enc P W' 0 sp true f.params.toList args.toList (s.fn H (ds ++ [])).args before)
    (hv : (s.fn H (ds ++ [])).vars = [])
    (hb : Below W.heap.size W W')
    (hok : ∀ (j : Nat) (t : TypeId) (r : Value), f.resultTypes[j]? = some t → ((Value.bool true).resultList f.resultTypes.size)[j]? = some r → Value.okWide P W' .any 0 t r) :
    s.post enc P f apart fresh false false W args (.bool true) W' := by
  have hlt : ∀ p ∈ before, p.block < W.heap.size := fun p hp => hW.lt p hp
  have hold : ∀ p ∈ before, (fun b => decide (b < W.heap.size)) p.block = true := fun p hp => by simpa using hlt p hp
  have hvars : ∀ sp, DataW.TrodVars enc P W' sp s.vars (s.fn H (ds ++ [])).vars [] := fun sp => by rw [hvs, hv]; rfl
  refine ⟨ds, [], before, [], before, [], hW, hres _ _ _, hargs _ hold, hvars _, World.keptBut_mono (fun p hp => ⟨hp, ?_⟩) (hb.frame (· ∈ before)), fun h => ?_⟩
  · exact Or.inr (by simpa using hp)
  · cases h
end
end Go.Proofs.YtcglmncmnlkpmaaDoor
