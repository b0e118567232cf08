/- Opening arguments that are slices of structs of three numbers, or slices of these. -/
import Derived.Test.YtaagklbiebogfaaLaw
import Derived.Test.YtaagklbiebogfaaPLry
import Derived.Deep.Slices
namespace Go.Proofs.Ytaagklbiebogfaa
open Go.ChangeShapes Go.WideShapes Go.ChangeAt Go.RowKit
set_option linter.unusedVariables false

structure St3 (P : Program) (e : TypeId) : Prop where
  he : P.underlying e = some (.struct (P.fieldsOf e))
  fl : (P.fieldsOf e).toList.map (fun f => (f.offset, P.cellsOf f.type, P.underlying f.type)) = [(0, 1, some (.int .i64)), (1, 1, some (.int .i64)), (2, 1, some (.int .i64))]
  ce : P.cellsOf e = 3
theorem flY_inv : ∀ {l : List Y3} {j : Nat} {u : Value}, (flY l)[j]? = some u → ∃ i x r, l[i]? = some x ∧ (cyY x)[r]? = some u ∧ j = i * 3 + r
  | y :: l, 0, u, h => ⟨0, y, 0, rfl, by simpa [flY, cyY] using h, by omega⟩
  | y :: l, 1, u, h => ⟨0, y, 1, rfl, by simpa [flY, cyY] using h, by omega⟩
  | y :: l, 2, u, h => ⟨0, y, 2, rfl, by simpa [flY, cyY] using h, by omega⟩
  | y :: l, j + 3, u, h => by
    obtain ⟨i, x, r, h1, h2, h3⟩ := flY_inv (l := l) (j := j) (u := u) (by simpa [flY] using h)
    exact ⟨i + 1, x, r, by simpa using h1, h2, by omega⟩
section
variable {H : Type} {enc : TypeId × Value → H} {W : World} {P : Program}
theorem cells_Y {e : TypeId} (h3 : St3 P e) {base n : Nat} {sp : Nat → Bool} {held : Bool} {cs : List Value} {x : DataW H × List MemPlace} (hl : cs.length = 3) (h : DataW.trod enc P W base sp held n e cs = some x) : ∃ y : Y3, cs = cyY y := by
  obtain ⟨xs, k, hk, hxy, _, hxl, hf⟩ := DataW.trod_struct h3.he h
  have fl := h3.fl
  cases hq : (P.fieldsOf e).toList with
  | nil => rw [hq] at fl; cases fl
  | cons f0 r0 =>
    cases r0 with
    | nil => rw [hq] at fl; simp at fl
    | cons f1 r1 =>
      cases r1 with
      | nil => rw [hq] at fl; simp at fl
      | cons f2 r2 =>
        cases r2 with
        | cons f3 r3 => rw [hq] at fl; simp at fl
        | nil =>
          rw [hq] at fl
          simp only [List.map_cons, List.map_nil, List.cons.injEq, Prod.mk.injEq, and_true] at fl
          obtain ⟨⟨a1, a2, a3⟩, ⟨b1, b2, b3⟩, c1, c2, c3⟩ := fl
          have hsz : (P.fieldsOf e).size = 3 := by rw [← Array.length_toList, hq]; rfl
          rw [hsz] at hxl
          have e0 : (P.fieldsOf e)[0]? = some f0 := by rw [← Array.getElem?_toList, hq]; rfl
          have e1 : (P.fieldsOf e)[1]? = some f1 := by rw [← Array.getElem?_toList, hq]; rfl
          have e2 : (P.fieldsOf e)[2]? = some f2 := by rw [← Array.getElem?_toList, hq]; rfl
          match xs, hxl, cs, hl with
          | [y0, y1, y2], _, [v0, v1, v2], _ =>
            have g0 := hf 0 f0 e0
            have g1 := hf 1 f1 e1
            have g2 := hf 2 f2 e2
            rw [a1, a2] at g0
            rw [b1, b2] at g1
            rw [c1, c2] at g2
            simp at g0 g1 g2
            obtain ⟨n0, k0, _⟩ := DataW.trod_int a3 g0
            obtain ⟨n1, k1, _⟩ := DataW.trod_int b3 g1
            obtain ⟨n2, k2, _⟩ := DataW.trod_int c3 g2
            simp only [List.cons.injEq, and_true] at k0 k1 k2
            exact ⟨(n0, n1, n2), by rw [k0, k1, k2]; rfl⟩
theorem spot_none {w : World} {a : Addr} {v : Value} (h : w.cell? a = some v) : a = ⟨a.block, a.off, none⟩ := by
  unfold World.cell? at h
  split at h
  · split at h
    · cases h
    · rename_i hs
      cases a with
      | mk b o s =>
        cases s with
        | none => rfl
        | some _ => simp at hs
  · cases h
theorem open_Y0 {t e : TypeId} (hu : P.underlying t = some (.slice e)) (h3 : St3 P e) {fuel : Nat} {v : Value} {x : DataW H × List MemPlace} (h : DataW.trod enc P W 0 (fun _ => true) true fuel t [v] = some x) : ∃ l, RdY W v l ∧ InY l := by
  rcases Go.Deep.open_slice hu h with ⟨hcs, _⟩ | ⟨a, len, cap, m, n, D, Pl, hcs, hb, hl, hm, hmm, _, hx⟩
  · simp only [List.cons.injEq, and_true] at hcs
    subst hcs
    exact ⟨[], RdY.nil_ _, by simp [InY]⟩
  · simp only [List.cons.injEq, and_true] at hcs
    subst hcs
    simp only [if_true] at hmm
    subst hmm
    have each : ∀ i, i < m → ∃ y : Y3, ∀ j u, (cyY y)[j]? = some u → W.cell? (a.add (i * 3 + j)) = some u := fun i hi => by
      obtain ⟨cs', h1, h2⟩ := hx i hi
      rw [h3.ce] at h1
      obtain ⟨_, hlen, hcell⟩ := World.cells?_some h1
      obtain ⟨y, rfl⟩ := cells_Y h3 hlen h2
      refine ⟨y, fun j u hu => ?_⟩
      have hj := (List.getElem?_eq_some_iff.1 hu).1
      have := hcell j (by simpa [cyY] using hj)
      rw [Go.Deep.add_add] at this
      rw [this, hu]
    obtain ⟨q, hq⟩ := Go.Deep.choose_lt (α := Y3) each
    refine ⟨(List.range len).map q, ⟨some a, m, by simp, by simp; omega, fun h0 => ?_⟩, by simp only [InY, List.length_map, List.length_range, maxLen_eq] at *; omega⟩
    simp only [List.length_map, List.length_range] at h0
    have h00 := hq 0 (by omega) 0 (.int .i64 (q 0).1) rfl
    have ha0 : a.add (0 * 3 + 0) = a := by simp [Addr.add]
    rw [ha0] at h00
    have ea := spot_none h00
    refine ⟨a.block, a.off, by rw [← ea], lt_of_cell h00, fun j u hu => ?_⟩
    obtain ⟨i, y, r, k1, k2, k3⟩ := flY_inv hu
    obtain ⟨hi, hy⟩ := List.getElem?_eq_some_iff.1 k1
    simp only [List.length_map, List.length_range] at hi
    simp only [List.getElem_map, List.getElem_range] at hy
    subst hy
    have := hq i (by omega) r u k2
    rw [ea, Addr.add_mid, ← k3] at this
    exact this
theorem open_Y {t e : TypeId} (hu : P.underlying t = some (.slice e)) (h3 : St3 P e) {v : Value} {d : DataW H} {ps : List MemPlace} (hv : Value.okWide P W .any 0 t v) (h : DataW.Trod enc P W 0 (fun _ => true) true t v d ps) : ∃ l, RdY W v l ∧ InY l := by
  obtain ⟨a0, len, cap, rfl⟩ := okWide_slice hu hv
  obtain ⟨fuel, hf⟩ := h
  exact open_Y0 hu h3 hf
theorem open_YY {t s e : TypeId} (hu : P.underlying t = some (.slice s)) (hs : P.underlying s = some (.slice e)) (cs1 : P.cellsOf s = 1) (h3 : St3 P e) {v : Value} {d : DataW H} {ps : List MemPlace} (hv : Value.okWide P W .any 0 t v) (h : DataW.Trod enc P W 0 (fun _ => true) true t v d ps) : ∃ m, RdYY W v m ∧ InYY m := by
  obtain ⟨a0, len, cap, rfl⟩ := okWide_slice hu hv
  obtain ⟨fuel, hf⟩ := h
  rcases Go.Deep.open_slice1 hu cs1 hf with ⟨hcs, _⟩ | ⟨a, len', cap', m, n, V, D, Pl, hcs, hb, hl, hm, hmm, _, hx⟩
  · simp [Value.cells] at hcs
    obtain ⟨rfl, rfl, rfl⟩ := hcs
    exact ⟨[], RdS.nil_ _ _, (fun n hn => by cases hn), by simp⟩
  · simp [Value.cells] at hcs
    obtain ⟨rfl, rfl, rfl⟩ := hcs
    simp only [if_true] at hmm
    subst hmm
    have each : ∀ i, i < m → ∃ l : List Y3, RdY W (V i) l ∧ InY l := fun i hi => open_Y0 hs h3 (hx i hi).2
    obtain ⟨q, hq⟩ := Go.Deep.choose_lt (α := List Y3) each
    refine ⟨(List.range len).map q, ⟨some a, m, by simp, by simp; omega, fun h0 => ?_⟩, fun l hl' => ?_, by simp only [List.length_map, List.length_range, maxLen_eq] at *; omega⟩
    · simp only [List.length_map, List.length_range] at h0
      have h00 := (hx 0 (by omega)).1
      have := lt_of_cell h00
      rw [add_block] at this
      refine ⟨a, rfl, this, fun i y hy => ?_⟩
      obtain ⟨hi, hy⟩ := List.getElem?_eq_some_iff.1 hy
      simp only [List.length_map, List.length_range] at hi
      simp only [List.getElem_map, List.getElem_range] at hy
      subst hy
      exact ⟨V i, (hx i (by omega)).1, (hq i (by omega)).1⟩
    · obtain ⟨r, hr', rfl⟩ := List.mem_map.1 hl'
      exact (hq r (by have := List.mem_range.1 hr'; omega)).2
end
end Go.Proofs.Ytaagklbiebogfaa
