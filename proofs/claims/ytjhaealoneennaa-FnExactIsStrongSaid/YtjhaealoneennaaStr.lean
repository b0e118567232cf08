/- Structs of fields that take one cell each: values, variables, results. Nothing of a program is named here. -/
import Derived.Test.YtjhaealoneennaaPart
import Derived.Laws.StructEq
import Derived.Laws.Tables
import Derived.Deep.WholeRow
namespace Go.Proofs.Ytjhaealoneennaa
open Go.RowKit
set_option linter.unusedVariables false
set_option linter.unusedSimpArgs false

/-- t is a struct type whose fields take one cell each; zs: its zero value. -/
structure StT (P : Program) (t : TypeId) (zs : List Value) : Prop where
  ut : P.underlying t = some (.struct (P.fieldsOf t))
  inf : (P.info? t).map (fun i => (i.zero, i.size)) = some (some (.agg zs.toArray), zs.length)
  pl : (P.fieldsOf t).toList.mapM (fun f => (P.info? f.type).map fun i => (f.offset, i.size)) = some ((List.range zs.length).map fun k => (k, 1))
theorem StT.info {P : Program} {t : TypeId} {zs : List Value} (h : StT P t zs) : ∃ i, P.info? t = some i ∧ i.zero = some (.agg zs.toArray) ∧ i.size = zs.length := by
  have := h.inf
  cases hi : P.info? t with
  | none => rw [hi] at this; cases this
  | some i =>
    rw [hi] at this
    simp only [Option.map_some, Option.some.injEq, Prod.mk.injEq] at this
    exact ⟨i, rfl, this.1, this.2⟩
theorem mapM_get {α β : Type} {f : α → Option β} : ∀ {l : List α} {r : List β}, l.mapM f = some r → ∀ (i : Nat) y, r[i]? = some y → ∃ x, l[i]? = some x ∧ f x = some y
  | [], r, h, i, y, hy => by
    simp only [List.mapM_nil, Option.pure_def, Option.some.injEq] at h
    subst h; simp at hy
  | x :: l, r, h, i, y, hy => by
    simp only [List.mapM_cons, Option.bind_eq_bind, Option.pure_def] at h
    cases hx : f x with
    | none => simp [hx] at h
    | some b =>
      cases hl : l.mapM f with
      | none => simp [hx, hl] at h
      | some bs =>
        simp [hx, hl] at h
        subst h
        cases i with
        | zero => simp at hy; subst hy; exact ⟨x, rfl, hx⟩
        | succ i => simp at hy; obtain ⟨z, h1, h2⟩ := mapM_get hl i y hy; exact ⟨z, by simpa using h1, h2⟩
theorem StT.field {P : Program} {t : TypeId} {zs : List Value} (h : StT P t zs) {i : Nat} (hi : i < zs.length) : ∃ f inf, (P.fieldsOf t)[i]? = some f ∧ f.offset = i ∧ P.info? f.type = some inf ∧ inf.size = 1 := by
  obtain ⟨f, h1, h2⟩ := mapM_get h.pl i (i, 1) (by simp [hi])
  cases hq : P.info? f.type with
  | none => rw [hq] at h2; cases h2
  | some inf =>
    rw [hq] at h2
    simp only [Option.map_some, Option.some.injEq, Prod.mk.injEq] at h2
    exact ⟨f, inf, by simpa using h1, h2.1, hq, h2.2⟩
def allOne : List Value → Prop
  | [] => True
  | u :: r => u.oneCell' = true ∧ allOne r
theorem allOne_mem : ∀ {l : List Value}, allOne l → ∀ u ∈ l, u.oneCell' = true
  | x :: l, h, u, hu => by
    rcases List.mem_cons.1 hu with e | e
    · rw [e]; exact h.1
    · exact allOne_mem h.2 u e
theorem allOne_all {l : List Value} (h : allOne l) : (l.toArray.all (·.oneCell')) = true := by
  rw [Array.all_eq_true_iff_forall_mem]
  intro u hu
  exact allOne_mem h u (by simpa using hu)

section
variable {P : Program} {ops : Array Oper} {Q : Exit → Act → World → Prop} {a : Act} {w W : World} {rest : List Oper} {N : Nat} {L : List (Nat × Value)} {As : List Atom}
variable {d : Option Nat} {ty : TypeId} {pos : String} {af : Array Edge} {gd : Option (Nat × Bool)} {t e : TypeId} {zs : List Value} {x y : Operand}
theorem x_allocS (hT : StT P e zs) (hM : Mem W w As) :
    ∃ p w', (execOp a.eval ⟨d, .alloc e, ty, pos, af, gd⟩).run P w = .ok (.value p) w' ∧ ∃ g, p = .pointer (some ⟨g, 0, none⟩) ∧ Mem W w' (aBlk g e zs :: As) := by
  obtain ⟨i, hi, hz, hs⟩ := hT.info
  refine ⟨.pointer (some ⟨w.heap.size, 0, none⟩), w.alloc (.cells zs.toArray e), by simp [execOp, Instr.alloc, zeroValue, typeInfo, hi, hz, newVar, newRow, Value.cells], w.heap.size, rfl, ?_⟩
  exact hM.new_ ((Below.refl _ _).alloc (Nat.le_refl _) _) (f := [w.heap.size]) ⟨rfl, by exact heap_alloc_new w _⟩ (by simp) (by simp)
theorem x_boxS {cs : List Value} (hs : Fr a N L) (hx : evL L x = some (.agg cs.toArray)) (hM : Mem W w As) :
    ∃ p w', (execOp a.eval ⟨d, .box e x, ty, pos, af, gd⟩).run P w = .ok (.value p) w' ∧ ∃ g, p = .pointer (some ⟨g, 0, none⟩) ∧ Mem W w' (aBlk g e cs :: As) := by
  refine ⟨.pointer (some ⟨w.heap.size, 0, none⟩), w.alloc (.cells cs.toArray e), by simp [execOp, Instr.box, newVar, newRow, hs.ev hx, Value.cells], w.heap.size, rfl, ?_⟩
  exact hM.new_ ((Below.refl _ _).alloc (Nat.le_refl _) _) (f := [w.heap.size]) ⟨rfl, by exact heap_alloc_new w _⟩ (by simp) (by simp)
theorem Mem.heapBlk (hM : Mem W w As) (i : Nat) {g : Nat} {cs : List Value} (hi : As[i]? = some (aBlk g e cs)) : w.heap[g]? = some (.cells cs.toArray e (0, 0)) := by
  obtain ⟨f, ⟨_, h1⟩, _⟩ := hM.get hi
  exact h1
theorem loadS {g : Nat} {cs : List Value} (hT : StT P t zs) (hb : w.heap[g]? = some (.cells cs.toArray e (0, 0))) (hl : cs.length = zs.length) : (loadVar t ⟨g, 0, none⟩).run P w = .ok (.agg cs.toArray) w := by
  obtain ⟨i, hi, hz, hs⟩ := hT.info
  exact run_loadVar_row w g e t cs.toArray (0, 0) _ hb hT.ut rfl (by simp [hi, hs, hl])
theorem y_loadS {g : Nat} {cs : List Value} (hT : StT P t zs) (hs : Fr a N L) (hx : evL L x = some (.pointer (some ⟨g, 0, none⟩))) (hb : w.heap[g]? = some (.cells cs.toArray e (0, 0))) (hl : cs.length = zs.length) :
    Yld P ⟨d, .load t x, ty, pos, af, gd⟩ a w (.agg cs.toArray) := by
  unfold Yld
  simp [execOp, hs.ev hx, Instr.loadAt, Instr.sureAddr, loadS hT hb hl]
theorem x_storeS {g : Nat} {cs us : List Value} (hT : StT P t zs) (h1 : allOne us) (hl : cs.length = zs.length) (hu : us.length = zs.length) (hM : Mem W w (aBlk g e cs :: As)) :
    ∃ w', (Instr.storeAt t (.pointer (some ⟨g, 0, none⟩)) (.agg us.toArray)).run P w = .ok () w' ∧ Mem W w' (aBlk g e us :: As) := by
  obtain ⟨i, hi, hz, hs⟩ := hT.info
  have hb := hM.heapBlk 0 rfl
  have hr := run_storeVar_row (P := P) w g e t cs.toArray us.toArray hb (by simp [hi, hs, hu]) (by simp [hl, hu]) (allOne_all h1)
  refine ⟨w.setRow g us.toArray, by simp only [Instr.storeAt, Instr.sureAddr, Sem.run_bind, Sem.run_pure, Result.andThen_ok, hr], hM.turn rfl rfl rfl (by simp [World.setRow]) fun f hs hn => ⟨f, ⟨hs.1, ?_⟩, hn, fun g hg => .inl hg, fun k hk hnot => ?_⟩⟩
  · unfold World.setRow
    simp only [Array.getElem?_modify, if_true, hb, Option.map_some]
  · have hne : g ≠ k := fun e => hnot (by rw [hs.1, e]; simp)
    unfold World.setRow
    simp only [Array.getElem?_modify, hne, if_false]
theorem y_fieldAddr {g i : Nat} (hT : StT P t zs) (hs : Fr a N L) (hx : evL L x = some (.pointer (some ⟨g, 0, none⟩))) (hi : Nat.ble (i + 1) zs.length = true) : Yld P ⟨d, .fieldAddr t x i, ty, pos, af, gd⟩ a w (.pointer (some ⟨g, i, none⟩)) := by
  obtain ⟨f, inf, h1, h2, h3, h4⟩ := hT.field (Nat.le_of_ble_eq_true hi)
  have e : (⟨g, 0, none⟩ : Addr).add i = ⟨g, i, none⟩ := by unfold Addr.add; split <;> simp_all
  unfold Yld
  simp [execOp, hs.ev hx, Instr.fieldAt, run_underlying hT.ut, h1, Instr.sureAddr, fieldPlace, sizeOf, typeInfo, h3, h4, h2, e]
theorem y_field {i : Nat} {cs : List Value} {v : Value} (hT : StT P t zs) (hs : Fr a N L) (hx : evL L x = some (.agg cs.toArray)) (hi : Nat.ble (i + 1) zs.length = true) (hv : cs[i]? = some v) (hsc : ∀ f, (P.fieldsOf t)[i]? = some f → Sc P f.type) :
    Yld P ⟨d, .field t x i, ty, pos, af, gd⟩ a w v := by
  obtain ⟨f, inf, h1, h2, h3, h4⟩ := hT.field (Nat.le_of_ble_eq_true hi)
  unfold Yld
  simp [execOp, hs.ev hx, Instr.field, run_underlying hT.ut, h1, part, hsc f h1 w, h2, hv, asAgg]
theorem x_storeF {g i : Nat} {cs : List Value} {u z : Value} {by_ : Nat} (he : ElT P t z by_) (hu : u.oneCell' = true) (hi : Nat.ble (i + 1) cs.length = true) (hM : Mem W w (aBlk g e cs :: As)) :
    ∃ w', (Instr.storeAt t (.pointer (some ⟨g, i, none⟩)) u).run P w = .ok () w' ∧ Mem W w' (aBlk g e (cs.set i u) :: As) := by
  obtain ⟨f, ⟨hf, h1⟩, hlt⟩ := hM.get (i := 0) rfl
  obtain ⟨j, hj, _, hjs, _⟩ := he.info
  have hil : i < cs.length := Nat.le_of_ble_eq_true hi
  have hc : w.cell? ⟨g, i, none⟩ = some cs[i] := by rw [cell_of_row w g i cs.toArray e (0, 0) h1]; simp [hil]
  refine ⟨_, run_storeAt ⟨j, hj, hjs⟩ hu hc (frozen_of_row w g i _ e h1), hM.turn rfl rfl rfl (by simp [World.setCell]) fun f hs hn => ⟨f, ⟨hs.1, ?_⟩, hn, fun g hg => .inl hg, fun k hk hnot => ?_⟩⟩
  · have := heap_setCell_same w g i cs.toArray e u h1
    simpa using this
  · refine heap_setCell_other w ⟨g, i, none⟩ k u fun e => hnot ?_
    rw [hs.1, e]; simp

/-! ### Values made of their fields -/
def fillL : List Value → List (Nat × Value) → List Value
  | cs, [] => cs
  | cs, (i, v) :: r => fillL (cs.set i v) r
def partsOk (n : Nat) : List (Nat × Value) → Prop
  | [] => True
  | (i, v) :: r => Nat.ble (i + 1) n = true ∧ v.oneCell' = true ∧ partsOk n r
theorem fill_one {pl : Nat → Option (Nat × Nat)} {n : Nat} (hp : ∀ i, i < n → pl i = some (i, 1)) : ∀ {parts : List (Nat × Value)} {cs : List Value}, cs.length = n → partsOk n parts → Instr.fill pl cs.toArray parts = some (fillL cs parts).toArray
  | [], cs, _, _ => rfl
  | (i, v) :: r, cs, hl, ⟨h1, h2, h3⟩ => by
    have hi : i < n := Nat.le_of_ble_eq_true h1
    have hc := cells_one v h2
    have := fill_one hp (parts := r) (cs := cs.set i v) (by simpa using hl) h3
    rw [Instr.fill, hp i hi]
    simp only [hc]
    rw [if_neg (by simp; omega)]
    simpa [fillL] using this
def evP (L : List (Nat × Value)) : List (Nat × Operand) → Option (List (Nat × Value))
  | [] => some []
  | (i, x) :: r => match evL L x, evP L r with
    | some v, some l => some ((i, v) :: l)
    | _, _ => none
theorem Fr.evP {a : Act} {N : Nat} {L : List (Nat × Value)} (hs : Fr a N L) : ∀ {xs : List (Nat × Operand)} {vs : List (Nat × Value)}, Ytjhaealoneennaa.evP L xs = some vs → xs.map (fun p => (p.1, a.eval p.2)) = vs
  | [], vs, h => by simp only [Ytjhaealoneennaa.evP, Option.some.injEq] at h; simp [h]
  | (i, x) :: r, vs, h => by
    simp only [Ytjhaealoneennaa.evP] at h
    split at h
    · rename_i v l h1 h2
      simp only [Option.some.injEq] at h
      rw [← h, List.map_cons, hs.ev h1, Fr.evP hs h2]
    · cases h
theorem y_build {xs : List (Nat × Operand)} {vs : List (Nat × Value)} {cs : List Value} (hT : StT P t zs) (hs : Fr a N L) (hx : evP L xs = some vs) (hp : partsOk zs.length vs) (hc : fillL zs vs = cs) :
    Yld P ⟨d, .build t xs.toArray, ty, pos, af, gd⟩ a w (.agg cs.toArray) := by
  obtain ⟨i, hi, hz, hsz⟩ := hT.info
  have hb : P.built t vs = some cs.toArray := by
    unfold Program.built
    rw [hi, hT.ut]
    simp only [hz, hT.pl]
    rw [← hc]
    refine fill_one (n := zs.length) (fun i h => ?_) rfl hp
    simp [h]
  have e : (xs.toArray.map fun p => (p.1, a.eval p.2)).toList = vs := by rw [← hs.evP hx]; simp
  unfold Yld
  have := run_build (P := P) w t (xs.toArray.map fun p => (p.1, a.eval p.2)) cs.toArray (by rw [e]; exact hb)
  simp only [execOp]
  simp only [Sem.run_bind, this, Result.andThen_ok]
  rfl

/-! ### Equality of structs of two numbers -/
structure EqI2 (P : Program) (t : TypeId) : Prop where
  ut : P.underlying t = some (.struct (P.fieldsOf t))
  fl : (P.fieldsOf t).toList.map (fun f => (f.name != "_", f.offset, P.underlying f.type)) = [(true, 0, some (.int .i64)), (true, 1, some (.int .i64))]
  hp : P.stoodInHeld t = false
  hm : P.eqGuardType P.depth t = false
theorem y_eqlS2 {t' : TypeId} {m n m' n' : Int} (hT : EqI2 P t) (hs : Fr a N L) (hx : evL L x = some (.agg #[.int .i64 m, .int .i64 n])) (hy : evL L y = some (.agg #[.int .i64 m', .int .i64 n'])) :
    Yld P ⟨d, .binOp .eql t x y t', ty, pos, af, gd⟩ a w (.bool (m == m' && n == n')) := by
  have hl := hT.fl
  cases hf : (P.fieldsOf t).toList with
  | nil => rw [hf] at hl; cases hl
  | cons f r =>
    cases r with
    | nil => rw [hf] at hl; simp at hl
    | cons f' r =>
      cases r with
      | cons f'' r => rw [hf] at hl; simp at hl
      | nil =>
        rw [hf] at hl
        simp only [List.map_cons, List.map_nil, List.cons.injEq, Prod.mk.injEq, and_true] at hl
        obtain ⟨⟨a1, a2, a3⟩, b1, b2, b3⟩ := hl
        have p1 : ∀ (cs : Array Value) (v : Value) (f : Field) (w : World), P.underlying f.type = some (.int .i64) → cs[f.offset]? = some v → (part f.type cs f.offset).run P w = .ok v w := by
          intro cs v f w hu hc
          unfold part
          simp [isAgg, run_underlying hu, hc]
        unfold Yld
        simp only [execOp, hs.ev hx, hs.ev hy]
        have e1 : (binOp .eql t (.agg #[.int .i64 m, .int .i64 n]) (.agg #[.int .i64 m', .int .i64 n'])).run P w = .ok (.bool (m == m' && n == n')) w := by
          rw [run_eql_struct, run_equalIn_agg w 9999 t _ _ hT.ut hT.hp, hf]
          simp only [Op.eqFields]
          simp [a1, b1, p1 #[.int .i64 m, .int .i64 n] (.int .i64 m) f w a3 (by rw [a2]; rfl), p1 #[.int .i64 m', .int .i64 n'] (.int .i64 m') f w a3 (by rw [a2]; rfl), p1 #[.int .i64 m, .int .i64 n] (.int .i64 n) f' w b3 (by rw [b2]; rfl), p1 #[.int .i64 m', .int .i64 n'] (.int .i64 n') f' w b3 (by rw [b2]; rfl), run_equalIn_int w 9998 f.type .i64 .i64 m m' a3, run_equalIn_int w 9998 f'.type .i64 .i64 n n' b3]
          have c1 : ¬ f.name = "_" := by simpa using a1
          have c2 : ¬ f'.name = "_" := by simpa using b1
          rw [if_neg c1, if_neg c2]
          by_cases h1 : m = m'
          · by_cases h2 : n = n'
            · simp [h1, h2]
            · simp [h1, h2]
          · simp [h1]
        simp only [Sem.run_bind, run_eqGuard_agg w .eql t x y _ _ hT.hm, Result.andThen_ok, e1]
        rfl

end

/-! ### A slice of which it is known whether it is nil -/
def NilQ (v : Value) (l : List Int) : Prop := (l = [] ∧ v = .slice none 0 0) ∨ (l ≠ [] ∧ ∃ ad n c, v = .slice (some ad) n c)
def aIntsN (e : TypeId) (v : Value) (l : List Int) : Atom :=
  ⟨fun w fp => (aInts e v l).sat w fp ∧ (l = [] → v = .slice none 0 0), fun h hk => ⟨(aInts e v l).keep h.1 hk, h.2⟩⟩
section
variable {W w : World} {As : List Atom} {e : TypeId} {v : Value} {l : List Int}
theorem Mem.ofN (h : Mem W w (aIntsN e v l :: As)) : Mem W w (aInts e v l :: As) := by
  obtain ⟨F, ⟨f, F', e1, h1, h2⟩, h3, h4⟩ := h.hp.ex
  exact ⟨h.bel, ⟨F, ⟨f, F', e1, h1.1, h2⟩, h3, h4⟩⟩
theorem Mem.toN (h : Mem W w (aInts e v l :: As)) (hl : l = [] → v = .slice none 0 0) : Mem W w (aIntsN e v l :: As) := by
  obtain ⟨F, ⟨f, F', e1, h1, h2⟩, h3, h4⟩ := h.hp.ex
  exact ⟨h.bel, ⟨F, ⟨f, F', e1, ⟨h1, hl⟩, h2⟩, h3, h4⟩⟩
theorem Mem.nilN (h : Mem W w As) (e : TypeId) : Mem W w (aIntsN e (.slice none 0 0) [] :: As) := (h.nilI e).toN fun _ => rfl
theorem Mem.rdN (h : Mem W w As) (i : Nat) (hi : As[i]? = some (aIntsN e v l)) : RdI w v l := by
  obtain ⟨f, h1, _⟩ := h.get hi
  exact h1.1.2.rdI
theorem Mem.nilqN (h : Mem W w As) (i : Nat) (hi : As[i]? = some (aIntsN e v l)) : NilQ v l := by
  obtain ⟨f, h1, _⟩ := h.get hi
  cases hl : l with
  | nil => exact .inl ⟨rfl, h1.2 hl⟩
  | cons x r =>
    refine .inr ⟨by simp, ?_⟩
    rcases h1.1.2 with ⟨_, h0⟩ | ⟨g, off, cap, cur, hv, _⟩
    · rw [hl] at h0; simp at h0
    · exact ⟨_, _, _, hv⟩
theorem toN_of (h : guardO (decide (0 < l.length)) = some ()) : l = [] → v = .slice none 0 0 := by
  intro e
  subst e
  cases h
end
theorem Mem.oneM {W w : World} {As : List Atom} {ts ti : TypeId} {v : Value} {vs : List Value} {m : List (List Int)} {out : Nat → Bool} (h : Mem W w (aMatO ts ti v vs m out :: As)) : v.oneCell' = true := RdS.one (h.rdMO 0 rfl)
theorem y_neqN {P : Program} {a : Act} {w : World} {N : Nat} {L : List (Nat × Value)} {d : Option Nat} {ty : TypeId} {pos : String} {af : Array Edge} {gd : Option (Nat × Bool)} {t e : TypeId} {x y : Operand} {t' : TypeId} {v : Value} {l : List Int}
    (ht : P.underlying t = some (.slice e)) (hs : Fr a N L) (hx : evL L x = some v) (hy : evL L y = some (.slice none 0 0)) (hn : NilQ v l) : Yld P ⟨d, .binOp .neq t x y t', ty, pos, af, gd⟩ a w (.bool (decide ((l.length : Int) > 0))) := by
  unfold Yld
  rcases hn with ⟨hl, hv⟩ | ⟨hl, ad, n, c, hv⟩
  · subst hv; subst hl
    have h1 : (eqGuard .neq t x y (.slice none 0 0) (.slice none 0 0)).run P w = .ok () w := rfl
    simp [execOp, hs.ev hx, hs.ev hy, h1, run_neq_slice_nil w t e none 0 0 ht]
  · subst hv
    have h1 : (eqGuard .neq t x y (.slice (some ad) n c) (.slice none 0 0)).run P w = .ok () w := rfl
    have h2 : decide ((l.length : Int) > 0) = true := decide_eq_true (by
      have := List.length_pos_iff.2 hl
      omega)
    rw [h2]
    simp [execOp, hs.ev hx, hs.ev hy, h1, run_neq_slice_nil w t e (some ad) n c ht]

/-- A guarded call of a function value. -/
theorem wcallgv {P : Program} {ops : Array Oper} {Q : Exit → Act → World → Prop} {a : Act} {w : World} {rest : List Oper} {N : Nat} {L : List (Nat × Value)} {d f j : Nat} {b b' : Bool} {x : Operand} {xs : List Operand} {ats : Array TypeId} {ty : TypeId} {pos : String} {af : Array Edge} {vs caps : List Value} {R : Value → World → Prop} (hi : Is P f) (hs : Fr a N L)
    (hg : gval ops L j = some (.bool b')) (hb : b' = b) (hx : evL L x = some (.func (.func f) #[] caps.toArray)) (he : evA L xs = some vs) (hd : Nat.ble (d + 1) N = true)
    (h : Calls P f (vs ++ caps).toArray w fun e w' => ∃ v, e = .returned v ∧ R v w') (k : ∀ a' v w', Fr a' N ((d, v) :: L) → R v w' → wpList P ops Q rest a' w') :
    wpList P ops Q (⟨some d, .call ⟨.value x, xs.toArray, ats⟩, ty, pos, af, some (j, b)⟩ :: rest) a w := by
  refine wpList_step fun K hK => ?_
  rw [wanted_of hs rfl hg, hb]
  simp only [beq_self_eq_true, if_true]
  unfold Oper.wp
  rw [exec_callv hi hs hx he]
  simp only [Oper.upon]
  refine h.mono fun e w' ⟨v, he', hr⟩ => ?_
  subst he'
  exact hK _ _ (k _ _ _ (hs.put (Nat.le_of_ble_eq_true hd) v) hr)

/-! ### Results -/
def ResV (P : Program) (w : World) (L : List (Nat × Value)) : List ResultVar → List Value → Prop
  | [], [] => True
  | .tmp t :: r, v :: vs => look L t = some v ∧ ResV P w L r vs
  | .cell t ty :: r, v :: vs => (∃ p, look L t = some (.pointer (some p)) ∧ (loadVar ty p).run P w = .ok v w) ∧ ResV P w L r vs
  | _, _ => False
def packR : List Value → Value
  | [v] => v
  | vs => .tuple vs.toArray
def resF (tmps : Array Value) : ResultVar → Sem Value
  | .tmp t => pure (tmps.getD t undef)
  | .cell p t => do loadVar t (← asAddr (tmps.getD p undef))
theorem results_eq {fn : Func} {rs : List ResultVar} (hr : fn.results = rs.toArray) (tmps : Array Value) :
    results fn tmps = (do let vs ← rs.toArray.mapM (resF tmps); pure (if h : vs.size = 1 then vs[0] else .tuple vs)) := by
  unfold results
  rw [hr]
  congr 1
theorem x_retR {P : Program} {a : Act} {w : World} {N : Nat} {L : List (Nat × Value)} {fn : Func} {R : Ending → World → Prop} {rs : List ResultVar} {vs : List Value} (hr : fn.results = rs.toArray) (hs : Fr a N L) (hv : ResV P w L rs vs) (h : R (.returned (packR vs)) w) :
    bodyPost P fn R .ret a w := by
  have key : ∀ (rs : List ResultVar) (vs : List Value), ResV P w L rs vs → (rs.mapM (resF a.tmps)).run P w = .ok vs w := by
    intro rs
    induction rs with
    | nil => intro vs h; cases vs with | nil => rfl | cons _ _ => exact h.elim
    | cons r rs ih =>
      intro vs h
      cases vs with
      | nil => cases r <;> exact h.elim
      | cons v vs =>
        have e1 : (resF a.tmps r).run P w = .ok v w := by
          cases r with
          | tmp t =>
            have e := hs.get t v h.1
            simp [resF, Array.getD_eq_getD_getElem?, e]
          | cell p t =>
            obtain ⟨⟨q, h1, h2⟩, h3⟩ := h
            have e := hs.get p _ h1
            simp [resF, Sem.run_bind, Array.getD_eq_getD_getElem?, e, asAddr, h2]
        have e2 : ResV P w L rs vs := by cases r <;> exact h.2
        rw [List.mapM_cons]
        simp only [Sem.run_bind, e1, Result.andThen_ok, ih vs e2]
        rfl
  refine bodyPost_ret (v := packR vs) ?_ hs.dfr h
  rw [results_eq hr, Array.mapM_eq_mapM_toList]
  simp only [Sem.run_bind, Sem.run_map, key rs vs hv, Result.andThen_ok]
  match vs with
  | [] => rfl
  | [v] => rfl
  | v :: u :: r => simp [packR]
end Go.Proofs.Ytjhaealoneennaa
