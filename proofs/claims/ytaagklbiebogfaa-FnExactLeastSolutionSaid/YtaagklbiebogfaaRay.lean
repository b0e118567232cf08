/- Slices of structs of three numbers: read, owned; slices of such slices. Nothing of a program is named here. -/
import Derived.Test.YtaagklbiebogfaaStr
import Derived.Deep.MidRow
namespace Go.Proofs.Ytaagklbiebogfaa
open Go.RowKit
set_option linter.unusedVariables false
set_option linter.unusedSimpArgs false

abbrev Y3 := Int × Int × Int
def cyY (x : Y3) : List Value := [.int .i64 x.1, .int .i64 x.2.1, .int .i64 x.2.2]
def flY : List Y3 → List Value
  | [] => []
  | x :: l => .int .i64 x.1 :: .int .i64 x.2.1 :: .int .i64 x.2.2 :: flY l
theorem flY_len : ∀ l : List Y3, (flY l).length = l.length * 3
  | [] => rfl
  | x :: l => by simp only [flY, List.length_cons, flY_len l]; omega
theorem flY_get : ∀ {l : List Y3} {i : Nat} {x : Y3}, l[i]? = some x → ∀ (j : Nat) v, (cyY x)[j]? = some v → (flY l)[i * 3 + j]? = some v
  | y :: l, 0, x, h, j, v, hv => by
    simp only [List.getElem?_cons_zero, Option.some.injEq] at h
    subst h
    match j, hv with
    | 0, hv => simpa [flY, cyY] using hv
    | 1, hv => simpa [flY, cyY] using hv
    | 2, hv => simpa [flY, cyY] using hv
    | j + 3, hv => simp [cyY] at hv
  | y :: l, i + 1, x, h, j, v, hv => by
    simp only [List.getElem?_cons_succ] at h
    have := flY_get h j v hv
    rw [show (i + 1) * 3 + j = (i * 3 + j) + 1 + 1 + 1 by omega]
    simpa [flY] using this
theorem flY_put : ∀ {l : List Y3} {i : Nat} (x : Y3), i < l.length → (flY l).take (i * 3) ++ cyY x ++ (flY l).drop (i * 3 + 3) = flY (l.set i x)
  | y :: l, 0, x, h => by simp [flY, cyY]
  | y :: l, i + 1, x, h => by
    have := flY_put (l := l) (i := i) x (by simpa using h)
    rw [show (i + 1) * 3 = i * 3 + 1 + 1 + 1 by omega, show i * 3 + 1 + 1 + 1 + 3 = (i * 3 + 3) + 1 + 1 + 1 by omega]
    simp only [flY, List.take_succ_cons, List.drop_succ_cons, List.cons_append, List.set_cons_succ]
    rw [← this]
def setF (x : Y3) : Nat → Int → Y3
  | 0, n => (n, x.2.1, x.2.2)
  | 1, n => (x.1, n, x.2.2)
  | _, n => (x.1, x.2.1, n)
theorem flY_set : ∀ {l : List Y3} {i : Nat} {x : Y3} (j : Nat) (n : Int), j < 3 → l[i]? = some x → (flY l).set (i * 3 + j) (.int .i64 n) = flY (l.set i (setF x j n))
  | y :: l, 0, x, j, n, hj, h => by
    simp only [List.getElem?_cons_zero, Option.some.injEq] at h
    subst h
    match j, hj with
    | 0, _ => rfl
    | 1, _ => rfl
    | 2, _ => rfl
  | y :: l, i + 1, x, j, n, hj, h => by
    simp only [List.getElem?_cons_succ] at h
    have := flY_set j n hj h
    rw [show (i + 1) * 3 + j = (i * 3 + j) + 1 + 1 + 1 by omega]
    simp only [flY, List.set_cons_succ, this]
theorem flY_rep : ∀ n : Nat, flY (List.replicate n (0, 0, 0)) = List.replicate (n * 3) (.int .i64 0)
  | 0 => rfl
  | n + 1 => by
    rw [List.replicate_succ, flY, flY_rep n, show (n + 1) * 3 = n * 3 + 1 + 1 + 1 by omega]
    simp [List.replicate_succ]

/-- v reads as the list l of structs. -/
def RdY (w : World) (v : Value) (l : List Y3) : Prop :=
  ∃ A c, v = .slice A l.length c ∧ (l.length ≤ maxLen ∧ l.length ≤ c) ∧ (0 < l.length → ∃ g o, A = some ⟨g, o, none⟩ ∧ g < w.heap.size ∧ w.rangeAt g o (flY l))
theorem RdY.below {w w' : World} {v : Value} {l : List Y3} (h : RdY w v l) (hb : Below w.heap.size w w') : RdY w' v l := by
  obtain ⟨A, c, hv, hm, hc⟩ := h
  refine ⟨A, c, hv, hm, fun h0 => ?_⟩
  obtain ⟨g, o, ha, hl, he⟩ := hc h0
  exact ⟨g, o, ha, Nat.lt_of_lt_of_le hl hb.size, fun j u hu => (hb.cell hl).trans (he j u hu)⟩
theorem RdY.nil_ (w : World) : RdY w (.slice none 0 0) [] := ⟨none, 0, rfl, by simp, fun h => absurd h (by simp)⟩
theorem RdY.len {w : World} {v : Value} {l : List Y3} (h : RdY w v l) : l.length ≤ maxLen := by
  obtain ⟨A, c, hv, hm, hc⟩ := h; exact hm.1
theorem RdY.one {w : World} {v : Value} {l : List Y3} (h : RdY w v l) : v.oneCell' = true := by
  obtain ⟨A, c, rfl, _⟩ := h
  rfl
/-- A slice of slices of structs. -/
def RdYY : World → Value → List (List Y3) → Prop := RdS RdY
theorem RdYY.below {w w' : World} {v : Value} {m : List (List Y3)} (h : RdYY w v m) (hb : Below w.heap.size w w') : RdYY w' v m := RdS.below (R := RdY) (fun w w1 u x h1 hb1 => RdY.below h1 hb1) h hb
theorem RdYY.at_ {w : World} {v : Value} {m : List (List Y3)} (h : RdYY w v m) {i : Int} {x : List Y3} (hi : idx m i = some x) : ∃ u, ElemAt w v i u ∧ RdY w u x := RdS.at_ h hi
/-- Struct i of the slice value v. -/
def ElemY (w : World) (v : Value) (i : Int) (x : Y3) : Prop :=
  ∃ g o n c, v = .slice (some ⟨g, o, none⟩) n c ∧ 0 ≤ i ∧ i < n ∧ g < w.heap.size ∧ w.rangeAt g (o + i.toNat * 3) (cyY x)
def addrY (v : Value) (i : Int) (j : Nat) : Addr := match v with
  | .slice (some ad) _ _ => ⟨ad.block, ad.off + i.toNat * 3 + j, none⟩
  | _ => ⟨0, 0, none⟩
theorem ElemY.below {w w' : World} {v : Value} {x : Y3} {i : Int} (h : ElemY w v i x) (hb : Below w.heap.size w w') : ElemY w' v i x := by
  obtain ⟨g, o, n, c, hv, h0, h1, hl, hc⟩ := h
  exact ⟨g, o, n, c, hv, h0, h1, Nat.lt_of_lt_of_le hl hb.size, fun j u hu => (hb.cell hl).trans (hc j u hu)⟩
theorem RdY.at_ {w : World} {v : Value} {l : List Y3} (h : RdY w v l) {i : Int} {x : Y3} (hi : idx l i = some x) : ElemY w v i x := by
  obtain ⟨h0, h1, hx⟩ := idx_spec hi
  obtain ⟨A, c, hv, hm, hc⟩ := h
  obtain ⟨g, o, ha, hl, he⟩ := hc (by omega)
  subst ha
  refine ⟨g, o, _, c, hv, h0, h1, hl, fun j u hu => ?_⟩
  rw [Nat.add_assoc]
  exact he _ _ (flY_get hx j u hu)

structure SlY (P : Program) (t e : TypeId) : Prop where
  ut : P.underlying t = some (.slice e)
  sz : ∃ i, P.info? e = some i ∧ i.size = 3 ∧ i.zero = some (.agg #[.int .i64 0, .int .i64 0, .int .i64 0]) ∧ i.bytes ≤ 24
theorem SlY.mk_ {P : Program} {t e : TypeId} (h : P.underlying t = some (.slice e)) (h2 : (P.info? e).map (fun i => (i.zero, i.size, i.bytes)) = some (some (.agg #[.int .i64 0, .int .i64 0, .int .i64 0]), 3, 24)) : SlY P t e := by
  obtain ⟨i, h1, h3, h4, h5⟩ := info_parts h2
  exact ⟨h, i, h1, h4, h3, by omega⟩
section
variable {P : Program} {a : Act} {w : World} {N : Nat} {L : List (Nat × Value)} {d : Option Nat} {ty : TypeId} {pos : String} {af : Array Edge} {gd : Option (Nat × Bool)} {x y : Operand} {v : Value}
theorem y_lenY {t e : TypeId} {l : List Y3} (ht : SlY P t e) (hs : Fr a N L) (hx : evL L x = some v) (h : RdY w v l) :
    Yld P ⟨d, .call ⟨.builtin .len, #[x], #[t]⟩, ty, pos, af, gd⟩ a w (.int .i64 l.length) := by
  obtain ⟨A, c, rfl, _⟩ := h
  have he : evA L [x] = some [.slice A l.length c] := by simp [evA, hx]
  unfold Yld
  obtain ⟨cs, hcs⟩ := exec_builtin (d := d) (ty := ty) (pos := pos) (af := af) (gd := gd) .len [x] #[t] hs he
  rw [hcs]
  simp [builtin, Builtin.len_, run_underlying ht.ut, goInt]
theorem y_indexY {t e : TypeId} {i : Int} {u : Y3} (ht : SlY P t e) (hs : Fr a N L) (hx : evL L x = some v) (hy : evL L y = some (.int .i64 i)) (h : ElemY w v i u) :
    Yld P ⟨d, .indexAddr t x y, ty, pos, af, gd⟩ a w (.pointer (some (addrY v i 0))) := by
  obtain ⟨g, o, n, c, rfl, h0, h1, _, _⟩ := h
  obtain ⟨i0, hi, hsz, _⟩ := ht.sz
  have e1 : (⟨g, o, none⟩ : Addr).add (i.toNat * 3) = ⟨g, o + i.toNat * 3, none⟩ := Addr.add_mid _ _ _
  unfold Yld
  simp [execOp, hs.ev hx, hs.ev hy, Instr.indexAt, run_underlying ht.ut, asIntOf, h0, h1, sizeOf, typeInfo, hi, hsz, addrY, e1]
theorem y_loadY {t : TypeId} {zs : List Value} {i : Int} {u : Y3} (hT : StT P t zs) (h3 : zs.length = 3) (hs : Fr a N L) (hx : evL L x = some (.pointer (some (addrY v i 0)))) (h : ElemY w v i u) :
    Yld P ⟨d, .load t x, ty, pos, af, gd⟩ a w (.agg #[.int .i64 u.1, .int .i64 u.2.1, .int .i64 u.2.2]) := by
  obtain ⟨g, o, n, c, rfl, h0, h1, _, hc⟩ := h
  obtain ⟨j, hj, hz, hsz⟩ := hT.info
  have := run_loadAt_mid (P := P) w g (o + i.toNat * 3) t (cyY u) _ hc hT.ut rfl (by simp [hj, hsz, h3, cyY])
  unfold Yld
  simp only [execOp, hs.ev hx, addrY, Nat.add_zero, Sem.run_bind, this, Result.andThen_ok]
  rfl
theorem y_fieldAddrY {t : TypeId} {zs : List Value} {i : Int} {j : Nat} {u : Y3} (hT : StT P t zs) (h3 : zs.length = 3) (hj : Nat.ble (j + 1) 3 = true) (hs : Fr a N L) (hx : evL L x = some (.pointer (some (addrY v i 0)))) (h : ElemY w v i u) :
    Yld P ⟨d, .fieldAddr t x j, ty, pos, af, gd⟩ a w (.pointer (some (addrY v i j))) := by
  obtain ⟨g, o, n, c, rfl, h0, h1, _, hc⟩ := h
  obtain ⟨f, inf, k1, k2, k3, k4⟩ := hT.field (i := j) (by have := Nat.le_of_ble_eq_true hj; omega)
  have e : (⟨g, o + i.toNat * 3, none⟩ : Addr).add j = ⟨g, o + i.toNat * 3 + j, none⟩ := Addr.add_mid _ _ _
  unfold Yld
  simp [execOp, hs.ev hx, addrY, Instr.fieldAt, run_underlying hT.ut, k1, Instr.sureAddr, fieldPlace, sizeOf, typeInfo, k3, k4, k2, e]
theorem ElemY.cell {i : Int} {u : Y3} (h : ElemY w v i u) {j : Nat} {z : Value} (hz : (cyY u)[j]? = some z) : w.cell? (addrY v i j) = some z := by
  obtain ⟨g, o, n, c, rfl, h0, h1, _, hc⟩ := h
  exact hc j z hz
end

/-! ### Owned -/
def OwnY (w : World) (e : TypeId) (v : Value) (l : List Y3) : Prop :=
  (v = .slice none 0 0 ∧ l = []) ∨ ∃ g, v = .slice (some ⟨g, 0, none⟩) l.length l.length ∧ w.heap[g]? = some (.cells (flY l).toArray e (0, 0)) ∧ l.length ≤ maxLen
theorem OwnY.nil_ (w : World) (e : TypeId) : OwnY w e (.slice none 0 0) [] := .inl ⟨rfl, rfl⟩
theorem OwnY.keep {w w' : World} {e : TypeId} {v : Value} {l : List Y3} (h : OwnY w e v l) (hk : ∀ g ∈ obl v, w'.heap[g]? = w.heap[g]?) : OwnY w' e v l := by
  rcases h with h0 | ⟨g, rfl, hg, r⟩
  · exact .inl h0
  · exact .inr ⟨g, rfl, (hk g (by simp [obl, Value.ownBlock])).trans hg, r⟩
theorem OwnY.lt {w : World} {e : TypeId} {v : Value} {l : List Y3} (h : OwnY w e v l) : ∀ g ∈ obl v, g < w.heap.size := by
  intro g hg
  rcases h with ⟨rfl, _⟩ | ⟨g', rfl, hgg, _⟩
  · simp [obl, Value.ownBlock] at hg
  · simp [obl, Value.ownBlock] at hg
    subst hg
    exact (Array.getElem?_eq_some_iff.1 hgg).1
theorem OwnY.rd {w : World} {e : TypeId} {v : Value} {l : List Y3} (h : OwnY w e v l) : RdY w v l := by
  rcases h with ⟨rfl, rfl⟩ | ⟨g, rfl, hg, hm⟩
  · exact RdY.nil_ w
  · refine ⟨_, _, rfl, ⟨hm, Nat.le_refl _⟩, fun h0 => ⟨g, 0, rfl, (Array.getElem?_eq_some_iff.1 hg).1, fun j u hu => ?_⟩⟩
    rw [Nat.zero_add, cell_of_row w g j _ e (0, 0) hg]
    simpa using hu
theorem ownY_one {w : World} {e : TypeId} {v : Value} {l : List Y3} (h : OwnY w e v l) : v.oneCell' = true := h.rd.one
def aYs (e : TypeId) (v : Value) (l : List Y3) : Atom :=
  ⟨fun w fp => fp = obl v ∧ OwnY w e v l, fun ⟨h1, h2⟩ hk => ⟨h1, h2.keep (by rw [← h1]; exact hk)⟩⟩
theorem Mem.rdY {W w : World} {As : List Atom} (h : Mem W w As) (i : Nat) {e : TypeId} {v : Value} {l : List Y3} (hi : As[i]? = some (aYs e v l)) : RdY w v l := by
  obtain ⟨f, h1, _⟩ := h.get hi
  exact h1.2.rd
theorem Mem.nilY {W w : World} {As : List Atom} (h : Mem W w As) (e : TypeId) : Mem W w (aYs e (.slice none 0 0) [] :: As) :=
  h.new_ (Below.refl _ _) (f := []) ⟨rfl, OwnY.nil_ _ _⟩ List.nodup_nil (fun g hg => by cases hg)
theorem Mem.oneY {W w : World} {As : List Atom} {e : TypeId} {v : Value} {l : List Y3} (h : Mem W w (aYs e v l :: As)) : v.oneCell' = true := (h.rdY 0 rfl).one
theorem madeY (q : Nat) : (madeCells (Value.agg #[.int .i64 0, .int .i64 0, .int .i64 0]).cells (q * 3)).toList = List.replicate (q * 3) (.int .i64 0) := by
  apply List.ext_getElem
  · simp [madeCells]
  · intro i h1 h2
    simp only [madeCells, Array.getElem_toList, Array.getElem_map, Array.getElem_range, List.getElem_replicate, Value.cells]
    have : i % 3 = 0 ∨ i % 3 = 1 ∨ i % 3 = 2 := by omega
    rcases this with e | e | e <;> simp [e]
theorem guard_len {n : Int} (hn : guardO (decide (0 ≤ n ∧ n < 1000000000)) = some ()) : 0 ≤ n ∧ n < 1000000000 := by
  unfold guardO at hn
  cases hb : decide (0 ≤ n ∧ n < 1000000000) with
  | false => rw [hb] at hn; cases hn
  | true => exact of_decide_eq_true hb
section
variable {P : Program} {ops : Array Oper} {Q : Exit → Act → World → Prop} {a : Act} {w W : World} {rest : List Oper} {N : Nat} {L : List (Nat × Value)} {As : List Atom}
variable {d : Option Nat} {ty : TypeId} {pos : String} {af : Array Edge} {gd : Option (Nat × Bool)} {t e te : TypeId} {z : Value} {by_ : Nat} {x y s : Operand}
theorem x_makeY {n : Int} (ht : SlY P t e) (hs : Fr a N L) (hx : evL L x = some (.int .i64 n)) (hM : Mem W w As) (hn : guardO (decide (0 ≤ n ∧ n < 1000000000)) = some ()) :
    ∃ v w', (execOp a.eval ⟨d, .makeSlice t x x, ty, pos, af, gd⟩).run P w = .ok (.value v) w' ∧ Mem W w' (aYs e v (List.replicate n.toNat (0, 0, 0)) :: As) := by
  have hn' := guard_len hn
  obtain ⟨i, hi, his, hz, hib⟩ := ht.sz
  obtain ⟨q, rfl⟩ := Int.eq_ofNat_of_zero_le hn'.1
  have hb : i.bytes * q ≤ 281474976710656 := Nat.le_trans (Nat.mul_le_mul_right q hib) (by omega)
  obtain ⟨w', hr, h1, h2⟩ := run_make_full (P := P) w 0 t e i _ 3 ht.ut hi hz his .i64 .i64 q hb (by simp only [maxLen]; omega) (Nat.zero_le _)
  have hbl : Below w.heap.size w w' := ⟨h2.os, h2.tape, h2.output, h2.size, fun k hk => h2.block k hk (by simp)⟩
  have hown : OwnY w' e (.slice (some ⟨w.heap.size, 0, none⟩) q q) (List.replicate q (0, 0, 0)) := by
    rcases h1.2 with ⟨hv, _⟩ | ⟨g, cap, cur, hv, _, hg, _, hcm, hcs, ht⟩
    · cases hv
    · simp only [Value.slice.injEq, Option.some.injEq, Addr.mk.injEq] at hv
      obtain ⟨⟨rfl, _⟩, _, rfl⟩ := hv
      refine .inr ⟨w.heap.size, by simp, ?_, by simpa using hcm⟩
      have hc : cur = (flY (List.replicate q (0, 0, 0))).toArray := by
        rw [List.take_of_length_le (by simp [hcs])] at ht
        apply Array.toList_inj.1
        rw [ht, flY_rep]
        exact madeY q
      rw [hg, hc]
  refine ⟨_, w', by simp [execOp, hs.ev hx, hr]; rfl, ?_⟩
  simp only [Int.toNat_natCast]
  exact hM.new_ hbl (f := [w.heap.size]) ⟨rfl, hown⟩ (by simp) (fun g hg => ⟨by simp at hg; omega, hown.lt g (by simpa [obl, Value.ownBlock] using hg)⟩)
theorem ownY_addr {w : World} {e : TypeId} {v : Value} {l : List Y3} (h : OwnY w e v l) {i : Int} (h0 : 0 ≤ i) (h1 : i < l.length) : ∃ g, v = .slice (some ⟨g, 0, none⟩) l.length l.length ∧ w.heap[g]? = some (.cells (flY l).toArray e (0, 0)) ∧ ∀ j, addrY v i j = ⟨g, i.toNat * 3 + j, none⟩ := by
  rcases h with ⟨_, hl⟩ | ⟨g, hv, hg, hm⟩
  · rw [hl] at h1; simp at h1; omega
  · exact ⟨g, hv, hg, fun j => by rw [hv]; simp [addrY]⟩
/-- 'l[i] = x' -/
theorem x_storeY {v : Value} {n1 n2 n3 i : Int} {l l' : List Y3} {zs : List Value} (hT : StT P t zs) (h3 : zs.length = 3) (hM : Mem W w (aYs e v l :: As)) (hu : upd l i (n1, n2, n3) = some l') :
    ∃ w', (Instr.storeAt t (.pointer (some (addrY v i 0))) (.agg #[.int .i64 n1, .int .i64 n2, .int .i64 n3])).run P w = .ok () w' ∧ Mem W w' (aYs e v l' :: As) := by
  obtain ⟨rfl, h0, h1⟩ := upd_spec hu
  obtain ⟨f, ⟨_, ho⟩, _⟩ := hM.get (i := 0) rfl
  obtain ⟨g, hv, hg, ha⟩ := ownY_addr ho h0 h1
  obtain ⟨j, hj, hz, hsz⟩ := hT.info
  have hil : i.toNat < l.length := by omega
  have hst := run_storeCells_at P g (i.toNat * 3) e (cyY (n1, n2, n3)) 0 (flY l).toArray w hg (by simp [cyY, flY_len]; omega) (by intro v hv; simp [cyY] at hv; rcases hv with rfl | rfl | rfl <;> rfl)
  simp only [Nat.add_zero] at hst
  have hres : ((flY l).toArray.toList.take (i.toNat * 3) ++ cyY (n1, n2, n3) ++ (flY l).toArray.toList.drop (i.toNat * 3 + (cyY (n1, n2, n3)).length)) = flY (l.set i.toNat (n1, n2, n3)) := flY_put (n1, n2, n3) hil
  rw [hres] at hst
  refine ⟨w.setRow g (flY (l.set i.toNat (n1, n2, n3))).toArray, ?_, hM.turn rfl rfl rfl (by simp [World.setRow]) fun f hs hn => ⟨f, ⟨hs.1, .inr ⟨g, by simpa using hv, setRow_heap w g _ _ e (0, 0) hg, ?_⟩⟩, hn, fun g hg => .inl hg, fun k hk hnot => ?_⟩⟩
  · rw [ha]
    simp [Nat.add_zero, Instr.storeAt, Instr.sureAddr, storeVar, sizeOf, typeInfo, hj, hsz, h3, Value.cells]
    simpa [cyY] using hst
  · rcases ho with ⟨_, hl⟩ | ⟨_, _, _, hm⟩
    · rw [hl] at h1; simp at h1; omega
    · simpa using hm
  · exact setRow_other w g k _ fun e => hnot (by rw [hs.1, hv, e]; simp [obl, Value.ownBlock])
/-- 'l[i].f = n' -/
theorem x_storeYF {v : Value} {n i : Int} {j : Nat} {x : Y3} {l l' : List Y3} (he : ElT P t z by_) (hj : Nat.ble (j + 1) 3 = true) (hx0 : idx l i = some x) (hM : Mem W w (aYs e v l :: As)) (hu : upd l i (setF x j n) = some l') :
    ∃ w', (Instr.storeAt t (.pointer (some (addrY v i j))) (.int .i64 n)).run P w = .ok () w' ∧ Mem W w' (aYs e v l' :: As) := by
  obtain ⟨rfl, _, _⟩ := upd_spec hu
  obtain ⟨h0, h1, hx⟩ := idx_spec hx0
  obtain ⟨f, ⟨_, ho⟩, _⟩ := hM.get (i := 0) rfl
  obtain ⟨g, hv, hg, ha⟩ := ownY_addr ho h0 h1
  obtain ⟨q, hq, _, hqs, _⟩ := he.info
  have hj3 : j < 3 := by have := Nat.le_of_ble_eq_true hj; omega
  have hc : ∃ u', w.cell? (addrY v i j) = some u' := by
    rw [ha, cell_of_row w g _ _ e (0, 0) hg]
    have : i.toNat * 3 + j < (flY l).length := by rw [flY_len]; omega
    exact ⟨(flY l)[i.toNat * 3 + j], by rw [List.getElem?_toArray]; exact List.getElem?_eq_getElem this⟩
  obtain ⟨u', hc⟩ := hc
  refine ⟨w.setCell (addrY v i j) (.int .i64 n), run_storeAt ⟨q, hq, hqs⟩ rfl hc (by rw [ha]; exact frozen_of_row w g _ _ e hg), hM.turn rfl rfl rfl (by simp [World.setCell]) fun f hs hn => ⟨f, ⟨hs.1, .inr ⟨g, by simpa using hv, ?_, ?_⟩⟩, hn, fun g hg => .inl hg, fun k hk hnot => ?_⟩⟩
  · rw [ha]
    have := heap_setCell_same w g (i.toNat * 3 + j) _ e (.int .i64 n) hg
    have hc2 : (flY l).toArray.setIfInBounds (i.toNat * 3 + j) (.int .i64 n) = (flY (l.set i.toNat (setF x j n))).toArray := by
      apply Array.toList_inj.1
      rw [Array.toList_setIfInBounds, ← flY_set j n hj3 hx]
    rw [this, hc2]
  · rcases ho with ⟨_, hl⟩ | ⟨_, _, _, hm⟩
    · rw [hl] at h1; simp at h1; omega
    · simpa using hm
  · rw [ha]
    exact heap_setCell_other w ⟨g, _, none⟩ k _ fun e => hnot (by rw [hs.1, hv, e]; simp [obl, Value.ownBlock])
end
theorem run_build3Y {P : Program} {t e : TypeId} (ht : SlY P t e) (x y z : Y3) (w : World) :
    (Instr.buildSlice t 3 #[(0, .agg (cyY x).toArray), (1, .agg (cyY y).toArray), (2, .agg (cyY z).toArray)]).run P w = .ok (.slice (some ⟨w.heap.size, 0, none⟩) 3 3) (w.alloc (.cells (flY [x, y, z]).toArray e)) := by
  obtain ⟨i, hi, hs, hz, hb⟩ := ht.sz
  have h9 : Array.range 9 = #[0, 1, 2, 3, 4, 5, 6, 7, 8] := by decide
  simp [Instr.buildSlice, run_underlying ht.ut, sizeOf, typeInfo, zeroValue, hi, hz, hs, Instr.fill, newRow, Value.cells, cyY, flY, h9]
theorem x_new3Y {P : Program} {a : Act} {w W : World} {N : Nat} {L : List (Nat × Value)} {As : List Atom} {d : Option Nat} {ty : TypeId} {pos : String} {af : Array Edge} {gd : Option (Nat × Bool)} {t e : TypeId} {x y z : Operand} {u1 u2 u3 : Y3} (ht : SlY P t e) (hs : Fr a N L)
    (hx : evL L x = some (.agg (cyY u1).toArray)) (hy : evL L y = some (.agg (cyY u2).toArray)) (hz : evL L z = some (.agg (cyY u3).toArray)) (hM : Mem W w As) :
    ∃ v w', (execOp a.eval ⟨d, .buildSlice t 3 #[(0, x), (1, y), (2, z)], ty, pos, af, gd⟩).run P w = .ok (.value v) w' ∧ Mem W w' (aYs e v [u1, u2, u3] :: As) := by
  refine ⟨_, _, ?_, hM.new_ ((Below.refl _ _).alloc (Nat.le_refl _) (.cells (flY [u1, u2, u3]).toArray e)) (f := [w.heap.size]) (A := aYs e (.slice (some ⟨w.heap.size, 0, none⟩) 3 3) [u1, u2, u3]) ⟨rfl, .inr ⟨w.heap.size, rfl, by exact heap_alloc_new w _, by simp [maxLen]⟩⟩ (by simp) (by simp)⟩
  simp [execOp, hs.ev hx, hs.ev hy, hs.ev hz, run_build3Y ht u1 u2 u3]

/-! ### Slices of slices of structs, owned -/
def MatSatY (ts ti : TypeId) (v : Value) (vs : List Value) (m : List (List Y3)) (out : Nat → Bool) (w : World) (fp : List Nat) : Prop :=
  fp = obl v ++ rowsFp out 0 vs ∧ OwnR w ts v vs ∧ vs.length = m.length ∧
  ∀ i x l, out i = false → vs[i]? = some x → m[i]? = some l → OwnY w ti x l
def aMatYO (ts ti : TypeId) (v : Value) (vs : List Value) (m : List (List Y3)) (out : Nat → Bool) : Atom :=
  ⟨MatSatY ts ti v vs m out, fun ⟨h1, h2, h3, h4⟩ hk => by
    refine ⟨h1, h2.keep fun g hg => hk g (by rw [h1]; exact List.mem_append_left _ hg), h3, fun i x l ho hx hl => (h4 i x l ho hx hl).keep fun g hg => hk g ?_⟩
    rw [h1]
    exact List.mem_append_right _ (mem_rowsFp hx (by simpa using ho) g hg)⟩
def aMatY (ts ti : TypeId) (v : Value) (vs : List Value) (m : List (List Y3)) : Atom := aMatYO ts ti v vs m (fun _ => false)
theorem MatSatY.rd {ts ti : TypeId} {v : Value} {vs : List Value} {m : List (List Y3)} {w : World} {fp : List Nat} (h : MatSatY ts ti v vs m (fun _ => false) w fp) : RdYY w v m := by
  obtain ⟨h1, h2, h3, h4⟩ := h
  exact h2.rd h3 fun i u x hu hx => (h4 i u x rfl hu hx).rd
theorem Mem.rdYY {W w : World} {As : List Atom} (h : Mem W w As) (i : Nat) {ts ti : TypeId} {v : Value} {vs : List Value} {m : List (List Y3)} (hi : As[i]? = some (aMatY ts ti v vs m)) : RdYY w v m := by
  obtain ⟨f, h1, _⟩ := h.get hi
  exact MatSatY.rd h1
theorem Mem.rdRowY {W w : World} {As : List Atom} (h : Mem W w As) (i : Nat) {ts ti : TypeId} {v x : Value} {vs : List Value} {m : List (List Y3)} {l : List Y3} {out : Nat → Bool} {j : Nat} (hi : As[i]? = some (aMatYO ts ti v vs m out))
    (ho : out j = false) (hx : vs[j]? = some x) (hl : m[j]? = some l) : RdY w x l := by
  obtain ⟨f, h1, _⟩ := h.get hi
  exact (h1.2.2.2 j x l ho hx hl).rd
theorem Mem.atYY {W w : World} {As : List Atom} (h : Mem W w As) (i : Nat) {ts ti : TypeId} {v : Value} {vs : List Value} {m : List (List Y3)} {out : Nat → Bool} {j : Int} {l : List Y3} (hi : As[i]? = some (aMatYO ts ti v vs m out))
    (hl : idx m j = some l) : ∃ x, vs[j.toNat]? = some x ∧ ElemAt w v j x := by
  obtain ⟨f, ⟨h1, h2, h3, h4⟩, _⟩ := h.get hi
  obtain ⟨j0, j1, hj⟩ := idx_spec hl
  have hlt : j.toNat < vs.length := by omega
  have : RdS (fun _ u (x : Value) => u = x) w v vs := h2.rd rfl fun i u x hu hx => by rw [hu] at hx; exact Option.some.inj hx
  have hx : idx vs j = some vs[j.toNat] := by
    have := idx_mk (l := vs) (i := j.toNat) (List.getElem?_eq_getElem hlt)
    rwa [Int.toNat_of_nonneg j0] at this
  obtain ⟨u, he, hu⟩ := RdS.at_ this hx
  subst hu
  exact ⟨_, List.getElem?_eq_getElem hlt, he⟩
theorem Mem.atYYv {W w : World} {As : List Atom} (h : Mem W w As) (i : Nat) {ts ti : TypeId} {v x : Value} {vs : List Value} {m : List (List Y3)} {out : Nat → Bool} {j : Int} {l : List Y3} (hi : As[i]? = some (aMatYO ts ti v vs m out))
    (hl : idx m j = some l) (hv : vs[j.toNat]? = some x) : ElemAt w v j x := by
  obtain ⟨u, h1, h2⟩ := h.atYY i hi hl
  rw [h1] at hv
  cases hv
  exact h2
theorem Mem.rdYYO {W w : World} {As : List Atom} {ts ti : TypeId} {v : Value} {vs : List Value} {m : List (List Y3)} {out : Nat → Bool} (h : Mem W w As) (i : Nat) (hi : As[i]? = some (aMatYO ts ti v vs m out)) : RdS (fun _ _ (_ : List Y3) => True) w v m := by
  obtain ⟨f, ⟨h1, h2, h3, h4⟩, _⟩ := h.get hi
  exact h2.rd h3 fun _ _ _ _ _ => trivial
theorem Mem.nilYY {W w : World} {As : List Atom} (h : Mem W w As) (ts ti : TypeId) : Mem W w (aMatY ts ti (.slice none 0 0) [] [] :: As) :=
  h.new_ (Below.refl _ _) (f := []) ⟨rfl, OwnR.nil_ _ _, rfl, fun i x l _ hx _ => by simp at hx⟩ List.nodup_nil (fun g hg => by cases hg)
section
variable {W w : World} {As : List Atom} {ts ti : TypeId} {v x : Value} {vs : List Value} {m : List (List Y3)} {l : List Y3} {out : Nat → Bool} {j : Nat}
theorem Mem.takeY (h : Mem W w (aMatYO ts ti v vs m out :: As)) (ho : out j = false) (hx : vs[j]? = some x) (hl : m[j]? = some l) : Mem W w (aYs ti x l :: aMatYO ts ti v vs m (setO out j) :: As) := by
  refine h.perm2 fun F ⟨f, F', e, ⟨h1, h2, h3, h4⟩, h5⟩ => ?_
  have hp := rowsFp_take (out := out) (k := 0) (j := j) hx (by simpa using ho)
  simp only [Nat.zero_add] at hp
  refine ⟨obl x ++ ((obl v ++ rowsFp (setO out j) 0 vs) ++ F'), ?_, ⟨obl x, _, rfl, ⟨rfl, h4 j x l ho hx hl⟩, ⟨_, F', rfl, ⟨rfl, h2, h3, fun i y k hy => h4 i y k ?_⟩, h5⟩⟩⟩
  · rw [e, h1]
    refine List.perm_iff_count.2 fun b => ?_
    have := hp.count_eq b
    simp only [List.count_append] at this ⊢
    omega
  · by_cases e : i = j
    · rw [e, setO_same] at hy; cases hy
    · rw [setO_other out e] at hy; exact hy
theorem Mem.putY (h : Mem W w (aYs ti x l :: aMatYO ts ti v vs m (setO out j) :: As)) (ho : out j = false) (hx : vs[j]? = some x) : Mem W w (aMatYO ts ti v vs (m.set j l) out :: As) := by
  refine h.perm2 fun F ⟨f, F1, e, ⟨h1, h2⟩, ⟨f2, F', e2, ⟨g1, g2, g3, g4⟩, h5⟩⟩ => ?_
  have hp := rowsFp_take (out := out) (k := 0) (j := j) hx (by simpa using ho)
  simp only [Nat.zero_add] at hp
  refine ⟨(obl v ++ rowsFp out 0 vs) ++ F', ?_, ⟨_, F', rfl, ⟨rfl, g2, by simpa using g3, fun i y k hy hv hm => ?_⟩, h5⟩⟩
  · rw [e, e2, h1, g1]
    refine List.perm_iff_count.2 fun b => ?_
    have := hp.count_eq b
    simp only [List.count_append] at this ⊢
    omega
  · by_cases e : i = j
    · subst e
      rw [hx] at hv
      have hlt : i < m.length := by have := (List.getElem?_eq_some_iff.1 hx).1; omega
      rw [List.getElem?_set_self hlt] at hm
      rw [← Option.some.inj hv, ← Option.some.inj hm]
      exact h2
    · rw [List.getElem?_set_ne (fun h => e h.symm)] at hm
      exact g4 i y k (by rw [setO_other out e]; exact hy) hv hm
end
section
variable {P : Program} {ops : Array Oper} {Q : Exit → Act → World → Prop} {a : Act} {w W : World} {rest : List Oper} {N : Nat} {L : List (Nat × Value)} {As : List Atom}
variable {d : Option Nat} {ty : TypeId} {pos : String} {af : Array Edge} {gd : Option (Nat × Bool)} {t e ts ti : TypeId} {z : Value} {by_ : Nat} {x y s : Operand}
theorem x_makeYY {n : Int} (ht : P.underlying t = some (.slice ts)) (he : ElT P ts (.slice none 0 0) 24) (hs : Fr a N L) (hx : evL L x = some (.int .i64 n)) (hM : Mem W w As) (hn : guardO (decide (0 ≤ n ∧ n < 1000000000)) = some ()) :
    ∃ v w', (execOp a.eval ⟨d, .makeSlice t x x, ty, pos, af, gd⟩).run P w = .ok (.value v) w' ∧ Mem W w' (aMatY ts ti v (List.replicate n.toNat (.slice none 0 0)) (List.replicate n.toNat []) :: As) := by
  obtain ⟨v, w', h1, h2⟩ := x_make (d := d) (ty := ty) (pos := pos) (af := af) (gd := gd) ht he rfl (by omega) hs hx hM hn
  refine ⟨v, w', h1, h2.perm2 fun F ⟨f, F', e, ⟨h3, h4⟩, h5⟩ => ⟨F, List.Perm.refl F, ⟨f, F', e, ⟨by rw [h3, rowsFp_nils, List.append_nil], h4, by simp, fun i y l _ hy hl => ?_⟩, h5⟩⟩⟩
  have e1 : y = .slice none 0 0 := by
    rw [List.getElem?_replicate] at hy
    split at hy
    · exact (Option.some.inj hy).symm
    · cases hy
  have e2 : l = [] := by
    rw [List.getElem?_replicate] at hl
    split at hl
    · exact (Option.some.inj hl).symm
    · cases hl
  rw [e1, e2]
  exact OwnY.nil_ _ _
theorem Mem.storeYO {v : Value} {vs : List Value} {m : List (List Y3)} {out : Nat → Bool} {i : Int} (hM : Mem W w (aMatYO ts ti v vs m out :: As)) (h0 : 0 ≤ i) (h1 : i < vs.length) (ho : out i.toNat = true) (u : Value) :
    (∃ u', w.cell? (elemAddr v i) = some u') ∧ w.frozen? (elemAddr v i) = false ∧ Mem W (w.setCell (elemAddr v i) u) (aMatYO ts ti v (vs.set i.toNat u) m out :: As) := by
  obtain ⟨f, ⟨hf, how, _⟩, _⟩ := hM.get (i := 0) rfl
  obtain ⟨hc, hfz, h2, h3⟩ := own_store how h0 h1 u
  refine ⟨hc, hfz, hM.turn h3.os h3.tape h3.output h3.size fun f hs hn => ?_⟩
  obtain ⟨e1, e2, e3, e4⟩ := hs
  have hno : ∀ k, k ∉ f → some k ≠ v.ownBlock := fun k hk e => hk (by rw [e1]; exact List.mem_append_left _ (by unfold obl; rw [← e]; simp))
  have hdis : ∀ g ∈ rowsFp out 0 vs, some g ≠ v.ownBlock := fun g hg e => by
    rw [e1] at hn
    exact (List.nodup_append.1 hn).2.2 g (by unfold obl; rw [← e]; simp) g hg rfl
  refine ⟨f, ⟨by rw [e1, rowsFp_set u (by simpa using ho)], h2, by simpa using e3, fun j y l hj hy hl => ?_⟩, hn, fun g hg => .inl hg, fun k hk hnot => h3.block k hk (hno k hnot)⟩
  have hne : i.toNat ≠ j := fun e => by rw [e, hj] at ho; cases ho
  rw [List.getElem?_set_ne hne] at hy
  refine (e4 j y l hj hy hl).keep fun g hg => h3.block g ((e4 j y l hj hy hl).lt g hg) (hdis g (mem_rowsFp hy (by simpa using hj) g hg))
theorem x_storeYH {v xv : Value} {vs : List Value} {i : Int} {m m' : List (List Y3)} {l : List Y3} {out : Nat → Bool} (he : ElT P ts z by_) (hM : Mem W w (aYs ti xv l :: aMatYO ts ti v vs m (setO out i.toNat) :: As)) (ho : out i.toNat = false) (hu : upd m i l = some m') :
    ∃ w', (Instr.storeAt ts (.pointer (some (elemAddr v i))) xv).run P w = .ok () w' ∧ Mem W w' (aMatYO ts ti v (vs.set i.toNat xv) m' out :: As) := by
  obtain ⟨rfl, h0, h1⟩ := upd_spec hu
  have hx1 := hM.oneY
  have hM1 : Mem W w (aMatYO ts ti v vs m (setO out i.toNat) :: aYs ti xv l :: As) := hM.front 1 rfl
  obtain ⟨f, ⟨_, _, hlen, _⟩, _⟩ := hM1.get (i := 0) rfl
  obtain ⟨⟨u', hc⟩, hf, h2⟩ := hM1.storeYO h0 (by omega) (setO_same _ _) xv
  obtain ⟨j, hj, _, hjs, _⟩ := he.info
  refine ⟨_, run_storeAt ⟨j, hj, hjs⟩ hx1 hc hf, ?_⟩
  have h3 : Mem W _ (aYs ti xv l :: aMatYO ts ti v (vs.set i.toNat xv) m (setO out i.toNat) :: As) := h2.front 1 rfl
  exact h3.putY ho (by rw [List.getElem?_set_self (by omega)])
theorem x_storeYR {v xv : Value} {vs : List Value} {i : Int} {m m' : List (List Y3)} {l : List Y3} (he : ElT P ts z by_) (hM : Mem W w (aMatY ts ti v vs m :: aYs ti xv l :: As)) (hu : upd m i l = some m') :
    ∃ w', (Instr.storeAt ts (.pointer (some (elemAddr v i))) xv).run P w = .ok () w' ∧ Mem W w' (aMatY ts ti v (vs.set i.toNat xv) m' :: As) := by
  obtain ⟨_, h0, h1⟩ := upd_spec hu
  obtain ⟨f, ⟨_, _, hlen, _⟩, _⟩ := hM.get (i := 0) rfl
  have hM2 := (hM.takeY (j := i.toNat) rfl (List.getElem?_eq_getElem (by omega)) (List.getElem?_eq_getElem (by omega))).drop
  exact x_storeYH he (hM2.front 1 rfl) rfl hu
end
end Go.Proofs.Ytaagklbiebogfaa
