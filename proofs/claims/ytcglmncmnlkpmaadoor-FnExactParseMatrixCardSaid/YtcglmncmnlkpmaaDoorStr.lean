/- The library of rules: Ops, Run, Rule, Held, More, Part, Str. -/
import Derived.Test.YtcglmncmnlkpmaaDoorMem
import Derived.Maps.AppendAt
import Derived.ArgAppend
import Derived.OrdersHeld
import Derived.Laws.Cover3
import Derived.Laws.StructEq
import Derived.Laws.Tables
import Derived.Deep.WholeRow
/- One lemma an operation, one rule a form of code. Nothing of a program is named here. -/
namespace Go.Proofs.YtcglmncmnlkpmaaDoor
open Go.RowKit
set_option linter.unusedVariables false

/-! ### Facts on the program's types -/
structure SlT (P : Program) (t e : TypeId) : Prop where
  ut : P.underlying t = some (.slice e)
  sz : ∃ i, P.info? e = some i ∧ i.size = 1
structure ElT (P : Program) (e : TypeId) (z : Value) (bytes : Nat) : Prop where
  info : ∃ i, P.info? e = some i ∧ i.zero = some z ∧ i.size = 1 ∧ i.bytes = bytes
theorem ElT.mk_ {P : Program} {e : TypeId} {z : Value} {bytes : Nat} (h : (P.info? e).map (fun i => (i.zero, i.size, i.bytes)) = some (some z, 1, bytes)) : ElT P e z bytes :=
  ⟨info_parts h⟩
theorem SlT.mk_ {P : Program} {t e : TypeId} {z : Value} {bytes : Nat} (h : P.underlying t = some (.slice e)) (he : ElT P e z bytes) : SlT P t e := by
  obtain ⟨i, h1, h2, h3, h4⟩ := he.info
  exact ⟨h, i, h1, h3⟩
/-- A type whose values are one cell, read by a plain load. -/
def Sc (P : Program) (t : TypeId) : Prop := ∀ w, (isAgg t).run P w = .ok false w
theorem Sc.int {P : Program} {t : TypeId} {k : IntKind} (h : P.underlying t = some (.int k)) : Sc P t := fun w => by simp [isAgg, run_underlying h]
theorem Sc.bool {P : Program} {t : TypeId} (h : P.underlying t = some .bool) : Sc P t := fun w => by simp [isAgg, run_underlying h]
theorem Sc.slice {P : Program} {t e : TypeId} (h : P.underlying t = some (.slice e)) : Sc P t := fun w => by simp [isAgg, run_underlying h]
theorem Sc.func {P : Program} {t : TypeId} {x y z} (h : P.underlying t = some (.func x y z)) : Sc P t := fun w => by simp [isAgg, run_underlying h]

section
variable {P : Program} {a : Act} {w : World} {N : Nat} {L : List (Nat × Value)} {d : Option Nat} {ty : TypeId} {pos : String} {af : Array Edge} {gd : Option (Nat × Bool)} {x y c : Operand} {u v : Value} {k : IntKind} {m n r : Int} {b : Bool}

theorem y_move (hs : Fr a N L) (h : evL L x = some v) : Yld P ⟨d, .move x, ty, pos, af, gd⟩ a w v := by
  unfold Yld; simp only [execOp, hs.ev h]; rfl
theorem y_assign (hs : Fr a N L) (h : evL L x = some v) : Yld P ⟨d, .assign x, ty, pos, af, gd⟩ a w v := by
  unfold Yld; simp only [execOp, hs.ev h]; rfl
theorem y_pick (hs : Fr a N L) {u v : Value} (hc : evL L c = some (.bool b)) (hx : evL L x = some u) (hy : evL L y = some v) : Yld P ⟨d, .pick c x y, ty, pos, af, gd⟩ a w (cond b u v) := by
  unfold Yld; simp only [execOp, hs.ev hc, hs.ev hx, hs.ev hy]; cases b <;> rfl
theorem y_pickT (hs : Fr a N L) {v : Value} {b : Bool} (hc : evL L c = some (.bool b)) (hb : b = true) (hx : evL L x = some v) : Yld P ⟨d, .pick c x y, ty, pos, af, gd⟩ a w v := by
  subst hb; unfold Yld; simp only [execOp, hs.ev hc, hs.ev hx]; rfl
theorem y_pickF (hs : Fr a N L) {v : Value} {b : Bool} (hc : evL L c = some (.bool b)) (hb : b = false) (hy : evL L y = some v) : Yld P ⟨d, .pick c x y, ty, pos, af, gd⟩ a w v := by
  subst hb; unfold Yld; simp only [execOp, hs.ev hc, hs.ev hy]; rfl
theorem y_not (hs : Fr a N L) {t : TypeId} (h : evL L x = some (.bool b)) : Yld P ⟨d, .unOp .not t x, ty, pos, af, gd⟩ a w (.bool (!b)) := by
  unfold Yld; simp only [execOp, hs.ev h]; rfl
theorem y_neg (hs : Fr a N L) {t : TypeId} (h : evL L x = some (.int .i64 n)) (hr : ck (-n) = some r) : Yld P ⟨d, .unOp .neg t x, ty, pos, af, gd⟩ a w (.int .i64 r) := by
  obtain ⟨rfl, hb⟩ := ck_spec hr
  have : IntKind.i64.wrap (0 - n) = -n := by rw [IntWalk.i64_in _ (by omega)]; omega
  unfold Yld; simp only [execOp, hs.ev h, Op.unary, Op.intArith, this]; rfl
theorem y_extract (hs : Fr a N L) {vs : Array Value} {i : Nat} (h : evL L x = some (.tuple vs)) (hv : vs[i]? = some v) : Yld P ⟨d, .extract x i, ty, pos, af, gd⟩ a w v := by
  unfold Yld; simp only [execOp, hs.ev h, Instr.extract, hv]; rfl
theorem run_bin (op : BinOp) (t : TypeId) (x y : Operand) (m n : Int) (w : World) : (eqGuard op t x y (.int k m) (.int k n)).run P w = .ok () w := by
  cases op <;> rfl
section
variable {t t' : TypeId}
theorem y_lss (hs : Fr a N L) (hx : evL L x = some (.int k m)) (hy : evL L y = some (.int k n)) : Yld P ⟨d, .binOp .lss t x y t', ty, pos, af, gd⟩ a w (.bool (decide (m < n))) := by
  unfold Yld; simp [execOp, hs.ev hx, hs.ev hy, run_bin, binOp, Op.intCmp]
theorem y_leq (hs : Fr a N L) (hx : evL L x = some (.int k m)) (hy : evL L y = some (.int k n)) : Yld P ⟨d, .binOp .leq t x y t', ty, pos, af, gd⟩ a w (.bool (decide (m ≤ n))) := by
  unfold Yld; simp [execOp, hs.ev hx, hs.ev hy, run_bin, binOp, Op.intCmp]
theorem y_gtr (hs : Fr a N L) (hx : evL L x = some (.int k m)) (hy : evL L y = some (.int k n)) : Yld P ⟨d, .binOp .gtr t x y t', ty, pos, af, gd⟩ a w (.bool (decide (m > n))) := by
  unfold Yld; simp [execOp, hs.ev hx, hs.ev hy, run_bin, binOp, Op.intCmp]
theorem y_geq (hs : Fr a N L) (hx : evL L x = some (.int k m)) (hy : evL L y = some (.int k n)) : Yld P ⟨d, .binOp .geq t x y t', ty, pos, af, gd⟩ a w (.bool (decide (m ≥ n))) := by
  unfold Yld; simp [execOp, hs.ev hx, hs.ev hy, run_bin, binOp, Op.intCmp]
theorem y_eql (hs : Fr a N L) (hx : evL L x = some (.int k m)) (hy : evL L y = some (.int k n)) : Yld P ⟨d, .binOp .eql t x y t', ty, pos, af, gd⟩ a w (.bool (m == n)) := by
  unfold Yld; simp [execOp, hs.ev hx, hs.ev hy, run_bin, binOp, Op.intCmp]
theorem y_neq (hs : Fr a N L) (hx : evL L x = some (.int k m)) (hy : evL L y = some (.int k n)) : Yld P ⟨d, .binOp .neq t x y t', ty, pos, af, gd⟩ a w (.bool (m != n)) := by
  unfold Yld; simp [execOp, hs.ev hx, hs.ev hy, run_bin, binOp, Op.intCmp]
theorem y_eqlB (ht : P.underlying t = some .bool) (hs : Fr a N L) {p q : Bool} (hx : evL L x = some (.bool p)) (hy : evL L y = some (.bool q)) : Yld P ⟨d, .binOp .eql t x y t', ty, pos, af, gd⟩ a w (.bool (p == q)) := by
  have h1 : (eqGuard .eql t x y (.bool p) (.bool q)).run P w = .ok () w := rfl
  unfold Yld; simp [execOp, hs.ev hx, hs.ev hy, h1, run_eql_bool w t p q ht]
theorem y_neqB (ht : P.underlying t = some .bool) (hs : Fr a N L) {p q : Bool} (hx : evL L x = some (.bool p)) (hy : evL L y = some (.bool q)) : Yld P ⟨d, .binOp .neq t x y t', ty, pos, af, gd⟩ a w (.bool (p != q)) := by
  have h1 : (eqGuard .neq t x y (.bool p) (.bool q)).run P w = .ok () w := rfl
  unfold Yld; simp [execOp, hs.ev hx, hs.ev hy, h1, run_neq_bool w t p q ht, bne]
theorem y_add (hs : Fr a N L) (hx : evL L x = some (.int .i64 m)) (hy : evL L y = some (.int .i64 n)) (hr : ck (m + n) = some r) : Yld P ⟨d, .binOp .add t x y t', ty, pos, af, gd⟩ a w (.int .i64 r) := by
  obtain ⟨rfl, hb⟩ := ck_spec hr
  unfold Yld; simp [execOp, hs.ev hx, hs.ev hy, run_bin, binOp, Op.intArith, IntWalk.i64_in _ hb]
theorem y_sub (hs : Fr a N L) (hx : evL L x = some (.int .i64 m)) (hy : evL L y = some (.int .i64 n)) (hr : ck (m - n) = some r) : Yld P ⟨d, .binOp .sub t x y t', ty, pos, af, gd⟩ a w (.int .i64 r) := by
  obtain ⟨rfl, hb⟩ := ck_spec hr
  unfold Yld; simp [execOp, hs.ev hx, hs.ev hy, run_bin, binOp, Op.intArith, IntWalk.i64_in _ hb]
theorem y_mul (hs : Fr a N L) (hx : evL L x = some (.int .i64 m)) (hy : evL L y = some (.int .i64 n)) (hr : ck (m * n) = some r) : Yld P ⟨d, .binOp .mul t x y t', ty, pos, af, gd⟩ a w (.int .i64 r) := by
  obtain ⟨rfl, hb⟩ := ck_spec hr
  unfold Yld; simp [execOp, hs.ev hx, hs.ev hy, run_bin, binOp, Op.intArith, IntWalk.i64_in _ hb]
theorem y_quo (hs : Fr a N L) (hx : evL L x = some (.int .i64 m)) (hy : evL L y = some (.int .i64 n)) (hr : quoO m n = some r) : Yld P ⟨d, .binOp .quo t x y t', ty, pos, af, gd⟩ a w (.int .i64 r) := by
  unfold quoO at hr
  cases hn : n == 0 with
  | true => rw [hn] at hr; cases hr
  | false =>
    rw [hn] at hr
    obtain ⟨rfl, hb⟩ := ck_spec hr
    have : ¬ n = 0 := by simpa using hn
    unfold Yld; simp [execOp, hs.ev hx, hs.ev hy, run_bin, binOp, Op.intDiv, IntWalk.i64_in _ hb, this]
theorem y_rem (hs : Fr a N L) (hx : evL L x = some (.int .i64 m)) (hy : evL L y = some (.int .i64 n)) (hr : remO m n = some r) : Yld P ⟨d, .binOp .rem t x y t', ty, pos, af, gd⟩ a w (.int .i64 r) := by
  unfold remO at hr
  cases hn : n == 0 with
  | true => rw [hn] at hr; cases hr
  | false =>
    rw [hn] at hr
    have h1 := Option.some.inj hr
    subst h1
    have : ¬ n = 0 := by simpa using hn
    unfold Yld; simp [execOp, hs.ev hx, hs.ev hy, run_bin, binOp, Op.intDiv, this]
end
theorem exec_builtin (b : Builtin) (xs : List Operand) (ats : Array TypeId) {vs : List Value} (hs : Fr a N L) (he : evA L xs = some vs) :
    ∃ cs, execOp a.eval ⟨d, .call ⟨.builtin b, xs.toArray, ats⟩, ty, pos, af, gd⟩ = builtin b ats ty cs vs.toArray := by
  refine ⟨xs.toArray.map fun | .const _ => true | _ => false, ?_⟩
  rw [← hs.evA he, ← List.map_toArray]
  rfl
theorem y_len {α : Type} {R : World → Value → α → Prop} {t e : TypeId} {l : List α} (ht : P.underlying t = some (.slice e)) (hs : Fr a N L) (hx : evL L x = some v) (h : RdS R w v l) :
    Yld P ⟨d, .call ⟨.builtin .len, #[x], #[t]⟩, ty, pos, af, gd⟩ a w (.int .i64 l.length) := by
  obtain ⟨A, c, rfl, _⟩ := h
  have he : evA L [x] = some [.slice A l.length c] := by simp [evA, hx]
  unfold Yld
  obtain ⟨cs, hcs⟩ := exec_builtin (d := d) (ty := ty) (pos := pos) (af := af) (gd := gd) .len [x] #[t] hs he
  rw [hcs]
  simp [builtin, Builtin.len_, run_underlying ht, goInt]
theorem y_min (hs : Fr a N L) {ats : Array TypeId} (hx : evL L x = some (.int .i64 m)) (hy : evL L y = some (.int .i64 n)) : Yld P ⟨d, .call ⟨.builtin .min, #[x, y], ats⟩, ty, pos, af, gd⟩ a w (.int .i64 (min m n)) := by
  have he : evA L [x, y] = some [.int .i64 m, .int .i64 n] := by simp [evA, hx, hy]
  have e : (if n < m then n else m) = min m n := by split <;> omega
  unfold Yld
  obtain ⟨cs, hcs⟩ := exec_builtin (d := d) (ty := ty) (pos := pos) (af := af) (gd := gd) .min [x, y] ats hs he
  rw [hcs]
  simp [builtin, Builtin.min_, Builtin.min2, e]
theorem y_max (hs : Fr a N L) {ats : Array TypeId} (hx : evL L x = some (.int .i64 m)) (hy : evL L y = some (.int .i64 n)) : Yld P ⟨d, .call ⟨.builtin .max, #[x, y], ats⟩, ty, pos, af, gd⟩ a w (.int .i64 (max m n)) := by
  have he : evA L [x, y] = some [.int .i64 m, .int .i64 n] := by simp [evA, hx, hy]
  have e : (if n > m then n else m) = max m n := by split <;> omega
  unfold Yld
  obtain ⟨cs, hcs⟩ := exec_builtin (d := d) (ty := ty) (pos := pos) (af := af) (gd := gd) .max [x, y] ats hs he
  rw [hcs]
  simp [builtin, Builtin.max_, Builtin.max2, e]
theorem y_makeFunc (hs : Fr a N L) {fn : Fn} {xs : List Operand} {vs : List Value} (he : evA L xs = some vs) : Yld P ⟨d, .makeFunc fn #[] xs.toArray, ty, pos, af, gd⟩ a w (.func fn #[] vs.toArray) := by
  unfold Yld
  simp only [execOp, Instr.makeFunc]
  rw [show xs.toArray.map a.eval = vs.toArray by rw [← hs.evA he]; simp]
  simp
theorem y_index {t e : TypeId} {i : Int} (ht : SlT P t e) (hs : Fr a N L) (hx : evL L x = some v) (hy : evL L y = some (.int .i64 i)) (h : ElemAt w v i u) :
    Yld P ⟨d, .indexAddr t x y, ty, pos, af, gd⟩ a w (.pointer (some (elemAddr v i))) := by
  obtain ⟨ad, n, c, rfl, h0, h1, _, _⟩ := h
  obtain ⟨i0, hi, hsz⟩ := ht.sz
  unfold Yld
  simp [execOp, hs.ev hx, hs.ev hy, Instr.indexAt, run_underlying ht.ut, asIntOf, h0, h1, sizeOf, typeInfo, hi, hsz, elemAddr]
theorem y_load {t : TypeId} {p : Addr} (ht : Sc P t) (hs : Fr a N L) (hx : evL L x = some (.pointer (some p))) (h : w.cell? p = some u) : Yld P ⟨d, .load t x, ty, pos, af, gd⟩ a w u := by
  unfold Yld
  simp [execOp, hs.ev hx, Instr.loadAt, Instr.sureAddr, loadVar, ht w, load, Sem.run, h]
theorem ElemAt.cell {i : Int} (h : ElemAt w v i u) : w.cell? (elemAddr v i) = some u := by
  obtain ⟨ad, n, c, rfl, h0, h1, _, hc⟩ := h
  exact hc
end
end Go.Proofs.YtcglmncmnlkpmaaDoor
/- The rules for operations that change memory, and for each form of code. Nothing of a program is named here. -/
namespace Go.Proofs.YtcglmncmnlkpmaaDoor
open Go.RowKit
set_option linter.unusedVariables false

/-! ### Rows taken out of a matrix, and put back -/
def setO (out : Nat → Bool) (j : Nat) : Nat → Bool := fun i => cond (Nat.beq i j) true (out i)
theorem setO_same (out : Nat → Bool) (j : Nat) : setO out j j = true := by simp [setO]
theorem setO_other (out : Nat → Bool) {i j : Nat} (h : i ≠ j) : setO out j i = out i := by
  have : Nat.beq i j = false := by
    cases hb : Nat.beq i j
    · rfl
    · exact absurd (Nat.eq_of_beq_eq_true hb) h
  simp [setO, this]
theorem rowsFp_congr {o o' : Nat → Bool} : ∀ {vs : List Value} {k : Nat}, (∀ i, k ≤ i → o i = o' i) → rowsFp o k vs = rowsFp o' k vs
  | [], _, _ => rfl
  | x :: r, k, h => by simp only [rowsFp, h k (Nat.le_refl _)]; rw [rowsFp_congr (fun i hi => h i (by omega))]
theorem rowsFp_take {out : Nat → Bool} : ∀ {vs : List Value} {k j : Nat} {x : Value}, vs[j]? = some x → out (k + j) = false → (rowsFp out k vs).Perm (obl x ++ rowsFp (setO out (k + j)) k vs)
  | y :: r, k, 0, x, hx, ho => by
    simp only [List.getElem?_cons_zero, Option.some.injEq] at hx
    subst hx
    simp only [Nat.add_zero] at ho ⊢
    simp only [rowsFp, ho, cond_false, setO_same, cond_true, List.nil_append]
    rw [rowsFp_congr (o' := setO out k) (fun i hi => (setO_other out (by omega)).symm)]
  | y :: r, k, j + 1, x, hx, ho => by
    simp only [List.getElem?_cons_succ] at hx
    have e : k + 1 + j = k + (j + 1) := by omega
    have := rowsFp_take (out := out) (k := k + 1) (j := j) hx (by rw [e]; exact ho)
    rw [e] at this
    simp only [rowsFp, setO_other out (show k ≠ k + (j + 1) by omega)]
    refine ((List.Perm.refl _).append this).trans ?_
    rw [← List.append_assoc, ← List.append_assoc]
    exact List.perm_append_comm.append (List.Perm.refl _)
theorem rowsFp_set {out : Nat → Bool} : ∀ {vs : List Value} {k j : Nat} (x : Value), out (k + j) = true → rowsFp out k (vs.set j x) = rowsFp out k vs
  | [], _, _, _, _ => rfl
  | y :: r, k, 0, x, ho => by
    simp only [Nat.add_zero] at ho
    simp only [List.set_cons_zero, rowsFp, ho, cond_true]
  | y :: r, k, j + 1, x, ho => by
    simp only [List.set_cons_succ, rowsFp]
    rw [rowsFp_set x (by rw [← ho]; congr 1; omega)]
theorem rowsFp_append {out : Nat → Bool} : ∀ {vs : List Value} {k : Nat} (x : Value), rowsFp out k (vs ++ [x]) = rowsFp out k vs ++ cond (out (k + vs.length)) [] (obl x)
  | [], k, x => by simp [rowsFp]
  | y :: r, k, x => by
    simp only [List.cons_append, rowsFp, List.length_cons]
    rw [rowsFp_append x, List.append_assoc, show k + 1 + r.length = k + (r.length + 1) by omega]

theorem Mem.perm2 {W w : World} {As Bs : List Atom} (h : Mem W w As) (hF : ∀ F, Hpl w As F → ∃ G, F.Perm G ∧ Hpl w Bs G) : Mem W w Bs := by
  obtain ⟨F, h1, h2, h3⟩ := h.hp.ex
  obtain ⟨G, g1, g2⟩ := hF F h1
  exact ⟨h.bel, ⟨G, g2, g1.nodup_iff.1 h2, fun g hg => h3 g (g1.mem_iff.2 hg)⟩⟩

section
variable {W w : World} {As : List Atom} {ts ti : TypeId} {v x : Value} {vs : List Value} {m : List (List Int)} {l : List Int} {out : Nat → Bool} {j : Nat}
theorem Mem.take (h : Mem W w (aMatO ts ti v vs m out :: As)) (ho : out j = false) (hx : vs[j]? = some x) (hl : m[j]? = some l) : Mem W w (aInts ti x l :: aMatO ts ti v vs m (setO out j) :: As) := by
  refine h.perm2 fun F ⟨f, F', e, ⟨h1, h2, h3, h4⟩, h5⟩ => ?_
  have hp := rowsFp_take (out := out) (k := 0) (j := j) hx (by simpa using ho)
  simp only [Nat.zero_add] at hp
  refine ⟨obl x ++ ((obl v ++ rowsFp (setO out j) 0 vs) ++ F'), ?_, ⟨obl x, _, rfl, ⟨rfl, h4 j x l ho hx hl⟩, ⟨_, F', rfl, ⟨rfl, h2, h3, fun i y k hy => h4 i y k ?_⟩, h5⟩⟩⟩
  · rw [e, h1]
    refine List.perm_iff_count.2 fun b => ?_
    have := hp.count_eq b
    simp only [List.count_append] at this ⊢
    omega
  · by_cases e : i = j
    · rw [e, setO_same] at hy; cases hy
    · rw [setO_other out e] at hy; exact hy
theorem Mem.put (h : Mem W w (aInts ti x l :: aMatO ts ti v vs m (setO out j) :: As)) (ho : out j = false) (hx : vs[j]? = some x) : Mem W w (aMatO ts ti v vs (m.set j l) out :: As) := by
  refine h.perm2 fun F ⟨f, F1, e, ⟨h1, h2⟩, ⟨f2, F', e2, ⟨g1, g2, g3, g4⟩, h5⟩⟩ => ?_
  have hp := rowsFp_take (out := out) (k := 0) (j := j) hx (by simpa using ho)
  simp only [Nat.zero_add] at hp
  refine ⟨(obl v ++ rowsFp out 0 vs) ++ F', ?_, ⟨_, F', rfl, ⟨rfl, g2, by simpa using g3, fun i y k hy hv hm => ?_⟩, h5⟩⟩
  · rw [e, e2, h1, g1]
    refine List.perm_iff_count.2 fun b => ?_
    have := hp.count_eq b
    simp only [List.count_append] at this ⊢
    omega
  · by_cases e : i = j
    · subst e
      rw [hx] at hv
      have hlt : i < m.length := by have := (List.getElem?_eq_some_iff.1 hx).1; omega
      rw [List.getElem?_set_self hlt] at hm
      rw [← Option.some.inj hv, ← Option.some.inj hm]
      exact h2
    · rw [List.getElem?_set_ne (fun h => e h.symm)] at hm
      exact g4 i y k (by rw [setO_other out e]; exact hy) hv hm
theorem Mem.dropRow (h : Mem W w (aInts ti x l :: As)) : Mem W w As := h.drop
end

/-! ### Operations on memory -/
theorem cells_one (u : Value) (h : u.oneCell' = true) : u.cells = #[u] := by cases u <;> first | rfl | cases h
theorem run_build0 {P : Program} {t e : TypeId} (ht : SlT P t e) (w : World) : (Instr.buildSlice t 0 #[]).run P w = .ok (.slice (some ⟨w.heap.size, 0, none⟩) 0 0) (w.alloc (.cells #[] e)) := by
  obtain ⟨i, hi, hs⟩ := ht.sz
  simp [Instr.buildSlice, run_underlying ht.ut, sizeOf, typeInfo, hi, Instr.fill, newRow]
  congr 2
  exact Array.ext' (by simp)
theorem arr1 (f : Nat → Value) (u : Value) : ((Array.map f (Array.range 1)).setIfInBounds 0 u) = #[u] := by
  apply Array.ext'
  simp [List.range_succ]
theorem arr2 (f : Nat → Value) (u u' : Value) : ((Array.map f (Array.range 2)).setIfInBounds 0 u).setIfInBounds 1 u' = #[u, u'] := by
  apply Array.ext'
  simp [List.range_succ]
theorem run_build1 {P : Program} {t e : TypeId} {z : Value} {by_ : Nat} (ht : P.underlying t = some (.slice e)) (he : ElT P e z by_) (u : Value) (hu : u.oneCell' = true) (w : World) :
    (Instr.buildSlice t 1 #[(0, u)]).run P w = .ok (.slice (some ⟨w.heap.size, 0, none⟩) 1 1) (w.alloc (.cells #[u] e)) := by
  obtain ⟨i, hi, hz, hs, hb⟩ := he.info
  have h1 := cells_one u hu
  simp [Instr.buildSlice, run_underlying ht, sizeOf, typeInfo, zeroValue, hi, hz, hs, Instr.fill, newRow, h1, arr1]
theorem run_build2 {P : Program} {t e : TypeId} {z : Value} {by_ : Nat} (ht : P.underlying t = some (.slice e)) (he : ElT P e z by_) (u u' : Value) (hu : u.oneCell' = true) (hu' : u'.oneCell' = true) (w : World) :
    (Instr.buildSlice t 2 #[(0, u), (1, u')]).run P w = .ok (.slice (some ⟨w.heap.size, 0, none⟩) 2 2) (w.alloc (.cells #[u, u'] e)) := by
  obtain ⟨i, hi, hz, hs, hb⟩ := he.info
  have h1 := cells_one u hu
  have h2 := cells_one u' hu'
  simp [Instr.buildSlice, run_underlying ht, sizeOf, typeInfo, zeroValue, hi, hz, hs, Instr.fill, newRow, h1, h2, arr2]

theorem own_new (w : World) (e : TypeId) (cs : List Value) (hl : cs.length ≤ maxLen) : OwnR (w.alloc (.cells cs.toArray e)) e (.slice (some ⟨w.heap.size, 0, none⟩) cs.length cs.length) cs := by
  have := World.ownsRow_lit (base := 0) (e := e) (size := 1) w cs.toArray cs.length (Nat.zero_le _) hl (by simp)
  exact OwnR.of this
theorem Mem.newRow {W w : World} {As : List Atom} (h : Mem W w As) (e : TypeId) (cs : List Value) (hl : cs.length ≤ maxLen) :
    Mem W (w.alloc (.cells cs.toArray e)) (aRow e (.slice (some ⟨w.heap.size, 0, none⟩) cs.length cs.length) cs :: As) :=
  h.new_ ((Below.refl _ _).alloc (Nat.le_refl _) _) (f := [w.heap.size]) ⟨rfl, own_new w e cs hl⟩ (by simp) (by simp)
theorem Mem.nilI {W w : World} {As : List Atom} (h : Mem W w As) (e : TypeId) : Mem W w (aInts e (.slice none 0 0) [] :: As) :=
  h.new_ (Below.refl _ _) (f := []) ⟨rfl, OwnR.nil_ _ _⟩ List.nodup_nil (fun g hg => by cases hg)
theorem Mem.nilB {W w : World} {As : List Atom} (h : Mem W w As) (e : TypeId) : Mem W w (aBools e (.slice none 0 0) [] :: As) :=
  h.new_ (Below.refl _ _) (f := []) ⟨rfl, OwnR.nil_ _ _⟩ List.nodup_nil (fun g hg => by cases hg)
theorem Mem.nilM {W w : World} {As : List Atom} (h : Mem W w As) (ts ti : TypeId) : Mem W w (aMat ts ti (.slice none 0 0) [] [] :: As) :=
  h.new_ (Below.refl _ _) (f := []) ⟨rfl, OwnR.nil_ _ _, rfl, fun i x l _ hx _ => by simp at hx⟩ List.nodup_nil (fun g hg => by cases hg)

/-- append where there is room: the same block. -/
theorem append_room {P : Program} {w : World} {t ty e : TypeId} {i : TypeInfo} (ht : P.underlying t = some (.slice e)) (hi : P.info? e = some i) (hs : i.size = 1) {g off sLen sCap : Nat} {cur : Array Value} (hg : w.heap[g]? = some (.cells cur e (0, 0)))
    {a : Addr} {c : Nat} {news : List Value} (hnews : ∀ j u, news[j]? = some u → w.cell? (a.add j) = some u) (h1 : ∀ u ∈ news, u.oneCell' = true) (hroom : sLen + news.length ≤ sCap) (hfit : off + sLen + news.length ≤ cur.size) :
    (Builtin.append_ #[t, t] ty #[.slice (some ⟨g, off, none⟩) sLen sCap, .slice (some a) news.length c]).run P w =
      .ok (.slice (some ⟨g, off, none⟩) (sLen + news.length) sCap) (w.setRow g (cur.toList.take (off + sLen) ++ news ++ cur.toList.drop (off + sLen + news.length)).toArray) := by
  have hf := run_firstCells_some (P := P) w i.size news.length a news.length c news (by rw [hs, Nat.mul_one]) hnews
  rw [hs] at hf
  have hst := run_storeCells_at P g (off + sLen) e news 0 cur w hg (by simpa using hfit) h1
  simp only [Nat.add_zero] at hst
  simp [Builtin.append_, run_underlying ht, sizeOf, typeInfo, hi, Builtin.lenOf, hroom, hf, Addr.add_lit, hs, hst]
/-- An owned row grows at its end. -/
theorem own_app {P : Program} {t ty e : TypeId} {z : Value} {by_ : Nat} (ht : P.underlying t = some (.slice e)) (he : ElT P e z by_) (hz1 : z.oneCell' = true) (hby : by_ ≤ 24) {w : World} {v : Value} {xs us : List Value} (h : OwnR w e v xs)
    (hl : xs.length + us.length ≤ 1000000000) (ad : Addr) (c : Nat) (hnews : ∀ j u', us[j]? = some u' → w.cell? (ad.add j) = some u') (h1 : ∀ u ∈ us, u.oneCell' = true) :
    ∃ v' w', (Builtin.append_ #[t, t] ty #[v, .slice (some ad) us.length c]).run P w = .ok v' w' ∧ OwnR w' e v' (xs ++ us) ∧ w.grownBy w' v.ownBlock ∧ (v'.ownBlock = v.ownBlock ∨ ∀ g, v'.ownBlock = some g → w.heap.size ≤ g) := by
  obtain ⟨i, hi, hz, hs, hb⟩ := he.info
  have hbytes : (xs.length + us.length) * by_ ≤ 140737488355328 := Nat.le_trans (Nat.mul_le_mul_left _ hby) (by omega)
  have hzs : z.cells.size = 1 := by rw [cells_one z hz1]; rfl
  rcases h with ⟨rfl, rfl⟩ | ⟨g, off, cap, cur, rfl, hg, hnc, hcm, hcs, htake⟩
  · obtain ⟨v', w', hr, h2, h3, h4, h5⟩ := run_append_own_at (P := P) w w.heap.size t ty e i z 1 by_ ht hi hz hs hb hzs (by omega) (.slice none 0 0) 0 [] (World.ownsRow_nil _ _ _ _) ad us.length c us (by simp) hnews h1 (by simp only [maxLen]; simp at hl; omega) (by simpa using hbytes) (Nat.le_refl _)
    exact ⟨v', w', hr, OwnR.of h2, h3, .inr fun g hg => (h2.lt g hg).1⟩
  · by_cases hroom : xs.length + us.length ≤ cap
    · refine ⟨_, _, append_room ht hi hs hg hnews h1 hroom (by omega), ?_, ⟨rfl, rfl, rfl, by simp, fun k _ hk => setRow_other w g k _ (fun e => hk (by simp [e, Value.ownBlock]))⟩, .inl rfl⟩
      refine .inr ⟨g, off, cap, _, by rw [List.length_append], setRow_heap w g cur _ e (0, 0) hg, by rw [List.length_append]; exact hroom, hcm, ?_, ?_⟩
      · simp only [List.size_toArray, List.length_append, List.length_take, List.length_drop, Array.length_toList]
        omega
      · have hsz : cur.toList.length = cur.size := by simp
        rw [List.length_append]
        simp only []
        rw [List.append_assoc, List.drop_append_of_le_length (by rw [List.length_take]; omega), List.drop_take]
        rw [show off + xs.length - off = xs.length by omega, htake]
        rw [List.take_append, List.take_of_length_le (by omega), show xs.length + us.length - xs.length = us.length by omega, List.take_append, List.take_of_length_le (by omega), Nat.sub_self, List.take_zero, List.append_nil]
    · obtain ⟨v', w', hr, h2, h3⟩ := run_append_arg_grows (P := P) w t ty e i z 1 by_ ht hi hz hs hb hzs (by omega) ⟨g, off, none⟩ xs.length cap xs (by simp) (fun j u hj => by
        have hjl := (List.getElem?_eq_some_iff.1 hj).1
        rw [addO, own_cell hg htake hjl]; exact hj) ad us.length c us (by simp) hnews (by omega) (by simp only [maxLen]; omega) hbytes
      exact ⟨v', w', hr, OwnR.of h2, ⟨h3.os, h3.tape, h3.output, h3.size, fun k hk _ => h3.block k hk (by simp)⟩, .inr fun g hg => (h2.lt g hg).1⟩
theorem own_grow {P : Program} {t ty e : TypeId} {z : Value} {by_ : Nat} (ht : P.underlying t = some (.slice e)) (he : ElT P e z by_) (hz1 : z.oneCell' = true) (hby : by_ ≤ 24) {w : World} {v : Value} {xs : List Value} (h : OwnR w e v xs) (u : Value) (hu : u.oneCell' = true)
    (hl : xs.length < 1000000000) (ad : Addr) (c : Nat) (hc : w.cell? ad = some u) :
    ∃ v' w', (Builtin.append_ #[t, t] ty #[v, .slice (some ad) 1 c]).run P w = .ok v' w' ∧ OwnR w' e v' (xs ++ [u]) ∧ w.grownBy w' v.ownBlock ∧ (v'.ownBlock = v.ownBlock ∨ ∀ g, v'.ownBlock = some g → w.heap.size ≤ g) := by
  have hnews : ∀ j u', [u][j]? = some u' → w.cell? (ad.add j) = some u' := by
    intro j u' hj
    match j, hj with
    | 0, hj => simp at hj; subst hj; simpa [Addr.add] using hc
  exact own_app (us := [u]) ht he hz1 hby h (by simp; omega) ad c hnews (by simpa using hu)
theorem grown_lt {w w' : World} {e : TypeId} {v' : Value} {xs : List Value} (h : OwnR w' e v' xs) : ∀ g ∈ obl v', g < w'.heap.size := h.lt

theorem Mem.grow {P : Program} {t ty e : TypeId} {z : Value} {by_ : Nat} (ht : P.underlying t = some (.slice e)) (he : ElT P e z by_) (hz1 : z.oneCell' = true) (hby : by_ ≤ 24) {W w : World} {As : List Atom} {v : Value} {xs : List Value} (h : Mem W w (aRow e v xs :: As)) (u : Value) (hu : u.oneCell' = true)
    (hl : xs.length < 1000000000) (ad : Addr) (c : Nat) (hc : w.cell? ad = some u) :
    ∃ v' w', (Builtin.append_ #[t, t] ty #[v, .slice (some ad) 1 c]).run P w = .ok v' w' ∧ Mem W w' (aRow e v' (xs ++ [u]) :: As) := by
  obtain ⟨f, ⟨hf, ho⟩, hlt⟩ := h.get (i := 0) rfl
  obtain ⟨v', w', hr, h2, h3, h5⟩ := own_grow (ty := ty) ht he hz1 hby ho u hu hl ad c hc
  refine ⟨v', w', hr, h.turn h3.os h3.tape h3.output h3.size fun f hs hn => ⟨obl v', ⟨rfl, h2⟩, ?_, fun g hg => ?_, fun k hk hnot => h3.block k hk ?_⟩⟩
  · unfold obl; cases v'.ownBlock <;> simp
  · rw [hs.1]
    have hlt' := h2.lt g hg
    unfold obl at hg ⊢
    rcases h5 with h5 | h5
    · rw [h5] at hg; exact .inl hg
    · exact .inr ⟨h5 g (by simpa using hg), hlt'⟩
  · intro e
    apply hnot
    rw [hs.1]
    unfold obl
    rw [← e]
    simp
theorem Mem.growM {P : Program} {t ty ts ti : TypeId} (ht : P.underlying t = some (.slice ts)) (he : ElT P ts (.slice none 0 0) 24) {W w : World} {As : List Atom} {v x : Value} {vs : List Value} {m m' : List (List Int)} {l : List Int} (h : Mem W w (aMat ts ti v vs m :: aInts ti x l :: As))
    (hx1 : x.oneCell' = true) (ha : app m l = some m') (ad : Addr) (c : Nat) (hc : w.cell? ad = some x) :
    ∃ v' w', (Builtin.append_ #[t, t] ty #[v, .slice (some ad) 1 c]).run P w = .ok v' w' ∧ Mem W w' (aMat ts ti v' (vs ++ [x]) m' :: As) := by
  obtain ⟨rfl, hl⟩ := app_spec ha
  obtain ⟨F, ⟨f, F', e, hs, ⟨f2, F2, e2, hs2, h2⟩⟩, h3, h4⟩ := h.hp.ex
  obtain ⟨h1, ho, hlen, hrows⟩ := hs
  obtain ⟨v', w', hr, g2, g3, g5⟩ := own_grow (ty := ty) ht he rfl (by omega) ho x hx1 (by omega) ad c hc
  have hF : F = obl v ++ (rowsFp (fun _ => false) 0 vs ++ (obl x ++ F2)) := by rw [e, e2, h1, hs2.1]; simp
  subst hF
  obtain ⟨n1, n2, n3⟩ := List.nodup_append.1 h3
  have hdis : ∀ k, k ∈ (rowsFp (fun _ => false) 0 vs ++ (obl x ++ F2)) → w'.heap[k]? = w.heap[k]? := fun k hk => g3.block k (h4 k (List.mem_append_right _ hk)).2 fun e => by
    refine n3 k ?_ k hk rfl
    unfold obl; rw [← e]; simp
  have hnew : ∀ g ∈ obl v', g ∈ obl v ∨ w.heap.size ≤ g := fun g hg => by
    unfold obl at hg ⊢
    rcases g5 with g5 | g5
    · rw [g5] at hg; exact .inl hg
    · exact .inr (g5 g (by simpa using hg))
  refine ⟨v', w', hr, ⟨⟨g3.os.trans h.bel.os, g3.tape.trans h.bel.tape, g3.output.trans h.bel.output, Nat.le_trans h.bel.size g3.size, fun k hk => ?_⟩,
    ⟨(obl v' ++ rowsFp (fun _ => false) 0 (vs ++ [x])) ++ F2, ⟨_, F2, rfl, ⟨rfl, g2, by simp [hlen], ?_⟩, h2.keep fun g hg => hdis g (by simp [hg])⟩, ?_, fun g hg => ?_⟩⟩⟩
  · refine (g3.block k (Nat.lt_of_lt_of_le hk h.bel.size) fun e => ?_).trans (h.bel.block k hk)
    have := (h4 k (List.mem_append_left _ (by unfold obl; rw [← e]; simp))).1
    omega
  · intro i y q _ hy hq
    by_cases hi : i < vs.length
    · rw [List.getElem?_append_left hi] at hy
      rw [List.getElem?_append_left (by omega)] at hq
      exact (hrows i y q rfl hy hq).keep fun g hg => hdis g (List.mem_append_left _ (mem_rowsFp hy rfl g hg))
    · rw [List.getElem?_append_right (by omega)] at hy
      rw [List.getElem?_append_right (by omega)] at hq
      have hi0 : i - vs.length = 0 := by
        have := (List.getElem?_eq_some_iff.1 hy).1
        simp at this
        omega
      rw [hi0] at hy
      rw [show i - m.length = 0 by omega] at hq
      simp at hy hq
      subst hy; subst hq
      exact hs2.2.keep fun g hg => hdis g (by simp [hg])
  · rw [rowsFp_append]
    simp only [cond_false]
    refine List.nodup_append.2 ⟨?_, (List.nodup_append.1 (List.nodup_append.1 n2).2.1).2.1, ?_⟩
    · refine List.nodup_append.2 ⟨by unfold obl; cases v'.ownBlock <;> simp, ?_, fun p hp q hq epq => ?_⟩
      · have := n2
        rw [← List.append_assoc] at this
        exact (List.nodup_append.1 this).1
      · subst epq
        have hin : p ∈ (rowsFp (fun _ => false) 0 vs ++ (obl x ++ F2)) := by
          rcases List.mem_append.1 hq with h | h <;> simp [h]
        rcases hnew p hp with h | h
        · exact n3 p h p hin rfl
        · have := (h4 p (List.mem_append_right _ hin)).2
          omega
    · intro p hp q hq epq
      subst epq
      rcases List.mem_append.1 hp with hp | hp
      · have hin : p ∈ (rowsFp (fun _ => false) 0 vs ++ (obl x ++ F2)) := by simp [hq]
        rcases hnew p hp with h | h
        · exact n3 p h p hin rfl
        · have := (h4 p (List.mem_append_right _ hin)).2
          omega
      · have := n2
        rw [← List.append_assoc] at this
        exact (List.nodup_append.1 this).2.2 p hp p hq rfl
  · have hold : ∀ g, g ∈ obl v ++ (rowsFp (fun _ => false) 0 vs ++ (obl x ++ F2)) → W.heap.size ≤ g ∧ g < w'.heap.size := fun g hg => ⟨(h4 g hg).1, Nat.lt_of_lt_of_le (h4 g hg).2 g3.size⟩
    rw [rowsFp_append] at hg
    simp only [cond_false] at hg
    rcases List.mem_append.1 hg with hg | hg
    · rcases List.mem_append.1 hg with hg | hg
      · have hl' := g2.lt g hg
        rcases hnew g hg with h' | h'
        · exact ⟨(hold g (List.mem_append_left _ h')).1, hl'⟩
        · exact ⟨Nat.le_trans h.bel.size h', hl'⟩
      · refine hold g (List.mem_append_right _ ?_)
        rcases List.mem_append.1 hg with h | h <;> simp [h]
    · exact hold g (List.mem_append_right _ (by simp [hg]))

/-! ### Stores -/
theorem own_store {w : World} {e : TypeId} {v : Value} {xs : List Value} (h : OwnR w e v xs) {i : Int} (h0 : 0 ≤ i) (h1 : i < xs.length) (u : Value) :
    (∃ u', w.cell? (elemAddr v i) = some u') ∧ w.frozen? (elemAddr v i) = false ∧ OwnR (w.setCell (elemAddr v i) u) e v (xs.set i.toNat u) ∧ w.grownBy (w.setCell (elemAddr v i) u) v.ownBlock := by
  rcases h with ⟨hv, hn⟩ | ⟨g, off, cap, cur, hv, hg, hnc, hcm, hcs, htake⟩
  · rw [hn] at h1; simp at h1; omega
  · subst hv
    have hi : i.toNat < xs.length := by omega
    have ea : elemAddr (.slice (some ⟨g, off, none⟩) xs.length cap) i = ⟨g, off + i.toNat, none⟩ := by simp only [elemAddr]; exact addO _ _ _
    rw [ea]
    refine ⟨⟨xs[i.toNat], by rw [own_cell hg htake hi]; exact List.getElem?_eq_getElem hi⟩, frozen_of_row w g _ cur e hg,
      .inr ⟨g, off, cap, cur.setIfInBounds (off + i.toNat) u, by rw [List.length_set], heap_setCell_same w g _ cur e u hg, by rw [List.length_set]; exact hnc, hcm, by simpa using hcs, ?_⟩,
      ⟨rfl, rfl, rfl, by simp, fun k _ hk => heap_setCell_other w ⟨g, _, none⟩ k u (fun e => hk (by simp [e, Value.ownBlock]))⟩⟩
    rw [List.length_set, Array.toList_setIfInBounds]
    conv => rhs; rw [← htake]
    rw [List.drop_set, if_neg (by omega), show off + i.toNat - off = i.toNat by omega, List.take_set, htake]
theorem Mem.store {W w : World} {As : List Atom} {e : TypeId} {v : Value} {xs : List Value} (h : Mem W w (aRow e v xs :: As)) {i : Int} (h0 : 0 ≤ i) (h1 : i < xs.length) (u : Value) : Mem W (w.setCell (elemAddr v i) u) (aRow e v (xs.set i.toNat u) :: As) := by
  obtain ⟨f, ⟨hf, ho⟩, hlt⟩ := h.get (i := 0) rfl
  obtain ⟨_, _, h2, h3⟩ := own_store ho h0 h1 u
  refine h.turn h3.os h3.tape h3.output h3.size fun f hs hn => ⟨f, ⟨hs.1, h2⟩, hn, fun g hg => .inl hg, fun k hk hnot => h3.block k hk fun e => hnot ?_⟩
  rw [hs.1]; unfold obl; rw [← e]; simp
theorem run_storeAt {P : Program} {t : TypeId} {w : World} {p : Addr} {u u' : Value} (hsz : ∃ i, P.info? t = some i ∧ i.size = 1) (hu : u.oneCell' = true) (hc : w.cell? p = some u') (hf : w.frozen? p = false) :
    (Instr.storeAt t (.pointer (some p)) u).run P w = .ok () (w.setCell p u) := by
  obtain ⟨i, hi, hs⟩ := hsz
  have h1 := cells_one u hu
  have h2 : (store p u .plain).run P w = .ok () (w.setCell p u) := by rw [run_store P w p u .plain hu, hc]; simp [hf]
  simp [Instr.storeAt, Instr.sureAddr, storeVar, sizeOf, typeInfo, hi, hs, h1, storeCells, Addr.add, h2]
end Go.Proofs.YtcglmncmnlkpmaaDoor
/- The rules that the generated proofs apply, one by one. Nothing of a program is named here. -/
namespace Go.Proofs.YtcglmncmnlkpmaaDoor
open Go.RowKit
set_option linter.unusedVariables false

section
variable {P : Program} {ops : Array Oper} {Q : Exit → Act → World → Prop} {a : Act} {w W : World} {rest : List Oper} {N : Nat} {L : List (Nat × Value)} {As : List Atom}

/-- An operation that yields a value and may change memory. -/
theorem wmem {d : Nat} {op : Op} {ty : TypeId} {pos : String} {af : Array Edge} {R : Value → World → Prop} (hs : Fr a N L)
    (h : ∃ v w', (execOp a.eval ⟨some d, op, ty, pos, af, none⟩).run P w = .ok (.value v) w' ∧ R v w') (hd : Nat.ble (d + 1) N = true) (k : ∀ a' v w', Fr a' N ((d, v) :: L) → R v w' → wpList P ops Q rest a' w') :
    wpList P ops Q (⟨some d, op, ty, pos, af, none⟩ :: rest) a w := by
  obtain ⟨v, w', hr, hR⟩ := h
  refine wpList_plain rfl fun K hK => ?_
  unfold Oper.wp
  rw [hr]
  exact hK _ _ (k _ _ _ (hs.put (Nat.le_of_ble_eq_true hd) v) hR)
/-- A store. -/
theorem wstore {t : TypeId} {p x : Operand} {ty : TypeId} {pos : String} {af : Array Edge} {R : World → Prop} {pa : Addr} {u : Value} (hs : Fr a N L) (hp : evL L p = some (.pointer (some pa))) (hx : evL L x = some u)
    (h : ∃ w', (Instr.storeAt t (.pointer (some pa)) u).run P w = .ok () w' ∧ R w') (k : ∀ w', R w' → wpList P ops Q rest a w') :
    wpList P ops Q (⟨none, .store t p x, ty, pos, af, none⟩ :: rest) a w := by
  obtain ⟨w', hr, hR⟩ := h
  refine wpList_plain rfl fun K hK => ?_
  unfold Oper.wp
  have : (execOp a.eval ⟨none, .store t p x, ty, pos, af, none⟩).run P w = .ok .skip w' := by
    simp only [execOp, hs.ev hp, hs.ev hx, Sem.run_bind, hr, Result.andThen_ok]
    rfl
  rw [this]
  exact hK _ _ (k _ hR)

variable {d : Option Nat} {ty : TypeId} {pos : String} {af : Array Edge} {gd : Option (Nat × Bool)} {t e ts ti : TypeId} {z : Value} {by_ : Nat} {x y s : Operand}
theorem x_new0I (ht : SlT P t e) (hM : Mem W w As) : ∃ v w', (execOp a.eval ⟨d, .buildSlice t 0 #[], ty, pos, af, gd⟩).run P w = .ok (.value v) w' ∧ Mem W w' (aInts e v [] :: As) := by
  refine ⟨_, _, ?_, hM.newRow e [] (by simp [maxLen])⟩
  simp [execOp, run_build0 ht]
theorem x_new0M (ht : SlT P t ts) (hM : Mem W w As) : ∃ v w', (execOp a.eval ⟨d, .buildSlice t 0 #[], ty, pos, af, gd⟩).run P w = .ok (.value v) w' ∧ Mem W w' (aMat ts ti v [] [] :: As) := by
  refine ⟨.slice (some ⟨w.heap.size, 0, none⟩) 0 0, w.alloc (.cells #[] ts), by simp [execOp, run_build0 ht], ?_⟩
  exact hM.new_ ((Below.refl _ _).alloc (Nat.le_refl _) _) (f := [w.heap.size]) ⟨rfl, own_new w ts [] (by simp [maxLen]), rfl, fun i x l _ hx _ => by simp at hx⟩ (by simp) (by simp)
theorem x_new1I {n : Int} (ht : P.underlying t = some (.slice e)) (he : ElT P e z by_) (hs : Fr a N L) (hx : evL L x = some (.int .i64 n)) (hM : Mem W w As) :
    ∃ v w', (execOp a.eval ⟨d, .buildSlice t 1 #[(0, x)], ty, pos, af, gd⟩).run P w = .ok (.value v) w' ∧ Mem W w' (aInts e v [n] :: As) := by
  refine ⟨_, _, ?_, hM.newRow e [.int .i64 n] (by simp [maxLen])⟩
  simp [execOp, hs.ev hx, run_build1 ht he (.int .i64 n) rfl]
theorem x_new2I {n m : Int} (ht : P.underlying t = some (.slice e)) (he : ElT P e z by_) (hs : Fr a N L) (hx : evL L x = some (.int .i64 n)) (hy : evL L y = some (.int .i64 m)) (hM : Mem W w As) :
    ∃ v w', (execOp a.eval ⟨d, .buildSlice t 2 #[(0, x), (1, y)], ty, pos, af, gd⟩).run P w = .ok (.value v) w' ∧ Mem W w' (aInts e v [n, m] :: As) := by
  refine ⟨_, _, ?_, hM.newRow e [.int .i64 n, .int .i64 m] (by simp [maxLen])⟩
  simp [execOp, hs.ev hx, hs.ev hy, run_build2 ht he (.int .i64 n) (.int .i64 m) rfl rfl]
theorem own_one {e : TypeId} {v : Value} {xs : List Value} (h : OwnR w e v xs) : v.oneCell' = true := by
  rcases h with ⟨hv, _⟩ | ⟨g, off, cap, cur, hv, _⟩ <;> rw [hv] <;> rfl
theorem Mem.one {e : TypeId} {v : Value} {xs : List Value} (h : Mem W w (aRow e v xs :: As)) : v.oneCell' = true := by
  obtain ⟨f, ⟨_, ho⟩, _⟩ := h.get (i := 0) rfl
  exact own_one ho

/-- 'append(s, x)': the one-element slice, then the append. -/
theorem exec_append {xs : List Operand} {v u : Value} (hs : Fr a N L) (h : evA L [s, x] = some [v, u]) :
    execOp a.eval ⟨d, .call ⟨.builtin .append, #[s, x], #[t, t]⟩, ty, pos, af, gd⟩ = (do pure (.value (← Builtin.append_ #[t, t] ty #[v, u]))) := by
  obtain ⟨cs, hcs⟩ := exec_builtin (d := d) (ty := ty) (pos := pos) (af := af) (gd := gd) .append [s, x] #[t, t] hs h
  exact hcs
theorem wappG {d1 d2 : Nat} {ty1 ty2 : TypeId} {pos1 pos2 : String} {af1 af2 : Array Edge} {v u : Value} {R : Value → World → Prop} (ht : P.underlying t = some (.slice e)) (he : ElT P e z by_) (hs : Fr a N L)
    (hv : evL L s = some v) (hx : evL L x = some u) (hu : u.oneCell' = true) (hd1 : Nat.ble (d1 + 1) N = true) (hd2 : Nat.ble (d2 + 1) N = true) (hsd : evL ((d1, .slice (some ⟨w.heap.size, 0, none⟩) 1 1) :: L) s = some v)
    (hG : ∀ w0, w0 = w.alloc (.cells #[u] e) → ∃ v' w', (Builtin.append_ #[t, t] ty2 #[v, .slice (some ⟨w.heap.size, 0, none⟩) 1 1]).run P w0 = .ok v' w' ∧ R v' w')
    (k : ∀ a' v' w', Fr a' N ((d2, v') :: (d1, .slice (some ⟨w.heap.size, 0, none⟩) 1 1) :: L) → R v' w' → wpList P ops Q rest a' w') :
    wpList P ops Q (⟨some d1, .buildSlice t 1 #[(0, x)], ty1, pos1, af1, none⟩ :: ⟨some d2, .call ⟨.builtin .append, #[s, .tmp d1], #[t, t]⟩, ty2, pos2, af2, none⟩ :: rest) a w := by
  refine wmem (R := fun v w' => v = .slice (some ⟨w.heap.size, 0, none⟩) 1 1 ∧ w' = w.alloc (.cells #[u] e)) hs ⟨.slice (some ⟨w.heap.size, 0, none⟩) 1 1, w.alloc (.cells #[u] e), by simp [execOp, hs.ev hx, run_build1 ht he u hu], rfl, rfl⟩ hd1 ?_
  rintro a1 v1 w1 hs1 ⟨rfl, rfl⟩
  obtain ⟨v', w', hr, hR⟩ := hG _ rfl
  refine wmem (R := R) hs1 ⟨v', w', ?_, hR⟩ hd2 k
  have he1 : evA ((d1, .slice (some ⟨w.heap.size, 0, none⟩) 1 1) :: L) [s, .tmp d1] = some [v, .slice (some ⟨w.heap.size, 0, none⟩) 1 1] := by
    have h1 : evL ((d1, .slice (some ⟨w.heap.size, 0, none⟩) 1 1) :: L) (.tmp d1) = some (.slice (some ⟨w.heap.size, 0, none⟩) 1 1) := by simp [evL, look]
    simp only [evA, hsd, h1]
  rw [exec_append (xs := []) hs1 he1, Sem.run_bind, hr]
  rfl
theorem cell_new (w : World) (u : Value) (e : TypeId) : (w.alloc (.cells #[u] e)).cell? ⟨w.heap.size, 0, none⟩ = some u := by
  simp
theorem wappI {d1 d2 : Nat} {ty1 ty2 : TypeId} {pos1 pos2 : String} {af1 af2 : Array Edge} {v : Value} {n : Int} {l l' : List Int} (ht : P.underlying t = some (.slice e)) (he : ElT P e (.int .i64 0) 8) (hs : Fr a N L) (hM : Mem W w (aInts e v l :: As))
    (hv : evL L s = some v) (hx : evL L x = some (.int .i64 n)) (ha : app l n = some l') (hd1 : Nat.ble (d1 + 1) N = true) (hd2 : Nat.ble (d2 + 1) N = true) (hsd : evL ((d1, .slice (some ⟨w.heap.size, 0, none⟩) 1 1) :: L) s = some v)
    (k : ∀ a' v' w' u', Fr a' N ((d2, v') :: (d1, u') :: L) → Mem W w' (aInts e v' l' :: As) → wpList P ops Q rest a' w') :
    wpList P ops Q (⟨some d1, .buildSlice t 1 #[(0, x)], ty1, pos1, af1, none⟩ :: ⟨some d2, .call ⟨.builtin .append, #[s, .tmp d1], #[t, t]⟩, ty2, pos2, af2, none⟩ :: rest) a w := by
  obtain ⟨rfl, hl⟩ := app_spec ha
  refine wappG (R := fun v' w' => Mem W w' (aInts e v' (l ++ [n]) :: As)) ht he hs hv hx rfl hd1 hd2 hsd ?_ (fun a' v' w' h1 h2 => k a' v' w' _ h1 h2)
  rintro w0 rfl
  obtain ⟨v', w', hr, hm⟩ := Mem.grow (ty := ty2) ht he rfl (by omega) (hM.alloc _) (.int .i64 n) rfl (by simpa using hl) ⟨w.heap.size, 0, none⟩ 1 (cell_new w _ e)
  exact ⟨v', w', hr, by simpa [aInts] using hm⟩
theorem wappM {d1 d2 : Nat} {ty1 ty2 : TypeId} {pos1 pos2 : String} {af1 af2 : Array Edge} {v xv : Value} {vs : List Value} {m m' : List (List Int)} {l : List Int} (ht : P.underlying t = some (.slice ts)) (he : ElT P ts (.slice none 0 0) 24) (hs : Fr a N L)
    (hM : Mem W w (aMat ts ti v vs m :: aInts ti xv l :: As)) (hv : evL L s = some v) (hx : evL L x = some xv) (ha : app m l = some m') (hd1 : Nat.ble (d1 + 1) N = true) (hd2 : Nat.ble (d2 + 1) N = true) (hsd : evL ((d1, .slice (some ⟨w.heap.size, 0, none⟩) 1 1) :: L) s = some v)
    (k : ∀ a' v' w' u', Fr a' N ((d2, v') :: (d1, u') :: L) → Mem W w' (aMat ts ti v' (vs ++ [xv]) m' :: As) → wpList P ops Q rest a' w') :
    wpList P ops Q (⟨some d1, .buildSlice t 1 #[(0, x)], ty1, pos1, af1, none⟩ :: ⟨some d2, .call ⟨.builtin .append, #[s, .tmp d1], #[t, t]⟩, ty2, pos2, af2, none⟩ :: rest) a w := by
  have hx1 : xv.oneCell' = true := by
    obtain ⟨f, ⟨_, ho⟩, _⟩ := hM.get (i := 1) rfl
    exact own_one ho
  refine wappG (R := fun v' w' => Mem W w' (aMat ts ti v' (vs ++ [xv]) m' :: As)) ht he hs hv hx hx1 hd1 hd2 hsd ?_ (fun a' v' w' h1 h2 => k a' v' w' _ h1 h2)
  rintro w0 rfl
  exact Mem.growM (ty := ty2) ht he (hM.alloc _) hx1 ha ⟨w.heap.size, 0, none⟩ 1 (cell_new w _ _)
/-- 'l[i] = n' -/
theorem x_storeI {v : Value} {n i : Int} {l l' : List Int} (he : ElT P e z by_) (hM : Mem W w (aInts e v l :: As)) (hu : upd l i n = some l') :
    ∃ w', (Instr.storeAt e (.pointer (some (elemAddr v i))) (.int .i64 n)).run P w = .ok () w' ∧ Mem W w' (aInts e v l' :: As) := by
  obtain ⟨rfl, h0, h1⟩ := upd_spec hu
  obtain ⟨f, ⟨_, ho⟩, _⟩ := hM.get (i := 0) rfl
  obtain ⟨⟨u', hc⟩, hf, _, _⟩ := own_store ho h0 (by simpa using h1) (.int .i64 n)
  obtain ⟨j, hj, _, hjs, _⟩ := he.info
  refine ⟨_, run_storeAt ⟨j, hj, hjs⟩ rfl hc hf, ?_⟩
  have := Mem.store hM h0 (by simpa using h1) (.int .i64 n)
  simpa [aInts, List.map_set] using this
theorem x_storeB {v : Value} {b : Bool} {i : Int} {l l' : List Bool} (he : ElT P e z by_) (hM : Mem W w (aBools e v l :: As)) (hu : upd l i b = some l') :
    ∃ w', (Instr.storeAt e (.pointer (some (elemAddr v i))) (.bool b)).run P w = .ok () w' ∧ Mem W w' (aBools e v l' :: As) := by
  obtain ⟨rfl, h0, h1⟩ := upd_spec hu
  obtain ⟨f, ⟨_, ho⟩, _⟩ := hM.get (i := 0) rfl
  obtain ⟨⟨u', hc⟩, hf, _, _⟩ := own_store ho h0 (by simpa using h1) (.bool b)
  obtain ⟨j, hj, _, hjs, _⟩ := he.info
  refine ⟨_, run_storeAt ⟨j, hj, hjs⟩ rfl hc hf, ?_⟩
  have := Mem.store hM h0 (by simpa using h1) (.bool b)
  simpa [aBools, List.map_set] using this
/-- 'm[j][i] = n', row j of value xv -/
theorem x_storeM {v xv : Value} {vs : List Value} {n i : Int} {j : Nat} {m : List (List Int)} {l l' : List Int} (he : ElT P ti z by_) (hM : Mem W w (aMat ts ti v vs m :: As)) (hx : vs[j]? = some xv) (hl : m[j]? = some l) (hu : upd l i n = some l') :
    ∃ w', (Instr.storeAt ti (.pointer (some (elemAddr xv i))) (.int .i64 n)).run P w = .ok () w' ∧ Mem W w' (aMat ts ti v vs (m.set j l') :: As) := by
  obtain ⟨w', h1, h2⟩ := x_storeI he (hM.take rfl hx hl) hu
  exact ⟨w', h1, h2.put rfl hx⟩
/-- 'make([]int, n)' -/
theorem made_one (z : Value) (hz1 : z.oneCell' = true) (n : Nat) : (madeCells z.cells (n * 1)).toList = List.replicate n z := by
  rw [cells_one z hz1, Nat.mul_one, toList_madeCells_one]
theorem x_make {n : Int} (ht : P.underlying t = some (.slice e)) (he : ElT P e z by_) (hz1 : z.oneCell' = true) (hby : by_ ≤ 24) (hs : Fr a N L) (hx : evL L x = some (.int .i64 n)) (hM : Mem W w As) (hn : guardO (decide (0 ≤ n ∧ n < 1000000000)) = some ()) :
    ∃ v w', (execOp a.eval ⟨d, .makeSlice t x x, ty, pos, af, gd⟩).run P w = .ok (.value v) w' ∧ Mem W w' (aRow e v (List.replicate n.toNat z) :: As) := by
  have hn' : 0 ≤ n ∧ n < 1000000000 := by
    unfold guardO at hn
    cases hb : decide (0 ≤ n ∧ n < 1000000000) with
    | false => rw [hb] at hn; cases hn
    | true => exact of_decide_eq_true hb
  obtain ⟨i, hi, hz, his, hib⟩ := he.info
  obtain ⟨q, rfl⟩ := Int.eq_ofNat_of_zero_le hn'.1
  have hb : i.bytes * q ≤ 281474976710656 := Nat.le_trans (Nat.mul_le_mul_right q (hib ▸ hby)) (by omega)
  obtain ⟨w', hr, h1, h2⟩ := run_make_full (P := P) w 0 t e i z 1 ht hi hz his .i64 .i64 q hb (by simp only [maxLen]; omega) (Nat.zero_le _)
  rw [made_one z hz1] at h1
  have hbl : Below w.heap.size w w' := ⟨h2.os, h2.tape, h2.output, h2.size, fun k hk => h2.block k hk (by simp)⟩
  have hown : OwnR w' e (.slice (some ⟨w.heap.size, 0, none⟩) q q) (List.replicate q z) := OwnR.of h1
  refine ⟨_, w', by simp [execOp, hs.ev hx, hr]; rfl, ?_⟩
  simp only [Int.toNat_natCast]
  exact hM.new_ hbl (f := [w.heap.size]) ⟨rfl, hown⟩ (by simp) (fun g hg => ⟨by simp at hg; omega, hown.lt g (by simpa [obl, Value.ownBlock] using hg)⟩)
theorem x_makeI {n : Int} (ht : P.underlying t = some (.slice e)) (he : ElT P e (.int .i64 0) 8) (hs : Fr a N L) (hx : evL L x = some (.int .i64 n)) (hM : Mem W w As) (hn : guardO (decide (0 ≤ n ∧ n < 1000000000)) = some ()) :
    ∃ v w', (execOp a.eval ⟨d, .makeSlice t x x, ty, pos, af, gd⟩).run P w = .ok (.value v) w' ∧ Mem W w' (aInts e v (List.replicate n.toNat 0) :: As) := by
  obtain ⟨v, w', h1, h2⟩ := x_make (d := d) (ty := ty) (pos := pos) (af := af) (gd := gd) ht he rfl (by omega) hs hx hM hn
  exact ⟨v, w', h1, by simpa [aInts] using h2⟩
theorem x_makeB {n : Int} (ht : P.underlying t = some (.slice e)) (he : ElT P e (.bool false) 1) (hs : Fr a N L) (hx : evL L x = some (.int .i64 n)) (hM : Mem W w As) (hn : guardO (decide (0 ≤ n ∧ n < 1000000000)) = some ()) :
    ∃ v w', (execOp a.eval ⟨d, .makeSlice t x x, ty, pos, af, gd⟩).run P w = .ok (.value v) w' ∧ Mem W w' (aBools e v (List.replicate n.toNat false) :: As) := by
  obtain ⟨v, w', h1, h2⟩ := x_make (d := d) (ty := ty) (pos := pos) (af := af) (gd := gd) ht he rfl (by omega) hs hx hM hn
  exact ⟨v, w', h1, by simpa [aBools] using h2⟩
theorem x_make0I {n : Int} (ht : P.underlying t = some (.slice e)) (he : ElT P e z by_) (hby : by_ ≤ 24) (hs : Fr a N L) (hx : evL L x = some (.int .i64 0)) (hy : evL L y = some (.int .i64 n)) (hM : Mem W w As) (hn : guardO (decide (0 ≤ n ∧ n < 1000000000)) = some ()) :
    ∃ v w', (execOp a.eval ⟨d, .makeSlice t x y, ty, pos, af, gd⟩).run P w = .ok (.value v) w' ∧ Mem W w' (aInts e v [] :: As) := by
  have hn' : 0 ≤ n ∧ n < 1000000000 := by
    unfold guardO at hn
    cases hb : decide (0 ≤ n ∧ n < 1000000000) with
    | false => rw [hb] at hn; cases hn
    | true => exact of_decide_eq_true hb
  obtain ⟨i, hi, hz, his, hib⟩ := he.info
  obtain ⟨q, rfl⟩ := Int.eq_ofNat_of_zero_le hn'.1
  have hb : i.bytes * q ≤ 281474976710656 := Nat.le_trans (Nat.mul_le_mul_right q (hib ▸ hby)) (by omega)
  obtain ⟨w', hr, h1, h2⟩ := run_make_own (P := P) w 0 t e i z 1 ht hi hz his .i64 .i64 q hb (by simp only [maxLen]; omega) (Nat.zero_le _)
  have hbl : Below w.heap.size w w' := ⟨h2.os, h2.tape, h2.output, h2.size, fun k hk => h2.block k hk (by simp)⟩
  have hown : OwnR w' e (.slice (some ⟨w.heap.size, 0, none⟩) 0 q) [] := OwnR.of h1
  refine ⟨_, w', by simp [execOp, hs.ev hx, hs.ev hy, hr]; rfl, ?_⟩
  exact hM.new_ hbl (f := [w.heap.size]) ⟨rfl, hown⟩ (by simp) (fun g hg => ⟨by simp at hg; omega, hown.lt g (by simpa [obl, Value.ownBlock] using hg)⟩)
theorem rowsFp_nils {out : Nat → Bool} : ∀ {n k : Nat}, rowsFp out k (List.replicate n (.slice none 0 0)) = []
  | 0, _ => rfl
  | n + 1, k => by
    simp only [List.replicate_succ, rowsFp]
    rw [rowsFp_nils]
    cases out k <;> rfl
theorem x_makeM {n : Int} (ht : P.underlying t = some (.slice ts)) (he : ElT P ts (.slice none 0 0) 24) (hs : Fr a N L) (hx : evL L x = some (.int .i64 n)) (hM : Mem W w As) (hn : guardO (decide (0 ≤ n ∧ n < 1000000000)) = some ()) :
    ∃ v w', (execOp a.eval ⟨d, .makeSlice t x x, ty, pos, af, gd⟩).run P w = .ok (.value v) w' ∧ Mem W w' (aMat ts ti v (List.replicate n.toNat (.slice none 0 0)) (List.replicate n.toNat []) :: As) := by
  obtain ⟨v, w', h1, h2⟩ := x_make (d := d) (ty := ty) (pos := pos) (af := af) (gd := gd) ht he rfl (by omega) hs hx hM hn
  refine ⟨v, w', h1, h2.perm2 fun F ⟨f, F', e, ⟨h3, h4⟩, h5⟩ => ⟨F, List.Perm.refl F, ⟨f, F', e, ⟨by rw [h3, rowsFp_nils, List.append_nil], h4, by simp, fun i y l _ hy hl => ?_⟩, h5⟩⟩⟩
  have e1 : y = .slice none 0 0 := by
    rw [List.getElem?_replicate] at hy
    split at hy
    · exact (Option.some.inj hy).symm
    · cases hy
  have e2 : l = [] := by
    rw [List.getElem?_replicate] at hl
    split at hl
    · exact (Option.some.inj hl).symm
    · cases hl
  rw [e1, e2]
  exact OwnR.nil_ _ _
/-- The outer cell of a row that is taken out. -/
theorem Mem.storeO {v : Value} {vs : List Value} {m : List (List Int)} {out : Nat → Bool} {i : Int} (hM : Mem W w (aMatO ts ti v vs m out :: As)) (h0 : 0 ≤ i) (h1 : i < vs.length) (ho : out i.toNat = true) (u : Value) :
    (∃ u', w.cell? (elemAddr v i) = some u') ∧ w.frozen? (elemAddr v i) = false ∧ Mem W (w.setCell (elemAddr v i) u) (aMatO ts ti v (vs.set i.toNat u) m out :: As) := by
  obtain ⟨f, ⟨hf, how, _⟩, _⟩ := hM.get (i := 0) rfl
  obtain ⟨hc, hfz, h2, h3⟩ := own_store how h0 h1 u
  refine ⟨hc, hfz, hM.turn h3.os h3.tape h3.output h3.size fun f hs hn => ?_⟩
  obtain ⟨e1, e2, e3, e4⟩ := hs
  have hno : ∀ k, k ∉ f → some k ≠ v.ownBlock := fun k hk e => hk (by rw [e1]; exact List.mem_append_left _ (by unfold obl; rw [← e]; simp))
  have hdis : ∀ g ∈ rowsFp out 0 vs, some g ≠ v.ownBlock := fun g hg e => by
    rw [e1] at hn
    exact (List.nodup_append.1 hn).2.2 g (by unfold obl; rw [← e]; simp) g hg rfl
  refine ⟨f, ⟨by rw [e1, rowsFp_set u (by simpa using ho)], h2, by simpa using e3, fun j y l hj hy hl => ?_⟩, hn, fun g hg => .inl hg, fun k hk hnot => h3.block k hk (hno k hnot)⟩
  have hne : i.toNat ≠ j := fun e => by rw [e, hj] at ho; cases ho
  rw [List.getElem?_set_ne hne] at hy
  refine (e4 j y l hj hy hl).keep fun g hg => h3.block g ((e4 j y l hj hy hl).lt g hg) (hdis g (mem_rowsFp hy (by simpa using hj) g hg))
/-- 'm[i] = row', the old row taken out. -/
theorem x_storeH {v xv : Value} {vs : List Value} {i : Int} {m m' : List (List Int)} {l : List Int} {out : Nat → Bool} (he : ElT P ts z by_) (hM : Mem W w (aInts ti xv l :: aMatO ts ti v vs m (setO out i.toNat) :: As)) (ho : out i.toNat = false) (hu : upd m i l = some m') :
    ∃ w', (Instr.storeAt ts (.pointer (some (elemAddr v i))) xv).run P w = .ok () w' ∧ Mem W w' (aMatO ts ti v (vs.set i.toNat xv) m' out :: As) := by
  obtain ⟨rfl, h0, h1⟩ := upd_spec hu
  have hx1 := hM.one
  have hM1 : Mem W w (aMatO ts ti v vs m (setO out i.toNat) :: aInts ti xv l :: As) := hM.front 1 rfl
  obtain ⟨f, ⟨_, _, hlen, _⟩, _⟩ := hM1.get (i := 0) rfl
  obtain ⟨⟨u', hc⟩, hf, h2⟩ := hM1.storeO h0 (by omega) (setO_same _ _) xv
  obtain ⟨j, hj, _, hjs, _⟩ := he.info
  refine ⟨_, run_storeAt ⟨j, hj, hjs⟩ hx1 hc hf, ?_⟩
  have h3 : Mem W _ (aInts ti xv l :: aMatO ts ti v (vs.set i.toNat xv) m (setO out i.toNat) :: As) := h2.front 1 rfl
  exact h3.put ho (by rw [List.getElem?_set_self (by omega)])
/-- 'm[i] = row' -/
theorem x_storeR {v xv : Value} {vs : List Value} {i : Int} {m m' : List (List Int)} {l : List Int} (he : ElT P ts z by_) (hM : Mem W w (aMat ts ti v vs m :: aInts ti xv l :: As)) (hu : upd m i l = some m') :
    ∃ w', (Instr.storeAt ts (.pointer (some (elemAddr v i))) xv).run P w = .ok () w' ∧ Mem W w' (aMat ts ti v (vs.set i.toNat xv) m' :: As) := by
  obtain ⟨_, h0, h1⟩ := upd_spec hu
  obtain ⟨f, ⟨_, _, hlen, _⟩, _⟩ := hM.get (i := 0) rfl
  have hM2 := (hM.take (j := i.toNat) rfl (List.getElem?_eq_getElem (by omega)) (List.getElem?_eq_getElem (by omega))).drop
  exact x_storeH he (hM2.front 1 rfl) rfl hu
/-- A captured variable. -/
theorem x_box {v : Value} (hv : v.oneCell' = true) (hs : Fr a N L) (hx : evL L x = some v) (hM : Mem W w As) :
    ∃ p w', (execOp a.eval ⟨d, .box e x, ty, pos, af, gd⟩).run P w = .ok (.value p) w' ∧ ∃ g, p = .pointer (some ⟨g, 0, none⟩) ∧ Mem W w' (aBlk g e [v] :: As) := by
  refine ⟨.pointer (some ⟨w.heap.size, 0, none⟩), w.alloc (.cells #[v] e), by simp [execOp, Instr.box, newVar, newRow, hs.ev hx, cells_one v hv], w.heap.size, rfl, ?_⟩
  exact hM.new_ ((Below.refl _ _).alloc (Nat.le_refl _) _) (f := [w.heap.size]) ⟨rfl, by exact heap_alloc_new w _⟩ (by simp) (by simp)
theorem Mem.cellBlk (hM : Mem W w As) (i : Nat) {g : Nat} {cs : List Value} (hi : As[i]? = some (aBlk g e cs)) (j : Nat) {u : Value} (hu : cs[j]? = some u) : w.cell? ⟨g, j, none⟩ = some u := by
  obtain ⟨f, ⟨_, h1⟩, _⟩ := hM.get hi
  rw [cell_of_row w g j cs.toArray e (0, 0) h1]
  simpa using hu
theorem Mem.ltBlk (hM : Mem W w As) (i : Nat) {g : Nat} {cs : List Value} (hi : As[i]? = some (aBlk g e cs)) : g < w.heap.size := by
  obtain ⟨f, ⟨h0, h1⟩, h2⟩ := hM.get hi
  exact (h2 g (by rw [h0]; simp)).2
theorem x_storeBlk {g : Nat} {v u : Value} (he : ElT P e z by_) (hu : u.oneCell' = true) (hM : Mem W w (aBlk g e [v] :: As)) :
    ∃ w', (Instr.storeAt e (.pointer (some ⟨g, 0, none⟩)) u).run P w = .ok () w' ∧ Mem W w' (aBlk g e [u] :: As) := by
  obtain ⟨f, ⟨hf, h1⟩, hlt⟩ := hM.get (i := 0) rfl
  obtain ⟨j, hj, _, hjs, _⟩ := he.info
  refine ⟨_, run_storeAt ⟨j, hj, hjs⟩ hu (hM.cellBlk 0 rfl 0 rfl) (frozen_of_row w g 0 _ e h1), hM.turn rfl rfl rfl (by simp [World.setCell]) fun f hs hn => ⟨f, ⟨hs.1, ?_⟩, hn, fun g hg => .inl hg, fun k hk hnot => ?_⟩⟩
  · have := heap_setCell_same w g 0 [v].toArray e u h1
    simpa using this
  · refine heap_setCell_other w ⟨g, 0, none⟩ k u fun e => hnot ?_
    rw [hs.1, e]; simp
end

/-- A contract whose result is a plain value, in a region that draws. -/
theorem q_of {P : Program} {f : Nat} {vs : Array Value} {v : Value} {w w1 : World} (hw : Below w.heap.size w w1) (h : Calls P f vs w1 fun e w' => ∃ u, e = .returned u ∧ u = v ∧ Mem w1 w' []) :
    Calls P f vs w1 fun e w' => e = .returned v ∧ Below w.heap.size w w' :=
  h.mono fun e w' ⟨u, he, hu, hM⟩ => ⟨by rw [he, hu], hw.trans (hM.bel.mono hw.size)⟩
theorem RdS.one {α : Type} {R : World → Value → α → Prop} {w : World} {v : Value} {l : List α} (h : RdS R w v l) : v.oneCell' = true := by
  obtain ⟨A, c, rfl, _⟩ := h
  rfl
theorem Hpl.take {w : World} : ∀ {As : List Atom} {F : List Nat} (n : Nat), Hpl w As F → ∃ F1 F2, F = F1 ++ F2 ∧ Hpl w (As.take n) F1
  | As, F, 0, h => ⟨[], F, rfl, by rw [List.take_zero]; rfl⟩
  | [], F, n + 1, h => ⟨F, [], by simp, by rw [List.take_nil]; exact h⟩
  | A :: As, F, n + 1, ⟨f, F', e, h1, h2⟩ => by
    obtain ⟨F1, F2, e2, h3⟩ := Hpl.take n h2
    exact ⟨f ++ F1, F2, by rw [e, e2, List.append_assoc], ⟨f, F1, rfl, h1, h3⟩⟩
/-- The first n atoms alone. -/
theorem Mem.keep_ {W w : World} {As : List Atom} (n : Nat) (h : Mem W w As) : Mem W w (As.take n) := by
  obtain ⟨F, h1, h2, h3⟩ := h.hp.ex
  obtain ⟨F1, F2, e, h4⟩ := h1.take n
  subst e
  exact ⟨h.bel, ⟨F1, h4, (List.nodup_append.1 h2).1, fun g hg => h3 g (List.mem_append_left _ hg)⟩⟩
theorem Mem.eq_ {W w : World} {As Bs : List Atom} (h : Mem W w As) (e : As = Bs) : Mem W w Bs := e ▸ h

/-- Handed on, or nil. -/
theorem Mem.condI {W w : World} {As : List Atom} {e : TypeId} {v : Value} {l : List Int} (h : Mem W w (aInts e v l :: As)) (p : Bool) : Mem W w (aInts e (cond p v (.slice none 0 0)) (cond p l []) :: As) := by
  cases p
  · exact h.drop.nilI e
  · exact h
theorem Mem.condM {W w : World} {As : List Atom} {ts ti : TypeId} {v : Value} {vs : List Value} {m : List (List Int)} (h : Mem W w (aMat ts ti v vs m :: As)) (p : Bool) :
    Mem W w (aMat ts ti (cond p v (.slice none 0 0)) (cond p vs []) (cond p m []) :: As) := by
  cases p
  · exact h.drop.nilM ts ti
  · exact h

/-! ### Loops over lists -/
theorem RdS.len {α : Type} {R : World → Value → α → Prop} {w : World} {v : Value} {l : List α} (h : RdS R w v l) : l.length ≤ maxLen := by
  obtain ⟨A, c, _, h, _⟩ := h
  exact h.1
theorem drop_f {α : Type} {l : List α} {j : Nat} (h : l.drop j = []) : decide ((j : Int) < (l.length : Int)) = false := by
  have := List.drop_eq_nil_iff.1 h
  exact decide_eq_false (by omega)
theorem drop_lt {α : Type} {l rest : List α} {j : Nat} {x : α} (h : l.drop j = x :: rest) : j < l.length := by
  rcases Nat.lt_or_ge j l.length with h1 | h1
  · exact h1
  · rw [List.drop_eq_nil_of_le h1] at h; cases h
theorem drop_t {α : Type} {l rest : List α} {j : Nat} {x : α} (h : l.drop j = x :: rest) : decide ((j : Int) < (l.length : Int)) = true := by
  have := drop_lt h
  exact decide_eq_true (by omega)
theorem drop_idx {α : Type} {l rest : List α} {j : Nat} {x : α} (h : l.drop j = x :: rest) : idx l (j : Int) = some x := by
  have h1 := drop_lt h
  rw [List.drop_eq_getElem_cons h1] at h
  injection h with h2 _
  exact idx_mk (by rw [List.getElem?_eq_getElem h1, h2])
theorem drop_next {α : Type} {l rest : List α} {j : Nat} {x : α} (h : l.drop j = x :: rest) : l.drop (j + 1) = rest := by
  have h1 := drop_lt h
  rw [List.drop_eq_getElem_cons h1] at h
  injection h
theorem ck_succ {α : Type} {l rest : List α} {j : Nat} {x : α} (h : l.drop j = x :: rest) (hl : l.length ≤ maxLen) : ck ((j : Int) + 1) = some ((j + 1 : Nat) : Int) := by
  have h1 := drop_lt h
  have h2 : maxLen = 9223372036854775807 := rfl
  rw [show ((j + 1 : Nat) : Int) = (j : Int) + 1 by omega]
  exact ck_mk (by omega)
theorem cnt_f {n : Int} {j : Nat} (h : (n - j).toNat = 0) : decide ((j : Int) < n) = false := decide_eq_false (by omega)
theorem cnt_t {n : Int} {j r : Nat} (h : (n - j).toNat = r + 1) : decide ((j : Int) < n) = true := decide_eq_true (by omega)
theorem cnt_next {n : Int} {j r : Nat} (h : (n - j).toNat = r + 1) : (n - (j + 1 : Nat)).toNat = r := by omega
theorem cnt_succ {n : Int} {j r : Nat} {n' : Int} (h : (n - j).toNat = r + 1) (hn : ck n = some n') : ck ((j : Int) + 1) = some ((j + 1 : Nat) : Int) := by
  obtain ⟨_, h2⟩ := ck_spec hn
  rw [show ((j + 1 : Nat) : Int) = (j : Int) + 1 by omega]
  exact ck_mk (by omega)

/-! ### Forms of code -/
section
variable {P : Program} {Q : Exit → Act → World → Prop} {a : Act} {w : World} {N : Nat} {L : List (Nat × Value)}
theorem x_cond {c : Operand} {x y : Code} {b : Bool} (hs : Fr a N L) (hc : evL L c = some (.bool b)) (ht : b = true → x.wp P Q a w) (hf : b = false → y.wp P Q a w) : (Code.cond c x y).wp P Q a w :=
  wp_cond_split (hs.ev hc) ht hf
theorem x_condT {c : Operand} {x y : Code} {b : Bool} (hs : Fr a N L) (hc : evL L c = some (.bool b)) (hb : b = true) (ht : x.wp P Q a w) : (Code.cond c x y).wp P Q a w :=
  wp_cond_true (by rw [hs.ev hc, hb]) ht
theorem x_condF {c : Operand} {x y : Code} {b : Bool} (hs : Fr a N L) (hc : evL L c = some (.bool b)) (hb : b = false) (hf : y.wp P Q a w) : (Code.cond c x y).wp P Q a w :=
  wp_cond_false (by rw [hs.ev hc, hb]) hf
theorem x_regq {id : Nat} {l : List Oper} (hm : P.follows .mixedOrders = true) (hB : Region.lexB .any l.toArray = true)
    (h : wpQuiet P l.toArray (fun w' => Below w.heap.size w w') (fun a' => ∀ w', Below w.heap.size w w' → Q .normal a' w') l a) : (Code.region id l.toArray true).wp P Q a w :=
  wp_region_quiet (C := fun w' => Below w.heap.size w w') hm hB ⟨rfl, rfl, rfl, Nat.le_refl _, fun _ _ => rfl⟩ (by simpa using h)
theorem x_nt {K : Act → World → Prop} (h : K a w) : Exit.then K Q .normal a w := h
theorem x_nb {id : Nat} (h : Q .normal a w) : Exit.inBlock id Q .normal a w := h
theorem x_rt {K : Act → World → Prop} (h : Q .ret a w) : Exit.then K Q .ret a w := h
theorem x_rb {id : Nat} (h : Q .ret a w) : Exit.inBlock id Q .ret a w := h
theorem x_et {K : Act → World → Prop} {i : Nat} (h : Q (.exit i) a w) : Exit.then K Q (.exit i) a w := h
theorem x_eb {i : Nat} (h : Q .normal a w) : Exit.inBlock i Q (.exit i) a w := by simpa [Exit.inBlock] using h
theorem x_ep {i j : Nat} (hne : Nat.beq i j = false) (h : Q (.exit i) a w) : Exit.inBlock j Q (.exit i) a w := by
  have : i ≠ j := fun e => by rw [e, Nat.beq_refl] at hne; cases hne
  simpa [Exit.inBlock, this] using h
theorem x_loop {c : Code} (I : Nat → Act → World → Prop) (k0 : Nat) (h0 : I k0 a w)
    (round : ∀ k a w, I k a w → c.wp P (Exit.then (fun a' w' => ∃ k', k' < k ∧ I k' a' w') Q) a w) : (Code.loop c).wp P Q a w := by
  intro b q cs
  have key : ∀ k a w, I k a w → ∃ e a' w', Q e a' w' ∧ Arrives P (lone (b.at a (.code c :: .inLoop c :: q)) cs w) b q cs e a' w' := by
    intro k
    induction k using Nat.strongRecOn with
    | _ k ih =>
      intro a w hI
      obtain ⟨e, a₁, w₁, hq, harr⟩ := round k a w hI b (.inLoop c :: q) cs
      cases e with
      | normal =>
        obtain ⟨k', hk, hI'⟩ := hq
        obtain ⟨e₂, a₂, w₂, hq₂, harr₂⟩ := ih k' hk a₁ w₁ hI'
        exact ⟨e₂, a₂, w₂, hq₂, .of_steps (Steps.trans harr (.one step_inLoop)) harr₂⟩
      | exit id => exact ⟨_, a₁, w₁, hq, .pass (x := .inLoop c) rfl (fun _ _ => .inl (by simp)) harr⟩
      | goto l => exact ⟨_, a₁, w₁, hq, .pass (x := .inLoop c) rfl (fun _ _ => .inl (by simp)) harr⟩
      | ret => exact ⟨_, a₁, w₁, hq, .pass (x := .inLoop c) rfl (fun _ _ => .inl (by simp)) harr⟩
      | panic ch => exact ⟨_, a₁, w₁, hq, .pass (x := .inLoop c) rfl (fun _ _ => .inl (by simp)) harr⟩
      | outgrown => exact ⟨_, a₁, w₁, hq, .pass (x := .inLoop c) rfl (fun _ _ => .inl (by simp)) harr⟩
  obtain ⟨e, a', w', hq, harr⟩ := key k0 a w h0
  exact ⟨e, a', w', hq, .of_steps (.one step_loop) harr⟩

/-- A cut: what holds wherever x comes to its end. -/
theorem x_mid {x : Code} (Mid : Act → World → Prop) (h : x.wp P (Exit.then Mid Q) a w) (k : ∀ a w, Mid a w → Q .normal a w) : x.wp P Q a w := by
  refine wp_mono h fun e a w hq => ?_
  cases e with
  | normal => exact k _ _ hq
  | _ => exact hq

def argsL : Nat → List Value → List (Nat × Value)
  | _, [] => []
  | k, v :: r => (k, v) :: argsL (k + 1) r
theorem look_args : ∀ {vs : List Value} {k t : Nat} {v : Value}, look (argsL k vs) t = some v → ∃ j, t = k + j ∧ vs[j]? = some v
  | x :: r, k, t, v, h => by
    simp only [argsL, look] at h
    cases hb : Nat.beq k t
    · rw [hb] at h
      obtain ⟨j, hj, hv⟩ := look_args h
      exact ⟨j + 1, by omega, by simpa using hv⟩
    · rw [hb] at h
      have := Nat.eq_of_beq_eq_true hb
      simp only [cond_true, Option.some.injEq] at h
      exact ⟨0, by omega, by simpa using h⟩
theorem x_enter {f : Nat} {fn : Func} {c : Code} {vs : List Value} {R : Ending → World → Prop} (hf : P.funcs[f]? = some fn) (hb : fn.body = some c) (hn : fn.ntmps = N) (hl : Nat.ble vs.length N = true)
    (h : ∀ a, Fr a N (argsL 0 vs) → c.wp P (bodyPost P fn R) a w) : Calls P f vs.toArray w R := by
  refine calls_of_wp hf hb (h _ ⟨rfl, ?_, fun t v ht => ?_⟩)
  · have := Nat.le_of_ble_eq_true hl
    simp [hn]
    omega
  · obtain ⟨j, hj, hv⟩ := look_args ht
    have hlt := (List.getElem?_eq_some_iff.1 hv).1
    have e : t = j := by omega
    subst e
    rw [Array.getElem?_append_left (by simpa using hlt)]
    simpa using hv
theorem x_ret1 {fn : Func} {R : Ending → World → Prop} {t : Nat} {v : Value} (hr : fn.results = #[.tmp t]) (hs : Fr a N L) (hv : look L t = some v) (h : R (.returned v) w) : bodyPost P fn R .ret a w :=
  bodyPost_ret (results_tmp hr _ _ _) hs.dfr (by simpa [Array.getD_eq_getD_getElem?, hs.get t v hv] using h)
theorem x_ret2 {fn : Func} {R : Ending → World → Prop} {t u : Nat} {v x : Value} (hr : fn.results = #[.tmp t, .tmp u]) (hs : Fr a N L) (hv : look L t = some v) (hx : look L u = some x) (h : R (.returned (.tuple #[v, x])) w) : bodyPost P fn R .ret a w :=
  bodyPost_ret (results_tmp2 hr _ _ _) hs.dfr (by simpa [Array.getD_eq_getD_getElem?, hs.get t v hv, hs.get u x hx] using h)
theorem x_ret3 {fn : Func} {R : Ending → World → Prop} {t u q : Nat} {v x y : Value} (hr : fn.results = #[.tmp t, .tmp u, .tmp q]) (hs : Fr a N L) (hv : look L t = some v) (hx : look L u = some x) (hy : look L q = some y) (h : R (.returned (.tuple #[v, x, y])) w) : bodyPost P fn R .ret a w :=
  bodyPost_ret (results_tmp3 hr _ _ _) hs.dfr (by simpa [Array.getD_eq_getD_getElem?, hs.get t v hv, hs.get u x hx, hs.get q y hy] using h)
theorem x_end0 {fn : Func} {R : Ending → World → Prop} (hr : fn.results = #[]) (hs : Fr a N L) (h : R (.returned (.tuple #[])) w) : bodyPost P fn R .normal a w :=
  bodyPost_end (results_none hr _ _ _) hs.dfr h
end
end Go.Proofs.YtcglmncmnlkpmaaDoor
/- Regions that draw their order and write: what only reads is taken first; what is left comes up one by one. The kit's laws on orders (Derived.Orders, Derived.OrdersHeld, Derived.Deep.Quiet), with a class of worlds and a condition at once. Nothing of a program is named here. -/
namespace Go.Proofs.YtcglmncmnlkpmaaDoor
open Go.RowKit
set_option linter.unusedVariables false

section
variable {P : Program} {md : Region.Mode} {ops : Array Oper} {Q : Exit → Act → World → Prop} {M : List Nat} {S : World → Prop}

/-- j waits for i, at once or by others. -/
def anc (md : Region.Mode) (ops : Array Oper) (i : Nat) : Nat → Nat → Bool
  | 0, _ => false
  | k + 1, j => match ops[j]? with
    | some o => o.after.any fun e => Region.binds md e && (e.on == i || anc md ops i k e.on)
    | none => false
/-- Some of the operations M need not come ahead of j. -/
def late (md : Region.Mode) (ops : Array Oper) (M : List Nat) (j : Nat) : Bool := M.any fun i => !anc md ops i ops.size j
def Closed (md : Region.Mode) (ops : Array Oper) (listed : Array Bool) : Prop :=
  ∀ j o, ops[j]? = some o → listed.getD j false = true → ∀ e ∈ o.after, Region.binds md e = true → listed.getD e.on false = true
def closedB (md : Region.Mode) (ops : Array Oper) (listed : Array Bool) : Bool :=
  (List.range ops.size).all fun j => match ops[j]? with
    | some o => !listed.getD j false || o.after.all fun e => !Region.binds md e || listed.getD e.on false
    | none => true
theorem closed_spec {listed : Array Bool} (h : closedB md ops listed = true) : Closed md ops listed := by
  intro j o ho hl e he hb
  have h1 := List.all_eq_true.1 h j (List.mem_range.2 (Array.getElem?_eq_some_iff.1 ho).1)
  rw [ho] at h1
  simp only [hl, Bool.not_true, Bool.false_or] at h1
  have h2 := Array.all_eq_true_iff_forall_mem.1 h1 e he
  simpa [hb] using h2
theorem anc_listed {listed : Array Bool} (hc : Closed md ops listed) {i : Nat} : ∀ (k j : Nat), (∀ o, ops[j]? = some o → ∀ e ∈ o.after, Region.binds md e = true → listed.getD e.on false = true) → anc md ops i k j = true → listed.getD i false = true := by
  intro k
  induction k with
  | zero => intro j _ h; cases h
  | succ k ih =>
    intro j hj h
    unfold anc at h
    split at h
    · rename_i o ho
      obtain ⟨q, hq, h2⟩ := Array.any_eq_true.1 h
      have he := Array.getElem_mem hq
      generalize o.after[q] = e at h2 he
      simp only [Bool.and_eq_true, Bool.or_eq_true, beq_iff_eq] at h2
      have hl := hj o ho e he h2.1
      rcases h2.2 with h3 | h3
      · rw [← h3]; exact hl
      · exact ih e.on (fun o' ho' => hc e.on o' ho' hl) h3
    · cases h

def wpOpS (P : Program) (ops : Array Oper) (i : Nat) (K : Act → World → Prop) (a : Act) (w : World) : Prop :=
  match ops[i]? with
  | none => K a w
  | some o => if Region.wanted o (yielded ops a.tmps) then o.wp P a w K (fun _ _ _ => False) else K (a.put o.dst undef) w
theorem upon_to {o : Oper} {a : Act} {w : World} {K K' : Act → World → Prop} {Q' : Exit → Act → World → Prop} (h : ∀ a w, K a w → K' a w) (hh : o.wp P a w K (fun _ _ _ => False)) : o.wp P a w K' Q' := by
  unfold Oper.wp at *
  generalize (execOp a.eval o).run P w = r at *
  cases r with
  | ok n w' =>
    cases n <;> simp only [Oper.upon] at hh ⊢ <;>
      first
        | exact h _ _ hh
        | exact Calls.mono hh (fun e w'' he => by cases e <;> first | exact h _ _ he | exact he.elim | (obtain ⟨_, _, hf⟩ := he; exact hf.elim))
        | exact Rows.mono hh (fun _ _ he => h _ _ he)
  | halt x w' => cases x <;> simp only [Oper.upon] at hh ⊢
theorem wpOpS_mono {i : Nat} {a : Act} {w : World} {K K' : Act → World → Prop} (h : ∀ a w, K a w → K' a w) (hh : wpOpS P ops i K a w) : wpOpS P ops i K' a w := by
  unfold wpOpS at *
  split
  · rename_i ho; simp only [ho] at hh; exact h _ _ hh
  · rename_i o ho
    simp only [ho] at hh
    split
    · rename_i hw; simp only [hw, if_true] at hh; exact upon_to h hh
    · rename_i hw; simp only [hw] at hh; exact h _ _ hh
theorem wpOpS_to {i : Nat} {a : Act} {w : World} {K K' : Act → World → Prop} (h : ∀ a w, K a w → K' a w) (hh : wpOpS P ops i K a w) : wpOp P ops Q i K' a w := by
  unfold wpOpS at hh
  unfold wpOp
  split
  · rename_i ho; simp only [ho] at hh; exact h _ _ hh
  · rename_i o ho
    simp only [ho] at hh
    split
    · rename_i hw; simp only [hw, if_true] at hh; exact .inl (upon_to h hh)
    · rename_i hw; simp only [hw] at hh; exact h _ _ hh

def Ext (w w' : World) : Prop := Below w.heap.size w w'
theorem Ext.refl (w : World) : Ext w w := Below.refl _ _
theorem Ext.trans {w w1 w2 : World} (h : Ext w w1) (h' : Ext w1 w2) : Ext w w2 := Below.trans h (h'.mono h.size)

def wpAnyS (P : Program) (md : Region.Mode) (ops : Array Oper) (Q : Exit → Act → World → Prop) (M : List Nat) (S : World → Prop) : Nat → Array Bool → Act → World → Prop
  | 0, listed, a, w => ∀ w1, Ext w w1 → Region.ready md ops listed = [] ∧ Q .normal a w1
  | fuel + 1, listed, a, w => ∀ w1, Ext w w1 → (Region.ready md ops listed = [] → Q .normal a w1) ∧
    ∀ i ∈ Region.ready md ops listed, wpOpS P ops i (fun a' w' => (late md ops M i = true → S w') ∧ wpAnyS P md ops Q M S fuel (listed.setIfInBounds i true) a' w') a w1
theorem wpAnyS_ext : ∀ {fuel : Nat} {listed : Array Bool} {a : Act} {w w1 : World}, wpAnyS P md ops Q M S fuel listed a w → Ext w w1 → wpAnyS P md ops Q M S fuel listed a w1
  | 0, _, _, _, _, h, he => fun w2 h2 => h w2 (he.trans h2)
  | _ + 1, _, _, _, _, h, he => fun w2 h2 => h w2 (he.trans h2)
theorem wpAny_of_S : ∀ (fuel : Nat) (listed : Array Bool) (a : Act) (w : World), wpAnyS P md ops Q M S fuel listed a w → wpAny P md ops Q fuel listed a w
  | 0, _, _, w, h => h w (Ext.refl w)
  | fuel + 1, _, _, w, h => ⟨(h w (Ext.refl w)).1, fun i hi => wpOpS_to (fun a' w' h' => wpAny_of_S fuel _ a' w' h'.2) ((h w (Ext.refl w)).2 i hi)⟩

/-- In every world that meets S the operation yields v, and leaves what stood there. -/
def YieldsS (P : Program) (ops : Array Oper) (S : World → Prop) (o : Oper) (v : Value) (a : Act) : Prop :=
  (Region.wanted o (yielded ops a.tmps) = true ∧ ∀ w, S w → o.quietAt P a (fun w' => Ext w w') w v) ∨
  (Region.wanted o (yielded ops a.tmps) = false ∧ v = undef)
theorem YieldsS.of_same {o : Oper} {v : Value} {a a' : Act} (hy : YieldsS P ops S o v a) (he : execOp a'.eval o = execOp a.eval o)
    (hw : Region.wanted o (yielded ops a'.tmps) = Region.wanted o (yielded ops a.tmps)) : YieldsS P ops S o v a' := by
  unfold YieldsS Oper.quietAt at *
  rw [he, hw]
  exact hy
theorem YieldsS.wpOpS {i : Nat} {o : Oper} {v : Value} {a : Act} (hi : ops[i]? = some o) (hy : YieldsS P ops S o v a) {K : Act → World → Prop} {w : World} (hS : S w)
    (h : ∀ w', Ext w w' → K (a.put o.dst v) w') : wpOpS P ops i K a w := by
  unfold YtcglmncmnlkpmaaDoor.wpOpS
  simp only [hi]
  rcases hy with ⟨hw, hv⟩ | ⟨hw, rfl⟩
  · simp only [hw, if_true]
    have h3 := hv w hS
    unfold Oper.quietAt at h3
    unfold Oper.wp
    generalize (execOp a.eval o).run P w = r at *
    cases r with
    | ok n w' =>
      cases n <;> simp only [Oper.quietUpon] at h3 <;> simp only [Oper.upon]
      case value u =>
        obtain ⟨e1, e2⟩ := h3
        rw [e1, e2]
        exact h _ (Ext.refl _)
      case skip =>
        obtain ⟨e1, e2⟩ := h3
        rw [e1, ← e2]
        exact h _ (Ext.refl _)
      case enter f args =>
        obtain ⟨e1, hc⟩ := h3
        rw [e1]
        exact hc.mono fun e w'' ⟨he, hw''⟩ => by subst he; exact h _ hw''
    | halt x w' => simp only [Oper.quietUpon] at h3
  · simp only [hw, Bool.false_eq_true, if_false]; exact h _ (Ext.refl _)
theorem wpOpS_put {j : Nat} {oi oj : Oper} {v : Value} (hj : ops[j]? = some oj) (hap : oi.apart ops oj = true)
    (hsi : ∀ cs b, oi.op ≠ .select cs b) (hsj : ∀ cs b, oj.op ≠ .select cs b) {K : Act → World → Prop} {a : Act} {w : World}
    (hy : YieldsS P ops S oi v a) (h : wpOpS P ops j K (a.put oi.dst v) w) :
    wpOpS P ops j (fun a' w' => YieldsS P ops S oi v a' ∧ K (a'.put oi.dst v) w') a w := by
  obtain ⟨h1, h2, h3⟩ := Oper.apart_spec hap
  have keep : ∀ (a : Act), YieldsS P ops S oi v a → ∀ u, YieldsS P ops S oi v (a.put oj.dst u) := fun a hy u =>
    hy.of_same (execOp_put oi hsi a oj.dst u h3) (wanted_put oi a oj.dst u h3)
  have keepD : ∀ d, YieldsS P ops S oi v { a with defers := d :: a.defers } := fun d => hy.of_same rfl rfl
  unfold wpOpS at *
  simp only [hj] at *
  rw [wanted_put oj a oi.dst v h1] at h
  split
  · rename_i hw
    simp only [hw, if_true] at h
    unfold Oper.wp at *
    rw [execOp_put oj hsj a oi.dst v h1] at h
    generalize (execOp a.eval oj).run P w = r at *
    cases r with
    | ok n w' =>
      cases n <;> simp only [Oper.upon] at h ⊢
      case value u => exact ⟨keep a hy u, by rw [← Act.put_comm a v u h2]; exact h⟩
      case skip => exact ⟨keep a hy _, by rw [← Act.put_comm a v undef h2]; exact h⟩
      case defer d =>
        refine ⟨keep _ (keepD d) _, ?_⟩
        rw [← Act.put_comm _ v undef h2, ← Act.put_defers]
        exact h
      case enter f args =>
        refine Calls.mono h fun e w'' he => ?_
        cases e with
        | returned u => exact ⟨keep a hy u, by rw [← Act.put_comm a v u h2]; exact he⟩
        | panicked c => exact he
        | outgrown => exact he
      case row row args => exact Rows.mono h fun u w'' he => ⟨keep a hy u, by rw [← Act.put_comm a v u h2]; exact he⟩
    | halt x w' => cases x <;> simp only [Oper.upon] at h ⊢
  · rename_i hw
    simp only [hw] at h
    exact ⟨keep a hy _, by rw [← Act.put_comm a v undef h2]; exact h⟩

theorem closed_set {listed : Array Bool} {j : Nat} (hc : Closed md ops listed) (hj : j ∈ Region.ready md ops listed) : Closed md ops (listed.setIfInBounds j true) := by
  obtain ⟨hun, oj, hoj, hall⟩ := mem_ready.1 hj
  intro k o ho hl e he hb
  by_cases hjk : j = k
  · subst hjk
    rw [hoj] at ho
    cases ho
    exact getD_set_true (hall e he hb)
  · rw [getD_set_ne false hjk] at hl
    exact getD_set_true (hc k o ho hl e he hb)
theorem not_late {i j : Nat} {listed : Array Bool} (hc : Closed md ops listed) (hM : i ∈ M) (hi : listed.getD i true = false) (hj : j ∈ Region.ready md ops listed) : late md ops M j = true := by
  unfold late
  refine List.any_eq_true.2 ⟨i, hM, ?_⟩
  cases h : anc md ops i ops.size j
  · rfl
  · obtain ⟨hun, oj, hoj, hall⟩ := mem_ready.1 hj
    have := anc_listed hc ops.size j (fun o ho => by rw [hoj] at ho; cases ho; exact hall) h
    rcases Nat.lt_or_ge i listed.size with h' | h'
    · simp [h'] at hi this; rw [hi] at this; cases this
    · simp [Array.getElem?_eq_none h'] at hi

theorem wpAnyS_first {i : Nat} {oi : Oper} {v : Value} (hi : ops[i]? = some oi) (hM : i ∈ M) (hSC : ∀ w w', S w → Ext w w' → S w') (hsel : ∀ (j : Nat) (o : Oper) cs b, ops[j]? = some o → o.op ≠ .select cs b) :
    ∀ (fuel : Nat) (listed : Array Bool) (a : Act) (w : World), Closed md ops listed →
      (∀ j oj, ops[j]? = some oj → j ≠ i → listed.getD j true = false → (∀ e ∈ oj.after, Region.binds md e = true → e.on ≠ i) → oi.apart ops oj = true) →
      i ∈ Region.ready md ops listed → YieldsS P ops S oi v a → S w →
      wpAnyS P md ops Q M S fuel (listed.setIfInBounds i true) (a.put oi.dst v) w → wpAnyS P md ops Q M S (fuel + 1) listed a w := by
  intro fuel
  induction fuel with
  | zero =>
    intro listed a w _ _ hr hy hS H w1 hw1
    refine ⟨fun h => (by rw [h] at hr; cases hr), fun j hj => ?_⟩
    by_cases hji : j = i
    · subst hji
      exact hy.wpOpS hi (hSC _ _ hS hw1) fun w' h' => ⟨fun _ => hSC _ _ hS (hw1.trans h'), wpAnyS_ext H (hw1.trans h')⟩
    · have := ready_mono hj hji
      rw [(H w1 hw1).1] at this
      cases this
  | succ fuel ih =>
    intro listed a w hc hfree hr hy hS H w1 hw1
    refine ⟨fun h => (by rw [h] at hr; cases hr), fun j hj => ?_⟩
    by_cases hji : j = i
    · subst hji
      exact hy.wpOpS hi (hSC _ _ hS hw1) fun w' h' => ⟨fun _ => hSC _ _ hS (hw1.trans h'), wpAnyS_ext H (hw1.trans h')⟩
    · have h1 := (H w1 hw1).2 j (ready_mono hj hji)
      obtain ⟨hjun, oj, hoj, hall⟩ := mem_ready.1 hj
      have hun : listed.getD i true = false := (mem_ready.1 hr).1
      have hnot : ∀ e ∈ oj.after, Region.binds md e = true → e.on ≠ i := fun e he hb heq => by
        have h1 := hall e he hb
        rw [heq] at h1
        rcases Nat.lt_or_ge i listed.size with h' | h'
        · simp [h'] at hun h1; rw [hun] at h1; cases h1
        · simp [Array.getElem?_eq_none h'] at h1
      have hlate := not_late hc hM hun hj
      have h2 := wpOpS_put hoj (hfree j oj hoj hji hjun hnot) (fun cs b => hsel i oi cs b hi) (fun cs b => hsel j oj cs b hoj) hy h1
      have hfree' : ∀ k ok, ops[k]? = some ok → k ≠ i → (listed.setIfInBounds j true).getD k true = false →
          (∀ e ∈ ok.after, Region.binds md e = true → e.on ≠ i) → oi.apart ops ok = true := fun k ok hk hki hun hno => by
        refine hfree k ok hk hki ?_ hno
        by_cases hjk : j = k
        · subst hjk; exact hjun
        · rw [getD_set_ne true hjk] at hun; exact hun
      refine wpOpS_mono (fun a' w' h3 => ⟨h3.2.1, ih (listed.setIfInBounds j true) a' w' (closed_set hc hj) hfree' (ready_mono hr (Ne.symm hji)) h3.1 (h3.2.1 hlate) ?_⟩) h2
      rw [Array.setIfInBounds_comm _ _ hji]
      exact h3.2.2

/-! ### The moves -/
theorem wc_start {id : Nat} {a : Act} {w : World} {n : Nat} (hm : P.follows .mixedOrders = true) (M : List Nat) (S : World → Prop) (hn : ops.size = n)
    (h : wpAnyS P .any ops Q M S n (Array.replicate n false) a w) : (Code.region id ops true).wp P Q a w := by
  subst hn
  exact wp_region_any hm (wpAny_of_S _ _ _ _ (wpAnyS_ext h ⟨rfl, rfl, rfl, Nat.le_refl _, fun _ _ => rfl⟩))

variable {a : Act} {w : World} {N : Nat} {L : List (Nat × Value)} {fuel : Nat} {listed : Array Bool}
/-- All that is asked of an operation that is taken first, by one reckoning. -/
def takeB (md : Region.Mode) (ops : Array Oper) (M : List Nat) (listed : Array Bool) (i : Nat) : Bool :=
  Region.noSelect ops && Region.free md ops listed i && (Region.ready md ops listed).contains i && closedB md ops listed && M.contains i
theorem wc {d i : Nat} {op : Op} {ty : TypeId} {pos : String} {af : Array Edge} {v : Value} (hi : ops[i]? = some ⟨some d, op, ty, pos, af, none⟩) (hB : takeB md ops M listed i = true)
    (hSC : ∀ w w', S w → Ext w w' → S w') (hS : S w) (hs : Fr a N L)
    (h : ∀ w1, S w1 → Yld P ⟨some d, op, ty, pos, af, none⟩ a w1 v) (hd : Nat.ble (d + 1) N = true) (k : ∀ a', Fr a' N ((d, v) :: L) → wpAnyS P md ops Q M S fuel (listed.setIfInBounds i true) a' w) :
    wpAnyS P md ops Q M S (fuel + 1) listed a w := by
  simp only [takeB, Bool.and_eq_true] at hB
  obtain ⟨⟨⟨⟨h1, h2⟩, h3⟩, h4⟩, h5⟩ := hB
  refine wpAnyS_first hi (by simpa using h5) hSC (Region.noSelect_spec h1) fuel listed a w (closed_spec h4) (Region.free_spec hi h2) (by simpa using h3) (.inl ⟨rfl, fun w1 hw1 => ?_⟩) hS (k _ (hs.put (Nat.le_of_ble_eq_true hd) v))
  have := h w1 hw1
  unfold Yld at this
  unfold Oper.quietAt
  rw [this]
  exact ⟨rfl, rfl⟩
theorem ccall {d f i : Nat} {xs : List Operand} {ats : Array TypeId} {ty : TypeId} {pos : String} {af : Array Edge} {vs : List Value} {v : Value} (hi : ops[i]? = some ⟨some d, .call ⟨.value (.func f), xs.toArray, ats⟩, ty, pos, af, none⟩) (hB : takeB md ops M listed i = true)
    (hSC : ∀ w w', S w → Ext w w' → S w') (hS : S w) (his : Is P f) (hs : Fr a N L) (he : evA L xs = some vs) (hd : Nat.ble (d + 1) N = true)
    (h : ∀ w1, S w1 → Calls P f vs.toArray w1 fun e w' => e = .returned v ∧ Ext w1 w') (k : ∀ a', Fr a' N ((d, v) :: L) → wpAnyS P md ops Q M S fuel (listed.setIfInBounds i true) a' w) :
    wpAnyS P md ops Q M S (fuel + 1) listed a w := by
  simp only [takeB, Bool.and_eq_true] at hB
  obtain ⟨⟨⟨⟨h1, h2⟩, h3⟩, h4⟩, h5⟩ := hB
  refine wpAnyS_first hi (by simpa using h5) hSC (Region.noSelect_spec h1) fuel listed a w (closed_spec h4) (Region.free_spec hi h2) (by simpa using h3) (.inl ⟨rfl, fun w1 hw1 => ?_⟩) hS (k _ (hs.put (Nat.le_of_ble_eq_true hd) v))
  unfold Oper.quietAt
  rw [exec_call his hs he]
  exact ⟨rfl, h w1 hw1⟩
theorem cx_of {P : Program} {f : Nat} {vs : Array Value} {v : Value} {w1 : World} (h : Calls P f vs w1 fun e w' => ∃ u, e = .returned u ∧ u = v ∧ Mem w1 w' []) :
    Calls P f vs w1 fun e w' => e = .returned v ∧ Ext w1 w' := h.mono fun e w' ⟨u, he, hu, hm⟩ => ⟨by rw [he, hu], hm.bel⟩
def onN (K : Act → World → Prop) : Exit → Act → World → Prop
  | .normal, a, w => K a w
  | _, _, _ => False
def oneB (md : Region.Mode) (ops : Array Oper) (M : List Nat) (listed : Array Bool) (i : Nat) : Bool :=
  match Region.ready md ops listed with
  | [k] => Nat.beq k i && !late md ops M i
  | _ => false
theorem upon_on {o : Oper} {a : Act} {w : World} {K : Act → World → Prop} (hh : o.wp P a w (wpList P ops (onN K) []) (onN K)) : o.wp P a w K (fun _ _ _ => False) := by
  unfold Oper.wp at *
  generalize (execOp a.eval o).run P w = r at *
  cases r with
  | ok n w' =>
    cases n <;> simp only [Oper.upon] at hh ⊢ <;>
      first
        | exact hh
        | exact Calls.mono hh (fun e w'' he => by cases e <;> first | exact he | (obtain ⟨_, _, hf⟩ := he; exact hf.elim))
        | exact Rows.mono hh (fun _ _ he => he)
  | halt x w' => cases x <;> simp only [Oper.upon] at hh ⊢ <;> first | exact hh | exact hh.elim
/-- The one operation that may come up; what it leaves is met by none of those taken first. -/
theorem wc_one (i : Nat) {o : Oper} (hi : ops[i]? = some o) (hB : oneB md ops M listed i = true)
    (h : ∀ w1, Ext w w1 → wpList P ops (onN (fun a' w' => wpAnyS P md ops Q M S fuel (listed.setIfInBounds i true) a' w')) [o] a w1) : wpAnyS P md ops Q M S (fuel + 1) listed a w := by
  unfold oneB at hB
  split at hB
  · rename_i k hk
    simp only [Bool.and_eq_true, Bool.not_eq_true'] at hB
    have e := Nat.eq_of_beq_eq_true hB.1
    subst e
    intro w1 hw1
    rw [hk]
    refine ⟨fun h => (by cases h), fun j hj => ?_⟩
    rw [List.mem_singleton] at hj
    subst hj
    have := h w1 hw1
    unfold wpOpS
    simp only [hi]
    unfold wpList at this
    refine wpOpS_late (hB.2) this
  · cases hB
where
  wpOpS_late {o : Oper} {K : Act → World → Prop} {l : Bool} {w1 : World} (hl : l = false) (h : if Region.wanted o (yielded ops a.tmps) then o.wp P a w1 (wpList P ops (onN K) []) (onN K) ∨ (o.asks P a w1 ∧ LetsOut (onN K)) else wpList P ops (onN K) [] (a.put o.dst undef) w1) :
      if Region.wanted o (yielded ops a.tmps) then o.wp P a w1 (fun a' w' => (l = true → S w') ∧ K a' w') (fun _ _ _ => False) else (fun a' w' => (l = true → S w') ∧ K a' w') (a.put o.dst undef) w1 := by
    subst hl
    split
    · rename_i hw
      rw [if_pos hw] at h
      rcases h with h | ⟨_, _, _, hf⟩
      · exact upon_to (fun a' w' hk => ⟨fun h => (by cases h), hk⟩) (upon_on h)
      · exact hf.elim
    · rename_i hw
      rw [if_neg hw] at h
      exact ⟨fun h => (by cases h), h⟩
/-- One that may come ahead of some that were taken first: S stands behind it. -/
theorem wc_oneS (i : Nat) {o : Oper} (hi : ops[i]? = some o) (hB : (Region.ready md ops listed) = [i])
    (h : ∀ w1, Ext w w1 → wpList P ops (onN (fun a' w' => S w' ∧ wpAnyS P md ops Q M S fuel (listed.setIfInBounds i true) a' w')) [o] a w1) : wpAnyS P md ops Q M S (fuel + 1) listed a w := by
  intro w1 hw1
  rw [hB]
  refine ⟨fun h => (by cases h), fun j hj => ?_⟩
  rw [List.mem_singleton] at hj
  subst hj
  have := h w1 hw1
  unfold wpOpS
  simp only [hi]
  unfold wpList at this
  split
  · rename_i hw
    rw [if_pos hw] at this
    rcases this with h | ⟨_, _, _, hf⟩
    · exact upon_to (fun a' w' hk => ⟨fun _ => hk.1, hk.2⟩) (upon_on h)
    · exact hf.elim
  · rename_i hw
    rw [if_neg hw] at this
    exact ⟨fun _ => this.1, this.2⟩
/-- Either of two may come up. -/
theorem wc_two (i j : Nat) {oi oj : Oper} (hi : ops[i]? = some oi) (hj : ops[j]? = some oj) (hB : (Region.ready md ops listed) = [i, j])
    (h : ∀ w1, Ext w w1 → wpList P ops (onN (fun a' w' => S w' ∧ wpAnyS P md ops Q M S fuel (listed.setIfInBounds i true) a' w')) [oi] a w1)
    (h' : ∀ w1, Ext w w1 → wpList P ops (onN (fun a' w' => S w' ∧ wpAnyS P md ops Q M S fuel (listed.setIfInBounds j true) a' w')) [oj] a w1) : wpAnyS P md ops Q M S (fuel + 1) listed a w := by
  intro w1 hw1
  rw [hB]
  refine ⟨fun h => (by cases h), fun k hk => ?_⟩
  have key : ∀ (i : Nat) (o : Oper), ops[i]? = some o → wpList P ops (onN (fun a' w' => S w' ∧ wpAnyS P md ops Q M S fuel (listed.setIfInBounds i true) a' w')) [o] a w1 →
      wpOpS P ops i (fun a' w' => (late md ops M i = true → S w') ∧ wpAnyS P md ops Q M S fuel (listed.setIfInBounds i true) a' w') a w1 := by
    intro i o hi this
    unfold wpOpS
    simp only [hi]
    unfold wpList at this
    split
    · rename_i hw
      rw [if_pos hw] at this
      rcases this with h | ⟨_, _, _, hf⟩
      · exact upon_to (fun a' w' hk => ⟨fun _ => hk.1, hk.2⟩) (upon_on h)
      · exact hf.elim
    · rename_i hw
      rw [if_neg hw] at this
      exact ⟨fun _ => this.1, this.2⟩
  simp only [List.mem_cons, List.not_mem_nil, or_false] at hk
  rcases hk with e | e
  · subst e; exact key _ _ hi (h w1 hw1)
  · subst e; exact key _ _ hj (h' w1 hw1)
/-- Whichever of several comes up. -/
def AllUp (P : Program) (md : Region.Mode) (ops : Array Oper) (Q : Exit → Act → World → Prop) (M : List Nat) (S : World → Prop) (fuel : Nat) (listed : Array Bool) (a : Act) (w : World) : List Nat → Prop
  | [] => True
  | i :: r => (∀ o, ops[i]? = some o → ∀ w1, Ext w w1 → wpList P ops (onN (fun a' w' => S w' ∧ wpAnyS P md ops Q M S fuel (listed.setIfInBounds i true) a' w')) [o] a w1) ∧ AllUp P md ops Q M S fuel listed a w r
theorem allUp_at {i : Nat} {w1 : World} (hw : Ext w w1) : ∀ {l : List Nat}, AllUp P md ops Q M S fuel listed a w l → i ∈ l → ∀ o, ops[i]? = some o → wpList P ops (onN (fun a' w' => S w' ∧ wpAnyS P md ops Q M S fuel (listed.setIfInBounds i true) a' w')) [o] a w1
  | j :: r, h, hi, o, ho => by
    rcases List.mem_cons.1 hi with e | e
    · subst e; exact h.1 o ho w1 hw
    · exact allUp_at hw h.2 e o ho
theorem wc_many (l : List Nat) (hB : (Region.ready md ops listed) = l) (hne : l ≠ []) (h : AllUp P md ops Q M S fuel listed a w l) : wpAnyS P md ops Q M S (fuel + 1) listed a w := by
  intro w1 hw1
  rw [hB]
  refine ⟨fun h => absurd h hne, fun i hi => ?_⟩
  unfold wpOpS
  cases ho : ops[i]? with
  | none =>
    have : i ∈ Region.ready md ops listed := by rw [hB]; exact hi
    obtain ⟨_, o, ho', _⟩ := mem_ready.1 this
    rw [ho] at ho'; cases ho'
  | some o =>
    have := allUp_at hw1 h hi o ho
    unfold wpList at this
    simp only []
    split
    · rename_i hw
      rw [if_pos hw] at this
      rcases this with h | ⟨_, _, _, hf⟩
      · exact upon_to (fun a' w' hk => ⟨fun _ => hk.1, hk.2⟩) (upon_on h)
      · exact hf.elim
    · rename_i hw
      rw [if_neg hw] at this
      exact ⟨fun _ => this.1, this.2⟩
theorem wc_abs (h : ∀ T : Nat → Array Bool → Act → World → Prop, T = wpAnyS P md ops Q M S → T fuel listed a w) : wpAnyS P md ops Q M S fuel listed a w := h _ rfl
theorem wc_at {T : Nat → Array Bool → Act → World → Prop} {l l' : Array Bool} (e : l' = l) (h : T fuel l a w) : T fuel l' a w := e ▸ h
theorem wc_done (hr : (Region.ready md ops listed).isEmpty = true) (h : ∀ w1, Ext w w1 → Q .normal a w1) : wpAnyS P md ops Q M S fuel listed a w := by
  have hr := List.isEmpty_iff.1 hr
  cases fuel with
  | zero => exact fun w1 hw1 => ⟨hr, h w1 hw1⟩
  | succ k => exact fun w1 hw1 => ⟨fun _ => h w1 hw1, by rw [hr]; simp⟩
end
end Go.Proofs.YtcglmncmnlkpmaaDoor
/- More rules: append of a whole slice, slices cut at their end, structs of numbers. Nothing of a program is named here. -/
namespace Go.Proofs.YtcglmncmnlkpmaaDoor
open Go.RowKit
set_option linter.unusedVariables false
set_option linter.unusedSimpArgs false

/-! ### append(s, x...) -/
theorem own_grows {P : Program} {t ty e : TypeId} {z : Value} {by_ : Nat} (ht : P.underlying t = some (.slice e)) (he : ElT P e z by_) (hz1 : z.oneCell' = true) (hby : by_ ≤ 24) {w : World} {v u : Value} {xs us : List Value} (h : OwnR w e v xs)
    (hl : xs.length + us.length < 1000000000) (hu : RdS (fun _ y x => y = x ∧ y.oneCell' = true) w u us) :
    ∃ v' w', (Builtin.append_ #[t, t] ty #[v, u]).run P w = .ok v' w' ∧ OwnR w' e v' (xs ++ us) ∧ w.grownBy w' v.ownBlock ∧ (v'.ownBlock = v.ownBlock ∨ ∀ g, v'.ownBlock = some g → w.heap.size ≤ g) := by
  obtain ⟨A, c, hv, hm, hc⟩ := hu
  by_cases h0 : us.length = 0
  · have hn : us = [] := List.eq_nil_of_length_eq_zero h0
    subst hn
    cases A with
    | some ad =>
      rw [hv]
      exact own_app ht he hz1 hby h (by omega) ad c (by simp) (by simp)
    | none =>
      obtain ⟨i, hi, hz, hs, hb⟩ := he.info
      refine ⟨v, w, ?_, by simpa using h, ⟨rfl, rfl, rfl, Nat.le_refl _, fun _ _ _ => rfl⟩, .inl rfl⟩
      rw [hv]
      rcases h with ⟨rfl, hx⟩ | ⟨g, off, cap, cur, rfl, hg, hnc, hcm, hcs, htake⟩
      · simp [Builtin.append_, run_underlying ht, sizeOf, typeInfo, hi, Builtin.lenOf, Builtin.firstCells, loadCells, loadCellsFrom]
      · simp [Builtin.append_, run_underlying ht, sizeOf, typeInfo, hi, Builtin.lenOf, Builtin.firstCells, loadCells, loadCellsFrom, hnc, storeCells]
  · obtain ⟨ad, ha, hlt, hel⟩ := hc (by omega)
    subst ha
    rw [hv]
    refine own_app ht he hz1 hby h (by omega) ad c (fun j u' hj => ?_) (fun y hy => ?_)
    · obtain ⟨y, h1, h2, _⟩ := hel j u' hj
      rw [h1, h2]
    · obtain ⟨j, hj⟩ := List.getElem?_of_mem hy
      obtain ⟨y', _, h2, h3⟩ := hel j y hj
      rw [← h2]; exact h3
theorem Mem.grows {P : Program} {t ty e : TypeId} {z : Value} {by_ : Nat} (ht : P.underlying t = some (.slice e)) (he : ElT P e z by_) (hz1 : z.oneCell' = true) (hby : by_ ≤ 24) {W w : World} {As : List Atom} {v u : Value} {xs us : List Value} (h : Mem W w (aRow e v xs :: As))
    (hl : xs.length + us.length < 1000000000) (hu : RdS (fun _ y x => y = x ∧ y.oneCell' = true) w u us) :
    ∃ v' w', (Builtin.append_ #[t, t] ty #[v, u]).run P w = .ok v' w' ∧ Mem W w' (aRow e v' (xs ++ us) :: As) := by
  obtain ⟨f, ⟨hf, ho⟩, hlt⟩ := h.get (i := 0) rfl
  obtain ⟨v', w', hr, h2, h3, h5⟩ := own_grows (ty := ty) ht he hz1 hby ho hl hu
  refine ⟨v', w', hr, h.turn h3.os h3.tape h3.output h3.size fun f hs hn => ⟨obl v', ⟨rfl, h2⟩, ?_, fun g hg => ?_, fun k hk hnot => h3.block k hk ?_⟩⟩
  · unfold obl; cases v'.ownBlock <;> simp
  · rw [hs.1]
    have hlt' := h2.lt g hg
    unfold obl at hg ⊢
    rcases h5 with h5 | h5
    · rw [h5] at hg; exact .inl hg
    · exact .inr ⟨h5 g (by simpa using hg), hlt'⟩
  · intro e
    apply hnot
    rw [hs.1]
    unfold obl
    rw [← e]
    simp
theorem RdI.cells {w : World} {v : Value} {l : List Int} (h : RdI w v l) : RdS (fun _ y x => y = x ∧ y.oneCell' = true) w v (l.map (Value.int .i64)) := by
  obtain ⟨A, c, hv, hm, hc⟩ := h
  refine ⟨A, c, by simpa using hv, by simpa using hm, fun h0 => ?_⟩
  obtain ⟨ad, ha, hl, he⟩ := hc (by simpa using h0)
  refine ⟨ad, ha, hl, fun i x hx => ?_⟩
  rw [List.getElem?_map] at hx
  cases hi : l[i]? with
  | none => rw [hi] at hx; cases hx
  | some n =>
    rw [hi] at hx
    simp only [Option.map_some, Option.some.injEq] at hx
    obtain ⟨u, h1, h2⟩ := he i n hi
    refine ⟨u, h1, ?_, ?_⟩
    · rw [show u = _ from h2, hx]
    · rw [show u = _ from h2]; rfl
section
variable {P : Program} {ops : Array Oper} {Q : Exit → Act → World → Prop} {a : Act} {w W : World} {rest : List Oper} {N : Nat} {L : List (Nat × Value)} {As : List Atom}
variable {d : Option Nat} {ty : TypeId} {pos : String} {af : Array Edge} {gd : Option (Nat × Bool)} {t e ts ti : TypeId} {z : Value} {by_ : Nat} {x y s : Operand}
/-- 'append(s, x...)', numbers; s is owned or nil. -/
theorem x_appS {v u : Value} {l l2 l' : List Int} (ht : P.underlying t = some (.slice e)) (he : ElT P e (.int .i64 0) 8) (hs : Fr a N L) (hv : evA L [s, x] = some [v, u]) (hM : Mem W w (aInts e v l :: As)) (hr : RdI w u l2) (ha : appS l l2 = some l') :
    ∃ v' w', (execOp a.eval ⟨d, .call ⟨.builtin .append, #[s, x], #[t, t]⟩, ty, pos, af, gd⟩).run P w = .ok (.value v') w' ∧ Mem W w' (aInts e v' l' :: As) := by
  obtain ⟨rfl, hl⟩ := appS_spec ha
  obtain ⟨v', w', hr', hm⟩ := Mem.grows (ty := ty) ht he rfl (by omega) hM (us := l2.map (Value.int .i64)) (by simpa using hl) hr.cells
  refine ⟨v', w', ?_, by simpa [aInts] using hm⟩
  rw [exec_append (xs := []) hs hv, Sem.run_bind, hr']
  rfl
end
/-- A slice that is nil reads as the empty list. -/
theorem RdS.isnil {α : Type} {R : World → Value → α → Prop} {w : World} {v : Value} {l : List α} (h : RdS R w v l) : (∃ c, v = .slice none 0 c ∧ l = []) ∨ ∃ ad n c, v = .slice (some ad) n c := by
  obtain ⟨A, c, hv, hm, hc⟩ := h
  cases A with
  | some ad => exact .inr ⟨ad, _, c, hv⟩
  | none =>
    refine .inl ⟨c, ?_⟩
    cases l with
    | nil => exact ⟨by simpa using hv, rfl⟩
    | cons x l =>
      obtain ⟨ad, ha, _⟩ := hc (by simp)
      cases ha
theorem Mem.atMv {W w : World} {As : List Atom} (h : Mem W w As) (i : Nat) {ts ti : TypeId} {v x : Value} {vs : List Value} {m : List (List Int)} {out : Nat → Bool} {j : Int} {l : List Int} (hi : As[i]? = some (aMatO ts ti v vs m out))
    (hl : idx m j = some l) (hv : vs[j.toNat]? = some x) : ElemAt w v j x := by
  obtain ⟨u, h1, h2⟩ := h.atM i hi hl
  rw [h1] at hv
  cases hv
  exact h2
theorem wmemg {P : Program} {ops : Array Oper} {Q : Exit → Act → World → Prop} {a : Act} {w : World} {rest : List Oper} {N : Nat} {L : List (Nat × Value)} {d j : Nat} {b b' : Bool} {op : Op} {ty : TypeId} {pos : String} {af : Array Edge} {R : Value → World → Prop} (hs : Fr a N L)
    (hg : gval ops L j = some (.bool b')) (hb : b' = b)
    (h : ∃ v w', (execOp a.eval ⟨some d, op, ty, pos, af, some (j, b)⟩).run P w = .ok (.value v) w' ∧ R v w') (hd : Nat.ble (d + 1) N = true) (k : ∀ a' v w', Fr a' N ((d, v) :: L) → R v w' → wpList P ops Q rest a' w') :
    wpList P ops Q (⟨some d, op, ty, pos, af, some (j, b)⟩ :: rest) a w := by
  obtain ⟨v, w', hr, hR⟩ := h
  refine wpList_step fun K hK => ?_
  rw [wanted_of hs rfl hg, hb]
  simp only [beq_self_eq_true, if_true]
  unfold Oper.wp
  rw [hr]
  exact hK _ _ (k _ _ _ (hs.put (Nat.le_of_ble_eq_true hd) v) hR)
theorem on_nil {P : Program} {ops : Array Oper} {K : Act → World → Prop} {a : Act} {w : World} (h : K a w) : wpList P ops (onN K) [] a w := h
section
variable {P : Program} {d : Option Nat} {ty : TypeId} {pos : String} {af : Array Edge} {gd : Option (Nat × Bool)} {t e : TypeId} {a : Act} {w : World} {N : Nat} {L : List (Nat × Value)} {x y : Operand} {v : Value}
theorem y_nil_eqlT {t' : TypeId} {c : Nat} (ht : P.underlying t = some (.slice e)) (hs : Fr a N L) (hx : evL L x = some (.slice none 0 c)) (hy : evL L y = some (.slice none 0 0)) : Yld P ⟨d, .binOp .eql t x y t', ty, pos, af, gd⟩ a w (.bool true) := by
  have h1 : (eqGuard .eql t x y (.slice none 0 c) (.slice none 0 0)).run P w = .ok () w := rfl
  unfold Yld
  simp [execOp, hs.ev hx, hs.ev hy, h1, binOp, run_equal_slice_nil w t e none 0 c ht]
theorem y_nil_eqlF {t' : TypeId} {ad : Addr} {n c : Nat} (ht : P.underlying t = some (.slice e)) (hs : Fr a N L) (hx : evL L x = some (.slice (some ad) n c)) (hy : evL L y = some (.slice none 0 0)) : Yld P ⟨d, .binOp .eql t x y t', ty, pos, af, gd⟩ a w (.bool false) := by
  have h1 : (eqGuard .eql t x y (.slice (some ad) n c) (.slice none 0 0)).run P w = .ok () w := rfl
  unfold Yld
  simp [execOp, hs.ev hx, hs.ev hy, h1, binOp, run_equal_slice_nil w t e (some ad) n c ht]
end

/-! ### Matrices out of rows, and joined -/
theorem rowsFp_app {out : Nat → Bool} (h : ∀ i, out i = false) : ∀ {vs us : List Value} {k j : Nat}, rowsFp out k (vs ++ us) = rowsFp out k vs ++ rowsFp out j us
  | [], us, k, j => by
    simp only [List.nil_append, rowsFp]
    induction us generalizing k j with
    | nil => rfl
    | cons x r ih => simp only [rowsFp, h, cond_false]; rw [ih]
  | x :: r, us, k, j => by simp only [List.cons_append, rowsFp, h, cond_false, List.append_assoc]; rw [rowsFp_app h (j := j)]
theorem Mem.fuse {W w : World} {As : List Atom} {ts ti : TypeId} {v xv : Value} {l : List Int} (h : Mem W w (aRow ts v [xv] :: aInts ti xv l :: As)) : Mem W w (aMat ts ti v [xv] [l] :: As) := by
  obtain ⟨F, ⟨f, F', e, hs, ⟨f2, F2, e2, hs2, h2⟩⟩, h3, h4⟩ := h.hp.ex
  refine ⟨h.bel, ⟨F, ⟨f ++ f2, F2, by rw [e, e2, List.append_assoc], ⟨?_, hs.2, rfl, ?_⟩, h2⟩, h3, h4⟩⟩
  · rw [hs.1, hs2.1]
    simp [rowsFp]
  · intro i x q _ hx hq
    have hi : i = 0 := by
      have := (List.getElem?_eq_some_iff.1 hx).1
      simp at this; omega
    subst hi
    simp at hx hq
    subst hx; subst hq
    exact hs2.2
theorem RdS.vals {w : World} {v : Value} {vs : List Value} {e : TypeId} (h : OwnR w e v vs) (h1 : ∀ u ∈ vs, u.oneCell' = true) : RdS (fun _ y x => y = x ∧ y.oneCell' = true) w v vs :=
  h.rd rfl fun i u x hu hx => by rw [hu] at hx; cases hx; exact ⟨rfl, h1 u (List.mem_of_getElem? hu)⟩
theorem Mem.growsM {P : Program} {t ty ts ti : TypeId} (ht : P.underlying t = some (.slice ts)) (he : ElT P ts (.slice none 0 0) 24) {W w : World} {As : List Atom} {v u : Value} {vs us : List Value} {m m2 m' : List (List Int)} (h : Mem W w (aMat ts ti v vs m :: aMat ts ti u us m2 :: As))
    (ha : appS m m2 = some m') :
    ∃ v' w', (Builtin.append_ #[t, t] ty #[v, u]).run P w = .ok v' w' ∧ Mem W w' (aMat ts ti v' (vs ++ us) m' :: As) := by
  obtain ⟨rfl, hl⟩ := appS_spec ha
  obtain ⟨F, ⟨f, F', e, hs, ⟨f2, F2, e2, hs2, h2⟩⟩, h3, h4⟩ := h.hp.ex
  obtain ⟨h1, ho, hlen, hrows⟩ := hs
  obtain ⟨h1', ho', hlen', hrows'⟩ := hs2
  have hone : ∀ x ∈ us, x.oneCell' = true := fun x hx => by
    obtain ⟨i, hi⟩ := List.getElem?_of_mem hx
    have hil := (List.getElem?_eq_some_iff.1 hi).1
    exact own_one (hrows' i x m2[i] rfl hi (List.getElem?_eq_getElem (by omega)))
  obtain ⟨v', w', hr, g2, g3, g5⟩ := own_grows (ty := ty) ht he rfl (by omega) ho (by omega) (RdS.vals ho' hone)
  have hF : F = obl v ++ (rowsFp (fun _ => false) 0 vs ++ (obl u ++ (rowsFp (fun _ => false) 0 us ++ F2))) := by rw [e, e2, h1, h1']; simp
  subst hF
  obtain ⟨n1, n2, n3⟩ := List.nodup_append.1 h3
  have hdis : ∀ k, k ∈ (rowsFp (fun _ => false) 0 vs ++ (obl u ++ (rowsFp (fun _ => false) 0 us ++ F2))) → w'.heap[k]? = w.heap[k]? := fun k hk => g3.block k (h4 k (List.mem_append_right _ hk)).2 fun e => by
    refine n3 k ?_ k hk rfl
    unfold obl; rw [← e]; simp
  have hnew : ∀ g ∈ obl v', g ∈ obl v ∨ w.heap.size ≤ g := fun g hg => by
    unfold obl at hg ⊢
    rcases g5 with g5 | g5
    · rw [g5] at hg; exact .inl hg
    · exact .inr (g5 g (by simpa using hg))
  have efp : rowsFp (fun _ => false) 0 (vs ++ us) = rowsFp (fun _ => false) 0 vs ++ rowsFp (fun _ => false) 0 us := rowsFp_app (fun _ => rfl)
  refine ⟨v', w', hr, ⟨⟨g3.os.trans h.bel.os, g3.tape.trans h.bel.tape, g3.output.trans h.bel.output, Nat.le_trans h.bel.size g3.size, fun k hk => ?_⟩,
    ⟨(obl v' ++ rowsFp (fun _ => false) 0 (vs ++ us)) ++ F2, ⟨_, F2, rfl, ⟨rfl, g2, by simp [hlen, hlen'], ?_⟩, h2.keep fun g hg => hdis g (by simp [hg])⟩, ?_, fun g hg => ?_⟩⟩⟩
  · refine (g3.block k (Nat.lt_of_lt_of_le hk h.bel.size) fun e => ?_).trans (h.bel.block k hk)
    have := (h4 k (List.mem_append_left _ (by unfold obl; rw [← e]; simp))).1
    omega
  · intro i y q _ hy hq
    by_cases hi : i < vs.length
    · rw [List.getElem?_append_left hi] at hy
      rw [List.getElem?_append_left (by omega)] at hq
      exact (hrows i y q rfl hy hq).keep fun g hg => hdis g (List.mem_append_left _ (mem_rowsFp hy rfl g hg))
    · rw [List.getElem?_append_right (by omega)] at hy
      rw [List.getElem?_append_right (by omega)] at hq
      rw [show i - m.length = i - vs.length by omega] at hq
      exact (hrows' _ y q rfl hy hq).keep fun g hg => hdis g (by
        have := mem_rowsFp (out := fun _ => false) (k := 0) hy rfl g hg
        simp [this])
  · rw [efp]
    have n4 := (List.nodup_append.1 n2).2.1
    have n5 := (List.nodup_append.1 n4).2.1
    have all : (rowsFp (fun _ => false) 0 vs ++ rowsFp (fun _ => false) 0 us ++ F2).Nodup := by
      rw [List.append_assoc]
      refine List.nodup_append.2 ⟨(List.nodup_append.1 n2).1, n5, fun p hp q hq => (List.nodup_append.1 n2).2.2 p hp q (List.mem_append_right _ hq)⟩
    rw [List.append_assoc]
    refine List.nodup_append.2 ⟨by unfold obl; cases v'.ownBlock <;> simp, all, fun p hp q hq epq => ?_⟩
    subst epq
    have hin : p ∈ (rowsFp (fun _ => false) 0 vs ++ (obl u ++ (rowsFp (fun _ => false) 0 us ++ F2))) := by
      rcases List.mem_append.1 hq with h | h
      · rcases List.mem_append.1 h with h | h <;> simp [h]
      · simp [h]
    rcases hnew p hp with h | h
    · exact n3 p h p hin rfl
    · have := (h4 p (List.mem_append_right _ hin)).2
      omega
  · rcases List.mem_append.1 hg with hg | hg
    · rcases List.mem_append.1 hg with hg | hg
      · have hlt := g2.lt g hg
        rcases hnew g hg with h5 | h5
        · exact ⟨(h4 g (List.mem_append_left _ h5)).1, Nat.lt_of_lt_of_le (h4 g (List.mem_append_left _ h5)).2 g3.size⟩
        · exact ⟨Nat.le_trans h.bel.size h5, hlt⟩
      · rw [efp] at hg
        have hin : g ∈ (rowsFp (fun _ => false) 0 vs ++ (obl u ++ (rowsFp (fun _ => false) 0 us ++ F2))) := by
          rcases List.mem_append.1 hg with h | h <;> simp [h]
        exact ⟨(h4 g (List.mem_append_right _ hin)).1, Nat.lt_of_lt_of_le (h4 g (List.mem_append_right _ hin)).2 g3.size⟩
    · exact ⟨(h4 g (by simp [hg])).1, Nat.lt_of_lt_of_le (h4 g (by simp [hg])).2 g3.size⟩
section
variable {P : Program} {ops : Array Oper} {Q : Exit → Act → World → Prop} {a : Act} {w W : World} {rest : List Oper} {N : Nat} {L : List (Nat × Value)} {As : List Atom}
variable {d : Option Nat} {ty : TypeId} {pos : String} {af : Array Edge} {gd : Option (Nat × Bool)} {t e ts ti : TypeId} {z : Value} {by_ : Nat} {x y s : Operand}
theorem x_new1M {xv : Value} {l : List Int} (ht : P.underlying t = some (.slice ts)) (he : ElT P ts (.slice none 0 0) 24) (hs : Fr a N L) (hx : evL L x = some xv) (hM : Mem W w (aInts ti xv l :: As)) :
    ∃ v w', (execOp a.eval ⟨d, .buildSlice t 1 #[(0, x)], ty, pos, af, gd⟩).run P w = .ok (.value v) w' ∧ Mem W w' (aMat ts ti v [xv] [l] :: As) := by
  refine ⟨_, _, ?_, (hM.newRow ts [xv] (by simp [maxLen])).fuse⟩
  simp [execOp, hs.ev hx, run_build1 ht he xv hM.one]
theorem x_appSM {v u : Value} {vs us : List Value} {l l2 l' : List (List Int)} (ht : P.underlying t = some (.slice ts)) (he : ElT P ts (.slice none 0 0) 24) (hs : Fr a N L) (hv : evA L [s, x] = some [v, u]) (hM : Mem W w (aMat ts ti v vs l :: aMat ts ti u us l2 :: As)) (ha : appS l l2 = some l') :
    ∃ v' w', (execOp a.eval ⟨d, .call ⟨.builtin .append, #[s, x], #[t, t]⟩, ty, pos, af, gd⟩).run P w = .ok (.value v') w' ∧ Mem W w' (aMat ts ti v' (vs ++ us) l' :: As) := by
  obtain ⟨v', w', hr', hm⟩ := Mem.growsM (ty := ty) ht he hM ha
  refine ⟨v', w', ?_, hm⟩
  rw [exec_append (xs := []) hs hv, Sem.run_bind, hr']
  rfl
end

/-! ### l[:n] and l[n:] -/
theorem elem_of {P : Program} {t e : TypeId} (ht : P.underlying t = some (.slice e)) : P.elem t = e := by
  simp [Program.elem, ht]
theorem run_size {P : Program} {e : TypeId} {z : Value} {by_ : Nat} (he : ElT P e z by_) (w : World) : (sizeOf e).run P w = .ok 1 w := by
  obtain ⟨i, hi, hz, hs, hb⟩ := he.info
  simp [sizeOf, typeInfo, hi, hs]
theorem sliced_cut (A : Option Addr) (n c : Nat) : sliced A 0 n c 1 = .slice A n c := by
  unfold sliced
  cases A with
  | none => simp
  | some ad =>
    by_cases h : c = 0
    · simp [h]
    · rw [if_neg h]
      simp only [Option.map_some, Nat.zero_mul, Nat.sub_zero, Value.slice.injEq, Option.some.injEq, and_true, true_and]
      unfold Addr.add
      split <;> simp_all
theorem RdS.cut {P : Program} {t e : TypeId} {z : Value} {by_ : Nat} {α : Type} {R : World → Value → α → Prop} {w0 : World} {v : Value} {l l' : List α} {n : Int} (ht : P.underlying t = some (.slice e)) (he : ElT P e z by_) (h : RdS R w0 v l) (hc : cutO l n = some l') :
    ∃ v', (∀ w, (Instr.sliceAt t v none (some (.int .i64 n)) none).run P w = .ok v' w) ∧ ∀ w, RdS R w v l → RdS R w v' l' := by
  obtain ⟨rfl, h0, h1⟩ := cutO_spec hc
  obtain ⟨A, c, hv, hm, hcc⟩ := h
  refine ⟨.slice A n.toNat c, fun w => ?_, fun w hw => ?_⟩
  · have ht' : P.underlying t = some (.slice (P.elem t)) := by rw [elem_of ht]; exact ht
    rw [hv, run_sliceAt_slice w t _ _ _ _ ht', run_slice_h w t A l.length c ht' .i64 n h0 (by omega), elem_of ht, run_size he]
    simp only [Result.andThen_ok, sliced_cut]
  · obtain ⟨A2, c2, hv2, hm2, hc2⟩ := hw
    rw [hv] at hv2
    simp only [Value.slice.injEq, true_and] at hv2
    obtain ⟨rfl, rfl⟩ := hv2
    refine ⟨A, c, by rw [List.length_take]; congr 1; omega, by rw [List.length_take]; omega, fun hp => ?_⟩
    rw [List.length_take] at hp
    obtain ⟨ad, ha, hl, hel⟩ := hc2 (by omega)
    refine ⟨ad, ha, hl, fun i x hx => hel i x ?_⟩
    have hi := (List.getElem?_eq_some_iff.1 hx).1
    rw [List.length_take] at hi
    rwa [List.getElem?_take_of_lt (by omega)] at hx
theorem add_add' (ad : Addr) (k i : Nat) (h : 0 < k) : (ad.add k).add i = ad.add (k + i) := by
  unfold Addr.add
  by_cases h1 : i = 0
  · subst h1; simp
  · have : ¬ k + i = 0 := by omega
    have : ¬ k = 0 := by omega
    simp [*, Nat.add_assoc]
theorem RdS.cutl {P : Program} {t e : TypeId} {z : Value} {by_ : Nat} {α : Type} {R : World → Value → α → Prop} {w0 : World} {v : Value} {l l' : List α} {n : Int} (ht : P.underlying t = some (.slice e)) (he : ElT P e z by_) (h : RdS R w0 v l) (hc : cutL l n = some l') :
    ∃ v', (∀ w, (Instr.sliceAt t v (some (.int .i64 n)) none none).run P w = .ok v' w) ∧ ∀ w, RdS R w v l → RdS R w v' l' := by
  obtain ⟨rfl, h0, h1⟩ := cutL_spec hc
  obtain ⟨A, c, hv, ⟨hm, hlc⟩, hcc⟩ := h
  refine ⟨sliced A n.toNat l.length c 1, fun w => ?_, fun w hw => ?_⟩
  · have ht' : P.underlying t = some (.slice (P.elem t)) := by rw [elem_of ht]; exact ht
    rw [hv, run_sliceAt_slice w t _ _ _ _ ht', run_slice_l w t A l.length c ht' .i64 n h0 (by omega), elem_of ht, run_size he]
    simp only [Result.andThen_ok]
  · obtain ⟨A2, c2, hv2, hm2, hc2⟩ := hw
    rw [hv] at hv2
    simp only [Value.slice.injEq, true_and] at hv2
    obtain ⟨rfl, rfl⟩ := hv2
    refine ⟨if c = n.toNat then A else A.map (·.add (n.toNat * 1)), c - n.toNat, by rw [List.length_drop]; rfl, ⟨by rw [List.length_drop]; omega, by rw [List.length_drop]; omega⟩, fun hp => ?_⟩
    rw [List.length_drop] at hp
    obtain ⟨ad, ha, hl, hel⟩ := hc2 (by omega)
    subst ha
    have hne : ¬ c = n.toNat := by clear hel hcc hc2 hl; omega
    simp only [hne, if_false, Option.map_some, Nat.mul_one]
    refine ⟨_, rfl, by rw [add_block]; exact hl, fun i x hx => ?_⟩
    rw [List.getElem?_drop] at hx
    by_cases hk : n.toNat = 0
    · rw [hk] at hx ⊢
      have : ad.add 0 = ad := by unfold Addr.add; simp
      rw [this]
      rw [Nat.zero_add] at hx
      exact hel i x hx
    · rw [add_add' ad _ _ (by omega)]
      exact hel _ x hx
section
variable {P : Program} {a : Act} {w W : World} {N : Nat} {L : List (Nat × Value)} {As : List Atom} {d : Option Nat} {ty : TypeId} {pos : String} {af : Array Edge} {gd : Option (Nat × Bool)} {t : TypeId} {x y : Operand} {v v' : Value} {n : Int}
theorem y_cutl (hs : Fr a N L) (hx : evL L x = some v) (hy : evL L y = some (.int .i64 n)) (hr : ∀ w, (Instr.sliceAt t v (some (.int .i64 n)) none none).run P w = .ok v' w) : Yld P ⟨d, .slice t x (some y) none none, ty, pos, af, gd⟩ a w v' := by
  unfold Yld
  have := hr w
  simp [execOp, hs.ev hx, hs.ev hy, this]
theorem y_cut (hs : Fr a N L) (hx : evL L x = some v) (hy : evL L y = some (.int .i64 n)) (hr : ∀ w, (Instr.sliceAt t v none (some (.int .i64 n)) none).run P w = .ok v' w) : Yld P ⟨d, .slice t x none (some y) none, ty, pos, af, gd⟩ a w v' := by
  unfold Yld
  simp [execOp, hs.ev hx, hs.ev hy, hr]
end

/-- An owned slice cut at its end stays owned. -/
theorem OwnR.cut {w : World} {e : TypeId} {v : Value} {xs : List Value} {n : Nat} (h : OwnR w e v xs) (hn : n ≤ xs.length) : ∃ A c, v = .slice A xs.length c ∧ xs.length ≤ c ∧ OwnR w e (.slice A n c) (xs.take n) ∧ obl (.slice A n c) = obl v := by
  rcases h with ⟨hv, h0⟩ | ⟨g, off, cap, cur, hv, hg, hnc, hcm, hcs, htake⟩
  · subst h0
    have : n = 0 := by simpa using hn
    subst this
    exact ⟨none, 0, by rw [hv]; rfl, Nat.le_refl _, OwnR.nil_ _ _, by rw [hv]⟩
  · refine ⟨some ⟨g, off, none⟩, cap, hv, hnc, .inr ⟨g, off, cap, cur, by simp [Nat.min_eq_left hn], hg, by simp; omega, hcm, hcs, ?_⟩, by rw [hv]; rfl⟩
    conv => rhs; rw [← htake]
    rw [List.take_take, List.length_take]
theorem Mem.cutI {P : Program} {t e : TypeId} {z : Value} {by_ : Nat} {W w : World} {As : List Atom} {v : Value} {l l' : List Int} {n : Int} (ht : P.underlying t = some (.slice e)) (he : ElT P e z by_) (h : Mem W w (aInts e v l :: As)) (hc : cutO l n = some l') :
    ∃ v', (∀ w, (Instr.sliceAt t v none (some (.int .i64 n)) none).run P w = .ok v' w) ∧ Mem W w (aInts e v' l' :: As) := by
  obtain ⟨rfl, h0, h1⟩ := cutO_spec hc
  obtain ⟨f, ⟨hf, ho⟩, hlt⟩ := h.get (i := 0) rfl
  obtain ⟨A, c, hv, hlc, ho2, hob⟩ := ho.cut (n := n.toNat) (by simp; omega)
  rw [List.length_map] at hv hlc
  refine ⟨.slice A n.toNat c, fun w => ?_, ?_⟩
  · have ht' : P.underlying t = some (.slice (P.elem t)) := by rw [elem_of ht]; exact ht
    rw [hv, run_sliceAt_slice w t _ _ _ _ ht', run_slice_h w t A l.length c ht' .i64 n h0 (by omega), elem_of ht, run_size he]
    simp only [Result.andThen_ok, sliced_cut]
  · refine h.turn rfl rfl rfl (Nat.le_refl _) fun f hs hn => ⟨f, ⟨by rw [hs.1, hob], by rw [List.map_take]; exact ho2⟩, hn, fun g hg => .inl hg, fun k _ _ => rfl⟩

/-- An owned slice cut at its beginning stays owned. -/
theorem OwnR.cutl {w : World} {e : TypeId} {v : Value} {xs : List Value} {n : Nat} (h : OwnR w e v xs) (hn : n ≤ xs.length) : ∃ A c, v = .slice A xs.length c ∧ xs.length ≤ c ∧ OwnR w e (sliced A n xs.length c 1) (xs.drop n) ∧ obl (sliced A n xs.length c 1) = obl v := by
  rcases h with ⟨hv, h0⟩ | ⟨g, off, cap, cur, hv, hg, hnc, hcm, hcs, htake⟩
  · subst h0
    have : n = 0 := by simpa using hn
    subst this
    exact ⟨none, 0, by rw [hv]; rfl, Nat.le_refl _, OwnR.nil_ _ _, by rw [hv]; rfl⟩
  · refine ⟨some ⟨g, off, none⟩, cap, hv, hnc, ?_⟩
    have e0 : sliced (some ⟨g, off, none⟩) n xs.length cap 1 = .slice (if cap = n then some ⟨g, off, none⟩ else (some (⟨g, off, none⟩ : Addr)).map (·.add (n * 1))) (xs.length - n) (cap - n) := rfl
    rw [e0]
    by_cases hc : cap = n
    · rw [if_pos hc, hv]
      refine ⟨.inr ⟨g, off, 0, cur, by rw [List.length_drop]; congr 1; omega, hg, by rw [List.length_drop]; omega, by omega, by omega, ?_⟩, rfl⟩
      rw [List.length_drop, List.drop_eq_nil_of_le (show xs.length ≤ n by omega), show xs.length - n = 0 by omega, List.take_zero]
    · rw [if_neg hc, hv]
      simp only [Option.map_some, Nat.mul_one, addO]
      refine ⟨.inr ⟨g, off + n, cap - n, cur, by rw [List.length_drop], hg, by rw [List.length_drop]; omega, by omega, by omega, ?_⟩, rfl⟩
      conv => rhs; rw [← htake]
      rw [List.drop_take, List.drop_drop, List.length_drop]
theorem Mem.cutlI {P : Program} {t e : TypeId} {z : Value} {by_ : Nat} {W w : World} {As : List Atom} {v : Value} {l l' : List Int} {n : Int} (ht : P.underlying t = some (.slice e)) (he : ElT P e z by_) (h : Mem W w (aInts e v l :: As)) (hc : cutL l n = some l') :
    ∃ v', (∀ w, (Instr.sliceAt t v (some (.int .i64 n)) none none).run P w = .ok v' w) ∧ Mem W w (aInts e v' l' :: As) := by
  obtain ⟨rfl, h0, h1⟩ := cutL_spec hc
  obtain ⟨f, ⟨hf, ho⟩, hlt⟩ := h.get (i := 0) rfl
  obtain ⟨A, c, hv, hlc, ho2, hob⟩ := ho.cutl (n := n.toNat) (by simp; omega)
  rw [List.length_map] at hv hlc ho2 hob
  refine ⟨sliced A n.toNat l.length c 1, fun w => ?_, ?_⟩
  · have ht' : P.underlying t = some (.slice (P.elem t)) := by rw [elem_of ht]; exact ht
    rw [hv, run_sliceAt_slice w t _ _ _ _ ht', run_slice_l w t A l.length c ht' .i64 n h0 (by omega), elem_of ht, run_size he]
    simp only [Result.andThen_ok]
  · refine h.turn rfl rfl rfl (Nat.le_refl _) fun f hs hn => ⟨f, ⟨by rw [hs.1, hob], by rw [List.map_drop]; exact ho2⟩, hn, fun g hg => .inl hg, fun k _ _ => rfl⟩
/-! ### A new variable -/
section
variable {P : Program} {a : Act} {w W : World} {As : List Atom} {d : Option Nat} {ty : TypeId} {pos : String} {af : Array Edge} {gd : Option (Nat × Bool)} {e : TypeId} {z : Value} {by_ : Nat}
theorem x_alloc (he : ElT P e z by_) (hz : z.oneCell' = true) (hM : Mem W w As) :
    ∃ p w', (execOp a.eval ⟨d, .alloc e, ty, pos, af, gd⟩).run P w = .ok (.value p) w' ∧ ∃ g, p = .pointer (some ⟨g, 0, none⟩) ∧ Mem W w' (aBlk g e [z] :: As) := by
  obtain ⟨i, hi, hz0, hs, hb⟩ := he.info
  refine ⟨.pointer (some ⟨w.heap.size, 0, none⟩), w.alloc (.cells #[z] e), by simp [execOp, Instr.alloc, zeroValue, typeInfo, hi, hz0, newVar, newRow, cells_one z hz], w.heap.size, rfl, ?_⟩
  exact hM.new_ ((Below.refl _ _).alloc (Nat.le_refl _) _) (f := [w.heap.size]) ⟨rfl, by exact heap_alloc_new w _⟩ (by simp) (by simp)
end

theorem x_ret0 {P : Program} {a : Act} {w : World} {N : Nat} {L : List (Nat × Value)} {fn : Func} {R : Ending → World → Prop} (hr : fn.results = #[]) (hs : Fr a N L) (h : R (.returned (.tuple #[])) w) : bodyPost P fn R .ret a w := by
  exact bodyPost_ret (results_none hr _ _ _) hs.dfr h
end Go.Proofs.YtcglmncmnlkpmaaDoor
/- Rows of an owned matrix that other variables hold too; rows that move from one matrix into another. Nothing of a program is named here. -/
namespace Go.Proofs.YtcglmncmnlkpmaaDoor
open Go.RowKit
set_option linter.unusedVariables false
set_option linter.unusedSimpArgs false

section
variable {vs : List Value} {m m' m2 : List (List Int)} {v x : Value} {l xl : List Int} {j : Nat}
/-- v is nil, or one of the rows. -/
def RowOf (vs : List Value) (m : List (List Int)) (v : Value) (l : List Int) : Prop :=
  (v = .slice none 0 0 ∧ l = []) ∨ ∃ j : Nat, vs[j]? = some v ∧ m[j]? = some l
theorem RowOf.nil_ : RowOf vs m (.slice none 0 0) [] := .inl ⟨rfl, rfl⟩
theorem RowOf.row (h : vs[j]? = some v) (h' : m[j]? = some l) : RowOf vs m v l := .inr ⟨j, h, h'⟩
theorem RowOf.grow (hl : vs.length = m.length) (ha : app m xl = some m') (h : RowOf vs m v l) : RowOf (vs ++ [x]) m' v l := by
  obtain ⟨rfl, _⟩ := app_spec ha
  rcases h with h | ⟨j, h1, h2⟩
  · exact .inl h
  · have h3 := (List.getElem?_eq_some_iff.1 h1).1
    have h4 := (List.getElem?_eq_some_iff.1 h2).1
    exact .inr ⟨j, by rw [List.getElem?_append_left h3]; exact h1, by rw [List.getElem?_append_left h4]; exact h2⟩
theorem RowOf.last (hl : vs.length = m.length) (ha : app m xl = some m') : RowOf (vs ++ [x]) m' x xl := by
  obtain ⟨rfl, _⟩ := app_spec ha
  exact .inr ⟨vs.length, by simp, by simp [hl]⟩
theorem RowOf.only : RowOf [x] [xl] x xl := .inr ⟨0, rfl, rfl⟩
end
section
variable {W w : World} {As : List Atom} {ts ti : TypeId} {v x : Value} {vs : List Value} {m : List (List Int)} {l : List Int} {out : Nat → Bool}
theorem Mem.lenM (h : Mem W w As) (i : Nat) (hi : As[i]? = some (aMatO ts ti v vs m out)) : vs.length = m.length := by
  obtain ⟨f, h1, _⟩ := h.get hi
  exact h1.2.2.1
theorem Mem.rdP (h : Mem W w As) (i : Nat) (hi : As[i]? = some (aMat ts ti v vs m)) (hr : RowOf vs m x l) : RdI w x l := by
  rcases hr with ⟨rfl, rfl⟩ | ⟨j, h1, h2⟩
  · exact RdS.nil_ _ _
  · exact h.rdRow i (out := fun _ => false) hi rfl h1 h2
/-- The row alone, as an object of its own. -/
theorem Mem.rowOut (h : Mem W w (aMat ts ti v vs m :: As)) (hr : RowOf vs m x l) : Mem W w (aInts ti x l :: As) := by
  rcases hr with ⟨rfl, rfl⟩ | ⟨j, h1, h2⟩
  · exact h.drop.nilI ti
  · exact ((h.take (out := fun _ => false) rfl h1 h2).front 1 rfl).drop
theorem RowOf.one (h : Mem W w As) (i : Nat) (hi : As[i]? = some (aMat ts ti v vs m)) (hr : RowOf vs m x l) : x.oneCell' = true := RdS.one (h.rdP i hi hr)
theorem out_all (e : Nat) : ∀ k, e ≤ k → (fun _ : Nat => false) k = false := fun _ _ => rfl
theorem out_next {e j : Nat} (h : ∀ k, j ≤ k → out k = false) (he : j < e) : ∀ k, e ≤ k → out k = false := fun k hk => h k (by omega)
theorem out_take {e j : Nat} {i : Int} (h : ∀ k, j ≤ k → out k = false) (hi : i = (j : Int)) (he : j < e) : ∀ k, e ≤ k → setO out i.toNat k = false := fun k hk => by
  rw [setO_other out (by omega)]; exact h k (by omega)
end
theorem Mem.rdMO {W w : World} {As : List Atom} {ts ti : TypeId} {v : Value} {vs : List Value} {m : List (List Int)} {out : Nat → Bool} (h : Mem W w As) (i : Nat) (hi : As[i]? = some (aMatO ts ti v vs m out)) : RdS (fun _ _ (_ : List Int) => True) w v m := by
  obtain ⟨f, ⟨h1, h2, h3, h4⟩, _⟩ := h.get hi
  exact h2.rd h3 fun _ _ _ _ _ => trivial
end Go.Proofs.YtcglmncmnlkpmaaDoor
/- Structs of fields that take one cell each: values, variables, results. Nothing of a program is named here. -/
namespace Go.Proofs.YtcglmncmnlkpmaaDoor
open Go.RowKit
set_option linter.unusedVariables false
set_option linter.unusedSimpArgs false

/-- t is a struct type whose fields take one cell each; zs: its zero value. -/
structure StT (P : Program) (t : TypeId) (zs : List Value) : Prop where
  ut : P.underlying t = some (.struct (P.fieldsOf t))
  inf : (P.info? t).map (fun i => (i.zero, i.size)) = some (some (.agg zs.toArray), zs.length)
  pl : (P.fieldsOf t).toList.mapM (fun f => (P.info? f.type).map fun i => (f.offset, i.size)) = some ((List.range zs.length).map fun k => (k, 1))
theorem StT.info {P : Program} {t : TypeId} {zs : List Value} (h : StT P t zs) : ∃ i, P.info? t = some i ∧ i.zero = some (.agg zs.toArray) ∧ i.size = zs.length := by
  have := h.inf
  cases hi : P.info? t with
  | none => rw [hi] at this; cases this
  | some i =>
    rw [hi] at this
    simp only [Option.map_some, Option.some.injEq, Prod.mk.injEq] at this
    exact ⟨i, rfl, this.1, this.2⟩
theorem mapM_get {α β : Type} {f : α → Option β} : ∀ {l : List α} {r : List β}, l.mapM f = some r → ∀ (i : Nat) y, r[i]? = some y → ∃ x, l[i]? = some x ∧ f x = some y
  | [], r, h, i, y, hy => by
    simp only [List.mapM_nil, Option.pure_def, Option.some.injEq] at h
    subst h; simp at hy
  | x :: l, r, h, i, y, hy => by
    simp only [List.mapM_cons, Option.bind_eq_bind, Option.pure_def] at h
    cases hx : f x with
    | none => simp [hx] at h
    | some b =>
      cases hl : l.mapM f with
      | none => simp [hx, hl] at h
      | some bs =>
        simp [hx, hl] at h
        subst h
        cases i with
        | zero => simp at hy; subst hy; exact ⟨x, rfl, hx⟩
        | succ i => simp at hy; obtain ⟨z, h1, h2⟩ := mapM_get hl i y hy; exact ⟨z, by simpa using h1, h2⟩
theorem StT.field {P : Program} {t : TypeId} {zs : List Value} (h : StT P t zs) {i : Nat} (hi : i < zs.length) : ∃ f inf, (P.fieldsOf t)[i]? = some f ∧ f.offset = i ∧ P.info? f.type = some inf ∧ inf.size = 1 := by
  obtain ⟨f, h1, h2⟩ := mapM_get h.pl i (i, 1) (by simp [hi])
  cases hq : P.info? f.type with
  | none => rw [hq] at h2; cases h2
  | some inf =>
    rw [hq] at h2
    simp only [Option.map_some, Option.some.injEq, Prod.mk.injEq] at h2
    exact ⟨f, inf, by simpa using h1, h2.1, hq, h2.2⟩
def allOne : List Value → Prop
  | [] => True
  | u :: r => u.oneCell' = true ∧ allOne r
theorem allOne_mem : ∀ {l : List Value}, allOne l → ∀ u ∈ l, u.oneCell' = true
  | x :: l, h, u, hu => by
    rcases List.mem_cons.1 hu with e | e
    · rw [e]; exact h.1
    · exact allOne_mem h.2 u e
theorem allOne_all {l : List Value} (h : allOne l) : (l.toArray.all (·.oneCell')) = true := by
  rw [Array.all_eq_true_iff_forall_mem]
  intro u hu
  exact allOne_mem h u (by simpa using hu)

section
variable {P : Program} {ops : Array Oper} {Q : Exit → Act → World → Prop} {a : Act} {w W : World} {rest : List Oper} {N : Nat} {L : List (Nat × Value)} {As : List Atom}
variable {d : Option Nat} {ty : TypeId} {pos : String} {af : Array Edge} {gd : Option (Nat × Bool)} {t e : TypeId} {zs : List Value} {x y : Operand}
theorem x_allocS (hT : StT P e zs) (hM : Mem W w As) :
    ∃ p w', (execOp a.eval ⟨d, .alloc e, ty, pos, af, gd⟩).run P w = .ok (.value p) w' ∧ ∃ g, p = .pointer (some ⟨g, 0, none⟩) ∧ Mem W w' (aBlk g e zs :: As) := by
  obtain ⟨i, hi, hz, hs⟩ := hT.info
  refine ⟨.pointer (some ⟨w.heap.size, 0, none⟩), w.alloc (.cells zs.toArray e), by simp [execOp, Instr.alloc, zeroValue, typeInfo, hi, hz, newVar, newRow, Value.cells], w.heap.size, rfl, ?_⟩
  exact hM.new_ ((Below.refl _ _).alloc (Nat.le_refl _) _) (f := [w.heap.size]) ⟨rfl, by exact heap_alloc_new w _⟩ (by simp) (by simp)
theorem x_boxS {cs : List Value} (hs : Fr a N L) (hx : evL L x = some (.agg cs.toArray)) (hM : Mem W w As) :
    ∃ p w', (execOp a.eval ⟨d, .box e x, ty, pos, af, gd⟩).run P w = .ok (.value p) w' ∧ ∃ g, p = .pointer (some ⟨g, 0, none⟩) ∧ Mem W w' (aBlk g e cs :: As) := by
  refine ⟨.pointer (some ⟨w.heap.size, 0, none⟩), w.alloc (.cells cs.toArray e), by simp [execOp, Instr.box, newVar, newRow, hs.ev hx, Value.cells], w.heap.size, rfl, ?_⟩
  exact hM.new_ ((Below.refl _ _).alloc (Nat.le_refl _) _) (f := [w.heap.size]) ⟨rfl, by exact heap_alloc_new w _⟩ (by simp) (by simp)
theorem Mem.heapBlk (hM : Mem W w As) (i : Nat) {g : Nat} {cs : List Value} (hi : As[i]? = some (aBlk g e cs)) : w.heap[g]? = some (.cells cs.toArray e (0, 0)) := by
  obtain ⟨f, ⟨_, h1⟩, _⟩ := hM.get hi
  exact h1
theorem loadS {g : Nat} {cs : List Value} (hT : StT P t zs) (hb : w.heap[g]? = some (.cells cs.toArray e (0, 0))) (hl : cs.length = zs.length) : (loadVar t ⟨g, 0, none⟩).run P w = .ok (.agg cs.toArray) w := by
  obtain ⟨i, hi, hz, hs⟩ := hT.info
  exact run_loadVar_row w g e t cs.toArray (0, 0) _ hb hT.ut rfl (by simp [hi, hs, hl])
theorem y_loadS {g : Nat} {cs : List Value} (hT : StT P t zs) (hs : Fr a N L) (hx : evL L x = some (.pointer (some ⟨g, 0, none⟩))) (hb : w.heap[g]? = some (.cells cs.toArray e (0, 0))) (hl : cs.length = zs.length) :
    Yld P ⟨d, .load t x, ty, pos, af, gd⟩ a w (.agg cs.toArray) := by
  unfold Yld
  simp [execOp, hs.ev hx, Instr.loadAt, Instr.sureAddr, loadS hT hb hl]
theorem x_storeS {g : Nat} {cs us : List Value} (hT : StT P t zs) (h1 : allOne us) (hl : cs.length = zs.length) (hu : us.length = zs.length) (hM : Mem W w (aBlk g e cs :: As)) :
    ∃ w', (Instr.storeAt t (.pointer (some ⟨g, 0, none⟩)) (.agg us.toArray)).run P w = .ok () w' ∧ Mem W w' (aBlk g e us :: As) := by
  obtain ⟨i, hi, hz, hs⟩ := hT.info
  have hb := hM.heapBlk 0 rfl
  have hr := run_storeVar_row (P := P) w g e t cs.toArray us.toArray hb (by simp [hi, hs, hu]) (by simp [hl, hu]) (allOne_all h1)
  refine ⟨w.setRow g us.toArray, by simp only [Instr.storeAt, Instr.sureAddr, Sem.run_bind, Sem.run_pure, Result.andThen_ok, hr], hM.turn rfl rfl rfl (by simp [World.setRow]) fun f hs hn => ⟨f, ⟨hs.1, ?_⟩, hn, fun g hg => .inl hg, fun k hk hnot => ?_⟩⟩
  · unfold World.setRow
    simp only [Array.getElem?_modify, if_true, hb, Option.map_some]
  · have hne : g ≠ k := fun e => hnot (by rw [hs.1, e]; simp)
    unfold World.setRow
    simp only [Array.getElem?_modify, hne, if_false]
theorem y_fieldAddr {g i : Nat} (hT : StT P t zs) (hs : Fr a N L) (hx : evL L x = some (.pointer (some ⟨g, 0, none⟩))) (hi : Nat.ble (i + 1) zs.length = true) : Yld P ⟨d, .fieldAddr t x i, ty, pos, af, gd⟩ a w (.pointer (some ⟨g, i, none⟩)) := by
  obtain ⟨f, inf, h1, h2, h3, h4⟩ := hT.field (Nat.le_of_ble_eq_true hi)
  have e : (⟨g, 0, none⟩ : Addr).add i = ⟨g, i, none⟩ := by unfold Addr.add; split <;> simp_all
  unfold Yld
  simp [execOp, hs.ev hx, Instr.fieldAt, run_underlying hT.ut, h1, Instr.sureAddr, fieldPlace, sizeOf, typeInfo, h3, h4, h2, e]
theorem y_field {i : Nat} {cs : List Value} {v : Value} (hT : StT P t zs) (hs : Fr a N L) (hx : evL L x = some (.agg cs.toArray)) (hi : Nat.ble (i + 1) zs.length = true) (hv : cs[i]? = some v) (hsc : ∀ f, (P.fieldsOf t)[i]? = some f → Sc P f.type) :
    Yld P ⟨d, .field t x i, ty, pos, af, gd⟩ a w v := by
  obtain ⟨f, inf, h1, h2, h3, h4⟩ := hT.field (Nat.le_of_ble_eq_true hi)
  unfold Yld
  simp [execOp, hs.ev hx, Instr.field, run_underlying hT.ut, h1, part, hsc f h1 w, h2, hv, asAgg]
theorem x_storeF {g i : Nat} {cs : List Value} {u z : Value} {by_ : Nat} (he : ElT P t z by_) (hu : u.oneCell' = true) (hi : Nat.ble (i + 1) cs.length = true) (hM : Mem W w (aBlk g e cs :: As)) :
    ∃ w', (Instr.storeAt t (.pointer (some ⟨g, i, none⟩)) u).run P w = .ok () w' ∧ Mem W w' (aBlk g e (cs.set i u) :: As) := by
  obtain ⟨f, ⟨hf, h1⟩, hlt⟩ := hM.get (i := 0) rfl
  obtain ⟨j, hj, _, hjs, _⟩ := he.info
  have hil : i < cs.length := Nat.le_of_ble_eq_true hi
  have hc : w.cell? ⟨g, i, none⟩ = some cs[i] := by rw [cell_of_row w g i cs.toArray e (0, 0) h1]; simp [hil]
  refine ⟨_, run_storeAt ⟨j, hj, hjs⟩ hu hc (frozen_of_row w g i _ e h1), hM.turn rfl rfl rfl (by simp [World.setCell]) fun f hs hn => ⟨f, ⟨hs.1, ?_⟩, hn, fun g hg => .inl hg, fun k hk hnot => ?_⟩⟩
  · have := heap_setCell_same w g i cs.toArray e u h1
    simpa using this
  · refine heap_setCell_other w ⟨g, i, none⟩ k u fun e => hnot ?_
    rw [hs.1, e]; simp

/-! ### Values made of their fields -/
def fillL : List Value → List (Nat × Value) → List Value
  | cs, [] => cs
  | cs, (i, v) :: r => fillL (cs.set i v) r
def partsOk (n : Nat) : List (Nat × Value) → Prop
  | [] => True
  | (i, v) :: r => Nat.ble (i + 1) n = true ∧ v.oneCell' = true ∧ partsOk n r
theorem fill_one {pl : Nat → Option (Nat × Nat)} {n : Nat} (hp : ∀ i, i < n → pl i = some (i, 1)) : ∀ {parts : List (Nat × Value)} {cs : List Value}, cs.length = n → partsOk n parts → Instr.fill pl cs.toArray parts = some (fillL cs parts).toArray
  | [], cs, _, _ => rfl
  | (i, v) :: r, cs, hl, ⟨h1, h2, h3⟩ => by
    have hi : i < n := Nat.le_of_ble_eq_true h1
    have hc := cells_one v h2
    have := fill_one hp (parts := r) (cs := cs.set i v) (by simpa using hl) h3
    rw [Instr.fill, hp i hi]
    simp only [hc]
    rw [if_neg (by simp; omega)]
    simpa [fillL] using this
def evP (L : List (Nat × Value)) : List (Nat × Operand) → Option (List (Nat × Value))
  | [] => some []
  | (i, x) :: r => match evL L x, evP L r with
    | some v, some l => some ((i, v) :: l)
    | _, _ => none
theorem Fr.evP {a : Act} {N : Nat} {L : List (Nat × Value)} (hs : Fr a N L) : ∀ {xs : List (Nat × Operand)} {vs : List (Nat × Value)}, YtcglmncmnlkpmaaDoor.evP L xs = some vs → xs.map (fun p => (p.1, a.eval p.2)) = vs
  | [], vs, h => by simp only [YtcglmncmnlkpmaaDoor.evP, Option.some.injEq] at h; simp [h]
  | (i, x) :: r, vs, h => by
    simp only [YtcglmncmnlkpmaaDoor.evP] at h
    split at h
    · rename_i v l h1 h2
      simp only [Option.some.injEq] at h
      rw [← h, List.map_cons, hs.ev h1, Fr.evP hs h2]
    · cases h
theorem y_build {xs : List (Nat × Operand)} {vs : List (Nat × Value)} {cs : List Value} (hT : StT P t zs) (hs : Fr a N L) (hx : evP L xs = some vs) (hp : partsOk zs.length vs) (hc : fillL zs vs = cs) :
    Yld P ⟨d, .build t xs.toArray, ty, pos, af, gd⟩ a w (.agg cs.toArray) := by
  obtain ⟨i, hi, hz, hsz⟩ := hT.info
  have hb : P.built t vs = some cs.toArray := by
    unfold Program.built
    rw [hi, hT.ut]
    simp only [hz, hT.pl]
    rw [← hc]
    refine fill_one (n := zs.length) (fun i h => ?_) rfl hp
    simp [h]
  have e : (xs.toArray.map fun p => (p.1, a.eval p.2)).toList = vs := by rw [← hs.evP hx]; simp
  unfold Yld
  have := run_build (P := P) w t (xs.toArray.map fun p => (p.1, a.eval p.2)) cs.toArray (by rw [e]; exact hb)
  simp only [execOp]
  simp only [Sem.run_bind, this, Result.andThen_ok]
  rfl

/-! ### Equality of structs of two numbers -/
structure EqI2 (P : Program) (t : TypeId) : Prop where
  ut : P.underlying t = some (.struct (P.fieldsOf t))
  fl : (P.fieldsOf t).toList.map (fun f => (f.name != "_", f.offset, P.underlying f.type)) = [(true, 0, some (.int .i64)), (true, 1, some (.int .i64))]
  hp : P.stoodInHeld t = false
  hm : P.eqGuardType P.depth t = false
theorem y_eqlS2 {t' : TypeId} {m n m' n' : Int} (hT : EqI2 P t) (hs : Fr a N L) (hx : evL L x = some (.agg #[.int .i64 m, .int .i64 n])) (hy : evL L y = some (.agg #[.int .i64 m', .int .i64 n'])) :
    Yld P ⟨d, .binOp .eql t x y t', ty, pos, af, gd⟩ a w (.bool (m == m' && n == n')) := by
  have hl := hT.fl
  cases hf : (P.fieldsOf t).toList with
  | nil => rw [hf] at hl; cases hl
  | cons f r =>
    cases r with
    | nil => rw [hf] at hl; simp at hl
    | cons f' r =>
      cases r with
      | cons f'' r => rw [hf] at hl; simp at hl
      | nil =>
        rw [hf] at hl
        simp only [List.map_cons, List.map_nil, List.cons.injEq, Prod.mk.injEq, and_true] at hl
        obtain ⟨⟨a1, a2, a3⟩, b1, b2, b3⟩ := hl
        have p1 : ∀ (cs : Array Value) (v : Value) (f : Field) (w : World), P.underlying f.type = some (.int .i64) → cs[f.offset]? = some v → (part f.type cs f.offset).run P w = .ok v w := by
          intro cs v f w hu hc
          unfold part
          simp [isAgg, run_underlying hu, hc]
        unfold Yld
        simp only [execOp, hs.ev hx, hs.ev hy]
        have e1 : (binOp .eql t (.agg #[.int .i64 m, .int .i64 n]) (.agg #[.int .i64 m', .int .i64 n'])).run P w = .ok (.bool (m == m' && n == n')) w := by
          rw [run_eql_struct, run_equalIn_agg w 9999 t _ _ hT.ut hT.hp, hf]
          simp only [Op.eqFields]
          simp [a1, b1, p1 #[.int .i64 m, .int .i64 n] (.int .i64 m) f w a3 (by rw [a2]; rfl), p1 #[.int .i64 m', .int .i64 n'] (.int .i64 m') f w a3 (by rw [a2]; rfl), p1 #[.int .i64 m, .int .i64 n] (.int .i64 n) f' w b3 (by rw [b2]; rfl), p1 #[.int .i64 m', .int .i64 n'] (.int .i64 n') f' w b3 (by rw [b2]; rfl), run_equalIn_int w 9998 f.type .i64 .i64 m m' a3, run_equalIn_int w 9998 f'.type .i64 .i64 n n' b3]
          have c1 : ¬ f.name = "_" := by simpa using a1
          have c2 : ¬ f'.name = "_" := by simpa using b1
          rw [if_neg c1, if_neg c2]
          by_cases h1 : m = m'
          · by_cases h2 : n = n'
            · simp [h1, h2]
            · simp [h1, h2]
          · simp [h1]
        simp only [Sem.run_bind, run_eqGuard_agg w .eql t x y _ _ hT.hm, Result.andThen_ok, e1]
        rfl

end

/-! ### A slice of which it is known whether it is nil -/
def NilQ (v : Value) (l : List Int) : Prop := (l = [] ∧ v = .slice none 0 0) ∨ (l ≠ [] ∧ ∃ ad n c, v = .slice (some ad) n c)
def aIntsN (e : TypeId) (v : Value) (l : List Int) : Atom :=
  ⟨fun w fp => (aInts e v l).sat w fp ∧ (l = [] → v = .slice none 0 0), fun h hk => ⟨(aInts e v l).keep h.1 hk, h.2⟩⟩
section
variable {W w : World} {As : List Atom} {e : TypeId} {v : Value} {l : List Int}
theorem Mem.ofN (h : Mem W w (aIntsN e v l :: As)) : Mem W w (aInts e v l :: As) := by
  obtain ⟨F, ⟨f, F', e1, h1, h2⟩, h3, h4⟩ := h.hp.ex
  exact ⟨h.bel, ⟨F, ⟨f, F', e1, h1.1, h2⟩, h3, h4⟩⟩
theorem Mem.toN (h : Mem W w (aInts e v l :: As)) (hl : l = [] → v = .slice none 0 0) : Mem W w (aIntsN e v l :: As) := by
  obtain ⟨F, ⟨f, F', e1, h1, h2⟩, h3, h4⟩ := h.hp.ex
  exact ⟨h.bel, ⟨F, ⟨f, F', e1, ⟨h1, hl⟩, h2⟩, h3, h4⟩⟩
theorem Mem.nilN (h : Mem W w As) (e : TypeId) : Mem W w (aIntsN e (.slice none 0 0) [] :: As) := (h.nilI e).toN fun _ => rfl
theorem Mem.rdN (h : Mem W w As) (i : Nat) (hi : As[i]? = some (aIntsN e v l)) : RdI w v l := by
  obtain ⟨f, h1, _⟩ := h.get hi
  exact h1.1.2.rdI
theorem Mem.nilqN (h : Mem W w As) (i : Nat) (hi : As[i]? = some (aIntsN e v l)) : NilQ v l := by
  obtain ⟨f, h1, _⟩ := h.get hi
  cases hl : l with
  | nil => exact .inl ⟨rfl, h1.2 hl⟩
  | cons x r =>
    refine .inr ⟨by simp, ?_⟩
    rcases h1.1.2 with ⟨_, h0⟩ | ⟨g, off, cap, cur, hv, _⟩
    · rw [hl] at h0; simp at h0
    · exact ⟨_, _, _, hv⟩
theorem toN_of (h : guardO (decide (0 < l.length)) = some ()) : l = [] → v = .slice none 0 0 := by
  intro e
  subst e
  cases h
end
theorem Mem.oneM {W w : World} {As : List Atom} {ts ti : TypeId} {v : Value} {vs : List Value} {m : List (List Int)} {out : Nat → Bool} (h : Mem W w (aMatO ts ti v vs m out :: As)) : v.oneCell' = true := RdS.one (h.rdMO 0 rfl)
theorem y_neqN {P : Program} {a : Act} {w : World} {N : Nat} {L : List (Nat × Value)} {d : Option Nat} {ty : TypeId} {pos : String} {af : Array Edge} {gd : Option (Nat × Bool)} {t e : TypeId} {x y : Operand} {t' : TypeId} {v : Value} {l : List Int}
    (ht : P.underlying t = some (.slice e)) (hs : Fr a N L) (hx : evL L x = some v) (hy : evL L y = some (.slice none 0 0)) (hn : NilQ v l) : Yld P ⟨d, .binOp .neq t x y t', ty, pos, af, gd⟩ a w (.bool (decide ((l.length : Int) > 0))) := by
  unfold Yld
  rcases hn with ⟨hl, hv⟩ | ⟨hl, ad, n, c, hv⟩
  · subst hv; subst hl
    have h1 : (eqGuard .neq t x y (.slice none 0 0) (.slice none 0 0)).run P w = .ok () w := rfl
    simp [execOp, hs.ev hx, hs.ev hy, h1, run_neq_slice_nil w t e none 0 0 ht]
  · subst hv
    have h1 : (eqGuard .neq t x y (.slice (some ad) n c) (.slice none 0 0)).run P w = .ok () w := rfl
    have h2 : decide ((l.length : Int) > 0) = true := decide_eq_true (by
      have := List.length_pos_iff.2 hl
      omega)
    rw [h2]
    simp [execOp, hs.ev hx, hs.ev hy, h1, run_neq_slice_nil w t e (some ad) n c ht]

/-- A guarded call of a function value. -/
theorem wcallgv {P : Program} {ops : Array Oper} {Q : Exit → Act → World → Prop} {a : Act} {w : World} {rest : List Oper} {N : Nat} {L : List (Nat × Value)} {d f j : Nat} {b b' : Bool} {x : Operand} {xs : List Operand} {ats : Array TypeId} {ty : TypeId} {pos : String} {af : Array Edge} {vs caps : List Value} {R : Value → World → Prop} (hi : Is P f) (hs : Fr a N L)
    (hg : gval ops L j = some (.bool b')) (hb : b' = b) (hx : evL L x = some (.func (.func f) #[] caps.toArray)) (he : evA L xs = some vs) (hd : Nat.ble (d + 1) N = true)
    (h : Calls P f (vs ++ caps).toArray w fun e w' => ∃ v, e = .returned v ∧ R v w') (k : ∀ a' v w', Fr a' N ((d, v) :: L) → R v w' → wpList P ops Q rest a' w') :
    wpList P ops Q (⟨some d, .call ⟨.value x, xs.toArray, ats⟩, ty, pos, af, some (j, b)⟩ :: rest) a w := by
  refine wpList_step fun K hK => ?_
  rw [wanted_of hs rfl hg, hb]
  simp only [beq_self_eq_true, if_true]
  unfold Oper.wp
  rw [exec_callv hi hs hx he]
  simp only [Oper.upon]
  refine h.mono fun e w' ⟨v, he', hr⟩ => ?_
  subst he'
  exact hK _ _ (k _ _ _ (hs.put (Nat.le_of_ble_eq_true hd) v) hr)

/-! ### Results -/
def ResV (P : Program) (w : World) (L : List (Nat × Value)) : List ResultVar → List Value → Prop
  | [], [] => True
  | .tmp t :: r, v :: vs => look L t = some v ∧ ResV P w L r vs
  | .cell t ty :: r, v :: vs => (∃ p, look L t = some (.pointer (some p)) ∧ (loadVar ty p).run P w = .ok v w) ∧ ResV P w L r vs
  | _, _ => False
def packR : List Value → Value
  | [v] => v
  | vs => .tuple vs.toArray
def resF (tmps : Array Value) : ResultVar → Sem Value
  | .tmp t => pure (tmps.getD t undef)
  | .cell p t => do loadVar t (← asAddr (tmps.getD p undef))
theorem results_eq {fn : Func} {rs : List ResultVar} (hr : fn.results = rs.toArray) (tmps : Array Value) :
    results fn tmps = (do let vs ← rs.toArray.mapM (resF tmps); pure (if h : vs.size = 1 then vs[0] else .tuple vs)) := by
  unfold results
  rw [hr]
  congr 1
theorem x_retR {P : Program} {a : Act} {w : World} {N : Nat} {L : List (Nat × Value)} {fn : Func} {R : Ending → World → Prop} {rs : List ResultVar} {vs : List Value} (hr : fn.results = rs.toArray) (hs : Fr a N L) (hv : ResV P w L rs vs) (h : R (.returned (packR vs)) w) :
    bodyPost P fn R .ret a w := by
  have key : ∀ (rs : List ResultVar) (vs : List Value), ResV P w L rs vs → (rs.mapM (resF a.tmps)).run P w = .ok vs w := by
    intro rs
    induction rs with
    | nil => intro vs h; cases vs with | nil => rfl | cons _ _ => exact h.elim
    | cons r rs ih =>
      intro vs h
      cases vs with
      | nil => cases r <;> exact h.elim
      | cons v vs =>
        have e1 : (resF a.tmps r).run P w = .ok v w := by
          cases r with
          | tmp t =>
            have e := hs.get t v h.1
            simp [resF, Array.getD_eq_getD_getElem?, e]
          | cell p t =>
            obtain ⟨⟨q, h1, h2⟩, h3⟩ := h
            have e := hs.get p _ h1
            simp [resF, Sem.run_bind, Array.getD_eq_getD_getElem?, e, asAddr, h2]
        have e2 : ResV P w L rs vs := by cases r <;> exact h.2
        rw [List.mapM_cons]
        simp only [Sem.run_bind, e1, Result.andThen_ok, ih vs e2]
        rfl
  refine bodyPost_ret (v := packR vs) ?_ hs.dfr h
  rw [results_eq hr, Array.mapM_eq_mapM_toList]
  simp only [Sem.run_bind, Sem.run_map, key rs vs hv, Result.andThen_ok]
  match vs with
  | [] => rfl
  | [v] => rfl
  | v :: u :: r => simp [packR]

/-! ### A labelled statement -/
theorem x_ns {Q : Exit → Act → World → Prop} {a : Act} {w : World} (h : Q .normal a w) : Exit.noGoto Q .normal a w := h
theorem x_es {Q : Exit → Act → World → Prop} {a : Act} {w : World} {i : Nat} (h : Q (.exit i) a w) : Exit.noGoto Q (.exit i) a w := h
theorem x_rs {Q : Exit → Act → World → Prop} {a : Act} {w : World} (h : Q .ret a w) : Exit.noGoto Q .ret a w := h
end Go.Proofs.YtcglmncmnlkpmaaDoor
