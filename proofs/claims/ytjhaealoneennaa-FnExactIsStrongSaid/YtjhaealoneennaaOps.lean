/- One lemma an operation, one rule a form of code. Nothing of a program is named here. -/
import Derived.Test.YtjhaealoneennaaMem
namespace Go.Proofs.Ytjhaealoneennaa
open Go.RowKit
set_option linter.unusedVariables false

/-! ### Facts on the program's types -/
structure SlT (P : Program) (t e : TypeId) : Prop where
  ut : P.underlying t = some (.slice e)
  sz : ∃ i, P.info? e = some i ∧ i.size = 1
structure ElT (P : Program) (e : TypeId) (z : Value) (bytes : Nat) : Prop where
  info : ∃ i, P.info? e = some i ∧ i.zero = some z ∧ i.size = 1 ∧ i.bytes = bytes
theorem ElT.mk_ {P : Program} {e : TypeId} {z : Value} {bytes : Nat} (h : (P.info? e).map (fun i => (i.zero, i.size, i.bytes)) = some (some z, 1, bytes)) : ElT P e z bytes :=
  ⟨info_parts h⟩
theorem SlT.mk_ {P : Program} {t e : TypeId} {z : Value} {bytes : Nat} (h : P.underlying t = some (.slice e)) (he : ElT P e z bytes) : SlT P t e := by
  obtain ⟨i, h1, h2, h3, h4⟩ := he.info
  exact ⟨h, i, h1, h3⟩
/-- A type whose values are one cell, read by a plain load. -/
def Sc (P : Program) (t : TypeId) : Prop := ∀ w, (isAgg t).run P w = .ok false w
theorem Sc.int {P : Program} {t : TypeId} {k : IntKind} (h : P.underlying t = some (.int k)) : Sc P t := fun w => by simp [isAgg, run_underlying h]
theorem Sc.bool {P : Program} {t : TypeId} (h : P.underlying t = some .bool) : Sc P t := fun w => by simp [isAgg, run_underlying h]
theorem Sc.slice {P : Program} {t e : TypeId} (h : P.underlying t = some (.slice e)) : Sc P t := fun w => by simp [isAgg, run_underlying h]
theorem Sc.func {P : Program} {t : TypeId} {x y z} (h : P.underlying t = some (.func x y z)) : Sc P t := fun w => by simp [isAgg, run_underlying h]

section
variable {P : Program} {a : Act} {w : World} {N : Nat} {L : List (Nat × Value)} {d : Option Nat} {ty : TypeId} {pos : String} {af : Array Edge} {gd : Option (Nat × Bool)} {x y c : Operand} {u v : Value} {k : IntKind} {m n r : Int} {b : Bool}

theorem y_move (hs : Fr a N L) (h : evL L x = some v) : Yld P ⟨d, .move x, ty, pos, af, gd⟩ a w v := by
  unfold Yld; simp only [execOp, hs.ev h]; rfl
theorem y_assign (hs : Fr a N L) (h : evL L x = some v) : Yld P ⟨d, .assign x, ty, pos, af, gd⟩ a w v := by
  unfold Yld; simp only [execOp, hs.ev h]; rfl
theorem y_pick (hs : Fr a N L) {u v : Value} (hc : evL L c = some (.bool b)) (hx : evL L x = some u) (hy : evL L y = some v) : Yld P ⟨d, .pick c x y, ty, pos, af, gd⟩ a w (cond b u v) := by
  unfold Yld; simp only [execOp, hs.ev hc, hs.ev hx, hs.ev hy]; cases b <;> rfl
theorem y_pickT (hs : Fr a N L) {v : Value} {b : Bool} (hc : evL L c = some (.bool b)) (hb : b = true) (hx : evL L x = some v) : Yld P ⟨d, .pick c x y, ty, pos, af, gd⟩ a w v := by
  subst hb; unfold Yld; simp only [execOp, hs.ev hc, hs.ev hx]; rfl
theorem y_pickF (hs : Fr a N L) {v : Value} {b : Bool} (hc : evL L c = some (.bool b)) (hb : b = false) (hy : evL L y = some v) : Yld P ⟨d, .pick c x y, ty, pos, af, gd⟩ a w v := by
  subst hb; unfold Yld; simp only [execOp, hs.ev hc, hs.ev hy]; rfl
theorem y_not (hs : Fr a N L) {t : TypeId} (h : evL L x = some (.bool b)) : Yld P ⟨d, .unOp .not t x, ty, pos, af, gd⟩ a w (.bool (!b)) := by
  unfold Yld; simp only [execOp, hs.ev h]; rfl
theorem y_neg (hs : Fr a N L) {t : TypeId} (h : evL L x = some (.int .i64 n)) (hr : ck (-n) = some r) : Yld P ⟨d, .unOp .neg t x, ty, pos, af, gd⟩ a w (.int .i64 r) := by
  obtain ⟨rfl, hb⟩ := ck_spec hr
  have : IntKind.i64.wrap (0 - n) = -n := by rw [IntWalk.i64_in _ (by omega)]; omega
  unfold Yld; simp only [execOp, hs.ev h, Op.unary, Op.intArith, this]; rfl
theorem y_extract (hs : Fr a N L) {vs : Array Value} {i : Nat} (h : evL L x = some (.tuple vs)) (hv : vs[i]? = some v) : Yld P ⟨d, .extract x i, ty, pos, af, gd⟩ a w v := by
  unfold Yld; simp only [execOp, hs.ev h, Instr.extract, hv]; rfl
theorem run_bin (op : BinOp) (t : TypeId) (x y : Operand) (m n : Int) (w : World) : (eqGuard op t x y (.int k m) (.int k n)).run P w = .ok () w := by
  cases op <;> rfl
section
variable {t t' : TypeId}
theorem y_lss (hs : Fr a N L) (hx : evL L x = some (.int k m)) (hy : evL L y = some (.int k n)) : Yld P ⟨d, .binOp .lss t x y t', ty, pos, af, gd⟩ a w (.bool (decide (m < n))) := by
  unfold Yld; simp [execOp, hs.ev hx, hs.ev hy, run_bin, binOp, Op.intCmp]
theorem y_leq (hs : Fr a N L) (hx : evL L x = some (.int k m)) (hy : evL L y = some (.int k n)) : Yld P ⟨d, .binOp .leq t x y t', ty, pos, af, gd⟩ a w (.bool (decide (m ≤ n))) := by
  unfold Yld; simp [execOp, hs.ev hx, hs.ev hy, run_bin, binOp, Op.intCmp]
theorem y_gtr (hs : Fr a N L) (hx : evL L x = some (.int k m)) (hy : evL L y = some (.int k n)) : Yld P ⟨d, .binOp .gtr t x y t', ty, pos, af, gd⟩ a w (.bool (decide (m > n))) := by
  unfold Yld; simp [execOp, hs.ev hx, hs.ev hy, run_bin, binOp, Op.intCmp]
theorem y_geq (hs : Fr a N L) (hx : evL L x = some (.int k m)) (hy : evL L y = some (.int k n)) : Yld P ⟨d, .binOp .geq t x y t', ty, pos, af, gd⟩ a w (.bool (decide (m ≥ n))) := by
  unfold Yld; simp [execOp, hs.ev hx, hs.ev hy, run_bin, binOp, Op.intCmp]
theorem y_eql (hs : Fr a N L) (hx : evL L x = some (.int k m)) (hy : evL L y = some (.int k n)) : Yld P ⟨d, .binOp .eql t x y t', ty, pos, af, gd⟩ a w (.bool (m == n)) := by
  unfold Yld; simp [execOp, hs.ev hx, hs.ev hy, run_bin, binOp, Op.intCmp]
theorem y_neq (hs : Fr a N L) (hx : evL L x = some (.int k m)) (hy : evL L y = some (.int k n)) : Yld P ⟨d, .binOp .neq t x y t', ty, pos, af, gd⟩ a w (.bool (m != n)) := by
  unfold Yld; simp [execOp, hs.ev hx, hs.ev hy, run_bin, binOp, Op.intCmp]
theorem y_eqlB (ht : P.underlying t = some .bool) (hs : Fr a N L) {p q : Bool} (hx : evL L x = some (.bool p)) (hy : evL L y = some (.bool q)) : Yld P ⟨d, .binOp .eql t x y t', ty, pos, af, gd⟩ a w (.bool (p == q)) := by
  have h1 : (eqGuard .eql t x y (.bool p) (.bool q)).run P w = .ok () w := rfl
  unfold Yld; simp [execOp, hs.ev hx, hs.ev hy, h1, run_eql_bool w t p q ht]
theorem y_neqB (ht : P.underlying t = some .bool) (hs : Fr a N L) {p q : Bool} (hx : evL L x = some (.bool p)) (hy : evL L y = some (.bool q)) : Yld P ⟨d, .binOp .neq t x y t', ty, pos, af, gd⟩ a w (.bool (p != q)) := by
  have h1 : (eqGuard .neq t x y (.bool p) (.bool q)).run P w = .ok () w := rfl
  unfold Yld; simp [execOp, hs.ev hx, hs.ev hy, h1, run_neq_bool w t p q ht, bne]
theorem y_add (hs : Fr a N L) (hx : evL L x = some (.int .i64 m)) (hy : evL L y = some (.int .i64 n)) (hr : ck (m + n) = some r) : Yld P ⟨d, .binOp .add t x y t', ty, pos, af, gd⟩ a w (.int .i64 r) := by
  obtain ⟨rfl, hb⟩ := ck_spec hr
  unfold Yld; simp [execOp, hs.ev hx, hs.ev hy, run_bin, binOp, Op.intArith, IntWalk.i64_in _ hb]
theorem y_sub (hs : Fr a N L) (hx : evL L x = some (.int .i64 m)) (hy : evL L y = some (.int .i64 n)) (hr : ck (m - n) = some r) : Yld P ⟨d, .binOp .sub t x y t', ty, pos, af, gd⟩ a w (.int .i64 r) := by
  obtain ⟨rfl, hb⟩ := ck_spec hr
  unfold Yld; simp [execOp, hs.ev hx, hs.ev hy, run_bin, binOp, Op.intArith, IntWalk.i64_in _ hb]
theorem y_mul (hs : Fr a N L) (hx : evL L x = some (.int .i64 m)) (hy : evL L y = some (.int .i64 n)) (hr : ck (m * n) = some r) : Yld P ⟨d, .binOp .mul t x y t', ty, pos, af, gd⟩ a w (.int .i64 r) := by
  obtain ⟨rfl, hb⟩ := ck_spec hr
  unfold Yld; simp [execOp, hs.ev hx, hs.ev hy, run_bin, binOp, Op.intArith, IntWalk.i64_in _ hb]
theorem y_quo (hs : Fr a N L) (hx : evL L x = some (.int .i64 m)) (hy : evL L y = some (.int .i64 n)) (hr : quoO m n = some r) : Yld P ⟨d, .binOp .quo t x y t', ty, pos, af, gd⟩ a w (.int .i64 r) := by
  unfold quoO at hr
  cases hn : n == 0 with
  | true => rw [hn] at hr; cases hr
  | false =>
    rw [hn] at hr
    obtain ⟨rfl, hb⟩ := ck_spec hr
    have : ¬ n = 0 := by simpa using hn
    unfold Yld; simp [execOp, hs.ev hx, hs.ev hy, run_bin, binOp, Op.intDiv, IntWalk.i64_in _ hb, this]
theorem y_rem (hs : Fr a N L) (hx : evL L x = some (.int .i64 m)) (hy : evL L y = some (.int .i64 n)) (hr : remO m n = some r) : Yld P ⟨d, .binOp .rem t x y t', ty, pos, af, gd⟩ a w (.int .i64 r) := by
  unfold remO at hr
  cases hn : n == 0 with
  | true => rw [hn] at hr; cases hr
  | false =>
    rw [hn] at hr
    have h1 := Option.some.inj hr
    subst h1
    have : ¬ n = 0 := by simpa using hn
    unfold Yld; simp [execOp, hs.ev hx, hs.ev hy, run_bin, binOp, Op.intDiv, this]
end
theorem exec_builtin (b : Builtin) (xs : List Operand) (ats : Array TypeId) {vs : List Value} (hs : Fr a N L) (he : evA L xs = some vs) :
    ∃ cs, execOp a.eval ⟨d, .call ⟨.builtin b, xs.toArray, ats⟩, ty, pos, af, gd⟩ = builtin b ats ty cs vs.toArray := by
  refine ⟨xs.toArray.map fun | .const _ => true | _ => false, ?_⟩
  rw [← hs.evA he, ← List.map_toArray]
  rfl
theorem y_len {α : Type} {R : World → Value → α → Prop} {t e : TypeId} {l : List α} (ht : P.underlying t = some (.slice e)) (hs : Fr a N L) (hx : evL L x = some v) (h : RdS R w v l) :
    Yld P ⟨d, .call ⟨.builtin .len, #[x], #[t]⟩, ty, pos, af, gd⟩ a w (.int .i64 l.length) := by
  obtain ⟨A, c, rfl, _⟩ := h
  have he : evA L [x] = some [.slice A l.length c] := by simp [evA, hx]
  unfold Yld
  obtain ⟨cs, hcs⟩ := exec_builtin (d := d) (ty := ty) (pos := pos) (af := af) (gd := gd) .len [x] #[t] hs he
  rw [hcs]
  simp [builtin, Builtin.len_, run_underlying ht, goInt]
theorem y_min (hs : Fr a N L) {ats : Array TypeId} (hx : evL L x = some (.int .i64 m)) (hy : evL L y = some (.int .i64 n)) : Yld P ⟨d, .call ⟨.builtin .min, #[x, y], ats⟩, ty, pos, af, gd⟩ a w (.int .i64 (min m n)) := by
  have he : evA L [x, y] = some [.int .i64 m, .int .i64 n] := by simp [evA, hx, hy]
  have e : (if n < m then n else m) = min m n := by split <;> omega
  unfold Yld
  obtain ⟨cs, hcs⟩ := exec_builtin (d := d) (ty := ty) (pos := pos) (af := af) (gd := gd) .min [x, y] ats hs he
  rw [hcs]
  simp [builtin, Builtin.min_, Builtin.min2, e]
theorem y_max (hs : Fr a N L) {ats : Array TypeId} (hx : evL L x = some (.int .i64 m)) (hy : evL L y = some (.int .i64 n)) : Yld P ⟨d, .call ⟨.builtin .max, #[x, y], ats⟩, ty, pos, af, gd⟩ a w (.int .i64 (max m n)) := by
  have he : evA L [x, y] = some [.int .i64 m, .int .i64 n] := by simp [evA, hx, hy]
  have e : (if n > m then n else m) = max m n := by split <;> omega
  unfold Yld
  obtain ⟨cs, hcs⟩ := exec_builtin (d := d) (ty := ty) (pos := pos) (af := af) (gd := gd) .max [x, y] ats hs he
  rw [hcs]
  simp [builtin, Builtin.max_, Builtin.max2, e]
theorem y_makeFunc (hs : Fr a N L) {fn : Fn} {xs : List Operand} {vs : List Value} (he : evA L xs = some vs) : Yld P ⟨d, .makeFunc fn #[] xs.toArray, ty, pos, af, gd⟩ a w (.func fn #[] vs.toArray) := by
  unfold Yld
  simp only [execOp, Instr.makeFunc]
  rw [show xs.toArray.map a.eval = vs.toArray by rw [← hs.evA he]; simp]
  simp
theorem y_index {t e : TypeId} {i : Int} (ht : SlT P t e) (hs : Fr a N L) (hx : evL L x = some v) (hy : evL L y = some (.int .i64 i)) (h : ElemAt w v i u) :
    Yld P ⟨d, .indexAddr t x y, ty, pos, af, gd⟩ a w (.pointer (some (elemAddr v i))) := by
  obtain ⟨ad, n, c, rfl, h0, h1, _, _⟩ := h
  obtain ⟨i0, hi, hsz⟩ := ht.sz
  unfold Yld
  simp [execOp, hs.ev hx, hs.ev hy, Instr.indexAt, run_underlying ht.ut, asIntOf, h0, h1, sizeOf, typeInfo, hi, hsz, elemAddr]
theorem y_load {t : TypeId} {p : Addr} (ht : Sc P t) (hs : Fr a N L) (hx : evL L x = some (.pointer (some p))) (h : w.cell? p = some u) : Yld P ⟨d, .load t x, ty, pos, af, gd⟩ a w u := by
  unfold Yld
  simp [execOp, hs.ev hx, Instr.loadAt, Instr.sureAddr, loadVar, ht w, load, Sem.run, h]
theorem ElemAt.cell {i : Int} (h : ElemAt w v i u) : w.cell? (elemAddr v i) = some u := by
  obtain ⟨ad, n, c, rfl, h0, h1, _, hc⟩ := h
  exact hc
end
end Go.Proofs.Ytjhaealoneennaa
