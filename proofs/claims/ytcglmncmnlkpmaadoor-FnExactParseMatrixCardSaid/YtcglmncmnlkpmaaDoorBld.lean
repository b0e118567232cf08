/- A strings.Builder that is written: copyCheck and WriteString at this translation (whose copyCheck ends its panicking arm otherwise than the shelf's). After the shelf's own proof. -/
import Derived.Test.YtcglmncmnlkpmaaDoorShlf
import Derived.Test.YtcglmncmnlkpmaaDoorRows
import Derived.Test.YtcglmncmnlkpmaaDoorTxt
import Derived.Lib.SmallJoins
import Derived.Sort.Grow
import Derived.Lib.Strings
import Derived.Lib.Slices
import Derived.Lib.Walk
import Derived.Lib.Builder
import Derived.Lib.AppendStr
import Derived.Lib.UnsafeStr
import Derived.Lib.MakeNoZero
import Derived.WalkKit
import Derived.RegionTactic
import Derived.Laws.Externs
import Derived.Laws.IdiomCopy
import Derived.Laws.BitsLemmas
set_option linter.unusedVariables false
namespace Go.Proofs.YtcglmncmnlkpmaaDoor
open Go.Shelf Go.RowKit

theorem sizeBuilder : (Tryd.prog.info? 53).map (·.size) = some 2 := by kernel_rfl
theorem liesBuilder : liesAt Tryd.prog Tryd.prog.depth 53 (2 / Tryd.prog.cellsOf 53) 0 53 1 = true := by kernel_rfl
theorem infoByte : (Tryd.prog.info? 5).map (fun i => (i.zero, i.size, i.bytes)) = some (some (.int .u8 0), 1, 1) := by kernel_rfl

set_option maxHeartbeats 1000000 in
set_option maxRecDepth 100000 in
theorem copyCheck_used (b : Nat) (w : World) (h0 : w.cell? ⟨b, 0, none⟩ = some (.pointer (some ⟨b, 0, none⟩))) :
    Calls Tryd.prog 46 #[.pointer (some ⟨b, 0, none⟩)] w fun e w' => e = .returned (.tuple #[]) ∧ w' = w := by
  obtain ⟨j, hj, _⟩ := Option.map_eq_some_iff.1 sizeBuilder
  go_enter Tryd.func46, Tryd.ntmps46
  go_wp2
  rw [Lib.run_neq_ptr_same w _ Tryd.underlying50 hj]
  go_wp2
  go_end0
  exact ⟨rfl, rfl⟩

set_option maxHeartbeats 1000000 in
set_option maxRecDepth 100000 in
theorem copyCheck_fresh (b : Nat) (w : World) (h0 : w.cell? ⟨b, 0, none⟩ = some (.pointer none)) (hsh : w.shape? b = some (53, 2)) (hfz : w.frozen? ⟨b, 0, none⟩ = false) :
    Calls Tryd.prog 46 #[.pointer (some ⟨b, 0, none⟩)] w fun e w' => e = .returned (.tuple #[]) ∧ w' = w.setCell ⟨b, 0, none⟩ (.pointer (some ⟨b, 0, none⟩)) := by
  obtain ⟨j, hj, hjs⟩ := Option.map_eq_some_iff.1 sizeBuilder
  go_enter Tryd.func46, Tryd.ntmps46
  go_wp2
  rw [Lib.run_to_unsafe w ⟨b, 0, none⟩ Tryd.underlying50 Tryd.underlying72 hj (by rw [hjs]; decide) hsh (Nat.zero_lt_succ 1)]
  simp only [Result.andThen]
  rw [Oper.upon_value]
  go_wp2
  rw [run_callFunc_extern Tryd.func56 (by kernel_rfl) (by kernel_rfl) (by kernel_rfl) (e := Extern.AbiNoEscape.same) (by kernel_rfl)]
  rw [Lib.run_noEscape]
  simp only [Result.andThen]
  rw [Oper.upon_value]
  go_wp2
  rw [Lib.run_from_unsafe w ⟨b, 0, none⟩ Tryd.underlying72 Tryd.underlying50 hj hsh liesBuilder]
  simp only [Result.andThen]
  rw [Oper.upon_value]
  go_wp2
  go_end0
  exact ⟨rfl, rfl⟩

theorem copyCheck (B b : Nat) (bs : List Value) (w : World) (h : Lib.IsBuilder 53 5 B b bs w) :
    Calls Tryd.prog 46 #[.pointer (some ⟨b, 0, none⟩)] w fun e w' => e = .returned (.tuple #[]) ∧ (Lib.BuilderAt 53 5 B b (.pointer (some ⟨b, 0, none⟩)) bs w' ∧ Below B w w') := by
  rcases h with h | h
  · refine (copyCheck_fresh b w h.cell0 h.shape h.frozen0).mono ?_
    rintro e w' ⟨rfl, rfl⟩
    exact ⟨rfl, h.used _, (Below.refl B w).setCell (p := ⟨b, 0, none⟩) h.1 _⟩
  · refine (copyCheck_used b w h.cell0).mono ?_
    rintro e w' ⟨rfl, rfl⟩
    exact ⟨rfl, h, Below.refl B _⟩

set_option maxHeartbeats 1000000 in
set_option maxRecDepth 100000 in
theorem writeString (B b : Nat) (bs : List Value) (s : ByteArray) (w : World) (h : Lib.IsBuilder 53 5 B b bs w) (hlen : bs.length + s.size ≤ 140737488355328) (hBw : B ≤ w.heap.size) :
    Calls Tryd.prog 35 #[.pointer (some ⟨b, 0, none⟩), .string s] w fun e w' => e = .returned (.tuple #[.int .i64 s.size, .nilIface]) ∧ (Lib.BuilderAt 53 5 B b (.pointer (some ⟨b, 0, none⟩)) (bs ++ Lib.strCells s) w' ∧ Below B w w') := by
  obtain ⟨i0, hi, hz0, hz1, hz2⟩ := info_parts infoByte
  go_enter Tryd.func35, Tryd.ntmps35
  go_wp2_with (go_at_call 46; refine (copyCheck B b bs _ h).mono ?_)
  rintro e w1 ⟨rfl, h1, hb1⟩
  obtain ⟨hB, v, hbk, hown, hne⟩ := h1
  have c0 : w1.cell? ⟨b, 0, none⟩ = some (.pointer (some ⟨b, 0, none⟩)) := by rw [Lib.cell_of_heap hbk]; rfl
  have c1 : w1.cell? ⟨b, 1, none⟩ = some v := by rw [Lib.cell_of_heap hbk]; rfl
  go_wp2_with (at_builtin; refine Lib.wpList_append_own_string _ rfl _ _ 51 9 rfl B 5 i0 Tryd.underlying51 Tryd.underlying9 hi hz0 hz1 hz2 _ _ _ rfl hown s rfl ?c3 ?c4 ?c5 ?_)
  case c3 => unfold maxLen; omega
  case c4 => omega
  case c5 => have := hb1.size; omega
  intro v' w2 hown' hgrow _
  have hlt : b < w1.heap.size := by
    rcases Nat.lt_or_ge b w1.heap.size with h' | h'
    · exact h'
    · simp [Array.getElem?_eq_none h'] at hbk
  have hb2 : w2.heap[b]? = some (.cells #[.pointer (some ⟨b, 0, none⟩), v] 53 (0, 0)) := by
    rw [hgrow.block b hlt (fun e => hne e.symm)]
    exact hbk
  have d0 : w2.cell? ⟨b, 0, none⟩ = some (.pointer (some ⟨b, 0, none⟩)) := by rw [Lib.cell_of_heap hb2]; rfl
  have d1 : w2.cell? ⟨b, 1, none⟩ = some v := by rw [Lib.cell_of_heap hb2]; rfl
  have f1 : w2.frozen? ⟨b, 1, none⟩ = false := Lib.frozen_of_heap hb2 1
  obtain ⟨ao, n', cap, rfl⟩ : ∃ ao n' cap, v' = .slice ao n' cap := by
    rcases hown'.2 with ⟨hv, _⟩ | ⟨g, cap, cur, hv, _⟩
    · exact ⟨_, _, _, hv⟩
    · exact ⟨_, _, _, hv⟩
  go_wp2
  go_ret2
  refine ⟨rfl, ?_, ?_⟩
  · exact Lib.BuilderAt.put (T := 53) (e := 5) hB hb2 (bs' := bs ++ Lib.strCells s) (by simpa [Lib.strCells_length] using hown') (by decide)
  · exact (hb1.grown hgrow (by have := hb1.size; omega) (fun k hk => (hown.lt k hk).1)).setCell (p := ⟨b, 1, none⟩) hB _

theorem zBuilder : StT Tryd.prog 53 [.pointer none, .slice none 0 0] := ⟨by kernel_rfl, by kernel_rfl, by kernel_rfl⟩
theorem boxB {P : Program} {a : Act} {w : World} {N : Nat} {L : List (Nat × Value)} {d : Option Nat} {ty e : TypeId} {pos : String} {af : Array Edge} {gd : Option (Nat × Bool)} {x : Operand} {cs : List Value} (hs : Fr a N L) (hx : evL L x = some (.agg cs.toArray)) :
    ∃ p w', (execOp a.eval ⟨d, .box e x, ty, pos, af, gd⟩).run P w = .ok (.value p) w' ∧ (p = .pointer (some ⟨w.heap.size, 0, none⟩) ∧ w' = w.alloc (.cells cs.toArray e)) :=
  ⟨.pointer (some ⟨w.heap.size, 0, none⟩), w.alloc (.cells cs.toArray e), by simp [execOp, Instr.box, newVar, newRow, hs.ev hx, Value.cells], rfl, rfl⟩
theorem builderAt_below {T e : TypeId} {B b : Nat} {p : Value} {bs : List Value} {w w' : World} (h : Lib.BuilderAt T e B b p bs w) (hb : Below w.heap.size w w') : Lib.BuilderAt T e B b p bs w' := by
  have hlt := h.lt
  obtain ⟨hB, v, hbk, hown, hne⟩ := h
  refine ⟨hB, v, by rw [hb.block b hlt]; exact hbk, ?_, hne⟩
  have hl := hown.lt
  refine ⟨hown.1, ?_⟩
  rcases hown.2 with h | ⟨g, cap, cur, hv, hg, hgk, hr⟩
  · exact .inl h
  · refine .inr ⟨g, cap, cur, hv, hg, ?_, hr⟩
    rw [hb.block g ?_]
    · exact hgk
    · rcases Nat.lt_or_ge g w.heap.size with h' | h'
      · exact h'
      · simp [Array.getElem?_eq_none h'] at hgk
theorem isBuilder_below {T e : TypeId} {B b : Nat} {bs : List Value} {w w' : World} (h : Lib.IsBuilder T e B b bs w) (hb : Below w.heap.size w w') : Lib.IsBuilder T e B b bs w' :=
  h.elim (fun x => .inl (builderAt_below x hb)) (fun x => .inr (builderAt_below x hb))
theorem writeS (B : Nat) (t z : List UInt8) (w : World) (h : Lib.IsBuilder 53 5 B B (Lib.byteCells t) w) (hl : t.length + z.length < 1000000000) (hBw : B ≤ w.heap.size) :
    Calls Tryd.prog 35 [.pointer (some ⟨B, 0, none⟩), .string ⟨z.toArray⟩].toArray w fun e w' => ∃ v, e = .returned v ∧ (Lib.IsBuilder 53 5 B B (Lib.byteCells (t ++ z)) w' ∧ Below B w w') := by
  refine (writeString B B (Lib.byteCells t) ⟨z.toArray⟩ w h (by rw [Lib.byteCells_length]; simp [ByteArray.size]; omega) hBw).mono ?_
  rintro e w' ⟨rfl, hI, hb⟩
  refine ⟨_, rfl, ?_, hb⟩
  rw [Lib.strCells_eq, ← Lib.byteCells_append] at hI
  exact .inr (by simpa using hI)
theorem stringB (B : Nat) (t : List UInt8) (w : World) (h : Lib.IsBuilder 53 5 B B (Lib.byteCells t) w) (hBw : B ≤ w.heap.size) :
    Calls Tryd.prog 37 [.pointer (some ⟨B, 0, none⟩)].toArray w fun e w' => ∃ v, e = .returned v ∧ (v = .string ⟨t.toArray⟩ ∧ Below B w w') := by
  refine (Tryd.Builder_String_any B B t w h hBw).mono ?_
  rintro e w' ⟨rfl, hb⟩
  exact ⟨_, rfl, rfl, hb⟩
/-! The library's contracts in the engine's words. -/
/-- The library's table of powers of ten lies as its text lays it. -/
def TabOk (W : World) : Prop := Lib.TabIs Tryd.prog W "internal/strconv.uint64pow10" .u64 Lib.pow10Tab
theorem pow_named : Tryd.prog.globalNamed "internal/strconv.uint64pow10" = some 5 := by kernel_rfl
theorem TabOk.below {W w : World} (h : TabOk W) (hb : Below W.heap.size W w) : TabOk w := by
  exact Go.Joins.tab_stays (B := W.heap.size) pow_named h hb (Nat.le_refl _)

theorem below_grow (w : World) (os : Array Obj) : Below w.heap.size w (Go.Sort.grow w os) :=
  ⟨rfl, rfl, rfl, by simp, fun k hk => by simp [Go.Sort.grow, Array.getElem?_append, hk]⟩
theorem strconv_Itoa_any (p0 : Int) (W : World) (hT : TabOk W) {r : List UInt8} (hm : strconv_Itoa_m p0 = some r) : Calls Tryd.prog 53 [.int .i64 p0].toArray W fun e w => ∃ v, e = .returned v ∧ v = .string ⟨r.toArray⟩ ∧ Mem W w [] := by
  unfold strconv_Itoa_m at hm
  by_cases hd : -9223372036854775808 ≤ p0 ∧ p0 ≤ 9223372036854775807
  · rw [decide_eq_true hd] at hm
    obtain rfl := Option.some.inj hm
    refine (Tryd.strconv_Itoa p0 hd.1 hd.2 W hT).mono ?_
    rintro e w ⟨rfl, k, os, rfl⟩
    exact ⟨_, rfl, rfl, (Mem.start W).quiet ((Go.Joins.below_draws _ W k).trans (below_grow (W.drewN k) os))⟩
  · rw [decide_eq_false hd] at hm; cases hm

theorem strings_Join_any (v_p0 : Value) (p0 : List (List UInt8)) (p1 : List UInt8) (W : World) (hr_p0 : RdT W v_p0 p0) {r : List UInt8} (hm : strings_Join_m p0 p1 = some r) : Calls Tryd.prog 48 [v_p0, .string ⟨p1.toArray⟩].toArray W fun e w => ∃ v, e = .returned v ∧ v = .string ⟨r.toArray⟩ ∧ Mem W w [] := by
  unfold strings_Join_m at hm
  by_cases hd : p0.length < 1000000000 ∧ (Lib.join p0 p1).length < 1000000000
  · rw [decide_eq_true hd] at hm
    obtain rfl := Option.some.inj hm
    obtain ⟨⟨A, c, rfl, hlen, hc⟩, hsp⟩ := hr_p0
    rcases p0 with _ | ⟨s0, p0⟩
    · refine (Tryd.strings_Join_none A c ⟨p1.toArray⟩ W).mono ?_
      rintro e w ⟨rfl, rfl⟩
      exact ⟨_, rfl, rfl, Mem.start w⟩
    · obtain ⟨ad, rfl, hlt, hcell⟩ := hc (by simp)
      obtain ⟨bk, o, sp⟩ := ad
      obtain rfl : sp = none := hsp
      have e1 : ((s0 :: p0).map fun s => ByteArray.mk s.toArray).map (fun b => b.data.toList) = s0 :: p0 := by
        rw [List.map_map]
        exact (List.map_congr_left (fun x _ => by simp)).trans (List.map_id _)
      have e3 : (⟨p1.toArray⟩ : ByteArray).data.toList = p1 := by simp
      have hJ := Tryd.strings_Join bk o c ((s0 :: p0).map fun s => ByteArray.mk s.toArray) ⟨p1.toArray⟩ W (fun j x hx => by
        rw [List.getElem?_map] at hx
        obtain ⟨y, hy, rfl⟩ := Option.map_eq_some_iff.1 hx
        obtain ⟨u, hu, rfl⟩ := hcell j y hy
        have e2 : (⟨bk, o, none⟩ : Addr).add j = ⟨bk, o + j, none⟩ := by unfold Addr.add; split <;> simp_all
        rwa [e2] at hu) hlt (by simp only [List.length_map]; omega) (by simp only [List.length_map]; omega) (by rw [e1, e3]; omega)
      rw [e1, e3, List.length_map] at hJ
      refine hJ.mono ?_
      rintro e w ⟨rfl, hb⟩
      exact ⟨_, rfl, rfl, (Mem.start W).quiet hb⟩
  · rw [decide_eq_false hd] at hm; cases hm
end Go.Proofs.YtcglmncmnlkpmaaDoor
