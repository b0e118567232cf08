/- The iterator of strings.SplitSeq at the separator " ": it hands over the parts of the string, in order. -/
import Derived.Test.YtcglmncmnlkpmaaDoorRng
import Derived.Test.YtcglmncmnlkpmaaDoorBl2
import Derived.RangeFuncNested
import Derived.RangeFuncBound
import Derived.RangeFuncCalls
import Derived.RangeFuncLeaves
import Derived.Shelf.Abstract
import Derived.Shelf.RegionOpen
import Derived.WalkKit
import Derived.OwnWalkIn
import Derived.TacticsInMore
import Derived.LoopNIn
import Derived.LoopIn
namespace Go.Proofs.YtcglmncmnlkpmaaDoor
open Go.RowKit Go.Shelf
set_option linter.unusedVariables false
attribute [local go_sem] Oper.semAt_some

theorem splitC_ne (c : UInt8) (s : List UInt8) : splitC c s ≠ [] := by
  cases s with
  | nil => simp [splitC]
  | cons b l =>
    rw [splitC_cons]
    split
    · simp
    · split <;> simp
theorem split_at (c : UInt8) : ∀ s : List UInt8, (Lib.indexByte s c = -1 ∧ splitC c s = [s]) ∨ (∃ i : Nat, Lib.indexByte s c = i ∧ i < s.length ∧ splitC c s = s.take i :: splitC c (s.drop (i + 1)))
  | [] => .inl ⟨rfl, rfl⟩
  | b :: l => by
    have ih := split_at c l
    rw [splitC_cons]
    unfold Lib.indexByte
    by_cases h : b = c
    · right
      refine ⟨0, ?_, by simp, ?_⟩
      · simp [h]
      · simp [h]
    · rcases ih with ⟨h1, h2⟩ | ⟨i, h1, h2, h3⟩
      · left
        simp [h, h1, h2]
      · right
        refine ⟨i + 1, ?_, Nat.succ_lt_succ h2, ?_⟩
        · rw [h1]
          have : ((i : Int) == -1) = false := by simp
          simp [h, this]
        · simp [h, h3]

/-- What a round keeps: the iterator's own three variables. -/
def KeepB (b : Nat) (A B : World) : Prop := A.heap.size ≤ B.heap.size ∧ ∀ k, b ≤ k → k < b + 3 → B.heap[k]? = A.heap[k]?
theorem KeepB.trans {b : Nat} {A B C : World} (h : KeepB b A B) (k : KeepB b B C) : KeepB b A C := ⟨Nat.le_trans h.1 k.1, fun i h1 h2 => (k.2 i h1 h2).trans (h.2 i h1 h2)⟩
theorem boxed_keep {b k : Nat} {A B : World} {t : TypeId} {v : Value} (h : Boxed A k t v) (hk : KeepB b A B) (h1 : b ≤ k) (h2 : k < b + 3) : Boxed B k t v := (hk.2 k h1 h2).trans h

/-- How long what is left is: for the loop's measure. -/
def strLeft (b : Nat) (w : World) : Nat := match w.cell? ⟨b, 0, none⟩ with
  | some (.string s) => s.size
  | _ => 0
theorem strLeft_eq {b : Nat} {w : World} {s : List UInt8} {t : TypeId} (h : Boxed w b t (.string ⟨s.toArray⟩)) : strLeft b w = s.length := by
  unfold strLeft
  rw [h.cell]
  simp [ByteArray.size]

set_option maxRecDepth 100000 in
set_option maxHeartbeats 2000000 in
theorem splitSeq_in (n : Nat) (hn : 1 ≤ n) (l b : Nat) (s : List UInt8) (hlen : s.length < 1000000000) (J Jx : List (List UInt8) → World → Prop)
    (hY : ∀ pre x A, J pre A → pre ++ [x] <+: splitC 32 s → YieldAt Fence.wide (n - 1) Tryd.prog l #[.string ⟨x.toArray⟩] A fun e B =>
      (e = .returned (.bool true) ∧ J (pre ++ [x]) B ∧ KeepB b A B) ∨ (e = .returned (.bool false) ∧ Jx (pre ++ [x]) B))
    (hJs : ∀ pre A v, J pre A → J pre (A.setCell ⟨b, 0, none⟩ v)) (W : World)
    (k1 : Boxed W (b + 1) 9 (.string ⟨#[32]⟩)) (k2 : Boxed W b 9 (.string ⟨s.toArray⟩)) (k3 : Boxed W (b + 2) 3 (.int .i64 0)) (h0 : J [] W) :
    CallsIn Fence.wide n Tryd.prog 61 #[.func (.yield l) #[] #[], .pointer (some ⟨b + 1, 0, none⟩), .pointer (some ⟨b, 0, none⟩), .pointer (some ⟨b + 2, 0, none⟩)] W fun e B => (∃ v, e = .returned v) ∧
      (J (splitC 32 s) B ∨ (∃ pre, pre <+: splitC 32 s ∧ Jx pre B)) := by
  refine callsIn_of_wp Tryd.func61 rfl trivial ?_ rfl
  simp only [Tryd.ntmps61, List.size_toArray, List.length_cons, List.length_nil, Nat.reduceAdd, Nat.reduceSub, Array.replicate_succ, Array.replicate_zero, List.push_toArray, List.append_toArray, List.nil_append, List.cons_append]
  have c1 := k1.cell
  gi_wp2
  gi_loopw [7] (fun (v : Value) (wr : World) => ∃ (pre : List (List UInt8)) (rest : List UInt8), splitC 32 s = pre ++ splitC 32 rest ∧ rest.length ≤ s.length ∧ Boxed wr (b + 1) 9 (.string ⟨#[32]⟩) ∧ Boxed wr b 9 (.string ⟨rest.toArray⟩) ∧ Boxed wr (b + 2) 3 (.int .i64 0) ∧ J pre wr)
    (fun _ wr => strLeft b wr)
  case atStart => exact ⟨[], s, rfl, Nat.le_refl _, k1, k2, k3, h0⟩
  case round =>
    obtain ⟨pre, rest, hx, hrl, j1, j2, j3, hJ⟩ := hrel
    clear k1 k2 k3 h0 c1
    have c1 := j1.cell
    have c2 := j2.cell
    have c3 := j3.cell
    have f2 := j2.frozen
    rcases split_at 32 rest with ⟨hi, hp⟩ | ⟨i, hi, hil, hp⟩
    · obtain ⟨fn, tmps, assign, body, hy, hR⟩ := hY pre rest wr hJ (by rw [hx, hp]; exact List.prefix_refl _)
      have hI : Calls Tryd.prog 60 #[.string ⟨rest.toArray⟩, .string ⟨#[32]⟩] wr fun e w' => e = .returned (.int .i64 (-1)) ∧ w' = wr := by
        have := Tryd.strings_Index_one ⟨rest.toArray⟩ 32 wr
        rwa [List.toList_toArray, hi] at this
      gi_wp2_with (refine ⟨trivial, ?_⟩; gi_at_call 60; refine (callsIn_wide.2 hI).mono ?_; rintro e w' ⟨rfl, rfl⟩)
      refine hR.mono ?_
      rintro e W3 (⟨rfl, hJ3, hk3⟩ | ⟨rfl, hJx3⟩)
      · gi_wp2
        go_end0
        exact ⟨⟨_, rfl⟩, .inl (by rw [hx, hp]; exact hJ3)⟩
      · gi_wp2
        go_end0
        exact ⟨⟨_, rfl⟩, .inr ⟨_, by rw [hx, hp]; exact List.prefix_refl _, hJx3⟩⟩
    · obtain ⟨fn, tmps, assign, body, hy, hR⟩ := hY pre (rest.take i) wr hJ (by rw [hx, hp]; exact ⟨splitC 32 (rest.drop (i + 1)), by simp⟩)
      have hI : Calls Tryd.prog 60 #[.string ⟨rest.toArray⟩, .string ⟨#[32]⟩] wr fun e w' => e = .returned (.int .i64 (i : Int)) ∧ w' = wr := by
        have := Tryd.strings_Index_one ⟨rest.toArray⟩ 32 wr
        rwa [List.toList_toArray, hi] at this
      have hsz : (ByteArray.mk rest.toArray).size = rest.length := by simp [ByteArray.size]
      have hex : (ByteArray.mk rest.toArray).extract 0 i = ⟨(rest.take i).toArray⟩ := by rw [ByteArray.extract_mk]; simp
      have hex2 : (ByteArray.mk rest.toArray).extract (i + 1) rest.length = ⟨(rest.drop (i + 1)).toArray⟩ := by rw [ByteArray.extract_mk, List.take_of_length_le (by simp)]
      rw [← hex] at hy
      clear hex
      gi_wp2_with (refine ⟨trivial, ?_⟩; gi_at_call 60; refine (callsIn_wide.2 hI).mono ?_; clear hI; rintro e w' ⟨rfl, rfl⟩)
      refine hR.mono ?_
      rintro e W3 (⟨rfl, hJ3, hk3⟩ | ⟨rfl, hJx3⟩)
      · have m1 := boxed_keep j1 hk3 (by omega) (by omega)
        have m2 := boxed_keep j2 hk3 (by omega) (by omega)
        have m3 := boxed_keep j3 hk3 (by omega) (by omega)
        have d1 := m1.cell
        have d2 := m2.cell
        have g2 := m2.frozen
        clear c1 c2 c3 f2
        gi_wp2
        go_roundw
        case rel =>
          exact ⟨pre ++ [rest.take i], rest.drop (i + 1), by rw [hx, hp]; simp, by simp; omega, m1.kept (grownBy_setCell' W3 b _) (by simp), m2.set _, m3.kept (grownBy_setCell' W3 b _) (by simp), hJs _ _ _ hJ3⟩
        case measure =>
          rw [strLeft_eq (m2.set _), strLeft_eq j2]
          simp
          omega
      · gi_wp2
        refine bodyPost_ret (results_none rfl _ _ _) rfl ?_
        exact ⟨⟨_, rfl⟩, .inr ⟨_, by rw [hx, hp]; exact ⟨splitC 32 (rest.drop (i + 1)), by simp⟩, hJx3⟩⟩

set_option maxHeartbeats 1000000 in
theorem splitSeq_made (s : ByteArray) (w : World) : Calls Tryd.prog 50 #[.string s, .string ⟨#[32]⟩, .int .i64 0] w fun e w' =>
    e = .returned (.func (.func 61) #[] #[.pointer (some ⟨w.heap.size + 1, 0, none⟩), .pointer (some ⟨w.heap.size, 0, none⟩), .pointer (some ⟨w.heap.size + 2, 0, none⟩)]) ∧ w' = ((w.alloc (.cells #[.string s] 9)).alloc (.cells #[.string ⟨#[32]⟩] 9)).alloc (.cells #[.int .i64 0] 3) := by
  go_enter Tryd.func50, Tryd.ntmps50
  go_wp2
  go_ret
  exact ⟨rfl, rfl⟩
set_option maxHeartbeats 1000000 in
theorem SplitSeq_made (s : ByteArray) (w : World) : Calls Tryd.prog 41 #[.string s, .string ⟨#[32]⟩] w fun e w' =>
    e = .returned (.func (.func 61) #[] #[.pointer (some ⟨w.heap.size + 1, 0, none⟩), .pointer (some ⟨w.heap.size, 0, none⟩), .pointer (some ⟨w.heap.size + 2, 0, none⟩)]) ∧ w' = ((w.alloc (.cells #[.string s] 9)).alloc (.cells #[.string ⟨#[32]⟩] 9)).alloc (.cells #[.int .i64 0] 3) := by
  go_enter Tryd.func41, Tryd.ntmps41
  go_wp2_with (go_at_call 50; refine (splitSeq_made s _).mono ?_; rintro e w' ⟨rfl, rfl⟩)
  go_ret
  exact ⟨rfl, rfl⟩
end Go.Proofs.YtcglmncmnlkpmaaDoor
