/- strings.Split and strconv.Atoi in the engine's words. -/
import Derived.Test.YtcglmncmnlkpmaaDoorBld
import Derived.Test.YtcglmncmnlkpmaaDoorShl2
import Derived.Test.YtcglmncmnlkpmaaDoorTx2
namespace Go.Proofs.YtcglmncmnlkpmaaDoor
open Go.Shelf Go.RowKit
set_option linter.unusedVariables false

/-- The library's variables that the parse reads: the table of powers of ten, the greatest length of a direct search, the two errors. -/
def TabOk2 (W : World) : Prop := TabOk W ∧ (∃ m, W.cell? ⟨0, 0, none⟩ = some (.int .i64 m)) ∧ (∃ tp p, W.var? Tryd.prog "strconv.ErrSyntax" = some #[.iface tp p]) ∧ (∃ tp p, W.var? Tryd.prog "strconv.ErrRange" = some #[.iface tp p])
theorem syn_named : Tryd.prog.globalNamed "strconv.ErrSyntax" = some 3 := by kernel_rfl
theorem rng_named : Tryd.prog.globalNamed "strconv.ErrRange" = some 4 := by kernel_rfl
theorem TabOk2.below {W w : World} (h : TabOk2 W) (hb : Below W.heap.size W w) : TabOk2 w := by
  obtain ⟨h1, ⟨m, h2⟩, ⟨t3, p3, h3⟩, ⟨t4, p4, h4⟩⟩ := h
  exact ⟨h1.below hb, ⟨m, (hb.cell (p := ⟨0, 0, none⟩) (World.block_lt_of_cell? _ _ h2)).trans h2⟩,
    ⟨t3, p3, Go.Joins.var_stays (B := W.heap.size) syn_named h3 hb (Nat.le_refl _)⟩, ⟨t4, p4, Go.Joins.var_stays (B := W.heap.size) rng_named h4 hb (Nat.le_refl _)⟩⟩

theorem strconv_Atoi_any (p0 : List UInt8) (W : World) (hT : TabOk2 W) {r : Int × Bool} (hm : strconv_Atoi_m p0 = some r) : Calls Tryd.prog 51 [.string ⟨p0.toArray⟩].toArray W fun e w => ∃ v, e = .returned v ∧ (∃ ev, v = .tuple #[.int .i64 r.1, ev] ∧ ErrV r.2 ev ∧ Mem W w []) := by
  unfold strconv_Atoi_m at hm
  by_cases hd : p0.length < 1000000000
  · rw [decide_eq_true hd] at hm
    obtain rfl := Option.some.inj hm
    obtain ⟨h1, _, ⟨t3, p3, h3⟩, ⟨t4, p4, h4⟩⟩ := hT
    have hsz : (ByteArray.mk p0.toArray).size = p0.length := by simp [ByteArray.size]
    have hl : (ByteArray.mk p0.toArray).data.toList = p0 := by simp
    cases h : Lib.atoiAll p0
    · rename_i v
      refine (Tryd.strconv_Atoi_ok ⟨p0.toArray⟩ (by rw [hsz]; omega) v (by rw [hl]; exact h) W).mono ?_
      rintro e w ⟨rfl, hw⟩
      refine ⟨_, rfl, _, rfl, .inl ⟨rfl, rfl⟩, ?_⟩
      rcases hw with rfl | ⟨t, rfl⟩
      · exact Mem.start w
      · exact (Mem.start W).quiet (Go.Joins.below_bytesWorld _ _ _ _ (Nat.le_refl _))
    · skip
      have hS : Calls Tryd.prog 51 #[.string ⟨p0.toArray⟩] W fun e w' => ∃ N, e = .returned (.tuple #[.int .i64 0, .iface 84 (.pointer (some ⟨N, 0, none⟩))]) ∧ W.heap.size ≤ N ∧ w'.heap[N]? = some (.cells #[.string ⟨#[65, 116, 111, 105]⟩, .string ⟨p0.toArray⟩, .iface t3 p3] 100 (0, 0)) ∧ Below W.heap.size W w' := Any.strconv_Atoi_syntax_var Tryd.laysC172 ⟨p0.toArray⟩ (by rw [hsz]; omega) (by rw [hl]; exact h) t3 p3 W h3
      refine hS.mono ?_
      rintro e w ⟨N, rfl, _, _, hb⟩
      exact ⟨_, rfl, _, rfl, .inr ⟨rfl, _, _, rfl⟩, (Mem.start W).quiet hb⟩
    · skip
      have hR := Tryd.strconv_Atoi_range_var ⟨p0.toArray⟩ (by rw [hsz]; omega) (by rw [hl]; exact h) t4 p4 W h4
      rw [hl] at hR
      refine hR.mono ?_
      rintro e w ⟨N, rfl, _, _, hb⟩
      exact ⟨_, rfl, _, rfl, .inr ⟨rfl, _, _, rfl⟩, (Mem.start W).quiet hb⟩
  · rw [decide_eq_false hd] at hm; cases hm

theorem strings_Split_any (p0 p1 : List UInt8) (W : World) (hT : TabOk2 W) {r : List (List UInt8)} (hm : strings_Split_m p0 p1 = some r) : Calls Tryd.prog 40 [.string ⟨p0.toArray⟩, .string ⟨p1.toArray⟩].toArray W fun e w => ∃ v, e = .returned v ∧ Mem W w [aStrs 9 v r] := by
  unfold strings_Split_m at hm
  by_cases hd : p0.length < 1000000000 ∧ 1 ≤ p1.length
  · rw [decide_eq_true hd] at hm
    obtain rfl := Option.some.inj hm
    obtain ⟨_, ⟨m, h2⟩, _⟩ := hT
    have hsz : ∀ p : List UInt8, (ByteArray.mk p.toArray).size = p.length := fun p => by simp [ByteArray.size]
    have hl : ∀ p : List UInt8, (ByteArray.mk p.toArray).data.toList = p := fun p => by simp
    refine (Tryd.strings_Split ⟨p0.toArray⟩ ⟨p1.toArray⟩ m W (by rw [hsz]; omega) h2 (by rw [hsz]; exact hd.2)).mono ?_
    rintro e w ⟨rfl, rfl⟩
    refine ⟨_, rfl, ?_⟩
    have hlen := Lib.splitB_all ⟨p1.toArray⟩ (by rw [hsz]; exact hd.2) 0 (Lib.countB ⟨p0.toArray⟩ ⟨p1.toArray⟩) ⟨p0.toArray⟩ rfl
    have hcnt : Lib.countB ⟨p0.toArray⟩ ⟨p1.toArray⟩ = Lib.count p0 p1 := by simp [Lib.countB]
    have hdat := Lib.splitB_data ⟨p1.toArray⟩ 0 (Lib.countB ⟨p0.toArray⟩ ⟨p1.toArray⟩) ⟨p0.toArray⟩
    rw [hl, hl, hcnt] at hdat
    rw [hcnt] at hlen ⊢
    have hle := Lib.count_le p0 p1
    have hN := (Mem.start W).newRow 9 ((Lib.splitB ⟨p1.toArray⟩ 0 (Lib.count p0 p1) ⟨p0.toArray⟩).map Value.string) (by rw [List.length_map, hlen]; unfold maxLen; omega)
    rw [List.length_map, hlen] at hN
    have hmap : (Lib.splitB ⟨p1.toArray⟩ 0 (Lib.count p0 p1) ⟨p0.toArray⟩).map Value.string = (Lib.splitK p1 0 (Lib.count p0 p1) p0).map strV := by
      rw [← hdat, List.map_map]
      refine List.map_congr_left fun x _ => ?_
      show Value.string x = strV x.data.toList
      unfold strV
      rw [Go.Joins.bytes_eta]
    rw [hmap] at hN ⊢
    exact hN
  · rw [decide_eq_false hd] at hm; cases hm
end Go.Proofs.YtcglmncmnlkpmaaDoor
