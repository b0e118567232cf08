/- Plain laws: the unit matrix, is it a matrix, the trace, the transpose; and their four checks answer true. -/
import Derived.Test.YtjhaealoneennaaPMat
namespace Go.Proofs.Ytjhaealoneennaa
set_option linter.unusedVariables false
set_option linter.unusedSimpArgs false

def unitM (n : Nat) : List (List Int) := (List.range n).map fun i => (List.range n).map fun j => if i = j then 0 else 1000000000
/-! ### The transpose -/
def colAt (m : List (List Int)) (j : Nat) : List Int := m.map fun r => nth r j
def turn (m : List (List Int)) (c : Nat) : List (List Int) := (List.range c).map (colAt m)
theorem transposed_l2_eq (q : List Int) : ∀ (j : Nat) (A B : List (List Int)), A.length = j → B.length = q.length → (∀ r ∈ B, r.length < 1000000) → impl_transposed_l2 q j (A ++ B) = some (A ++ List.zipWith (fun r v => r ++ [v]) B q) := by
  induction q with
  | nil => intro j A B _ hB _; cases B with
    | nil => simp [impl_transposed_l2]
    | cons b B => simp at hB
  | cons x q ih =>
    intro j A B hA hB hr
    cases B with
    | nil => simp at hB
    | cons b B =>
      simp only [List.length_cons, Nat.add_right_cancel_iff] at hB
      have hb := hr b List.mem_cons_self
      rw [impl_transposed_l2, idx_lt (show j < (A ++ b :: B).length by simp; omega)]
      simp only [bs]
      have e : (A ++ b :: B)[j]'(by simp; omega) = b := by subst hA; simp
      rw [e, app_lt (by omega)]
      simp only [bs]
      rw [upd_nat (by simp; omega)]
      simp only [bs]
      have e2 : (A ++ b :: B).set j (b ++ [x]) = (A ++ [b ++ [x]]) ++ B := by subst hA; simp
      rw [e2, ih (j + 1) (A ++ [b ++ [x]]) B (by simp [hA]) hB (fun r h => hr r (List.mem_cons_of_mem _ h))]
      simp
theorem zip_turn (P : List (List Int)) (x : List Int) : List.zipWith (fun (r : List Int) v => r ++ [v]) (turn P x.length) x = turn (P ++ [x]) x.length := by
  apply List.ext_getElem
  · simp [turn]
  · intro i h1 h2
    simp [turn, colAt, nth]
    have : i < x.length := by simpa [turn] using h1
    simp [this]
theorem transposed_l1_eq (c : Nat) (q : List (List Int)) : ∀ (j : Nat) (P : List (List Int)), (∀ r ∈ q, r.length = c) → P.length + q.length < 1000000 → impl_transposed_l1 q j (turn P c) = some (turn (P ++ q) c) := by
  induction q with
  | nil => intro j P _ _; simp [impl_transposed_l1]
  | cons x q ih =>
    intro j P hr hl
    simp only [List.length_cons] at hl
    have hx := hr x List.mem_cons_self
    rw [impl_transposed_l1]
    have := transposed_l2_eq x 0 [] (turn P c) rfl (by simp [turn, hx]) (fun r h => by
      simp only [turn, List.mem_map] at h
      obtain ⟨i, _, rfl⟩ := h
      simp [colAt]; omega)
    simp only [List.nil_append] at this
    rw [this]
    simp only [bs]
    have e := zip_turn P x
    rw [hx] at e
    rw [e, ih (j + 1) (P ++ [x]) (fun r h => hr r (List.mem_cons_of_mem _ h)) (by simp; omega)]
    simp
theorem transposed_gen {m : List (List Int)} {c : Nat} (h0 : 1 ≤ m.length) (h1 : m.length ≤ 6) (hc : c ≤ 6) (hr : ∀ r ∈ m, r.length = c) : impl_transposed_m m = some (turn m c) := by
  have hh : (hd m).length = c := hr _ (by
    cases m with
    | nil => simp at h0
    | cons x m => exact List.mem_cons_self)
  unfold impl_transposed_m
  rw [idx_head (by omega)]
  simp only [bs]
  rw [guardO_t (by simp; omega)]
  simp only [bs]
  have e : List.replicate ((hd m).length : Int).toNat ([] : List Int) = turn [] c := by
    rw [Int.toNat_natCast, hh]
    apply List.ext_getElem
    · simp [turn]
    · intro i h1 h2; simp [turn, colAt]
  rw [e, transposed_l1_eq c m 0 [] hr (by simp; omega)]
  rfl
theorem transposed_eq {m : List (List Int)} {c : Nat} (g : Good m c) : impl_transposed_m m = some (turn m c) := transposed_gen g.lo g.hi g.chi g.row
theorem turn_good {m : List (List Int)} {c : Nat} (g : Good m c) : SmallM (turn m c) := by
  have := g.hi; have := g.chi
  refine ⟨by simp [Small, turn]; omega, fun l h => ?_⟩
  simp only [turn, List.mem_map] at h
  obtain ⟨i, _, rfl⟩ := h
  simp [Small, colAt]; omega
end Go.Proofs.Ytjhaealoneennaa
