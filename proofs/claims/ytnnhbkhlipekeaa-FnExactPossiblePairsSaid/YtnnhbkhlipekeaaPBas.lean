/- Plain basis: own copies, shapes, entries of matrices. -/
import Derived.Test.YtnnhbkhlipekeaaOwnM
import Derived.Test.YtnnhbkhlipekeaaPMat
namespace Go.Proofs.Ytnnhbkhlipekeaa
set_option linter.unusedVariables false
set_option linter.unusedSimpArgs false

theorem appS_nil {l : List Int} (h : l.length < 1000000000) : appS [] l = some l := by unfold appS; rw [decide_eq_true (by simpa using h)]; rfl
theorem l1Own_eq {l : List Int} (h : l.length < 1000000000) : spec_l1Own_m l = some l := by unfold spec_l1Own_m; rw [appS_nil h]; rfl
theorem Clone_eq {l : List Int} (h : l.length < 1000000000) : slices_Clone_int_int_m l = some l := by unfold slices_Clone_int_int_m; rw [appS_nil h]; rfl
structure Shape (m : List (List Int)) (r c : Nat) : Prop where
  len : m.length = r
  row : ∀ l ∈ m, l.length = c
theorem Good.shape {m : List (List Int)} {c : Nat} (g : Good m c) : Shape m m.length c := ⟨rfl, g.row⟩
theorem Shape.small {m : List (List Int)} {r c : Nat} (h : Shape m r c) (hr : r ≤ 6) (hc : c ≤ 6) : SmallM m :=
  ⟨by unfold Small; rw [h.len]; omega, fun l hl => by unfold Small; rw [h.row l hl]; omega⟩
theorem Shape.set {m : List (List Int)} {r c : Nat} (h : Shape m r c) (i : Nat) {l : List Int} (hl : l.length = c) : Shape (m.set i l) r c :=
  ⟨by simpa using h.len, fun x hx => by
    rcases List.mem_or_eq_of_mem_set hx with h1 | h1
    · exact h.row x h1
    · rw [h1]; exact hl⟩
theorem Shape.nth_len {m : List (List Int)} {r c : Nat} (h : Shape m r c) {i : Nat} (hi : i < r) : (nthM m i).length = c := h.row _ (nthM_mem (by rw [h.len]; exact hi))
theorem Shape.idx {m : List (List Int)} {r c : Nat} (h : Shape m r c) {i : Nat} (hi : i < r) : idx m (i : Int) = some (nthM m i) := idx_nthM (by rw [h.len]; exact hi)

def En (d : List (List Int)) (i k : Nat) : Int := nth (nthM d i) k
theorem nth_set {l : List Int} {k b : Nat} {v : Int} (h : k < l.length) : nth (l.set k v) b = if b = k then v else nth l b := by
  by_cases e : b = k
  · subst e; simp [nth, h]
  · rw [if_neg e]; simp [nth, Ne.symm e]
theorem En_num {m : List (List Int)} {c i k : Nat} (g : Good m c) (hi : i < m.length) (hk : k < c) : num (En m i k) = true :=
  g.nums _ (nthM_mem hi) _ (nth_mem (by rw [g.shape.nth_len hi]; exact hk))
theorem idx_int {l : List Int} {n : Int} (h0 : 0 ≤ n) (h1 : n < l.length) : idx l n = some (nth l n.toNat) := by
  have := idx_nth (l := l) (j := n.toNat) (by omega)
  rwa [show ((n.toNat : Nat) : Int) = n by omega] at this
theorem idx_intM {m : List (List Int)} {n : Int} (h0 : 0 ≤ n) (h1 : n < m.length) : idx m n = some (nthM m n.toNat) := by
  have := idx_nthM (m := m) (j := n.toNat) (by omega)
  rwa [show ((n.toNat : Nat) : Int) = n by omega] at this
end Go.Proofs.Ytnnhbkhlipekeaa
