/- Plain basis: what a permutation costs. -/
import Derived.Test.YtnnhbkhlipekeaaAs2M
import Derived.Test.YtnnhbkhlipekeaaPBas
import Derived.Test.YtnnhbkhlipekeaaPPerm
namespace Go.Proofs.Ytnnhbkhlipekeaa
set_option linter.unusedVariables false
set_option linter.unusedSimpArgs false

theorem dropS {a q : List Int} {x : Int} {j : Nat} (h : x :: q = a.drop j) : j < a.length ∧ x = nth a j ∧ q = a.drop (j + 1) := by
  have hj : j < a.length := by
    have := congrArg List.length h
    simp at this; omega
  rw [drop_cons hj] at h
  simp only [List.cons.injEq] at h
  exact ⟨hj, by simp [nth, hj, h.1], h.2⟩
/-- What a beginning of i rows may cost. -/
def Bp (i : Nat) (p : Int) : Prop := p = 1000000000 ∨ (-((i : Int) * 1000000) ≤ p ∧ p ≤ (i : Int) * 1000000)
theorem Bp.le {i : Nat} {p : Int} (h : Bp i p) (hi : i ≤ 6) : p ≤ 1000000000 ∧ -6000000 ≤ p := by
  rcases h with h | h <;> omega
def pcost (m : List (List Int)) : List Int → Nat → Int → Int
  | [], i, p => p
  | k :: q, i, p => pcost m q (i + 1) (plus p (En m i k.toNat))
section
variable {m : List (List Int)} {n : Nat} (g : Good m n) (hn : m.length = n)
include g hn
theorem Bp_step {i k : Nat} {p : Int} (hi : i < n) (hk : k < n) (h : Bp i p) : Bp (i + 1) (plus p (En m i k)) ∧ -9223372036854775808 ≤ p + En m i k ∧ p + En m i k ≤ 9223372036854775807 := by
  have h6 := g.chi
  have h1 := (num_iff _).1 (En_num g (by omega) hk : num (En m i k) = true)
  unfold Bp at h ⊢
  unfold plus
  refine ⟨?_, by omega, by omega⟩
  by_cases e : p = 1000000000 ∨ En m i k = 1000000000
  · simp [e]
  · simp only [e, if_false]
    right
    push_cast
    omega
theorem pcost_Bp : ∀ (q : List Int) (i : Nat) (p : Int), i + q.length ≤ n → (∀ x ∈ q, 0 ≤ x ∧ x < (n : Int)) → Bp i p → Bp (i + q.length) (pcost m q i p)
  | [], i, p, _, _, h => h
  | k :: q, i, p, hl, hv, h => by
    simp only [List.length_cons] at hl
    have hk := hv k List.mem_cons_self
    have := pcost_Bp q (i + 1) _ (by omega) (fun x hx => hv x (List.mem_cons_of_mem _ hx)) (Bp_step g hn (i := i) (k := k.toNat) (by omega) (by omega) h).1
    rw [pcost, List.length_cons, show i + (q.length + 1) = i + 1 + q.length by omega]
    exact this
theorem costOf_l1_eq : ∀ (q : List Int) (i : Nat) (p : Int), i + q.length ≤ n → (∀ x ∈ q, 0 ≤ x ∧ x < (n : Int)) → Bp i p → impl_costOf_l1 m q i p = some (pcost m q i p)
  | [], i, p, _, _, h => rfl
  | k :: q, i, p, hl, hv, h => by
    simp only [List.length_cons] at hl
    have sh : Shape m n n := ⟨hn, g.row⟩
    have hk := hv k List.mem_cons_self
    obtain ⟨h1, h2, h3⟩ := Bp_step g hn (i := i) (k := k.toNat) (by omega) (by omega) h
    have e1 : idx (nthM m i) k = some (En m i k.toNat) := by
      have := idx_nth (l := nthM m i) (j := k.toNat) (by rw [sh.nth_len (by omega)]; omega)
      rwa [show ((k.toNat : Nat) : Int) = k by omega] at this
    rw [impl_costOf_l1, sh.idx (by omega)]
    simp only [bs, e1, product_eq h2 h3]
    exact costOf_l1_eq q (i + 1) _ (by omega) (fun x hx => hv x (List.mem_cons_of_mem _ hx)) h1
theorem costOf_eq {a : List Int} (ha : a.length ≤ n) (hv : ∀ x ∈ a, 0 ≤ x ∧ x < (n : Int)) : impl_costOf_m m a = some (pcost m a 0 0) := by
  unfold impl_costOf_m
  rw [costOf_l1_eq g hn a 0 0 (by omega) hv (.inr ⟨by simp, by simp⟩)]
  rfl
end
end Go.Proofs.Ytnnhbkhlipekeaa
