/- The loops of the program compute what the plain law on least costs says. -/
import Derived.Test.YtaagklbiebogfaaPFwA
import Derived.Test.YtaagklbiebogfaaPMx2
namespace Go.Proofs.Ytaagklbiebogfaa
set_option linter.unusedVariables false
set_option linter.unusedSimpArgs false

def conv (x : Int) : Ex := if x = 1000000000 then none else some x
theorem conv_inj {x y : Int} (h : conv x = conv y) : x = y := by
  unfold conv at h
  by_cases hx : x = 1000000000
  · by_cases hy : y = 1000000000
    · omega
    · rw [if_pos hx, if_neg hy] at h; cases h
  · by_cases hy : y = 1000000000
    · rw [if_neg hx, if_pos hy] at h; cases h
    · rw [if_neg hx, if_neg hy] at h; exact Option.some.inj h
/-- Infinity, or within these bounds. -/
def wi (lo hi x : Int) : Prop := x = 1000000000 ∨ (lo ≤ x ∧ x ≤ hi)
theorem wi.mono {lo hi lo' hi' x : Int} (h : wi lo hi x) (h1 : lo' ≤ lo) (h2 : hi ≤ hi') : wi lo' hi' x := by
  rcases h with h | h
  · exact .inl h
  · exact .inr ⟨by omega, by omega⟩
theorem conv_plus {x y a b c d : Int} (hx : wi a b x) (hy : wi c d y) (h : b + d < 1000000000) (hb : b < 1000000000) (hd : d < 1000000000) : conv (plus x y) = padd (conv x) (conv y) := by
  unfold plus conv
  by_cases e : x = 1000000000
  · subst e; simp [padd]
  · by_cases e' : y = 1000000000
    · subst e'; simp [padd_none]
    · have hs : x + y ≠ 1000000000 := by
        rcases hx with h1 | h1
        · exact absurd h1 e
        · rcases hy with h2 | h2
          · exact absurd h2 e'
          · omega
      simp [e, e', hs, padd]
theorem wi_plus {x y a b c d : Int} (hx : wi a b x) (hy : wi c d y) : wi (a + c) (b + d) (plus x y) := by
  unfold plus
  by_cases e : x = 1000000000 ∨ y = 1000000000
  · rw [if_pos e]; exact .inl rfl
  · rw [if_neg e]
    rcases hx with h | h
    · exact absurd (.inl h) e
    · rcases hy with h' | h'
      · exact absurd (.inr h') e
      · exact .inr ⟨by omega, by omega⟩
theorem conv_min {x y a b c d : Int} (hx : wi a b x) (hy : wi c d y) (hb : b < 1000000000) (hd : d < 1000000000) : conv (min x y) = pmin (conv x) (conv y) := by
  unfold conv
  by_cases e : x = 1000000000
  · by_cases e' : y = 1000000000
    · rw [if_pos (by omega), if_pos e, if_pos e']; rfl
    · rw [if_neg (by rcases hy with h | h <;> omega), if_pos e, if_neg e']
      have : min x y = y := by rcases hy with h | h <;> omega
      rw [this]; rfl
  · by_cases e' : y = 1000000000
    · rw [if_neg (by rcases hx with h | h <;> omega), if_neg e, if_pos e']
      have : min x y = x := by rcases hx with h | h <;> omega
      rw [this]; rfl
    · rw [if_neg (by omega), if_neg e, if_neg e']; rfl
theorem num_wi {x : Int} (h : num x = true) : wi (-1000000) 1000000 x := by
  rcases (num_iff x).1 h with h | h
  · exact .inr h
  · exact .inl h

/-! ### Entries -/
def En (d : List (List Int)) (i k : Nat) : Int := nth (nthM d i) k
theorem nth_set {l : List Int} {k b : Nat} {v : Int} (h : k < l.length) : nth (l.set k v) b = if b = k then v else nth l b := by
  by_cases e : b = k
  · subst e; simp [nth, h]
  · rw [if_neg e]; simp [nth, Ne.symm e]
theorem En_set {d : List (List Int)} {n i k : Nat} {v : Int} (h : Shape d n n) (hi : i < n) (hk : k < n) (a b : Nat) : En (d.set i ((nthM d i).set k v)) a b = if a = i ∧ b = k then v else En d a b := by
  have hl := h.len
  have hr := h.nth_len hi
  unfold En
  by_cases e : a = i
  · subst e
    rw [nthM_set (by omega), nth_set (by omega)]
    by_cases e2 : b = k
    · rw [if_pos e2, if_pos ⟨rfl, e2⟩]
    · rw [if_neg e2, if_neg (fun hh => e2 hh.2)]
  · rw [nthM_set_ne (Ne.symm e), if_neg (fun hh => e hh.1)]
theorem En_idx {d : List (List Int)} {n i k : Nat} (h : Shape d n n) (hi : i < n) (hk : k < n) : idx (nthM d i) (k : Int) = some (En d i k) := idx_nth (by rw [h.nth_len hi]; exact hk)
theorem Shape.ext {d d' : List (List Int)} {n : Nat} (h : Shape d n n) (h' : Shape d' n n) (he : ∀ i k, i < n → k < n → En d i k = En d' i k) : d = d' := by
  have l1 := h.len; have l2 := h'.len
  apply List.ext_getElem (by omega)
  intro i h1 h2
  have r1 := h.row _ (List.getElem_mem h1)
  have r2 := h'.row _ (List.getElem_mem h2)
  apply List.ext_getElem (by omega)
  intro k h3 h4
  have := he i k (by omega) (by omega)
  simpa [En, nth, nthM, h1, h2, h3, h4] using this
def A (n : Nat) (d : List (List Int)) : Mt := fun i k => if i < n ∧ k < n then conv (En d i k) else none
theorem A_in {n : Nat} {d : List (List Int)} {i k : Nat} (hi : i < n) (hk : k < n) : A n d i k = conv (En d i k) := if_pos ⟨hi, hk⟩
theorem A_set {d : List (List Int)} {n i k : Nat} {v : Int} (h : Shape d n n) (hi : i < n) (hk : k < n) : A n (d.set i ((nthM d i).set k v)) = upd2 (A n d) i k (conv v) := by
  funext a b
  unfold A upd2
  by_cases e : a = i ∧ b = k
  · rw [if_pos e, if_pos ⟨by omega, by omega⟩, En_set h hi hk, if_pos e]
  · rw [if_neg e, En_set h hi hk, if_neg e]

/-! ### Floyd and Warshall -/
structure Bd (n j : Nat) (L U : Int) (i k : Nat) (d : List (List Int)) : Prop where
  sh : Shape d n n
  val : ∀ a b, a < n → b < n → wi (-6 * L) (2 * U) (En d a b)
  row : ∀ b, b < n → wi (-3 * L) U (En d j b)
  col : ∀ a, a < n → wi (-3 * L) U (En d a j)
  jj : wi (-2 * L) U (En d j j)
  un : ∀ a b, a < n → b < n → (i < a ∨ (a = i ∧ k ≤ b)) → wi (-L) U (En d a b)
theorem Bd.next {n j : Nat} {L U : Int} {i : Nat} {d : List (List Int)} (h : Bd n j L U i n d) : Bd n j L U (i + 1) 0 d :=
  ⟨h.sh, h.val, h.row, h.col, h.jj, fun a b ha hb hab => h.un a b ha hb (by omega)⟩
def Lb : Nat → Int
  | 0 => 1000000
  | j + 1 => 6 * Lb j
def Ub : Nat → Int
  | 0 => 1000000
  | j + 1 => 2 * Ub j
theorem lub : ∀ j, j < 7 → 0 ≤ Lb j ∧ Lb j ≤ 1000000000000 ∧ 0 ≤ Ub j ∧ Ub j ≤ 64000000 := by decide
theorem En_num {m : List (List Int)} {c i k : Nat} (g : Good m c) (hi : i < m.length) (hk : k < c) : num (En m i k) = true :=
  g.nums _ (nthM_mem hi) _ (nth_mem (by rw [g.shape.nth_len hi]; exact hk))
/-! ### Bellman and Ford -/
def fI (f : Nat → Int) : Nat → Nat → Int → Int
  | 0, _, a => a
  | q + 1, j, a => fI f q (j + 1) (min a (f j))
theorem fI_wi {f : Nat → Int} {lo hi : Int} : ∀ q j a, (∀ i, j ≤ i → i < j + q → wi lo hi (f i)) → wi lo hi a → wi lo hi (fI f q j a)
  | 0, _, _, _, h => h
  | q + 1, j, a, hf, h => fI_wi q (j + 1) _ (fun i h1 h2 => hf i (by omega) (by omega)) (by
    have := hf j (Nat.le_refl _) (by omega)
    rcases this with e | e <;> rcases h with e' | e'
    · left; omega
    · by_cases hc : a ≤ f j
      · rw [Int.min_eq_left hc]; exact .inr e'
      · rw [Int.min_eq_right (by omega)]; exact .inl e
    · by_cases hc : a ≤ f j
      · rw [Int.min_eq_left hc]; exact .inl e'
      · rw [Int.min_eq_right (by omega)]; exact .inr e
    · right; omega)
theorem fI_conv {f : Nat → Int} {lo hi : Int} (hhi : hi < 1000000000) : ∀ q j a, (∀ i, j ≤ i → i < j + q → wi lo hi (f i)) → wi lo hi a → conv (fI f q j a) = inf (fun i => conv (f i)) (List.range' j q) (conv a)
  | 0, _, _, _, _ => rfl
  | q + 1, j, a, hf, h => by
    have h1 := hf j (Nat.le_refl _) (by omega)
    have h2 := fI_wi 1 j a (fun i h1 h2 => hf i h1 (by omega)) h
    rw [List.range'_succ, inf, ← conv_min h h1 hhi hhi]
    exact fI_conv hhi q (j + 1) _ (fun i h1 h2 => hf i (by omega) (by omega)) h2
section
variable {m c : List (List Int)} {n : Nat} {B : Int} (hm : Shape m n n) (hc : Shape c n n) (hmw : ∀ a b, a < n → b < n → wi (-1000000) 1000000 (En m a b)) (hcw : ∀ a b, a < n → b < n → wi (-B) B (En c a b)) (hB : 0 ≤ B) (hB2 : B ≤ 100000000)
include hm hc hmw hcw hB hB2
end
end Go.Proofs.Ytaagklbiebogfaa
