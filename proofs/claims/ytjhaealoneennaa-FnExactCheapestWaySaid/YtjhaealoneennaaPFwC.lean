/- The loops of the program compute what the plain law on least costs says. -/
import Derived.Test.YtjhaealoneennaaWy4M
import Derived.Test.YtjhaealoneennaaPFwA
import Derived.Test.YtjhaealoneennaaPMx2
namespace Go.Proofs.Ytjhaealoneennaa
set_option linter.unusedVariables false
set_option linter.unusedSimpArgs false

def conv (x : Int) : Ex := if x = 1000000000 then none else some x
theorem conv_inj {x y : Int} (h : conv x = conv y) : x = y := by
  unfold conv at h
  by_cases hx : x = 1000000000
  · by_cases hy : y = 1000000000
    · omega
    · rw [if_pos hx, if_neg hy] at h; cases h
  · by_cases hy : y = 1000000000
    · rw [if_neg hx, if_pos hy] at h; cases h
    · rw [if_neg hx, if_neg hy] at h; exact Option.some.inj h
/-- Infinity, or within these bounds. -/
def wi (lo hi x : Int) : Prop := x = 1000000000 ∨ (lo ≤ x ∧ x ≤ hi)
theorem wi.mono {lo hi lo' hi' x : Int} (h : wi lo hi x) (h1 : lo' ≤ lo) (h2 : hi ≤ hi') : wi lo' hi' x := by
  rcases h with h | h
  · exact .inl h
  · exact .inr ⟨by omega, by omega⟩
theorem conv_plus {x y a b c d : Int} (hx : wi a b x) (hy : wi c d y) (h : b + d < 1000000000) (hb : b < 1000000000) (hd : d < 1000000000) : conv (plus x y) = padd (conv x) (conv y) := by
  unfold plus conv
  by_cases e : x = 1000000000
  · subst e; simp [padd]
  · by_cases e' : y = 1000000000
    · subst e'; simp [padd_none]
    · have hs : x + y ≠ 1000000000 := by
        rcases hx with h1 | h1
        · exact absurd h1 e
        · rcases hy with h2 | h2
          · exact absurd h2 e'
          · omega
      simp [e, e', hs, padd]
theorem wi_plus {x y a b c d : Int} (hx : wi a b x) (hy : wi c d y) : wi (a + c) (b + d) (plus x y) := by
  unfold plus
  by_cases e : x = 1000000000 ∨ y = 1000000000
  · rw [if_pos e]; exact .inl rfl
  · rw [if_neg e]
    rcases hx with h | h
    · exact absurd (.inl h) e
    · rcases hy with h' | h'
      · exact absurd (.inr h') e
      · exact .inr ⟨by omega, by omega⟩
theorem conv_min {x y a b c d : Int} (hx : wi a b x) (hy : wi c d y) (hb : b < 1000000000) (hd : d < 1000000000) : conv (min x y) = pmin (conv x) (conv y) := by
  unfold conv
  by_cases e : x = 1000000000
  · by_cases e' : y = 1000000000
    · rw [if_pos (by omega), if_pos e, if_pos e']; rfl
    · rw [if_neg (by rcases hy with h | h <;> omega), if_pos e, if_neg e']
      have : min x y = y := by rcases hy with h | h <;> omega
      rw [this]; rfl
  · by_cases e' : y = 1000000000
    · rw [if_neg (by rcases hx with h | h <;> omega), if_neg e, if_pos e']
      have : min x y = x := by rcases hx with h | h <;> omega
      rw [this]; rfl
    · rw [if_neg (by omega), if_neg e, if_neg e']; rfl
theorem num_wi {x : Int} (h : num x = true) : wi (-1000000) 1000000 x := by
  rcases (num_iff x).1 h with h | h
  · exact .inr h
  · exact .inl h

/-! ### Entries -/
theorem En_set {d : List (List Int)} {n i k : Nat} {v : Int} (h : Shape d n n) (hi : i < n) (hk : k < n) (a b : Nat) : En (d.set i ((nthM d i).set k v)) a b = if a = i ∧ b = k then v else En d a b := by
  have hl := h.len
  have hr := h.nth_len hi
  unfold En
  by_cases e : a = i
  · subst e
    rw [nthM_set (by omega), nth_set (by omega)]
    by_cases e2 : b = k
    · rw [if_pos e2, if_pos ⟨rfl, e2⟩]
    · rw [if_neg e2, if_neg (fun hh => e2 hh.2)]
  · rw [nthM_set_ne (Ne.symm e), if_neg (fun hh => e hh.1)]
theorem En_idx {d : List (List Int)} {n i k : Nat} (h : Shape d n n) (hi : i < n) (hk : k < n) : idx (nthM d i) (k : Int) = some (En d i k) := idx_nth (by rw [h.nth_len hi]; exact hk)
theorem Shape.ext {d d' : List (List Int)} {n : Nat} (h : Shape d n n) (h' : Shape d' n n) (he : ∀ i k, i < n → k < n → En d i k = En d' i k) : d = d' := by
  have l1 := h.len; have l2 := h'.len
  apply List.ext_getElem (by omega)
  intro i h1 h2
  have r1 := h.row _ (List.getElem_mem h1)
  have r2 := h'.row _ (List.getElem_mem h2)
  apply List.ext_getElem (by omega)
  intro k h3 h4
  have := he i k (by omega) (by omega)
  simpa [En, nth, nthM, h1, h2, h3, h4] using this
def A (n : Nat) (d : List (List Int)) : Mt := fun i k => if i < n ∧ k < n then conv (En d i k) else none
theorem A_in {n : Nat} {d : List (List Int)} {i k : Nat} (hi : i < n) (hk : k < n) : A n d i k = conv (En d i k) := if_pos ⟨hi, hk⟩
theorem A_set {d : List (List Int)} {n i k : Nat} {v : Int} (h : Shape d n n) (hi : i < n) (hk : k < n) : A n (d.set i ((nthM d i).set k v)) = upd2 (A n d) i k (conv v) := by
  funext a b
  unfold A upd2
  by_cases e : a = i ∧ b = k
  · rw [if_pos e, if_pos ⟨by omega, by omega⟩, En_set h hi hk, if_pos e]
  · rw [if_neg e, En_set h hi hk, if_neg e]

/-! ### Floyd and Warshall -/
structure Bd (n j : Nat) (L U : Int) (i k : Nat) (d : List (List Int)) : Prop where
  sh : Shape d n n
  val : ∀ a b, a < n → b < n → wi (-6 * L) (2 * U) (En d a b)
  row : ∀ b, b < n → wi (-3 * L) U (En d j b)
  col : ∀ a, a < n → wi (-3 * L) U (En d a j)
  jj : wi (-2 * L) U (En d j j)
  un : ∀ a b, a < n → b < n → (i < a ∨ (a = i ∧ k ≤ b)) → wi (-L) U (En d a b)
theorem Bd.next {n j : Nat} {L U : Int} {i : Nat} {d : List (List Int)} (h : Bd n j L U i n d) : Bd n j L U (i + 1) 0 d :=
  ⟨h.sh, h.val, h.row, h.col, h.jj, fun a b ha hb hab => h.un a b ha hb (by omega)⟩
theorem fw_l4 {n j i : Nat} {L U : Int} (hL : 0 ≤ L) (hL2 : L ≤ 1000000000000) (hU : 0 ≤ U) (hU2 : 2 * U < 1000000000) (hj : j < n) (hi : i < n) (q : List (List Int)) : ∀ k d, k + q.length = n → Bd n j L U i k d →
    ∃ d', impl_wayCosts_l4 j i q k d = some d' ∧ Bd n j L U i n d' ∧ A n d' = rowF j i q.length k (A n d) := by
  induction q with
  | nil => intro k d hk h; simp only [List.length_nil, Nat.add_zero] at hk; subst hk; exact ⟨d, rfl, h, rfl⟩
  | cons x q ih =>
    intro k d hk h
    simp only [List.length_cons] at hk
    have hkn : k < n := by omega
    have sh := h.sh
    have r1 := sh.nth_len hi
    rw [impl_wayCosts_l4, sh.idx hi]
    simp only [bs]
    rw [En_idx sh hi hkn, En_idx sh hi hj]
    simp only [bs]
    rw [sh.idx hj]
    simp only [bs]
    rw [En_idx sh hj hkn]
    simp only [bs]
    have hx := h.col i hi
    have hy := h.row k hkn
    have ho := h.un i k hi hkn (.inr ⟨rfl, Nat.le_refl _⟩)
    have hp : impl_product_m (En d i j) (En d j k) = some (plus (En d i j) (En d j k)) := by
      refine product_eq ?_ ?_
      · rcases hx with a | a <;> rcases hy with b | b <;> omega
      · rcases hx with a | a <;> rcases hy with b | b <;> omega
    rw [hp]
    simp only [bs]
    rw [upd_nat (by omega)]
    simp only [bs, Int.toNat_natCast]
    have hpw := wi_plus hx hy
    have hconv : conv (min (En d i k) (plus (En d i j) (En d j k))) = pmin (conv (En d i k)) (padd (conv (En d i j)) (conv (En d j k))) := by
      rw [conv_min ho hpw (by omega) (by omega), conv_plus hx hy (by omega) (by omega) (by omega)]
    generalize hv : min (En d i k) (plus (En d i j) (En d j k)) = v at hconv
    -- what the new number is
    have new : v = En d i k ∨ ((En d i j ≠ 1000000000 ∧ En d j k ≠ 1000000000) ∧ v = En d i j + En d j k) := by
      unfold plus at hv
      by_cases e : En d i j = 1000000000 ∨ En d j k = 1000000000
      · rw [if_pos e] at hv
        left
        rcases ho with a | a <;> omega
      · rw [if_neg e] at hv
        by_cases e2 : v = En d i k
        · exact .inl e2
        · exact .inr ⟨by omega, by omega⟩
    have newle : v ≤ En d i k := by rw [← hv]; omega
    have hb : Bd n j L U i (k + 1) (d.set i ((nthM d i).set k v)) := by
      refine ⟨sh.set i (by simpa using r1), fun a b ha hb => ?_, fun b hb => ?_, fun a ha => ?_, ?_, fun a b ha hb hab => ?_⟩
      · rw [En_set sh hi hkn]
        split
        · rcases new with e | ⟨⟨e1, e2⟩, e⟩
          · rw [e]; exact h.val i k hi hkn
          · rcases hx with z | z
            · exact absurd z e1
            · rcases hy with z' | z'
              · exact absurd z' e2
              · exact .inr ⟨by omega, by omega⟩
        · exact h.val a b ha hb
      · rw [En_set sh hi hkn]
        split
        · rename_i hh
          obtain ⟨h1, h2⟩ := hh
          subst h1
          rcases new with e | ⟨⟨e1, e2⟩, e⟩
          · rw [e]; exact ho.mono (by omega) (by omega)
          · have := h.jj
            rcases this with z | z
            · exact absurd z e1
            · rcases ho with z' | z'
              · exact absurd z' e2
              · exact .inr ⟨by omega, by omega⟩
        · exact h.row b hb
      · rw [En_set sh hi hkn]
        split
        · rename_i hh
          obtain ⟨h1, h2⟩ := hh
          subst h2
          rcases new with e | ⟨⟨e1, e2⟩, e⟩
          · rw [e]; exact ho.mono (by omega) (by omega)
          · have := h.jj
            rcases this with z | z
            · exact absurd z e2
            · rcases ho with z' | z'
              · exact absurd z' e1
              · exact .inr ⟨by omega, by omega⟩
        · exact h.col a ha
      · rw [En_set sh hi hkn]
        split
        · rename_i hh
          obtain ⟨h1, h2⟩ := hh
          subst h1; subst h2
          rcases new with e | ⟨⟨e1, e2⟩, e⟩
          · rw [e]; exact ho.mono (by omega) (by omega)
          · rcases ho with z' | z'
            · exact absurd z' e1
            · exact .inr ⟨by omega, by omega⟩
        · exact h.jj
      · rw [En_set sh hi hkn, if_neg (by omega)]
        exact h.un a b ha hb (by omega)
    obtain ⟨d', g1, g2, g3⟩ := ih (k + 1) _ (by omega) hb
    refine ⟨d', g1, g2, ?_⟩
    rw [g3, A_set sh hi hkn, hconv, List.length_cons]
    rw [rowF, A_in hi hkn, A_in hi hj, A_in hj hkn]
theorem fw_l3 {n j : Nat} {L U : Int} (hL : 0 ≤ L) (hL2 : L ≤ 1000000000000) (hU : 0 ≤ U) (hU2 : 2 * U < 1000000000) (hj : j < n) (p : List (List Int)) (hp : p.length = n) (q : List (List Int)) : ∀ i d, i + q.length = n → Bd n j L U i 0 d →
    ∃ d', impl_wayCosts_l3 p j q i d = some d' ∧ Bd n j L U n 0 d' ∧ A n d' = stageF n j q.length i (A n d) := by
  induction q with
  | nil => intro i d hi h; simp only [List.length_nil, Nat.add_zero] at hi; subst hi; exact ⟨d, rfl, h, rfl⟩
  | cons x q ih =>
    intro i d hi h
    simp only [List.length_cons] at hi
    obtain ⟨d1, g1, g2, g3⟩ := fw_l4 hL hL2 hU hU2 hj (show i < n by omega) p 0 d (by omega) h
    rw [impl_wayCosts_l3, g1]
    simp only [bs]
    obtain ⟨d', k1, k2, k3⟩ := ih (i + 1) d1 (by omega) g2.next
    exact ⟨d', k1, k2, by rw [k3, g3, hp]; rfl⟩
def Lb : Nat → Int
  | 0 => 2000000
  | j + 1 => 6 * Lb j
def Ub : Nat → Int
  | 0 => 2000000
  | j + 1 => 2 * Ub j
theorem lub : ∀ j, j < 7 → 0 ≤ Lb j ∧ Lb j ≤ 1000000000000 ∧ 0 ≤ Ub j ∧ Ub j ≤ 128000000 := by decide
theorem fw_l2 {n : Nat} (hn : n ≤ 6) (p : List (List Int)) (hp : p.length = n) (q : List (List Int)) : ∀ j d, j + q.length = n → Shape d n n → (∀ a b, a < n → b < n → wi (-Lb j) (Ub j) (En d a b)) →
    ∃ d', impl_wayCosts_l2 p q j d = some d' ∧ Shape d' n n ∧ (∀ a b, a < n → b < n → wi (-Lb 6) (Ub 6) (En d' a b)) ∧ A n d' = fwF n q.length j (A n d) := by
  induction q with
  | nil =>
    intro j d hj sh hb
    simp only [List.length_nil, Nat.add_zero] at hj
    refine ⟨d, rfl, sh, fun a b ha hb' => (hb a b ha hb').mono ?_ ?_, rfl⟩
    · have : ∀ j, j < 7 → Lb j ≤ Lb 6 := by decide
      have := this j (by omega); omega
    · have : ∀ j, j < 7 → Ub j ≤ Ub 6 := by decide
      exact this j (by omega)
  | cons x q ih =>
    intro j d hj sh hb
    simp only [List.length_cons] at hj
    have hlu := lub j (by omega)
    have hjn : j < n := by omega
    have h0 : Bd n j (Lb j) (Ub j) 0 0 d := ⟨sh, fun a b ha hb' => (hb a b ha hb').mono (by omega) (by omega), fun b hb' => (hb j b hjn hb').mono (by omega) (by omega), fun a ha => (hb a j ha hjn).mono (by omega) (by omega), (hb j j hjn hjn).mono (by omega) (by omega), fun a b ha hb' _ => hb a b ha hb'⟩
    obtain ⟨d1, g1, g2, g3⟩ := fw_l3 hlu.1 hlu.2.1 hlu.2.2.1 (by omega) hjn p hp p 0 d (by omega) h0
    rw [impl_wayCosts_l2, g1]
    simp only [bs]
    obtain ⟨d', k1, k2, k3, k4⟩ := ih (j + 1) d1 (by omega) g2.sh (fun a b ha hb' => (g2.val a b ha hb').mono (by show -(6 * Lb j) ≤ -6 * Lb j; omega) (by show 2 * Ub j ≤ 2 * Ub j; omega))
    exact ⟨d', k1, k2, k3, by rw [k4, g3, hp]; rfl⟩

theorem fw_l1 {n : Nat} (q : List (List Int)) : ∀ j d, j + q.length = n → Shape d n n →
    ∃ d', impl_wayCosts_l1 q j d = some d' ∧ Shape d' n n ∧ ∀ a b, a < n → b < n → En d' a b = if a = b ∧ j ≤ a then min (En d a b) 0 else En d a b := by
  induction q with
  | nil =>
    intro j d hj sh
    simp only [List.length_nil, Nat.add_zero] at hj
    exact ⟨d, rfl, sh, fun a b ha hb => by rw [if_neg (by omega)]⟩
  | cons x q ih =>
    intro j d hj sh
    simp only [List.length_cons] at hj
    have hjn : j < n := by omega
    have r1 := sh.nth_len hjn
    rw [impl_wayCosts_l1, sh.idx hjn]
    simp only [bs]
    rw [En_idx sh hjn hjn]
    simp only [bs]
    rw [upd_nat (by omega)]
    simp only [bs, Int.toNat_natCast]
    obtain ⟨d', g1, g2, g3⟩ := ih (j + 1) (d.set j ((nthM d j).set j (min (En d j j) 0))) (by omega) (sh.set j (by simpa using r1))
    refine ⟨d', g1, g2, fun a b ha hb => ?_⟩
    rw [g3 a b ha hb, En_set sh hjn hjn]
    by_cases e : a = j
    · subst e
      by_cases e2 : b = a
      · subst e2; rw [if_neg (by omega), if_pos ⟨rfl, rfl⟩, if_pos ⟨rfl, Nat.le_refl _⟩]
      · rw [if_neg (by omega), if_neg (by omega), if_neg (by omega)]
    · by_cases e2 : a = b ∧ j + 1 ≤ a
      · rw [if_pos e2, if_neg (by omega), if_pos ⟨e2.1, by omega⟩]
      · rw [if_neg e2, if_neg (by omega), if_neg (by omega)]
theorem fw_l5 {n : Nat} {d : List (List Int)} (sh : Shape d n n) (q : List (List Int)) : ∀ j, j + q.length = n →
    ((∀ i, j ≤ i → i < n → 0 ≤ En d i i) ∧ impl_wayCosts_l5 d q j = some (Sum.inr ())) ∨ ((∃ i, j ≤ i ∧ i < n ∧ En d i i < 0) ∧ impl_wayCosts_l5 d q j = some (Sum.inl ([], false))) := by
  induction q with
  | nil =>
    intro j hj
    simp only [List.length_nil, Nat.add_zero] at hj
    exact .inl ⟨fun i h1 h2 => by omega, rfl⟩
  | cons x q ih =>
    intro j hj
    simp only [List.length_cons] at hj
    have hjn : j < n := by omega
    rw [impl_wayCosts_l5, sh.idx hjn]
    simp only [bs]
    rw [En_idx sh hjn hjn]
    simp only [bs]
    by_cases e : En d j j < 0
    · rw [decide_eq_true e]; exact .inr ⟨⟨j, Nat.le_refl _, hjn, e⟩, rfl⟩
    · rw [decide_eq_false e]
      rcases ih (j + 1) (by omega) with ⟨h1, h2⟩ | ⟨⟨i, h1, h2, h3⟩, h4⟩
      · exact .inl ⟨fun i hi hin => by
          by_cases e2 : i = j
          · subst e2; omega
          · exact h1 i (by omega) hin, h2⟩
      · exact .inr ⟨⟨i, by omega, h2, h3⟩, h4⟩
/-- What the loops leave: the matrix d, closed or with a number below 0 on its diagonal. -/
theorem wayCosts_gen {m : List (List Int)} {n : Nat} (sh : Shape m n n) (hn : n ≤ 6) (hnum : ∀ a b, a < n → b < n → wi (-2000000) 2000000 (En m a b)) : ∃ d, Shape d n n ∧ (∀ a b, a < n → b < n → wi (-Lb 6) (Ub 6) (En d a b)) ∧
    (∃ d0, A n d = fwF n n 0 d0 ∧ Init n (A n m) d0 ∧ (∃ T, ∀ a b, ple (cs n (A n m) T a b) (d0 a b))) ∧
    (((∀ i, i < n → 0 ≤ En d i i) ∧ impl_wayCosts_m m = some (d, true)) ∨ ((∃ i, i < n ∧ En d i i < 0) ∧ impl_wayCosts_m m = some ([], false))) := by
  have hnn := sh.len
  obtain ⟨d1, a1, a2, a3⟩ := fw_l1 m 0 m (by omega) sh
  have hw1 : ∀ a b, a < n → b < n → wi (-Lb 0) (Ub 0) (En d1 a b) := fun a b ha hb => by
    have := hnum a b ha hb
    rw [a3 a b ha hb]
    split
    · rcases this with h | h
      · right; rw [h]; show -(2000000 : Int) ≤ _ ∧ _ ≤ (2000000 : Int); omega
      · right; show -(2000000 : Int) ≤ _ ∧ _ ≤ (2000000 : Int); omega
    · exact this
  obtain ⟨d, b1, b2, b3, b4⟩ := fw_l2 hn m hnn m 0 d1 (by omega) a2 hw1
  refine ⟨d, b2, b3, ⟨A n d1, by rw [b4, hnn], ⟨fun i k hi hk e => ?_, fun i hi => ?_⟩, 1, fun a b => ?_⟩, ?_⟩
  · rw [A_in hi hk, A_in hi hk, a3 i k hi hk, if_neg (by omega)]
  · rw [A_in hi hi, A_in hi hi, a3 i i hi hi, if_pos ⟨rfl, by omega⟩]
    rw [conv_min (hnum i i hi hi) (show wi 0 0 0 from .inr ⟨by omega, by omega⟩) (by omega) (by omega)]
    rfl
  · by_cases hab : a < n ∧ b < n
    · obtain ⟨ha, hb⟩ := hab
      rw [A_in ha hb, a3 a b ha hb]
      have h1 : ple (cs n (A n m) 1 a b) (conv (En m a b)) := by
        have := cs_st (n := n) (m := A n m) 0 a b a ha
        have e : cs n (A n m) 0 a a = some 0 := by simp [cs, startF]
        rw [e, zero_padd, A_in ha hb] at this
        exact this
      by_cases e : a = b
      · subst e
        rw [if_pos ⟨rfl, by omega⟩, conv_min (hnum a a ha ha) (show wi 0 0 0 from .inr ⟨by omega, by omega⟩) (by omega) (by omega)]
        exact le_pmin h1 (cs_diag 1 a)
      · rw [if_neg (by omega)]; exact h1
    · have : A n d1 a b = none := if_neg hab
      rw [this]; exact ple_none _
  · unfold impl_wayCosts_m
    rw [clones_eq (sh.small hn hn)]
    simp only [bs]
    rw [a1]
    simp only [bs]
    rw [b1]
    simp only [bs]
    rcases fw_l5 b2 m 0 (by omega) with ⟨h1, h2⟩ | ⟨⟨i, h1, h2, h3⟩, h4⟩
    · rw [h2]; exact .inl ⟨fun i hi => h1 i (by omega) hi, rfl⟩
    · rw [h4]; exact .inr ⟨⟨i, h2, h3⟩, rfl⟩
theorem wayCosts_eq {m : List (List Int)} (g : Good m m.length) : ∃ d, Shape d m.length m.length ∧ (∀ a b, a < m.length → b < m.length → wi (-Lb 6) (Ub 6) (En d a b)) ∧
    (∃ d0, A m.length d = fwF m.length m.length 0 d0 ∧ Init m.length (A m.length m) d0 ∧ (∃ T, ∀ a b, ple (cs m.length (A m.length m) T a b) (d0 a b))) ∧
    (((∀ i, i < m.length → 0 ≤ En d i i) ∧ impl_wayCosts_m m = some (d, true)) ∨ ((∃ i, i < m.length ∧ En d i i < 0) ∧ impl_wayCosts_m m = some ([], false))) :=
  wayCosts_gen g.shape g.hi (fun a b ha hb => (num_wi (En_num g ha hb)).mono (by omega) (by omega))

/-! ### Bellman and Ford -/
def fI (f : Nat → Int) : Nat → Nat → Int → Int
  | 0, _, a => a
  | q + 1, j, a => fI f q (j + 1) (min a (f j))
theorem fI_wi {f : Nat → Int} {lo hi : Int} : ∀ q j a, (∀ i, j ≤ i → i < j + q → wi lo hi (f i)) → wi lo hi a → wi lo hi (fI f q j a)
  | 0, _, _, _, h => h
  | q + 1, j, a, hf, h => fI_wi q (j + 1) _ (fun i h1 h2 => hf i (by omega) (by omega)) (by
    have := hf j (Nat.le_refl _) (by omega)
    rcases this with e | e <;> rcases h with e' | e'
    · left; omega
    · by_cases hc : a ≤ f j
      · rw [Int.min_eq_left hc]; exact .inr e'
      · rw [Int.min_eq_right (by omega)]; exact .inl e
    · by_cases hc : a ≤ f j
      · rw [Int.min_eq_left hc]; exact .inl e'
      · rw [Int.min_eq_right (by omega)]; exact .inr e
    · right; omega)
theorem fI_conv {f : Nat → Int} {lo hi : Int} (hhi : hi < 1000000000) : ∀ q j a, (∀ i, j ≤ i → i < j + q → wi lo hi (f i)) → wi lo hi a → conv (fI f q j a) = inf (fun i => conv (f i)) (List.range' j q) (conv a)
  | 0, _, _, _, _ => rfl
  | q + 1, j, a, hf, h => by
    have h1 := hf j (Nat.le_refl _) (by omega)
    have h2 := fI_wi 1 j a (fun i h1 h2 => hf i h1 (by omega)) h
    rw [List.range'_succ, inf, ← conv_min h h1 hhi hhi]
    exact fI_conv hhi q (j + 1) _ (fun i h1 h2 => hf i (by omega) (by omega)) h2
section
variable {m c : List (List Int)} {n : Nat} {B D : Int} (hm : Shape m n n) (hc : Shape c n n) (hmw : ∀ a b, a < n → b < n → wi (-D) D (En m a b)) (hcw : ∀ a b, a < n → b < n → wi (-B) B (En c a b)) (hB : 0 ≤ B) (hB2 : B ≤ 100000000) (hD : 0 ≤ D) (hD2 : D ≤ 10000000)
include hm hc hmw hcw hB hB2 hD hD2
theorem st_l3 {i j : Nat} (hi : i < n) (hj : j < n) (q : List (List Int)) : ∀ k out, k + q.length = n → Shape out n n →
    ∃ out', spec_wyStep_l3 c i j (nthM m j) q k out = some out' ∧ Shape out' n n ∧ ∀ a b, a < n → b < n → En out' a b = if a = i ∧ k ≤ b then min (En out a b) (plus (En c i j) (En m j b)) else En out a b := by
  induction q with
  | nil =>
    intro k out hk sh
    simp only [List.length_nil, Nat.add_zero] at hk
    exact ⟨out, rfl, sh, fun a b ha hb => by rw [if_neg (by omega)]⟩
  | cons x q ih =>
    intro k out hk sh
    simp only [List.length_cons] at hk
    have hkn : k < n := by omega
    have r1 := sh.nth_len hi
    rw [spec_wyStep_l3, sh.idx hi]
    simp only [bs]
    rw [En_idx sh hi hkn, hc.idx hi]
    simp only [bs]
    rw [En_idx hc hi hj, En_idx hm hj hkn]
    simp only [bs]
    have hp : spec_nuPlus_m (En c i j) (En m j k) = some (plus (En c i j) (En m j k)) := by
      have h1 := hcw i j hi hj
      have h2 := hmw j k hj hkn
      refine nuPlus_eq ?_ ?_
      · rcases h1 with a | a <;> rcases h2 with b | b <;> omega
      · rcases h1 with a | a <;> rcases h2 with b | b <;> omega
    rw [hp]
    simp only [bs, l1Least_eq]
    rw [upd_nat (by omega)]
    simp only [bs, Int.toNat_natCast]
    obtain ⟨out', g1, g2, g3⟩ := ih (k + 1) _ (by omega) (sh.set i (show ((nthM out i).set k (min (En out i k) (plus (En c i j) (En m j k)))).length = n by simpa using r1))
    refine ⟨out', g1, g2, fun a b ha hb => ?_⟩
    rw [g3 a b ha hb, En_set sh hi hkn]
    by_cases e : a = i
    · subst e
      by_cases e2 : b = k
      · subst e2; rw [if_neg (by omega), if_pos ⟨rfl, rfl⟩, if_pos ⟨rfl, Nat.le_refl _⟩]
      · by_cases e3 : k + 1 ≤ b
        · rw [if_pos ⟨rfl, e3⟩, if_neg (by omega), if_pos ⟨rfl, by omega⟩]
        · rw [if_neg (by omega), if_neg (by omega), if_neg (by omega)]
    · rw [if_neg (by omega), if_neg (by omega), if_neg (by omega)]
theorem st_l2 {i : Nat} (hi : i < n) (q : List (List Int)) : ∀ j out, q = m.drop j → j + q.length = n → Shape out n n →
    ∃ out', spec_wyStep_l2 m c i q j out = some out' ∧ Shape out' n n ∧ ∀ a b, a < n → b < n → En out' a b = if a = i then fI (fun j => plus (En c i j) (En m j b)) q.length j (En out a b) else En out a b := by
  have hml := hm.len
  induction q with
  | nil => intro j out _ _ sh; exact ⟨out, rfl, sh, fun a b ha hb => by split <;> rfl⟩
  | cons x q ih =>
    intro j out hq hj sh
    simp only [List.length_cons] at hj
    have hjn : j < n := by omega
    have hx : x = nthM m j := by
      rw [drop_cons (show j < m.length by omega)] at hq
      simp only [List.cons.injEq] at hq
      simp [nthM, hq.1, show j < m.length by omega]
    have hq' : q = m.drop (j + 1) := by
      rw [drop_cons (show j < m.length by omega)] at hq
      simp only [List.cons.injEq] at hq
      exact hq.2
    subst hx
    obtain ⟨o1, g1, g2, g3⟩ := st_l3 hm hc hmw hcw hB hB2 hD hD2 hi hjn m 0 out (by omega) sh
    rw [spec_wyStep_l2, g1]
    simp only [bs]
    obtain ⟨out', k1, k2, k3⟩ := ih (j + 1) o1 hq' (by omega) g2
    refine ⟨out', k1, k2, fun a b ha hb => ?_⟩
    rw [k3 a b ha hb]
    by_cases e : a = i
    · subst e
      rw [if_pos rfl, if_pos rfl, g3 a b ha hb, if_pos ⟨rfl, by omega⟩]
      rfl
    · rw [if_neg e, if_neg e, g3 a b ha hb, if_neg (by omega)]
theorem st_l1 (q : List (List Int)) : ∀ i out, i + q.length = n → Shape out n n →
    ∃ out', spec_wyStep_l1 m c q i out = some out' ∧ Shape out' n n ∧ ∀ a b, a < n → b < n → En out' a b = if i ≤ a then fI (fun j => plus (En c a j) (En m j b)) n 0 (En out a b) else En out a b := by
  have hml := hm.len
  induction q with
  | nil =>
    intro i out hi sh
    simp only [List.length_nil, Nat.add_zero] at hi
    exact ⟨out, rfl, sh, fun a b ha hb => by rw [if_neg (by omega)]⟩
  | cons x q ih =>
    intro i out hi sh
    simp only [List.length_cons] at hi
    have hin : i < n := by omega
    obtain ⟨o1, g1, g2, g3⟩ := st_l2 hm hc hmw hcw hB hB2 hD hD2 hin m 0 out rfl (by omega) sh
    rw [spec_wyStep_l1, g1]
    simp only [bs]
    obtain ⟨out', k1, k2, k3⟩ := ih (i + 1) o1 (by omega) g2
    refine ⟨out', k1, k2, fun a b ha hb => ?_⟩
    rw [k3 a b ha hb, g3 a b ha hb]
    by_cases e : a = i
    · subst e; rw [if_neg (by omega), if_pos rfl, if_pos (Nat.le_refl _), hml]
    · by_cases e2 : i + 1 ≤ a
      · rw [if_pos e2, if_neg e, if_pos (by omega)]
      · rw [if_neg e2, if_neg e, if_neg (by omega)]
theorem wyStep_eq (hn : n ≤ 6) : ∃ c', spec_wyStep_m m c = some c' ∧ Shape c' n n ∧ (∀ a b, a < n → b < n → A n c' a b = stepF n (A n m) (A n c) a b) ∧ ∀ a b, a < n → b < n → wi (-(B + D)) (B + D) (En c' a b) := by
  have hml := hm.len
  obtain ⟨c', g1, g2, g3⟩ := st_l1 hm hc hmw hcw hB hB2 hD hD2 m 0 c (by omega) hc
  have hw : ∀ a b, a < n → b < n → ∀ j, 0 ≤ j → j < 0 + n → wi (-(B + D)) (B + D) (plus (En c a j) (En m j b)) := fun a b ha hb j _ hj =>
    (wi_plus (hcw a j ha (by omega)) (hmw j b (by omega) hb)).mono (by omega) (by omega)
  refine ⟨c', ?_, g2, fun a b ha hb => ?_, fun a b ha hb => ?_⟩
  · unfold spec_wyStep_m
    rw [mxOwn_eq (hc.small hn hn)]
    simp only [bs]
    rw [g1]
    rfl
  · rw [A_in ha hb, g3 a b ha hb, if_pos (by omega), fI_conv (by omega) n 0 _ (hw a b ha hb) ((hcw a b ha hb).mono (by omega) (by omega))]
    unfold stepF
    rw [A_in ha hb, List.range_eq_range']
    have : ∀ (l : List Nat) (z : Ex), (∀ j ∈ l, j < n) → inf (fun i => conv (plus (En c a i) (En m i b))) l z = inf (fun j => padd (A n c a j) (A n m j b)) l z := by
      intro l
      induction l with
      | nil => intro z _; rfl
      | cons j l ih =>
        intro z hl
        have hj := hl j List.mem_cons_self
        rw [inf, inf, conv_plus (hcw a j ha hj) (hmw j b hj hb) (by omega) (by omega) (by omega), A_in ha hj, A_in hj hb]
        exact ih _ (fun x hx => hl x (List.mem_cons_of_mem _ hx))
    exact this _ _ (fun j hj => by have := List.mem_range'_1.1 hj; omega)
  · rw [g3 a b ha hb, if_pos (by omega)]
    exact fI_wi n 0 _ (hw a b ha hb) ((hcw a b ha hb).mono (by omega) (by omega))
end
end Go.Proofs.Ytjhaealoneennaa
