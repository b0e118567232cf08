/- Plain laws: the laws' own helpers on slices of structs. -/
import Derived.Test.YtaagklbiebogfaaLryM
import Derived.Test.YtaagklbiebogfaaPNum
namespace Go.Proofs.Ytaagklbiebogfaa
set_option linter.unusedVariables false
set_option linter.unusedSimpArgs false

def InY (l : List Y3) : Prop := l.length ≤ 9223372036854775807
structure InYY (m : List (List Y3)) : Prop where
  row : ∀ l ∈ m, l.length ≤ 9223372036854775807
  len : m.length ≤ 9223372036854775807
def SmallY (m : List (List Y3)) : Prop := Small m ∧ ∀ l ∈ m, Small l
theorem eqRay_eq (x y : Y3) : laws_eqRay_m x.1 x.2.1 x.2.2 y.1 y.2.1 y.2.2 = some (decide (x = y)) := by
  obtain ⟨a, b, c⟩ := x
  obtain ⟨d, e, f⟩ := y
  unfold laws_eqRay_m
  by_cases h1 : a = d
  · rw [show (a != d) = false by simp [h1]]
    by_cases h2 : b = e
    · rw [show (b != e) = false by simp [h2]]
      by_cases h3 : c = f
      · rw [show (c != f) = false by simp [h3]]; simp [h1, h2, h3]
      · rw [show (c != f) = true by simp [h3]]; simp [h3]
    · rw [show (b != e) = true by simp [h2]]; simp [h2]
  · rw [show (a != d) = true by simp [h1]]; simp [h1]
theorem eqRayS_l1_eq (a b : List Y3) (hl : a.length = b.length) (hs : a.length < 4611686018427387904) : ∀ (k i : Nat), i ≤ a.length → a.length - i < k → laws_eqRayS_l1 a b k (i : Int) = some (if a.drop i = b.drop i then Sum.inr () else Sum.inl false) := by
  intro k
  induction k with
  | zero => intro i _ h; omega
  | succ k ih =>
    intro i hi hk
    rw [laws_eqRayS_l1, cond_ite]
    by_cases h : i < a.length
    · have h' : i < b.length := by omega
      rw [if_pos (by simp; omega), idx_lt h, idx_lt h']
      simp only [bs, drop_cons h, drop_cons h', List.cons.injEq]
      rw [eqRay_eq, ck_nat (by omega)]
      simp only [bs]
      rw [cond_ite]
      by_cases e : a[i] = b[i]
      · rw [if_neg (by simp [e]), ih (i + 1) (by omega) (by omega)]
        simp [e]
      · rw [if_pos (by simp [e])]
        simp [e]
    · rw [if_neg (by simp; omega), List.drop_eq_nil_of_le (by omega), List.drop_eq_nil_of_le (by omega)]
      simp
theorem eqRayS_eq (a b : List Y3) (hs : Small a) : laws_eqRayS_m a b = some (decide (a = b)) := by
  unfold Small at hs
  unfold laws_eqRayS_m
  rw [cond_ite]
  by_cases hl : a.length = b.length
  · rw [if_neg (by simp [hl])]
    have := eqRayS_l1_eq a b hl (by omega) 4000000 0 (by omega) (by omega)
    rw [show (0 : Int) = ((0 : Nat) : Int) from rfl]
    rw [this]
    by_cases e : a = b <;> simp [e]
  · rw [if_pos (by simp; omega)]
    have : a ≠ b := fun e => hl (by rw [e])
    simp [this]
theorem eqRaySS_l1_eq (a b : List (List Y3)) (hl : a.length = b.length) (hs : a.length < 4611686018427387904) (hr : ∀ l ∈ a, Small l) : ∀ (k i : Nat), i ≤ a.length → a.length - i < k → laws_eqRaySS_l1 a b k (i : Int) = some (if a.drop i = b.drop i then Sum.inr () else Sum.inl false) := by
  intro k
  induction k with
  | zero => intro i _ h; omega
  | succ k ih =>
    intro i hi hk
    rw [laws_eqRaySS_l1, cond_ite]
    by_cases h : i < a.length
    · have h' : i < b.length := by omega
      rw [if_pos (by simp; omega), idx_lt h, idx_lt h']
      simp only [bs, drop_cons h, drop_cons h', List.cons.injEq]
      rw [eqRayS_eq _ _ (hr _ (List.getElem_mem h)), ck_nat (by omega)]
      simp only [bs]
      rw [cond_ite]
      by_cases e : a[i] = b[i]
      · rw [if_neg (by simp [e]), ih (i + 1) (by omega) (by omega)]
        simp [e]
      · rw [if_pos (by simp [e])]
        simp [e]
    · rw [if_neg (by simp; omega), List.drop_eq_nil_of_le (by omega), List.drop_eq_nil_of_le (by omega)]
      simp
theorem eqRaySS_eq (a b : List (List Y3)) (hs : SmallY a) : laws_eqRaySS_m a b = some (decide (a = b)) := by
  obtain ⟨hs, hr⟩ := hs
  unfold Small at hs
  unfold laws_eqRaySS_m
  rw [cond_ite]
  by_cases hl : a.length = b.length
  · rw [if_neg (by simp [hl])]
    have := eqRaySS_l1_eq a b hl (by omega) hr 4000000 0 (by omega) (by omega)
    rw [show (0 : Int) = ((0 : Nat) : Int) from rfl]
    rw [this]
    by_cases e : a = b <;> simp [e]
  · rw [if_pos (by simp; omega)]
    have : a ≠ b := fun e => hl (by rw [e])
    simp [this]
theorem szRayS_eq (l : List Y3) (n : Int) (h0 : n ≤ 1048576) (h1 : 0 ≤ n) (hl : l.length ≤ 9223372036854775807) : laws_szRayS_m l n = some (if n < l.length then -1 else n - l.length) := by
  unfold laws_szRayS_m
  rw [ck_in (by omega) (by omega)]
  simp only [bs]
  rw [cond_ite]
  by_cases h : n < l.length
  · rw [if_pos (by simp; omega), if_pos h]
  · rw [if_neg (by simp; omega), if_neg h]
theorem szRaySS_l1_eq (m : List (List Y3)) (hm : m.length < 4611686018427387904) (hl : ∀ l ∈ m, l.length ≤ 9223372036854775807) : ∀ (k i : Nat) (n : Int), 0 ≤ n → n ≤ 1048576 → i ≤ m.length → m.length - i < k →
    (laws_szRaySS_l1 m k n (i : Int) = some (Sum.inl (-1))) ∨ (∃ n', 0 ≤ n' ∧ n' ≤ 1048576 ∧ laws_szRaySS_l1 m k n (i : Int) = some (Sum.inr n') ∧ ∀ l ∈ m.drop i, Small l) := by
  intro k
  induction k with
  | zero => intro i n _ _ _ h; omega
  | succ k ih =>
    intro i n hn0 hn hi hk
    rw [laws_szRaySS_l1, cond_ite]
    by_cases h : i < m.length
    · rw [if_pos (by simp; omega), idx_lt h]
      simp only [bs]
      rw [szRayS_eq _ _ hn hn0 (hl _ (List.getElem_mem h))]
      simp only [bs]
      rw [cond_ite, ck_nat (by omega)]
      by_cases hb : n < m[i].length
      · rw [if_pos hb, if_pos (by decide)]
        exact .inl rfl
      · rw [if_neg hb, if_neg (by simp; omega)]
        simp only [bs]
        rcases ih (i + 1) (n - m[i].length) (by omega) (by omega) (by omega) (by omega) with h1 | ⟨n', h1, h2, h3, h4⟩
        · exact .inl h1
        · refine .inr ⟨n', h1, h2, h3, ?_⟩
          rw [drop_cons h]
          intro l hl'
          cases List.mem_cons.1 hl' with
          | inl e => rw [e]; unfold Small; omega
          | inr e => exact h4 l e
    · rw [if_neg (by simp; omega), List.drop_eq_nil_of_le (by omega)]
      exact .inr ⟨n, hn0, hn, rfl, fun l hl' => by cases hl'⟩
theorem szRaySS_eq (m : List (List Y3)) (left : Int) (h0 : 0 ≤ left) (h1 : left ≤ 1048576) (hm : m.length ≤ 9223372036854775807) (hl : ∀ l ∈ m, l.length ≤ 9223372036854775807) :
    (laws_szRaySS_m m left = some (-1)) ∨ (∃ n', 0 ≤ n' ∧ n' ≤ 1048576 ∧ laws_szRaySS_m m left = some n' ∧ SmallY m) := by
  unfold laws_szRaySS_m
  rw [ck_in (by omega) (by omega)]
  simp only [bs]
  rw [cond_ite]
  by_cases h : left - m.length < 0
  · rw [if_pos (by simp; omega)]; exact .inl rfl
  · rw [if_neg (by simp; omega)]
    have := szRaySS_l1_eq m (by omega) hl 4000000 0 (left - m.length) (by omega) (by omega) (by omega) (by omega)
    rw [show (0 : Int) = ((0 : Nat) : Int) from rfl]
    rcases this with h2 | ⟨n', h2, h3, h4, h5⟩
    · rw [h2]; exact .inl rfl
    · rw [h4]
      exact .inr ⟨n', by omega, h3, rfl, by unfold Small; omega, fun l hl' => h5 l (by simpa using hl')⟩
theorem szRayS_big (l : List Y3) (left : Int) (h0 : 0 ≤ left) (h1 : left ≤ 1048576) (hl : l.length ≤ 9223372036854775807) :
    (laws_szRayS_m l left = some (-1)) ∨ (∃ n', 0 ≤ n' ∧ n' ≤ 1048576 ∧ laws_szRayS_m l left = some n' ∧ Small l) := by
  rw [szRayS_eq l left h1 h0 hl]
  by_cases h : left < l.length
  · rw [if_pos h]; exact .inl rfl
  · rw [if_neg h]; exact .inr ⟨_, by omega, by omega, rfl, by unfold Small; omega⟩
theorem toRayS_l1_eq (p : List Y3) (hs : p.length < 4611686018427387904) : ∀ (k i : Nat) (l : List Y3), l.length = p.length → i ≤ p.length → p.length - i < k → l.take i = p.take i → laws_toRayS_l1 p k l (i : Int) = some p := by
  intro k
  induction k with
  | zero => intro i l _ _ h; omega
  | succ k ih =>
    intro i l hl hi hk ht
    rw [laws_toRayS_l1, cond_ite]
    by_cases h : i < p.length
    · have h' : i < l.length := by omega
      rw [if_pos (by simp; omega), idx_lt h, idx_lt h']
      simp only [bs, laws_toRay_m]
      rw [upd_nat h', ck_nat (by omega)]
      simp only [bs]
      refine ih (i + 1) _ (by simpa using hl) (by omega) (by omega) ?_
      rw [take_set _ h', ht, List.take_succ_eq_append_getElem h]
    · rw [if_neg (by simp; omega)]
      rw [List.take_of_length_le (by omega), List.take_of_length_le (by omega)] at ht
      rw [ht]
theorem toRayS_eq (l : List Y3) (hs : Small l) : laws_toRayS_m l = some l := by
  unfold Small at hs
  unfold laws_toRayS_m
  rw [guardO_t (by simp; omega)]
  simp only [bs]
  have := toRayS_l1_eq l (by omega) 4000000 0 (List.replicate l.length (0, 0, 0)) (by simp) (by omega) (by omega) (by simp)
  rw [Int.natCast_zero] at this
  rw [Int.toNat_natCast, this]
  rfl
theorem toRaySS_l1_eq (p : List (List Y3)) (hs : p.length < 4611686018427387904) (hr : ∀ l ∈ p, Small l) : ∀ (k i : Nat) (l : List (List Y3)), l.length = p.length → i ≤ p.length → p.length - i < k → l.take i = p.take i → laws_toRaySS_l1 p k l (i : Int) = some p := by
  intro k
  induction k with
  | zero => intro i l _ _ h; omega
  | succ k ih =>
    intro i l hl hi hk ht
    rw [laws_toRaySS_l1, cond_ite]
    by_cases h : i < p.length
    · have h' : i < l.length := by omega
      rw [if_pos (by simp; omega), idx_lt h, idx_lt h']
      simp only [bs]
      rw [toRayS_eq _ (hr _ (List.getElem_mem h))]
      simp only [bs]
      rw [upd_nat h', ck_nat (by omega)]
      simp only [bs]
      refine ih (i + 1) _ (by simpa using hl) (by omega) (by omega) ?_
      rw [take_set _ h', ht, List.take_succ_eq_append_getElem h]
    · rw [if_neg (by simp; omega)]
      rw [List.take_of_length_le (by omega), List.take_of_length_le (by omega)] at ht
      rw [ht]
theorem toRaySS_eq (m : List (List Y3)) (hs : SmallY m) : laws_toRaySS_m m = some m := by
  obtain ⟨hs, hr⟩ := hs
  unfold Small at hs
  unfold laws_toRaySS_m
  rw [guardO_t (by simp; omega)]
  simp only [bs]
  have := toRaySS_l1_eq m (by omega) hr 4000000 0 (List.replicate m.length []) (by simp) (by omega) (by omega) (by simp)
  rw [Int.natCast_zero] at this
  rw [Int.toNat_natCast, this]
  rfl

/-! ### Marks -/
theorem markRayS_l1_ok : ∀ (f i : Nat) (l : List Y3) (k : Int), l.length < 4611686018427387904 → 0 ≤ k → k + 3 * ((l.length - i : Nat) : Int) ≤ 4611686018427387904 → i ≤ l.length → l.length - i < f →
    ∃ l', laws_markRayS_l1 f l k (i : Int) = some (l', k + 3 * ((l.length - i : Nat) : Int)) := by
  intro f
  induction f with
  | zero => intro i l k _ _ _ _ h; omega
  | succ f ih =>
    intro i l k hs hk0 hk hi hf
    rw [laws_markRayS_l1, cond_ite]
    by_cases h : i < l.length
    · rw [if_pos (by simp; omega), idx_lt h]
      simp only [bs]
      rw [upd_nat h, ck_in (n := k + 1) (by omega) (by omega)]
      simp only [bs]
      rw [idx_lt (by simpa using h)]
      simp only [bs]
      rw [upd_nat (by simpa using h), ck_in (n := k + 1 + 1) (by omega) (by omega)]
      simp only [bs]
      rw [idx_lt (by simpa using h)]
      simp only [bs]
      rw [upd_nat (by simpa using h), ck_in (n := k + 1 + 1 + 1) (by omega) (by omega), ck_nat (by omega)]
      simp only [bs]
      have key : ∀ L : List Y3, L.length = l.length → ∃ l', laws_markRayS_l1 f L (k + 1 + 1 + 1) ((i + 1 : Nat) : Int) = some (l', k + 3 * ((l.length - i : Nat) : Int)) := fun L hL => by
        obtain ⟨l', hl'⟩ := ih (i + 1) L (k + 1 + 1 + 1) (by omega) (by omega) (by omega) (by omega) (by omega)
        refine ⟨l', ?_⟩
        rw [hl']
        simp only [Option.some.injEq, Prod.mk.injEq, true_and]
        omega
      exact key _ (by simp)
    · rw [if_neg (by simp; omega), show l.length - i = 0 by omega]
      exact ⟨l, by simp⟩
theorem markRayS_eq' (l : List Y3) (k : Int) (hs : Small l) (h0 : 0 ≤ k) (h1 : k ≤ 2305843009213693952) : ∃ l', laws_markRayS_m l k = some (k + 3 * (l.length : Int), l') := by
  unfold Small at hs
  unfold laws_markRayS_m
  obtain ⟨l', h⟩ := markRayS_l1_ok 4000000 0 l k (by omega) (by omega) (by omega) (by omega) (by omega)
  rw [Int.natCast_zero] at h
  rw [h]
  exact ⟨l', rfl⟩
theorem markRayS_ok (l : List Y3) (k : Int) (hs : Small l) (h0 : 0 ≤ k) (h1 : k ≤ 1152921504606846976) : ∃ k' l', laws_markRayS_m l k = some (k', l') ∧ k ≤ k' ∧ k' ≤ k + 8796093022208 := by
  obtain ⟨l', h⟩ := markRayS_eq' l k hs h0 (by omega)
  exact ⟨_, l', h, by omega, by unfold Small at hs; omega⟩
theorem markRaySS_l1_ok : ∀ (f i : Nat) (m : List (List Y3)) (k : Int), m.length ≤ 1048576 → (∀ l ∈ m.drop i, Small l) → 0 ≤ k → k + 3145728 * ((m.length - i : Nat) : Int) ≤ 2305843009213693952 → i ≤ m.length → m.length - i < f →
    ∃ k' m', laws_markRaySS_l1 f m k (i : Int) = some (m', k') ∧ k ≤ k' ∧ k' ≤ k + 3145728 * ((m.length - i : Nat) : Int) := by
  intro f
  induction f with
  | zero => intro i m k _ _ _ _ _ h; omega
  | succ f ih =>
    intro i m k hs hr hk0 hk hi hf
    rw [laws_markRaySS_l1, cond_ite]
    by_cases h : i < m.length
    · rw [if_pos (by simp; omega), idx_lt h]
      simp only [bs]
      have hsm : Small m[i] := hr _ (by rw [drop_cons h]; exact List.mem_cons_self)
      obtain ⟨l', hl'⟩ := markRayS_eq' m[i] k hsm hk0 (by omega)
      unfold Small at hsm
      rw [hl']
      simp only [bs, Int.toNat_natCast]
      rw [ck_nat (by omega)]
      simp only [bs]
      obtain ⟨k', m', g1, g2, g3⟩ := ih (i + 1) (m.set i l') (k + 3 * (m[i].length : Int)) (by simpa using hs) (fun x hx => by
        rw [List.drop_set_of_lt (by omega)] at hx
        exact hr x (by rw [drop_cons h]; exact List.mem_cons_of_mem _ hx)) (by omega) (by simp only [List.length_set]; omega) (by simp only [List.length_set]; omega) (by simp only [List.length_set]; omega)
      simp only [List.length_set] at g3
      exact ⟨k', m', g1, by omega, by omega⟩
    · rw [if_neg (by simp; omega)]
      exact ⟨k, m, rfl, by omega, by omega⟩
theorem markRaySS_ok (m : List (List Y3)) (k : Int) (hs : SmallY m) (h0 : 0 ≤ k) (h1 : k ≤ 1152921504606846976) : ∃ k' m', laws_markRaySS_m m k = some (k', m') ∧ k ≤ k' ∧ k' ≤ k + 8796093022208 := by
  obtain ⟨hs, hr⟩ := hs
  have hs' : m.length ≤ 1048576 := hs
  unfold laws_markRaySS_m
  obtain ⟨k', m', g1, g2, g3⟩ := markRaySS_l1_ok 4000000 0 m k hs (by simpa using hr) h0 (by omega) (by omega) (by omega)
  rw [Int.natCast_zero] at g1
  rw [g1]
  exact ⟨k', m', rfl, g2, by omega⟩
end Go.Proofs.Ytaagklbiebogfaa
