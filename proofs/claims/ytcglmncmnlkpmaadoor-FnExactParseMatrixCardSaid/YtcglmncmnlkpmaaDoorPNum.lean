/- Plain laws on the mirrors of numbers and of the laws' own helpers. No program is named here. -/
import Derived.Test.YtcglmncmnlkpmaaDoorNumM
namespace Go.Proofs.YtcglmncmnlkpmaaDoor
set_option linter.unusedVariables false
set_option linter.unusedSimpArgs false

theorem cond_ite {α : Type} (b : Bool) (x y : α) : cond b x y = if b = true then x else y := by cases b <;> rfl
/-- No 'rfl' rule for simp: the kernel would compare a call with its result by running it. -/
theorem bs {α β : Type} (a : α) (f : α → Option β) : (some a).bind f = f a := (Option.bind_some a f).trans rfl
theorem cT {α : Type} (a b : α) : cond true a b = a := (cond_true a b).trans rfl
theorem cF {α : Type} (a b : α) : cond false a b = b := (cond_false a b).trans rfl
theorem idx_nat {α : Type} (l : List α) (i : Nat) : idx l (i : Int) = l[i]? := by simp [idx]
theorem idx_zero {α : Type} (l : List α) : idx l 0 = l[0]? := by simp [idx]
theorem idx_lt {α : Type} {l : List α} {i : Nat} (h : i < l.length) : idx l (i : Int) = some l[i] := by rw [idx_nat, List.getElem?_eq_getElem h]
theorem ck_nat {i : Nat} (h : i < 4611686018427387904) : ck ((i : Int) + 1) = some ((i + 1 : Nat) : Int) := by
  rw [show ((i + 1 : Nat) : Int) = (i : Int) + 1 by omega]
  exact ck_mk (by omega)
theorem ck_in {n : Int} (h0 : -9223372036854775808 ≤ n) (h1 : n ≤ 9223372036854775807) : ck n = some n := ck_mk ⟨h0, h1⟩
theorem guardO_t {b : Bool} (h : b = true) : guardO b = some () := by rw [h]; rfl
theorem upd_nat {α : Type} {l : List α} {i : Nat} (h : i < l.length) (x : α) : upd l (i : Int) x = some (l.set i x) := upd_mk h
theorem app_lt {α : Type} {l : List α} (h : l.length < 1000000000) (x : α) : app l x = some (l ++ [x]) := app_mk h

/-! ### What every input fits -/
def i64R (n : Int) : Prop := -9223372036854775808 ≤ n ∧ n ≤ 9223372036854775807
structure InI (l : List Int) : Prop where
  rng : ∀ n ∈ l, i64R n
  len : l.length ≤ 9223372036854775807
structure InM (m : List (List Int)) : Prop where
  row : ∀ l ∈ m, InI l
  len : m.length ≤ 9223372036854775807

/-! ### Numbers -/
def Inf : Int := 1000000000
def inR (n lo hi : Int) : Bool := decide (lo ≤ n) && decide (n ≤ hi)
def fin (n : Int) : Bool := inR n (-1000000) 1000000
def num (n : Int) : Bool := fin n || n == 1000000000
theorem l1In_eq (n lo hi : Int) : spec_l1In_m n lo hi = some (inR n lo hi) := by
  unfold spec_l1In_m inR; rw [cond_ite]; by_cases h : lo ≤ n <;> simp [h]
theorem within_eq (n lo hi : Int) : impl_within_m n lo hi = some (inR n lo hi) := by
  unfold impl_within_m inR; rw [cond_ite]; by_cases h : lo ≤ n <;> simp [h]
theorem isFinite_eq (n : Int) : impl_isFinite_m n = some (fin n) := by
  unfold impl_isFinite_m fin inR; rw [cond_ite]; by_cases h : (-1000000) ≤ n <;> simp [h]
theorem isNumber_eq (n : Int) : impl_isNumber_m n = some (num n) := by
  unfold impl_isNumber_m num; rw [isFinite_eq]; cases h : fin n <;> simp
theorem nuGood_eq (n : Int) : spec_nuGood_m n = some (num n) := by
  unfold spec_nuGood_m num fin; rw [l1In_eq]
  cases h : n == 1000000000 <;> simp
def plus (a b : Int) : Int := if a = 1000000000 ∨ b = 1000000000 then 1000000000 else a + b
theorem areNumbers_l1_eq (l : List Int) : ∀ j, impl_areNumbers_l1 l j = some (if l.all num = true then Sum.inr () else Sum.inl false) := by
  induction l with
  | nil => intro j; rfl
  | cons x l ih => intro j; rw [impl_areNumbers_l1, isNumber_eq]; cases h : num x <;> simp [ih, h]
theorem areNumbers_eq (l : List Int) : impl_areNumbers_m l = some (l.all num) := by
  unfold impl_areNumbers_m; rw [areNumbers_l1_eq]; cases h : l.all num <;> simp
/-! ### The laws' own helpers -/
def Small {α : Type} (l : List α) : Prop := l.length ≤ 1048576
def SmallM (m : List (List Int)) : Prop := Small m ∧ ∀ l ∈ m, Small l

theorem drop_cons {α : Type} {l : List α} {i : Nat} (h : i < l.length) : l.drop i = l[i] :: l.drop (i + 1) := List.drop_eq_getElem_cons h
theorem eqIntS_l1_eq (a b : List Int) (hl : a.length = b.length) (hs : a.length < 4611686018427387904) : ∀ (k i : Nat), i ≤ a.length → a.length - i < k → laws_eqIntS_l1 a b k (i : Int) = some (if a.drop i = b.drop i then Sum.inr () else Sum.inl false) := by
  intro k
  induction k with
  | zero => intro i _ h; omega
  | succ k ih =>
    intro i hi hk
    rw [laws_eqIntS_l1, cond_ite]
    by_cases h : i < a.length
    · have h' : i < b.length := by omega
      rw [if_pos (by simp; omega), idx_lt h, idx_lt h']
      simp only [bs, drop_cons h, drop_cons h', List.cons.injEq]
      rw [cond_ite, ck_nat (by omega)]
      simp only [bs]
      by_cases e : a[i] = b[i]
      · rw [if_neg (by simp [e]), ih (i + 1) (by omega) (by omega)]
        simp [e]
      · rw [if_pos (by simp [e])]
        simp [e]
    · rw [if_neg (by simp; omega), List.drop_eq_nil_of_le (by omega), List.drop_eq_nil_of_le (by omega)]
      simp
theorem eqIntS_eq (a b : List Int) (hs : Small a) : laws_eqIntS_m a b = some (decide (a = b)) := by
  unfold Small at hs
  unfold laws_eqIntS_m
  rw [cond_ite]
  by_cases hl : a.length = b.length
  · rw [if_neg (by simp [hl])]
    have := eqIntS_l1_eq a b hl (by omega) 4000000 0 (by omega) (by omega)
    simp only [Int.natCast_zero, List.drop_zero] at this
    rw [show (0 : Int) = ((0 : Nat) : Int) from rfl] at *
    rw [this]
    by_cases e : a = b <;> simp [e]
  · rw [if_pos (by simp; omega)]
    have : a ≠ b := fun e => hl (by rw [e])
    simp [this]
theorem eqIntSS_l1_eq (a b : List (List Int)) (hl : a.length = b.length) (hs : a.length < 4611686018427387904) (hr : ∀ l ∈ a, Small l) : ∀ (k i : Nat), i ≤ a.length → a.length - i < k → laws_eqIntSS_l1 a b k (i : Int) = some (if a.drop i = b.drop i then Sum.inr () else Sum.inl false) := by
  intro k
  induction k with
  | zero => intro i _ h; omega
  | succ k ih =>
    intro i hi hk
    rw [laws_eqIntSS_l1, cond_ite]
    by_cases h : i < a.length
    · have h' : i < b.length := by omega
      rw [if_pos (by simp; omega), idx_lt h, idx_lt h']
      simp only [bs, drop_cons h, drop_cons h', List.cons.injEq]
      rw [eqIntS_eq _ _ (hr _ (List.getElem_mem h)), ck_nat (by omega)]
      simp only [bs]
      rw [cond_ite]
      by_cases e : a[i] = b[i]
      · rw [if_neg (by simp [e]), ih (i + 1) (by omega) (by omega)]
        simp [e]
      · rw [if_pos (by simp [e])]
        simp [e]
    · rw [if_neg (by simp; omega), List.drop_eq_nil_of_le (by omega), List.drop_eq_nil_of_le (by omega)]
      simp
theorem eqIntSS_eq (a b : List (List Int)) (hs : SmallM a) : laws_eqIntSS_m a b = some (decide (a = b)) := by
  obtain ⟨hs, hr⟩ := hs
  unfold Small at hs
  unfold laws_eqIntSS_m
  rw [cond_ite]
  by_cases hl : a.length = b.length
  · rw [if_neg (by simp [hl])]
    have := eqIntSS_l1_eq a b hl (by omega) hr 4000000 0 (by omega) (by omega)
    rw [show (0 : Int) = ((0 : Nat) : Int) from rfl]
    rw [this]
    by_cases e : a = b <;> simp [e]
  · rw [if_pos (by simp; omega)]
    have : a ≠ b := fun e => hl (by rw [e])
    simp [this]
theorem szIntS_eq (l : List Int) (n : Int) (h0 : n ≤ 1048576) (h1 : 0 ≤ n) (hl : l.length ≤ 9223372036854775807) : laws_szIntS_m l n = some (if n < l.length then -1 else n - l.length) := by
  unfold laws_szIntS_m
  rw [ck_in (by omega) (by omega)]
  simp only [bs]
  rw [cond_ite]
  by_cases h : n < l.length
  · rw [if_pos (by simp; omega), if_pos h]
  · rw [if_neg (by simp; omega), if_neg h]
/-- What comes out: below 0, or all is small. -/
theorem szIntSS_l1_eq (m : List (List Int)) (hm : m.length < 4611686018427387904) (hl : ∀ l ∈ m, l.length ≤ 9223372036854775807) : ∀ (k i : Nat) (n : Int), 0 ≤ n → n ≤ 1048576 → i ≤ m.length → m.length - i < k →
    (laws_szIntSS_l1 m k n (i : Int) = some (Sum.inl (-1))) ∨ (∃ n', 0 ≤ n' ∧ n' ≤ 1048576 ∧ laws_szIntSS_l1 m k n (i : Int) = some (Sum.inr n') ∧ ∀ l ∈ m.drop i, Small l) := by
  intro k
  induction k with
  | zero => intro i n _ _ _ h; omega
  | succ k ih =>
    intro i n hn0 hn hi hk
    rw [laws_szIntSS_l1, cond_ite]
    by_cases h : i < m.length
    · rw [if_pos (by simp; omega), idx_lt h]
      simp only [bs]
      rw [szIntS_eq _ _ hn hn0 (hl _ (List.getElem_mem h))]
      simp only [bs]
      rw [cond_ite, ck_nat (by omega)]
      by_cases hb : n < m[i].length
      · rw [if_pos hb, if_pos (by decide)]
        exact .inl rfl
      · rw [if_neg hb, if_neg (by simp; omega)]
        simp only [bs]
        rcases ih (i + 1) (n - m[i].length) (by omega) (by omega) (by omega) (by omega) with h1 | ⟨n', h1, h2, h3, h4⟩
        · exact .inl h1
        · refine .inr ⟨n', h1, h2, h3, ?_⟩
          rw [drop_cons h]
          intro l hl'
          cases List.mem_cons.1 hl' with
          | inl e => rw [e]; unfold Small; omega
          | inr e => exact h4 l e
    · rw [if_neg (by simp; omega), List.drop_eq_nil_of_le (by omega)]
      exact .inr ⟨n, hn0, hn, rfl, fun l hl' => by cases hl'⟩
theorem szIntSS_eq (m : List (List Int)) (left : Int) (h0 : 0 ≤ left) (h1 : left ≤ 1048576) (hm : m.length ≤ 9223372036854775807) (hl : ∀ l ∈ m, l.length ≤ 9223372036854775807) :
    (laws_szIntSS_m m left = some (-1)) ∨ (∃ n', 0 ≤ n' ∧ n' ≤ 1048576 ∧ laws_szIntSS_m m left = some n' ∧ SmallM m) := by
  unfold laws_szIntSS_m
  rw [ck_in (by omega) (by omega)]
  simp only [bs]
  rw [cond_ite]
  by_cases h : left - m.length < 0
  · rw [if_pos (by simp; omega)]; exact .inl rfl
  · rw [if_neg (by simp; omega)]
    have := szIntSS_l1_eq m (by omega) hl 4000000 0 (left - m.length) (by omega) (by omega) (by omega) (by omega)
    rw [show (0 : Int) = ((0 : Nat) : Int) from rfl]
    rcases this with h2 | ⟨n', h2, h3, h4, h5⟩
    · rw [h2]; exact .inl rfl
    · rw [h4]
      exact .inr ⟨n', by omega, h3, rfl, by unfold Small; omega, fun l hl' => h5 l (by simpa using hl')⟩
theorem szIntS_big (l : List Int) (left : Int) (h0 : 0 ≤ left) (h1 : left ≤ 1048576) (hl : l.length ≤ 9223372036854775807) :
    (laws_szIntS_m l left = some (-1)) ∨ (∃ n', 0 ≤ n' ∧ n' ≤ 1048576 ∧ laws_szIntS_m l left = some n' ∧ Small l) := by
  rw [szIntS_eq l left h1 h0 hl]
  by_cases h : left < l.length
  · rw [if_pos h]; exact .inl rfl
  · rw [if_neg h]; exact .inr ⟨_, by omega, by omega, rfl, by unfold Small; omega⟩

theorem take_set {α : Type} {l : List α} {i : Nat} (x : α) (h : i < l.length) : (l.set i x).take (i + 1) = l.take i ++ [x] := by
  rw [List.take_succ_eq_append_getElem (by simpa using h)]
  simp [List.take_set_of_le]
theorem toIntS_l1_eq (p : List Int) (hs : p.length < 4611686018427387904) : ∀ (k i : Nat) (l : List Int), l.length = p.length → i ≤ p.length → p.length - i < k → l.take i = p.take i → laws_toIntS_l1 p k l (i : Int) = some p := by
  intro k
  induction k with
  | zero => intro i l _ _ h; omega
  | succ k ih =>
    intro i l hl hi hk ht
    rw [laws_toIntS_l1, cond_ite]
    by_cases h : i < p.length
    · have h' : i < l.length := by omega
      rw [if_pos (by simp; omega), idx_lt h, idx_lt h']
      simp only [bs]
      rw [upd_nat h', ck_nat (by omega)]
      simp only [bs]
      refine ih (i + 1) _ (by simpa using hl) (by omega) (by omega) ?_
      rw [take_set _ h', ht, List.take_succ_eq_append_getElem h]
    · rw [if_neg (by simp; omega)]
      rw [List.take_of_length_le (by omega), List.take_of_length_le (by omega)] at ht
      rw [ht]
theorem toIntS_eq (l : List Int) (hs : Small l) : laws_toIntS_m l = some l := by
  unfold Small at hs
  unfold laws_toIntS_m
  rw [guardO_t (by simp; omega)]
  simp only [bs]
  have := toIntS_l1_eq l (by omega) 4000000 0 (List.replicate l.length 0) (by simp) (by omega) (by omega) (by simp)
  rw [Int.natCast_zero] at this
  rw [Int.toNat_natCast, this]
  rfl
theorem toIntSS_l1_eq (p : List (List Int)) (hs : p.length < 4611686018427387904) (hr : ∀ l ∈ p, Small l) : ∀ (k i : Nat) (l : List (List Int)), l.length = p.length → i ≤ p.length → p.length - i < k → l.take i = p.take i → laws_toIntSS_l1 p k l (i : Int) = some p := by
  intro k
  induction k with
  | zero => intro i l _ _ h; omega
  | succ k ih =>
    intro i l hl hi hk ht
    rw [laws_toIntSS_l1, cond_ite]
    by_cases h : i < p.length
    · have h' : i < l.length := by omega
      rw [if_pos (by simp; omega), idx_lt h, idx_lt h']
      simp only [bs]
      rw [toIntS_eq _ (hr _ (List.getElem_mem h))]
      simp only [bs]
      rw [upd_nat h', ck_nat (by omega)]
      simp only [bs]
      refine ih (i + 1) _ (by simpa using hl) (by omega) (by omega) ?_
      rw [take_set _ h', ht, List.take_succ_eq_append_getElem h]
    · rw [if_neg (by simp; omega)]
      rw [List.take_of_length_le (by omega), List.take_of_length_le (by omega)] at ht
      rw [ht]
theorem toIntSS_eq (m : List (List Int)) (hs : SmallM m) : laws_toIntSS_m m = some m := by
  obtain ⟨hs, hr⟩ := hs
  unfold Small at hs
  unfold laws_toIntSS_m
  rw [guardO_t (by simp; omega)]
  simp only [bs]
  have := toIntSS_l1_eq m (by omega) hr 4000000 0 (List.replicate m.length []) (by simp) (by omega) (by omega) (by simp)
  rw [Int.natCast_zero] at this
  rw [Int.toNat_natCast, this]
  rfl

/-! ### Marks -/
def seqI : Int → Nat → List Int
  | _, 0 => []
  | k, n + 1 => k :: seqI (k + 1) n
theorem seqI_len : ∀ (n : Nat) (k : Int), (seqI k n).length = n
  | 0, _ => rfl
  | n + 1, k => by simp [seqI, seqI_len n]
theorem markIntS_l1_eq : ∀ (f i : Nat) (l : List Int) (k : Int), l.length < 4611686018427387904 → -4611686018427387904 ≤ k → k + ((l.length - i : Nat) : Int) ≤ 4611686018427387904 → i ≤ l.length → l.length - i < f →
    laws_markIntS_l1 f l k (i : Int) = some (l.take i ++ seqI k (l.length - i), k + ((l.length - i : Nat) : Int)) := by
  intro f
  induction f with
  | zero => intro i l k _ _ _ _ h; omega
  | succ f ih =>
    intro i l k hs hk0 hk hi hf
    rw [laws_markIntS_l1, cond_ite]
    by_cases h : i < l.length
    · rw [if_pos (by simp; omega), idx_lt h]
      simp only [bs]
      rw [upd_nat h, ck_in (by omega) (by omega), ck_nat (by omega)]
      simp only [bs]
      rw [ih (i + 1) _ _ (by simpa using hs) (by omega) (by simp only [List.length_set]; omega) (by simp only [List.length_set]; omega) (by simp only [List.length_set]; omega)]
      simp only [List.length_set]
      obtain ⟨n, hn⟩ : ∃ n, l.length - i = n + 1 := ⟨l.length - i - 1, by omega⟩
      rw [take_set _ h, hn, show l.length - (i + 1) = n by omega]
      simp only [seqI, List.append_assoc, List.singleton_append, Option.some.injEq, Prod.mk.injEq, true_and]
      omega
    · rw [if_neg (by simp; omega), show l.length - i = 0 by omega]
      simp [seqI, List.take_of_length_le (show l.length ≤ i by omega)]
theorem markIntS_eq (l : List Int) (k : Int) (hs : Small l) (h0 : 0 ≤ k) (h1 : k ≤ 2305843009213693952) : laws_markIntS_m l k = some (k + l.length, seqI k l.length) := by
  unfold Small at hs
  unfold laws_markIntS_m
  have := markIntS_l1_eq 4000000 0 l k (by omega) (by omega) (by omega) (by omega) (by omega)
  rw [Int.natCast_zero] at this
  rw [this]
  simp only [bs, List.take_zero, List.nil_append, Nat.sub_zero]
theorem heldIntS_l1_eq (p : List Int) (hs : p.length < 4611686018427387904) : ∀ (f i : Nat) (k : Int), -4611686018427387904 ≤ k → k + ((p.length - i : Nat) : Int) ≤ 4611686018427387904 → i ≤ p.length → p.length - i < f → p.drop i = seqI k (p.length - i) →
    laws_heldIntS_l1 p f k (i : Int) = some (Sum.inr (k + ((p.length - i : Nat) : Int))) := by
  intro f
  induction f with
  | zero => intro i k _ _ _ h; omega
  | succ f ih =>
    intro i k hk0 hk hi hf hd
    rw [laws_heldIntS_l1, cond_ite]
    by_cases h : i < p.length
    · rw [if_pos (by simp; omega), idx_lt h]
      simp only [bs]
      obtain ⟨n, hn⟩ : ∃ n, p.length - i = n + 1 := ⟨p.length - i - 1, by omega⟩
      rw [drop_cons h, hn] at hd
      simp only [seqI, List.cons.injEq] at hd
      rw [cond_ite, if_neg (by simp [hd.1]), ck_in (by omega) (by omega), ck_nat (by omega)]
      simp only [bs]
      rw [ih (i + 1) (k + 1) (by omega) (by omega) (by omega) (by omega) (by rw [hd.2, show p.length - (i + 1) = n by omega])]
      congr 2
      omega
    · rw [if_neg (by simp; omega), show p.length - i = 0 by omega]
      simp
theorem heldIntS_eq (k : Int) (n : Nat) (hn : n ≤ 1048576) (h0 : 0 ≤ k) (h1 : k ≤ 2305843009213693952) : laws_heldIntS_m (seqI k n) k = some (k + n) := by
  unfold laws_heldIntS_m
  have := heldIntS_l1_eq (seqI k n) (by rw [seqI_len]; omega) 4000000 0 k (by omega) (by rw [seqI_len]; omega) (by omega) (by rw [seqI_len]; omega) (by simp [seqI_len])
  rw [Int.natCast_zero] at this
  rw [this]
  simp only [bs, Sum.elim_inr, seqI_len, Nat.sub_zero]
def cnt : List (List Int) → Nat
  | [] => 0
  | l :: r => l.length + cnt r
def marks : List (List Int) → Int → List (List Int)
  | [], _ => []
  | l :: r, k => seqI k l.length :: marks r (k + l.length)
theorem marks_len : ∀ (m : List (List Int)) (k : Int), (marks m k).length = m.length
  | [], _ => rfl
  | l :: r, k => by simp [marks, marks_len r]
theorem cnt_le : ∀ (m : List (List Int)), (∀ l ∈ m, Small l) → cnt m ≤ m.length * 1048576
  | [], _ => by simp [cnt]
  | l :: r, h => by
    have h1 := cnt_le r (fun x hx => h x (List.mem_cons_of_mem _ hx))
    have h2 : Small l := h l List.mem_cons_self
    unfold Small at h2
    simp only [cnt, List.length_cons]
    omega
theorem markIntSS_l1_eq : ∀ (f i : Nat) (m : List (List Int)) (k : Int), Small m → (∀ l ∈ m.drop i, Small l) → 0 ≤ k → k + cnt (m.drop i) ≤ 2305843009213693952 → i ≤ m.length → m.length - i < f →
    laws_markIntSS_l1 f m k (i : Int) = some (m.take i ++ marks (m.drop i) k, k + (cnt (m.drop i) : Int)) := by
  intro f
  induction f with
  | zero => intro i m k _ _ _ _ _ h; omega
  | succ f ih =>
    intro i m k hs hr hk0 hk hi hf
    have hs' : m.length ≤ 1048576 := hs
    rw [laws_markIntSS_l1, cond_ite]
    by_cases h : i < m.length
    · rw [if_pos (by simp; omega), idx_lt h]
      simp only [bs]
      rw [drop_cons h] at hr hk ⊢
      have hsm : Small m[i] := hr _ List.mem_cons_self
      have hsm' : m[i].length ≤ 1048576 := hsm
      simp only [cnt] at hk ⊢
      rw [markIntS_eq _ _ hsm hk0 (by omega), ck_nat (by omega)]
      simp only [bs, Int.toNat_natCast]
      have hd : (m.set i (seqI k m[i].length)).drop (i + 1) = m.drop (i + 1) := by simp [List.drop_set_of_lt]
      rw [ih (i + 1) _ _ (by unfold Small; simpa using hs') (by rw [hd]; exact fun l hl => hr l (List.mem_cons_of_mem _ hl)) (by omega) (by rw [hd]; omega) (by simp; omega) (by simp; omega)]
      rw [hd, take_set _ h]
      simp only [marks, List.append_assoc, List.singleton_append, Option.some.injEq, Prod.mk.injEq, true_and]
      omega
    · rw [if_neg (by simp; omega), List.drop_eq_nil_of_le (by omega), List.take_of_length_le (by omega)]
      simp [marks, cnt]
theorem markIntSS_eq (m : List (List Int)) (hs : SmallM m) : laws_markIntSS_m m 1 = some (1 + (cnt m : Int), marks m 1) := by
  obtain ⟨hs, hr⟩ := hs
  have hs' : m.length ≤ 1048576 := hs
  have hc := cnt_le m hr
  have hc2 : m.length * 1048576 ≤ 1048576 * 1048576 := Nat.mul_le_mul_right _ hs'
  unfold laws_markIntSS_m
  have := markIntSS_l1_eq 4000000 0 m 1 hs (by simpa using hr) (by omega) (by simp only [List.drop_zero]; omega) (by omega) (by omega)
  rw [Int.natCast_zero] at this
  rw [this]
  simp only [bs, List.take_zero, List.nil_append, List.drop_zero]
theorem heldIntSS_l1_eq (p : List (List Int)) (hs : Small p) : ∀ (f i : Nat) (m : List (List Int)) (k : Int), (∀ l ∈ m, Small l) → 0 ≤ k → k + cnt m ≤ 2305843009213693952 → i + m.length = p.length → p.length - i < f → p.drop i = marks m k →
    laws_heldIntSS_l1 p f k (i : Int) = some (Sum.inr (k + (cnt m : Int))) := by
  intro f
  induction f with
  | zero => intro i m k _ _ _ _ h; omega
  | succ f ih =>
    intro i m k hr hk0 hk hi hf hd
    have hs' : p.length ≤ 1048576 := hs
    rw [laws_heldIntSS_l1, cond_ite]
    cases m with
    | nil =>
      simp only [List.length_nil] at hi
      rw [if_neg (by simp; omega)]
      simp [cnt]
    | cons l r =>
      simp only [List.length_cons] at hi
      have h : i < p.length := by omega
      rw [if_pos (by simp; omega), idx_lt h]
      simp only [bs]
      rw [drop_cons h] at hd
      simp only [marks, List.cons.injEq] at hd
      simp only [cnt] at hk ⊢
      have hsm : Small l := hr l List.mem_cons_self
      have hsm' : l.length ≤ 1048576 := hsm
      rw [hd.1, heldIntS_eq k l.length hsm' hk0 (by omega)]
      simp only [bs]
      rw [cond_ite, if_neg (by simp; omega), ck_nat (by omega)]
      simp only [bs]
      rw [ih (i + 1) r (k + l.length) (fun x hx => hr x (List.mem_cons_of_mem _ hx)) (by omega) (by omega) (by omega) (by omega) hd.2]
      congr 2
      omega
theorem heldIntSS_eq (m : List (List Int)) (hs : SmallM m) : laws_heldIntSS_m (marks m 1) 1 = some (1 + (cnt m : Int)) := by
  obtain ⟨hs, hr⟩ := hs
  have hs' : m.length ≤ 1048576 := hs
  have hc := cnt_le m hr
  have hc2 : m.length * 1048576 ≤ 1048576 * 1048576 := Nat.mul_le_mul_right _ hs'
  unfold laws_heldIntSS_m
  have := heldIntSS_l1_eq (marks m 1) (by unfold Small; rw [marks_len]; omega) 4000000 0 m 1 hr (by omega) (by omega) (by rw [marks_len]; omega) (by rw [marks_len]; omega) (by simp)
  rw [Int.natCast_zero] at this
  rw [this]
  simp only [bs, Sum.elim_inr]
/-! ### Marks of arguments: only that they are counted up -/
theorem markIntS_ok (l : List Int) (k : Int) (hs : Small l) (h0 : 0 ≤ k) (h1 : k ≤ 1152921504606846976) : ∃ k' l', laws_markIntS_m l k = some (k', l') ∧ k ≤ k' ∧ k' ≤ k + 2199023255552 :=
  ⟨_, _, markIntS_eq l k hs h0 (by omega), by omega, by unfold Small at hs; omega⟩
theorem markIntSS_ok (m : List (List Int)) (k : Int) (hs : SmallM m) (h0 : 0 ≤ k) (h1 : k ≤ 1152921504606846976) : ∃ k' m', laws_markIntSS_m m k = some (k', m') ∧ k ≤ k' ∧ k' ≤ k + 2199023255552 := by
  obtain ⟨hs, hr⟩ := hs
  have hs' : m.length ≤ 1048576 := hs
  have hc := cnt_le m hr
  have hc2 : m.length * 1048576 ≤ 1048576 * 1048576 := Nat.mul_le_mul_right _ hs'
  unfold laws_markIntSS_m
  have := markIntSS_l1_eq 4000000 0 m k hs (by simpa using hr) (by omega) (by simp only [List.drop_zero]; omega) (by omega) (by omega)
  rw [Int.natCast_zero] at this
  rw [this]
  simp only [bs, List.take_zero, List.nil_append, List.drop_zero]
  exact ⟨_, _, rfl, by omega, by omega⟩
theorem dec_self {α : Type} [DecidableEq α] (a : α) : decide (a = a) = true := decide_eq_true rfl
theorem bne_self' {α : Type} [BEq α] [LawfulBEq α] (a : α) : (a != a) = false := bne_self_eq_false a
theorem imp_f (n : Nat) : decide (1 + (n : Int) < 0) = false := decide_eq_false (by omega)
theorem neg1 : decide ((-1 : Int) < 0) = true := decide_eq_true (by decide)
theorem nonneg {n : Int} (h : 0 ≤ n) : decide (n < 0) = false := decide_eq_false (by omega)
theorem big_t {n : Nat} (h : ¬ n ≤ 1048576) : decide ((n : Int) > 1048576) = true := decide_eq_true (by omega)
theorem big_f {n : Nat} (h : n ≤ 1048576) : decide ((n : Int) > 1048576) = false := decide_eq_false (by omega)

/-! ### Elements -/
def nth (l : List Int) (j : Nat) : Int := l.getD j 0
def nthM (m : List (List Int)) (j : Nat) : List Int := m.getD j []
theorem idx_nth {l : List Int} {j : Nat} (h : j < l.length) : idx l (j : Int) = some (nth l j) := by
  rw [idx_lt h]; simp [nth, h]
theorem idx_nthM {m : List (List Int)} {j : Nat} (h : j < m.length) : idx m (j : Int) = some (nthM m j) := by
  rw [idx_lt h]; simp [nthM, h]
theorem nth_mem {l : List Int} {j : Nat} (h : j < l.length) : nth l j ∈ l := by simp [nth, h]
theorem nthM_mem {m : List (List Int)} {j : Nat} (h : j < m.length) : nthM m j ∈ m := by simp [nthM, h]
theorem idx_nth0 {l : List Int} (h : 0 < l.length) : idx l 0 = some (nth l 0) := by
  have := idx_nth h; rwa [Int.natCast_zero] at this
/-- All elements, with their indices. -/
def allI {α : Type} (f : Nat → α → Bool) : List α → Nat → Bool
  | [], _ => true
  | x :: q, j => f j x && allI f q (j + 1)
theorem allI_iff {α : Type} (f : Nat → α → Bool) (d : α) : ∀ (q : List α) (j : Nat), allI f q j = true ↔ ∀ i, i < q.length → f (j + i) (q.getD i d) = true := by
  intro q
  induction q with
  | nil => intro j; simp [allI]
  | cons x q ih =>
    intro j
    simp only [allI, Bool.and_eq_true, ih]
    constructor
    · rintro ⟨h1, h2⟩ i hi
      cases i with
      | zero => simpa using h1
      | succ i => have := h2 i (by simpa using hi); rw [show j + (i + 1) = j + 1 + i by omega]; simpa using this
    · intro h
      refine ⟨by simpa using h 0 (by simp), fun i hi => ?_⟩
      have := h (i + 1) (by simpa using hi)
      rw [show j + 1 + i = j + (i + 1) by omega]; simpa using this
theorem allI_congr {α : Type} {f g : Nat → α → Bool} : ∀ (q : List α) (j : Nat), (∀ i x, x ∈ q → f i x = g i x) → allI f q j = allI g q j := by
  intro q
  induction q with
  | nil => intro j _; rfl
  | cons x q ih => intro j h; rw [allI, allI, h _ _ List.mem_cons_self, ih _ (fun i y hy => h i y (List.mem_cons_of_mem _ hy))]
end Go.Proofs.YtcglmncmnlkpmaaDoor
