/- Plain laws: the prices of a best assignment. -/
import Derived.Test.YtnnhbkhlipekeaaAspM
import Derived.Test.YtnnhbkhlipekeaaPBf
import Derived.Test.YtnnhbkhlipekeaaPAsB
import Derived.Test.YtnnhbkhlipekeaaPExc
namespace Go.Proofs.Ytnnhbkhlipekeaa
set_option linter.unusedVariables false
set_option linter.unusedSimpArgs false
set_option linter.unusedSectionVars false

theorem fI_le0 (f : Nat → Int) : ∀ q j a, fI f q j a ≤ a
  | 0, _, _ => Int.le_refl _
  | q + 1, j, a => Int.le_trans (fI_le0 f q (j + 1) _) (Int.min_le_left _ _)
theorem fI_le (f : Nat → Int) : ∀ q j a i, j ≤ i → i < j + q → fI f q j a ≤ f i
  | 0, _, _, i, h1, h2 => by omega
  | q + 1, j, a, i, h1, h2 => by
    by_cases e : i = j
    · subst e; exact Int.le_trans (fI_le0 f q (i + 1) _) (Int.min_le_right _ _)
    · exact fI_le f q (j + 1) _ i (by omega) (by omega)
theorem fI_or (f : Nat → Int) : ∀ q j a, fI f q j a = a ∨ ∃ i, j ≤ i ∧ i < j + q ∧ fI f q j a = f i
  | 0, _, _ => .inl rfl
  | q + 1, j, a => by
    rcases fI_or f q (j + 1) (min a (f j)) with h | ⟨i, h1, h2, h3⟩
    · by_cases hc : a ≤ f j
      · rw [Int.min_eq_left hc] at h; left; rw [fI, Int.min_eq_left hc]; exact h
      · rw [Int.min_eq_right (by omega)] at h; right; exact ⟨j, Nat.le_refl _, by omega, by rw [fI, Int.min_eq_right (by omega)]; exact h⟩
    · right; exact ⟨i, by omega, by omega, h3⟩
theorem ple_conv {e z : Int} (h : ple (conv e) (some z)) : e ≤ z := by
  unfold conv at h
  split at h
  · exact h.elim
  · exact h
theorem appS_app {α : Type} {a b : List α} (h : a.length + b.length < 1000000000) : appS a b = some (a ++ b) := by
  unfold appS
  rw [decide_eq_true (by simpa using h)]; rfl

section
variable {m : List (List Int)} {n : Nat} (g : Good m n) (hn : m.length = n) {a : List Int} (ha : a ∈ comps n n []) (hc : cst m a ≠ 1000000000) (hbest : ∀ x ∈ comps n n [], cst m a ≤ cst m x)
include g hn ha hc hbest
theorem col_in (i : Nat) (hi : i < n) : 0 ≤ nth a i ∧ nth a i < (n : Int) ∧ En m i (nth a i).toNat ≠ 1000000000 := by
  obtain ⟨k1, k2⟩ := comps_ok ha
  have h1 := k2 _ (nth_mem (show i < a.length by omega))
  have h2 := lin_inf m a 0 0 hc i (by omega)
  rw [Nat.zero_add] at h2
  exact ⟨h1.1, h1.2, h2⟩
theorem en_rng (i k : Nat) (hi : i < n) (hk : k < n) : -1000000 ≤ En m k (nth a i).toNat ∧ (En m k (nth a i).toNat ≤ 1000000 ∨ En m k (nth a i).toNat = 1000000000) := by
  have h1 := col_in g hn ha hc hbest i hi
  have := (num_iff _).1 (En_num g (i := k) (k := (nth a i).toNat) (by omega) (by omega))
  omega
def stE (m : List (List Int)) (a : List Int) (i k : Nat) : Int := plus (En m k (nth a i).toNat) (-En m i (nth a i).toNat)
def stL (m : List (List Int)) (n : Nat) (a : List Int) : List (List Int) := (List.range' 0 n).map fun i => (List.range' 0 n).map fun k => stE m a i k
theorem stL_shape : Shape (stL m n a) n n := ⟨by simp [stL], fun l hl => by
  simp only [stL, List.mem_map] at hl
  obtain ⟨i, _, rfl⟩ := hl
  simp⟩
theorem stL_En {i k : Nat} (hi : i < n) (hk : k < n) : En (stL m n a) i k = stE m a i k := by
  simp [En, stL, nth, nthM, hi, hk]
theorem stE_eq {i k : Nat} (hi : i < n) (hk : k < n) : stE m a i k = if En m k (nth a i).toNat = 1000000000 then 1000000000 else En m k (nth a i).toNat - En m i (nth a i).toNat := by
  have h1 := col_in g hn ha hc hbest i hi
  have h2 := en_rng g hn ha hc hbest i k hi hk
  have h3 := en_rng g hn ha hc hbest i i hi hi
  unfold stE plus
  by_cases e : En m k (nth a i).toNat = 1000000000
  · simp [e]
  · rw [if_neg (by omega), if_neg e]; omega
theorem stL_wi : ∀ x y, x < n → y < n → wi (-2000000) 2000000 (En (stL m n a) x y) := fun i k hi hk => by
  rw [stL_En g hn ha hc hbest hi hk, stE_eq g hn ha hc hbest hi hk]
  have h1 := col_in g hn ha hc hbest i hi
  have h2 := en_rng g hn ha hc hbest i k hi hk
  have h3 := en_rng g hn ha hc hbest i i hi hi
  split
  · left; rfl
  · right; omega
theorem stL_A : A n (stL m n a) = stepm m n a := by
  funext i k
  unfold A stepm
  by_cases h : i < n ∧ k < n
  · rw [if_pos h, if_pos h, stL_En g hn ha hc hbest h.1 h.2, stE_eq g hn ha hc hbest h.1 h.2]
    have h1 := col_in g hn ha hc hbest i h.1
    have h2 := en_rng g hn ha hc hbest i k h.1 h.2
    have h3 := en_rng g hn ha hc hbest i i h.1 h.1
    split
    · rfl
    · unfold conv; rw [if_neg (by omega)]
  · rw [if_neg h, if_neg h]
theorem asRows_l2_eq (i : Nat) (hi : i < n) (q : List (List Int)) : ∀ j l, q = m.drop j → j + q.length = n → l.length ≤ j → spec_asRows_l2 a i (nthM m i) q j l = some (l ++ (List.range' j q.length).map fun k => stE m a i k) := by
  have h6 := g.chi
  have sh : Shape m n n := ⟨hn, g.row⟩
  induction q with
  | nil => intro j l _ _ _; simp [spec_asRows_l2]
  | cons x q ih =>
    intro j l hq hj hl
    simp only [List.length_cons] at hj
    have hjm : j < m.length := by omega
    rw [drop_cons hjm] at hq
    have hx : x = nthM m j := by injection hq with h; rw [h]; simp [nthM, hjm]
    have hq : q = m.drop (j + 1) := by injection hq
    have h1 := col_in g hn ha hc hbest i hi
    have h2 := en_rng g hn ha hc hbest i j hi (by omega)
    have h3 := en_rng g hn ha hc hbest i i hi hi
    obtain ⟨k1, k2⟩ := comps_ok ha
    rw [spec_asRows_l2, idx_nth (show i < a.length by omega)]
    simp only [bs]
    rw [hx, idx_int h1.1 (by rw [sh.nth_len (by omega)]; exact h1.2.1), idx_int h1.1 (by rw [sh.nth_len (by omega)]; exact h1.2.1)]
    simp only [bs]
    rw [show nth (nthM m j) (nth a i).toNat = En m j (nth a i).toNat from rfl, show nth (nthM m i) (nth a i).toNat = En m i (nth a i).toNat from rfl, ck_in (by omega) (by omega)]
    simp only [bs]
    rw [nuPlus_eq (by omega) (by omega)]
    simp only [bs]
    rw [appS_app (by simp; omega)]
    simp only [bs]
    rw [ih (j + 1) _ hq (by omega) (by simp; omega), List.length_cons, List.range'_succ, List.append_assoc]
    rfl
theorem asRows_l1_eq (q : List (List Int)) : ∀ i l, q = m.drop i → i + q.length = n → l.length ≤ i → spec_asRows_l1 m a q i l = some (l ++ (List.range' i q.length).map fun i => (List.range' 0 n).map fun k => stE m a i k) := by
  have h6 := g.chi
  induction q with
  | nil => intro j l _ _ _; simp [spec_asRows_l1]
  | cons x q ih =>
    intro j l hq hj hl
    simp only [List.length_cons] at hj
    have hjm : j < m.length := by omega
    rw [drop_cons hjm] at hq
    have hx : x = nthM m j := by injection hq with h; rw [h]; simp [nthM, hjm]
    have hq : q = m.drop (j + 1) := by injection hq
    rw [spec_asRows_l1, hx, asRows_l2_eq g hn ha hc hbest j (by omega) m 0 [] rfl (by omega) (by simp)]
    simp only [bs, List.nil_append, hn]
    rw [app_lt (by omega)]
    simp only [bs]
    rw [ih (j + 1) _ hq (by omega) (by simp; omega), List.length_cons, List.range'_succ, List.append_assoc]
    rfl

/-! ### The rows' prices -/
def uF (c : List (List Int)) (n : Nat) (p : Nat) : Int := fI (fun i => En c i p) n 0 0
theorem asRows_l4_eq {c : List (List Int)} {b : Bool} (sh : Shape c n n) {p : Nat} (hp : p < n) (q : List (List Int)) : ∀ j acc, j + q.length = n → spec_asRows_l4 (c, b) p q j acc = some (fI (fun i => En c i p) q.length j acc) := by
  induction q with
  | nil => intro j acc _; rfl
  | cons x q ih =>
    intro j acc hj
    simp only [List.length_cons] at hj
    rw [spec_asRows_l4, sh.idx (by omega)]
    simp only [bs]
    rw [En_idx sh (by omega) hp]
    simp only [bs, l1Least_eq]
    rw [ih (j + 1) _ (by omega)]
    rfl
theorem asRows_l3_eq {c : List (List Int)} {b : Bool} (sh : Shape c n n) (q : List (List Int)) : ∀ j l, j + q.length = n → l.length ≤ j → spec_asRows_l3 m (c, b) q j l = some (l ++ (List.range' j q.length).map (uF c n)) := by
  have h6 := g.chi
  induction q with
  | nil => intro j l _ _; simp [spec_asRows_l3]
  | cons x q ih =>
    intro j l hj hl
    simp only [List.length_cons] at hj
    rw [spec_asRows_l3, asRows_l4_eq g hn ha hc hbest sh (by omega) m 0 0 (by omega)]
    simp only [bs]
    rw [app_lt (by omega)]
    simp only [bs]
    rw [ih (j + 1) _ (by omega) (by simp; omega), List.length_cons, List.range'_succ, List.append_assoc, hn]
    rfl
theorem uF_rng {c : List (List Int)} (hf : Aft n 2000000 (stL m n a) n c) {p : Nat} (hp : p < n) : -14000000 ≤ uF c n p ∧ uF c n p ≤ 0 := by
  have h6 := g.chi
  have h0 := fI_le0 (fun i => En c i p) n 0 0
  refine ⟨?_, h0⟩
  rcases fI_or (fun i => En c i p) n 0 0 with h | ⟨i, _, h1, h2⟩
  · unfold uF; omega
  · have := hf.wi i p (by omega) hp
    unfold wi at this
    unfold uF
    rw [h2] at h0 ⊢
    omega
theorem uF_closed {c : List (List Int)} (hf : Aft n 2000000 (stL m n a) n c) {i k : Nat} {x : Int} (h : stepm m n a i k = some x) : uF c n k ≤ uF c n i + x := by
  obtain ⟨hi, hk, _, _⟩ := stepm_some g hn h
  have key : ∀ l z, l < n → ple (cs n (stepm m n a) n l i) (some z) → uF c n k ≤ z + x := fun l z hl hz => by
    have s := settled (n := n) (m := stepm m n a) (fun i k h => by unfold stepm; rw [if_neg h]) (fun i l x hi hd hv hw => exch g hn ha hc hbest i l x hi hd hv hw) l k hl hk
    have t := cs_st (n := n) (m := stepm m n a) n l k i hi
    rw [s, h, ← stL_A g hn ha hc hbest, ← hf.eq l k hl hk, stL_A g hn ha hc hbest, A_in hl hk] at t
    have t2 := ple_trans t (padd_mono hz (ple_refl (some x)))
    have := ple_conv t2
    have := fI_le (fun i => En c i k) n 0 0 l (by omega) (by omega)
    unfold uF
    omega
  rcases fI_or (fun j => En c j i) n 0 0 with e | ⟨l, _, h1, h2⟩
  · have := key i 0 hi (cs_diag n i)
    unfold uF at this ⊢
    omega
  · have h0 := fI_le0 (fun j => En c j i) n 0 0
    have hl : l < n := by omega
    have := key l (En c l i) hl (by
      rw [← stL_A g hn ha hc hbest, ← hf.eq l i hl hi, A_in hl hi]
      unfold conv
      rw [h2] at h0
      rw [if_neg (by omega)]
      exact ple_refl _)
    unfold uF at this ⊢
    omega

/-! ### The program's rounds -/
structure Low (c : List (List Int)) (n : Nat) (R : List Int) : Prop where
  len : R.length = n
  low : ∀ p, p < n → uF c n p ≤ nth R p ∧ nth R p ≤ 0
theorem rp_l3 {c : List (List Int)} (hf : Aft n 2000000 (stL m n a) n c) {i : Nat} (hi : i < n) (q : List (List Int)) : ∀ j R, q = m.drop j → j + q.length = n → Low c n R →
    ∃ R', impl_rowPrices_l3 m i (nth a i) q j R = some R' ∧ Low c n R' ∧ (∀ p, p < n → nth R' p ≤ nth R p) ∧ ∀ p x, j ≤ p → stepm m n a i p = some x → nth R' p ≤ nth R i + x := by
  have sh : Shape m n n := ⟨hn, g.row⟩
  have h1 := col_in g hn ha hc hbest i hi
  have h3 := en_rng g hn ha hc hbest i i hi hi
  induction q with
  | nil =>
    intro j R _ hj hL
    simp only [List.length_nil] at hj
    exact ⟨R, rfl, hL, fun p _ => Int.le_refl _, fun p x hp hx => by have := (stepm_some g hn hx).2.1; omega⟩
  | cons x q ih =>
    intro j R hq hj hL
    simp only [List.length_cons] at hj
    have hjm : j < m.length := by omega
    rw [drop_cons hjm] at hq
    have hx : x = nthM m j := by injection hq with h; rw [h]; simp [nthM, hjm]
    have hq : q = m.drop (j + 1) := by injection hq
    have hjn : j < n := by omega
    have h2 := en_rng g hn ha hc hbest i j hi hjn
    have r1 := hL.low i hi
    have r2 := hL.low j hjn
    have u1 := uF_rng g hn ha hc hbest hf hi
    have u2 := uF_rng g hn ha hc hbest hf hjn
    have hlen := hL.len
    rw [impl_rowPrices_l3, hx, idx_int h1.1 (by rw [sh.nth_len hjn]; exact h1.2.1)]
    simp only [bs]
    rw [show nth (nthM m j) (nth a i).toNat = En m j (nth a i).toNat from rfl]
    by_cases e : En m j (nth a i).toNat = 1000000000
    · rw [show (En m j (nth a i).toNat != 1000000000) = false by simpa using e]
      simp only [cF]
      obtain ⟨R', k1, k2, k3, k4⟩ := ih (j + 1) R hq (by omega) hL
      refine ⟨R', k1, k2, k3, fun p y hp hy => ?_⟩
      by_cases hpj : p = j
      · subst hpj; exact absurd e (stepm_some g hn hy).2.2.1
      · exact k4 p y (by omega) hy
    · rw [show (En m j (nth a i).toNat != 1000000000) = true by simpa using e]
      simp only [cT]
      rw [idx_nth (by omega), idx_nth (by omega)]
      simp only [bs]
      rw [ck_in (by omega) (by omega), sh.idx hi]
      simp only [bs]
      rw [idx_int h1.1 (by rw [sh.nth_len hi]; exact h1.2.1)]
      simp only [bs]
      rw [show nth (nthM m i) (nth a i).toNat = En m i (nth a i).toNat from rfl, ck_in (by omega) (by omega)]
      simp only [bs]
      rw [upd_nat (by omega)]
      simp only [bs]
      have hst : stepm m n a i j = some (En m j (nth a i).toNat - En m i (nth a i).toNat) := by
        unfold stepm; rw [if_pos ⟨hi, hjn⟩, if_neg e]
      have hcl := uF_closed g hn ha hc hbest hf hst
      have hL1 : Low c n (R.set j (min (nth R j) (nth R i + En m j (nth a i).toNat - En m i (nth a i).toNat))) := ⟨by simpa using hlen, fun p hp => by
        rw [nth_set (by omega)]
        by_cases hpj : p = j
        · subst hpj; rw [if_pos rfl]; omega
        · rw [if_neg hpj]; exact hL.low p hp⟩
      have hmono : ∀ p, p < n → nth (R.set j (min (nth R j) (nth R i + En m j (nth a i).toNat - En m i (nth a i).toNat))) p ≤ nth R p := fun p hp => by
        rw [nth_set (by omega)]
        by_cases hpj : p = j
        · subst hpj; rw [if_pos rfl]; omega
        · rw [if_neg hpj]; exact Int.le_refl _
      obtain ⟨R', k1, k2, k3, k4⟩ := ih (j + 1) _ hq (by omega) hL1
      refine ⟨R', k1, k2, fun p hp => Int.le_trans (k3 p hp) (hmono p hp), fun p y hp hy => ?_⟩
      by_cases hpj : p = j
      · subst hpj
        have := k3 p hjn
        rw [nth_set (by omega), if_pos rfl] at this
        rw [hst] at hy
        have hy := Option.some.inj hy
        omega
      · have := k4 p y (by omega) hy
        have := hmono i hi
        omega
theorem rp_l2 {c : List (List Int)} (hf : Aft n 2000000 (stL m n a) n c) (q : List Int) : ∀ i R, q = a.drop i → i + q.length = n → Low c n R →
    ∃ R', impl_rowPrices_l2 m q i R = some R' ∧ Low c n R' ∧ (∀ p, p < n → nth R' p ≤ nth R p) ∧ ∀ l p x, i ≤ l → stepm m n a l p = some x → nth R' p ≤ nth R l + x := by
  obtain ⟨k1, k2⟩ := comps_ok ha
  induction q with
  | nil =>
    intro i R _ hj hL
    simp only [List.length_nil] at hj
    exact ⟨R, rfl, hL, fun p _ => Int.le_refl _, fun l p x hp hx => by have := (stepm_some g hn hx).1; omega⟩
  | cons x q ih =>
    intro i R hq hj hL
    simp only [List.length_cons] at hj
    obtain ⟨hi, hx, hq⟩ := dropS hq
    obtain ⟨R1, g1, g2, g3, g4⟩ := rp_l3 g hn ha hc hbest hf (i := i) (by omega) m 0 R rfl (by omega) hL
    rw [impl_rowPrices_l2, hx, g1]
    simp only [bs]
    obtain ⟨R', e1, e2, e3, e4⟩ := ih (i + 1) R1 hq (by omega) g2
    refine ⟨R', e1, e2, fun p hp => Int.le_trans (e3 p hp) (g3 p hp), fun l p y hl hy => ?_⟩
    obtain ⟨s1, s2, _, _⟩ := stepm_some g hn hy
    by_cases e : l = i
    · subst e
      exact Int.le_trans (e3 p s2) (g4 p y (by omega) hy)
    · have := e4 l p y (by omega) hy
      have := g3 l s1
      omega
theorem rp_l1 {c : List (List Int)} (hf : Aft n 2000000 (stL m n a) n c) (q : List (List Int)) : ∀ j t R, Low c n R → (∀ i p, i < n → p < n → ple (some (nth R p)) (cs n (stepm m n a) t i p)) →
    ∃ R', impl_rowPrices_l1 m a q j R = some R' ∧ Low c n R' ∧ ∀ i p, i < n → p < n → ple (some (nth R' p)) (cs n (stepm m n a) (t + q.length) i p) := by
  obtain ⟨k1, k2⟩ := comps_ok ha
  induction q with
  | nil => intro j t R hL h; exact ⟨R, rfl, hL, h⟩
  | cons x q ih =>
    intro j t R hL h
    obtain ⟨R1, g1, g2, g3, g4⟩ := rp_l2 g hn ha hc hbest hf a 0 R rfl (by omega) hL
    rw [impl_rowPrices_l1, g1]
    simp only [bs]
    obtain ⟨R', e1, e2, e3⟩ := ih (j + 1) (t + 1) R1 g2 (fun i p hi hp => by
      rcases cs_or (n := n) (m := stepm m n a) t i p with e | ⟨l, hl, e⟩
      · rw [e]
        exact ple_trans (show ple (some (nth R1 p)) (some (nth R p)) from g3 p hp) (h i p hi hp)
      · rw [e]
        have hl2 := h i l hi hl
        cases hs : stepm m n a l p with
        | none => rw [padd_none]; exact ple_none _
        | some x =>
          cases hy : cs n (stepm m n a) t i l with
          | none => exact ple_none _
          | some y =>
            rw [hy] at hl2
            have hl2 : nth R l ≤ y := hl2
            have := g4 l p x (by omega) hs
            show nth R1 p ≤ y + x
            omega)
    exact ⟨R', e1, e2, by rw [List.length_cons, show t + (q.length + 1) = t + 1 + q.length by omega]; exact e3⟩
theorem rowPrices_eq {o : List (List Int)} {cc : Int} (hs : spec_asBest_m m = some (o, cc)) (ho : o[0]? = some a) : ∃ R, spec_asRows_m m = some (R, a) ∧ impl_rowPrices_m m a = some R ∧ R.length = n ∧ ∀ p, p < n → -14000000 ≤ nth R p ∧ nth R p ≤ 0 := by
  have h6 := g.chi
  have hlo := g.clo
  obtain ⟨c, b, h1, hf⟩ := wyCosts_aft (m := stL m n a) (D := 2000000) (stL_shape g hn ha hc hbest) (stL_wi g hn ha hc hbest) (by omega) (by omega) h6 (by omega)
  have e1 := asRows_l1_eq g hn ha hc hbest m 0 [] rfl (by omega) (by simp)
  have e2 := asRows_l3_eq g hn ha hc hbest (b := b) hf.sh m 0 [] (by omega) (by simp)
  rw [List.nil_append, hn] at e1 e2
  obtain ⟨R, k1, k2, k3⟩ := rp_l1 g hn ha hc hbest hf m 0 0 (List.replicate n 0) ⟨by simp, fun p hp => by
    have := uF_rng g hn ha hc hbest hf hp
    rw [show nth (List.replicate n (0 : Int)) p = 0 by simp [nth, hp]]
    omega⟩ (fun i p hi hp => by
    rw [show nth (List.replicate n (0 : Int)) p = 0 by simp [nth, hp]]
    simp only [cs, startF]
    split
    · exact ple_refl _
    · exact ple_none _)
  rw [Nat.zero_add, hn] at k3
  have hR : R = (List.range' 0 n).map (uF c n) := by
    apply List.ext_getElem (by simpa using k2.len)
    intro p h1 h2
    have hp : p < n := by rw [← k2.len]; exact h1
    have hl := k2.low p hp
    have e : nth R p = R[p] := by simp [nth, h1]
    simp only [List.getElem_map, List.getElem_range', Nat.zero_add, Nat.one_mul]
    rw [← e]
    refine Int.le_antisymm ?_ hl.1
    rcases fI_or (fun j => En c j p) n 0 0 with e | ⟨l, _, h1, h2⟩
    · unfold uF; omega
    · have h0 := fI_le0 (fun j => En c j p) n 0 0
      have := k3 l p (by omega) hp
      rw [← stL_A g hn ha hc hbest, ← hf.eq l p (by omega) hp, A_in (by omega) hp] at this
      rw [h2] at h0
      unfold conv at this
      rw [if_neg (by omega)] at this
      have : nth R p ≤ En c l p := this
      unfold uF
      rw [h2]
      exact this
  refine ⟨R, ?_, ?_, k2.len, fun p hp => ?_⟩
  · unfold spec_asRows_m
    rw [hs]
    simp only [bs]
    rw [idx_first ho]
    simp only [bs]
    rw [e1]
    simp only [bs]
    rw [show (List.range' 0 n).map (fun i => (List.range' 0 n).map fun k => stE m a i k) = stL m n a from rfl, h1]
    simp only [bs]
    rw [e2, hR]
    rfl
  · unfold impl_rowPrices_m
    rw [hn, guardO_t (decide_eq_true (by omega)), show ((n : Int)).toNat = n by omega]
    simp only [bs]
    rw [k1]
    rfl
  · have := k2.low p hp
    have := uF_rng g hn ha hc hbest hf hp
    omega
theorem cp_eq {R : List Int} (hR : R.length = n) (hb : ∀ p, p < n → -14000000 ≤ nth R p ∧ nth R p ≤ 0) (y : Int) (bb : Bool) : ∀ (d j : Nat) (l : List Int), j + d = n → l.length = n → (∀ x ∈ l, -100000000 ≤ x ∧ x ≤ 100000000) →
    ∃ r, spec_ColumnPrices_l1 m (R, a) (a.drop j) j l = some r ∧ impl_ColumnPrices_l1 m (y, a, bb) (R.drop j) j l = some r ∧ r.length = n ∧ ∀ x ∈ r, -100000000 ≤ x ∧ x ≤ 100000000 := by
  have sh : Shape m n n := ⟨hn, g.row⟩
  obtain ⟨k1, k2⟩ := comps_ok ha
  intro d
  induction d with
  | zero =>
    intro j l hj hl hx
    rw [List.drop_eq_nil_of_le (by omega), List.drop_eq_nil_of_le (by omega)]
    exact ⟨l, rfl, rfl, hl, hx⟩
  | succ d ih =>
    intro j l hj hl hx
    have hjn : j < n := by omega
    have h1 := col_in g hn ha hc hbest j hjn
    have h3 := en_rng g hn ha hc hbest j j hjn hjn
    have hbj := hb j hjn
    have ea : a[j]'(by omega) = nth a j := by simp [nth, show j < a.length by omega]
    have eR : R[j]'(by omega) = nth R j := by simp [nth, show j < R.length by omega]
    rw [drop_cons (show j < a.length by omega), drop_cons (show j < R.length by omega), ea, eR, spec_ColumnPrices_l1, impl_ColumnPrices_l1, sh.idx hjn, idx_nth (show j < R.length by omega), idx_nth (show j < a.length by omega)]
    simp only [bs]
    rw [idx_int h1.1 (by rw [sh.nth_len hjn]; exact h1.2.1)]
    simp only [bs]
    rw [show nth (nthM m j) (nth a j).toNat = En m j (nth a j).toNat from rfl, ck_in (by omega) (by omega)]
    simp only [bs]
    rw [idx_int h1.1 (by rw [hl]; exact h1.2.1)]
    simp only [bs]
    obtain ⟨z, hz⟩ := Int.eq_ofNat_of_zero_le h1.1
    rw [hz, upd_nat (by omega)]
    simp only [bs]
    exact ih (j + 1) _ (by omega) (by simpa using hl) (fun x hx' => by
      rcases List.mem_or_eq_of_mem_set hx' with h | h
      · exact hx x h
      · rw [hz] at h1 h3
        rw [h]
        omega)
end
theorem all_num {l : List Int} (h : ∀ x ∈ l, x ≤ 100000000) : l.all num = l.all fun n => inR n (-1000000) 1000000 := by
  rw [Bool.eq_iff_iff, List.all_eq_true, List.all_eq_true]
  refine forall_congr' fun x => forall_congr' fun hx => ?_
  have := h x hx
  rw [num_iff, inR_iff]
  omega
theorem RowPrices_both (m : List (List Int)) : ∃ r, spec_RowPrices_m m = some r ∧ impl_RowPrices_m m = some r ∧ Small r.1 := by
  unfold spec_RowPrices_m impl_RowPrices_m
  cases hs : sqr m with
  | false => rw [asAsked_no hs, bestAsked_no hs]; exact ⟨_, rfl, rfl, by simp [Small]⟩
  | true =>
    have g := sqr_good hs
    have h6 := g.chi
    have hlo := g.clo
    rw [asAsked_eq g rfl hs, bestAsked_eq g rfl hs]
    simp only [bs]
    rcases opt g rfl with ⟨h1, h2⟩ | ⟨f, o, c, h1, h2, h3, h4, h5, h6', h7, h8, h9, h10⟩
    · rw [h1, h2]; exact ⟨_, rfl, rfl, by simp [Small]⟩
    have hfl := (comps_ok h5).1
    obtain ⟨R, k1, k2, k3, k4⟩ := rowPrices_eq g rfl h5 (by omega) (fun x hx => by have := h10 x hx; omega) h2 h4
    rw [decide_eq_true h1, h3, k1]
    simp only [Bool.not_true, cF, bs]
    rw [decide_eq_true (show (f.length : Int) > 0 by omega), k2]
    simp only [Bool.not_true, cF, bs, l1All_eq, toldList_eq]
    rw [all_num (fun x hx => by
      obtain ⟨i, hi, rfl⟩ := List.getElem_of_mem hx
      have := k4 i (by omega)
      have e : nth R i = R[i] := by simp [nth, hi]
      omega)]
    cases R.all fun n => inR n (-1000000) 1000000
    · exact ⟨_, rfl, rfl, by simp [Small]⟩
    · exact ⟨_, rfl, rfl, by unfold Small; simp only []; omega⟩
theorem ColumnPrices_both (m : List (List Int)) : ∃ r, spec_ColumnPrices_m m = some r ∧ impl_ColumnPrices_m m = some r ∧ Small r.1 := by
  unfold spec_ColumnPrices_m impl_ColumnPrices_m
  cases hs : sqr m with
  | false => rw [asAsked_no hs, bestAsked_no hs]; exact ⟨_, rfl, rfl, by simp [Small]⟩
  | true =>
    have g := sqr_good hs
    have h6 := g.chi
    have hlo := g.clo
    rw [asAsked_eq g rfl hs, bestAsked_eq g rfl hs]
    simp only [bs]
    rcases opt g rfl with ⟨h1, h2⟩ | ⟨f, o, c, h1, h2, h3, h4, h5, h6', h7, h8, h9, h10⟩
    · rw [h1, h2]; exact ⟨_, rfl, rfl, by simp [Small]⟩
    have hfl := (comps_ok h5).1
    have hne : cst m f ≠ 1000000000 := by omega
    have hb : ∀ x ∈ comps m.length m.length [], cst m f ≤ cst m x := fun x hx => by have := h10 x hx; omega
    obtain ⟨R, k1, k2, k3, k4⟩ := rowPrices_eq g rfl h5 hne hb h2 h4
    rw [decide_eq_true h1, h3, k1]
    simp only [Bool.not_true, cF, bs]
    rw [decide_eq_true (show (f.length : Int) > 0 by omega), guardO_t (decide_eq_true (by omega)), k2]
    simp only [Bool.not_true, cF, bs]
    rw [show ((m.length : Int)).toNat = m.length by omega]
    obtain ⟨r, e1, e2, e3, e4⟩ := cp_eq g rfl h5 hne hb k3 k4 c true m.length 0 (List.replicate m.length 0) (by omega) (by simp) (fun x hx => by
      have := List.eq_of_mem_replicate hx; omega)
    rw [List.drop_zero] at e1 e2
    rw [e1, e2]
    simp only [Bool.not_true, cF, bs, l1All_eq, toldList_eq]
    rw [all_num (fun x hx => (e4 x hx).2)]
    cases r.all fun n => inR n (-1000000) 1000000
    · exact ⟨_, rfl, rfl, by simp [Small]⟩
    · exact ⟨_, rfl, rfl, by unfold Small; simp only []; omega⟩
end Go.Proofs.Ytnnhbkhlipekeaa
