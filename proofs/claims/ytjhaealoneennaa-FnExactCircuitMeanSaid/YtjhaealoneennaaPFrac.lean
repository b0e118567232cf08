/- Plain laws: fractions in lowest terms, their order. -/
import Derived.Test.YtjhaealoneennaaFracM
import Derived.Test.YtjhaealoneennaaLfM
import Derived.Test.YtjhaealoneennaaPPerm
namespace Go.Proofs.Ytjhaealoneennaa
set_option linter.unusedVariables false
set_option linter.unusedSimpArgs false

theorem gcd_step (a b : Int) : Int.gcd b (a.tmod b) = Int.gcd a b := by
  rw [Int.gcd_comm a b]
  unfold Int.gcd
  rw [Int.natAbs_tmod, Nat.gcd_comm b.natAbs (a.natAbs % b.natAbs), ← Nat.gcd_rec]
theorem impl_gcd_l1_eq : ∀ (k : Nat) (a b : Int), b.natAbs < k → ∃ r, impl_gcd_l1 k a b = some r ∧ r.natAbs = Int.gcd a b ∧ (0 ≤ a → 0 ≤ b → 0 ≤ r) := by
  intro k
  induction k with
  | zero => intro a b h; omega
  | succ k ih =>
    intro a b h
    rw [impl_gcd_l1]
    by_cases hb : b = 0
    · subst hb
      exact ⟨a, rfl, by simp, fun h _ => h⟩
    · rw [show (b != 0) = true by simp [hb]]
      simp only [cT]
      unfold remO
      rw [show (b == 0) = false by simp [hb]]
      simp only [cF, bs]
      have hlt : (a.tmod b).natAbs < k := by
        have := Int.natAbs_tmod a b
        have := Nat.mod_lt a.natAbs (show b.natAbs > 0 by omega)
        omega
      obtain ⟨r, h1, h2, h3⟩ := ih b (a.tmod b) hlt
      exact ⟨r, h1, by rw [h2, gcd_step], fun ha hb' => h3 hb' (Int.tmod_nonneg b ha)⟩
theorem frGcd_l1_eq : ∀ (k : Nat) (a b : Int), b.natAbs < k → ∃ r, spec_frGcd_l1 k a b = some r ∧ r.natAbs = Int.gcd a b := by
  intro k
  induction k with
  | zero => intro a b h; omega
  | succ k ih =>
    intro a b h
    rw [spec_frGcd_l1]
    by_cases hb : b = 0
    · subst hb
      exact ⟨a, rfl, by simp⟩
    · rw [show (b != 0) = true by simp [hb]]
      simp only [cT]
      unfold remO
      rw [show (b == 0) = false by simp [hb]]
      simp only [cF, bs]
      have hlt : (a.tmod b).natAbs < k := by
        have := Int.natAbs_tmod a b
        have := Nat.mod_lt a.natAbs (show b.natAbs > 0 by omega)
        omega
      obtain ⟨r, h1, h2⟩ := ih b (a.tmod b) hlt
      exact ⟨r, h1, by rw [h2, gcd_step]⟩
theorem abs_eq {n : Int} (h : -9223372036854775807 ≤ n) (h' : n ≤ 9223372036854775807) : impl_abs_m n = some (n.natAbs : Int) := by
  unfold impl_abs_m
  rw [ck_in (by omega) (by omega)]
  simp only [bs]
  congr 1
  omega
theorem l1Abs_eq {n : Int} (h : -9223372036854775807 ≤ n) (h' : n ≤ 9223372036854775807) : spec_l1Abs_m n = some (n.natAbs : Int) := by
  unfold spec_l1Abs_m spec_l1Most_m
  rw [ck_in (by omega) (by omega)]
  simp only [bs]
  by_cases c : n > -n
  · rw [decide_eq_true c]; simp only [cT, bs]; congr 1; omega
  · rw [decide_eq_false c]; simp only [cF, bs]; congr 1; omega
theorem gcd_le {a b : Int} (hb : b ≠ 0) : Int.gcd a b ≤ b.natAbs := Nat.gcd_le_right _ (by omega)
/-- The greatest common divisor of a number and a small one. -/
theorem impl_gcd_eq {a b : Int} (ha : -1000000000000 ≤ a) (ha' : a ≤ 1000000000000) (hb : -3000000 ≤ b) (hb' : b ≤ 3000000) : impl_gcd_m a b = some (Int.gcd a b : Int) := by
  unfold impl_gcd_m
  rw [abs_eq (by omega) (by omega), abs_eq (by omega) (by omega)]
  simp only [bs]
  obtain ⟨r, h1, h2, h3⟩ := impl_gcd_l1_eq 4000000 (a.natAbs : Int) (b.natAbs : Int) (by omega)
  rw [h1]
  simp only [bs]
  have := h3 (by omega) (by omega)
  have e : Int.gcd (a.natAbs : Int) (b.natAbs : Int) = Int.gcd a b := by unfold Int.gcd; simp
  congr 1
  omega
theorem frGcd_eq {a b : Int} (ha : -1000000000000 ≤ a) (ha' : a ≤ 1000000000000) (hb : -3000000 ≤ b) (hb' : b ≤ 3000000) : spec_frGcd_m a b = some (Int.gcd a b : Int) := by
  unfold spec_frGcd_m
  obtain ⟨r, h1, h2⟩ := frGcd_l1_eq 4000000 a b (by omega)
  rw [h1]
  simp only [bs]
  have hg : Int.gcd a b ≤ 1000000000000 := by
    by_cases e : b = 0
    · subst e; simp; omega
    · have := gcd_le (a := a) e; omega
  rw [l1Abs_eq (by omega) (by omega)]
  simp only [bs]
  congr 1
  omega
/-- The fraction n / d in lowest terms. -/
def low (n d : Int) : Int × Int := (n.tdiv (Int.gcd n d), d.tdiv (Int.gcd n d))
theorem quoO_eq {m n : Int} (hn : n ≠ 0) (h0 : -9000000000000000000 ≤ m) (h1 : m ≤ 9000000000000000000) : quoO m n = some (m.tdiv n) := by
  unfold quoO
  rw [show (n == 0) = false by simp [hn]]
  simp only [cF]
  have h2 := Int.natAbs_tdiv_le_natAbs m n
  exact ck_in (by omega) (by omega)
theorem gcd_pos' {n d : Int} (hd : 0 < d) : 0 < Int.gcd n d := Int.gcd_pos_iff.2 (.inr (by omega))
theorem lowest_eq {n d : Int} (h0 : -1000000000000 ≤ n) (h1 : n ≤ 1000000000000) (hd : 1 ≤ d) (hd' : d ≤ 3000000) : impl_lowest_m n d = some (low n d) := by
  unfold impl_lowest_m
  rw [impl_gcd_eq h0 h1 (by omega) hd']
  simp only [bs]
  rw [decide_eq_false (by omega)]
  simp only [cF, bs]
  have := gcd_pos' (n := n) (d := d) (by omega)
  rw [quoO_eq (by omega) (by omega) (by omega), quoO_eq (by omega) (by omega) (by omega)]
  rfl
theorem low_spec {n d : Int} (hd : 1 ≤ d) : 1 ≤ (low n d).2 ∧ (low n d).2 ≤ d ∧ (low n d).1.natAbs ≤ n.natAbs ∧ Int.gcd (low n d).1 (low n d).2 = 1 ∧ (low n d).1 * d = n * (low n d).2 := by
  have hg := gcd_pos' (n := n) (d := d) (by omega)
  obtain ⟨x, hx⟩ := Int.gcd_dvd_left (a := n) (b := d)
  obtain ⟨y, hy⟩ := Int.gcd_dvd_right (a := n) (b := d)
  have e1 : (low n d).1 = x := by
    unfold low
    simp only []
    conv => lhs; arg 1; rw [hx]
    exact Int.mul_tdiv_cancel_left _ (by omega)
  have e2 : (low n d).2 = y := by
    unfold low
    simp only []
    conv => lhs; arg 1; rw [hy]
    exact Int.mul_tdiv_cancel_left _ (by omega)
  rw [e1, e2]
  generalize hG : Int.gcd n d = G at *
  have hGi : (1 : Int) ≤ (G : Int) := by omega
  have hy1 : 1 ≤ y := by
    rcases Int.lt_or_le y 1 with h | h
    · have : (G : Int) * y ≤ 0 := Int.mul_nonpos_of_nonneg_of_nonpos (by omega) (by omega)
      omega
    · exact h
  refine ⟨hy1, ?_, ?_, ?_, ?_⟩
  · rw [hy]
    have := Int.mul_le_mul_of_nonneg_right hGi (show 0 ≤ y by omega)
    omega
  · rw [hx, Int.natAbs_mul]
    exact Nat.le_mul_of_pos_left _ (by omega)
  · have h := Int.gcd_mul_left (G : Int) x y
    rw [← hx, ← hy, hG] at h
    simp only [Int.natAbs_natCast] at h
    have h2 : G * 1 = G * Int.gcd x y := by omega
    exact (Nat.eq_of_mul_eq_mul_left (by omega) h2).symm
  · rw [hx, hy]
    simp only [Int.mul_comm, Int.mul_left_comm]
theorem frGood_low {n d : Int} (h0 : -1000000000 ≤ n) (h1 : n ≤ 1000000000) (hd : 1 ≤ d) (hd' : d ≤ 3000000) : spec_frGood_m (low n d).1 (low n d).2 = some true := by
  obtain ⟨a1, a2, a3, a4, _⟩ := low_spec (n := n) hd
  unfold spec_frGood_m
  rw [l1In_eq, l1In_eq, frGcd_eq (by omega) (by omega) (by omega) (by omega), a4]
  simp only [bs]
  rw [(inR_iff' _ _ _).2 ⟨a1, by omega⟩, (inR_iff' _ _ _).2 ⟨by omega, by omega⟩]
  rfl
where
  inR_iff' (n lo hi : Int) : inR n lo hi = true ↔ lo ≤ n ∧ n ≤ hi := by simp [inR]
theorem isFrac_low {n d : Int} (h0 : -1000000000 ≤ n) (h1 : n ≤ 1000000000) (hd : 1 ≤ d) (hd' : d ≤ 3000000) : impl_isFrac_m (low n d).1 (low n d).2 = some true := by
  obtain ⟨a1, a2, a3, a4, _⟩ := low_spec (n := n) hd
  unfold impl_isFrac_m
  rw [within_eq, within_eq, impl_gcd_eq (by omega) (by omega) (by omega) (by omega), a4]
  simp only [bs]
  rw [(inR_iff' _ _ _).2 ⟨a1, by omega⟩, (inR_iff' _ _ _).2 ⟨by omega, by omega⟩]
  rfl
where
  inR_iff' (n lo hi : Int) : inR n lo hi = true ↔ lo ≤ n ∧ n ≤ hi := by simp [inR]
theorem frMake_eq {n d : Int} (h0 : -1000000000 ≤ n) (h1 : n ≤ 1000000000) (hd : 1 ≤ d) (hd' : d ≤ 3000000) : spec_frMake_m n d = some ((low n d).1, (low n d).2, true) := by
  unfold spec_frMake_m
  rw [show (d == 0) = false by simp; omega, frGcd_eq (by omega) (by omega) (by omega) hd', decide_eq_false (show ¬ d < 0 by omega)]
  simp only [cF, bs]
  have := gcd_pos' (n := n) (d := d) (by omega)
  rw [quoO_eq (by omega) (by omega) (by omega), quoO_eq (by omega) (by omega) (by omega)]
  simp only [bs]
  have := frGood_low h0 h1 hd hd'
  unfold low at this
  simp only [] at this
  rw [this]
  rfl
theorem toldFrac_low {n d : Int} (h0 : -1000000000 ≤ n) (h1 : n ≤ 1000000000) (hd : 1 ≤ d) (hd' : d ≤ 3000000) : impl_toldFrac_m (low n d).1 (low n d).2 = some ((low n d).1, (low n d).2, true) := by
  unfold impl_toldFrac_m
  rw [isFrac_low h0 h1 hd hd']
  rfl
/-- One fraction is less than another. -/
def ltF (p q : Int × Int) : Bool := decide (p.1 * q.2 - q.1 * p.2 < 0)
/-- Parts that are small enough to be compared. -/
def SmF (p : Int × Int) : Prop := (-1000000000 ≤ p.1 ∧ p.1 ≤ 1000000000) ∧ 0 ≤ p.2 ∧ p.2 ≤ 3000000
theorem mul_bd {a b : Int} (h0 : -1000000000 ≤ a) (h1 : a ≤ 1000000000) (h2 : 0 ≤ b) (h3 : b ≤ 3000000) : -3000000000000000 ≤ a * b ∧ a * b ≤ 3000000000000000 := by
  have h4 : a * b ≤ 1000000000 * b := Int.mul_le_mul_of_nonneg_right h1 h2
  have h5 : -1000000000 * b ≤ a * b := Int.mul_le_mul_of_nonneg_right h0 h2
  omega
theorem compare_eq {p q : Int × Int} (hp : SmF p) (hq : SmF q) : ∃ r, impl_Frac_compare_m p.1 p.2 q.1 q.2 = some r ∧ decide (r < 0) = ltF p q := by
  have m1 := mul_bd hp.1.1 hp.1.2 hq.2.1 hq.2.2
  have m2 := mul_bd hq.1.1 hq.1.2 hp.2.1 hp.2.2
  unfold impl_Frac_compare_m ltF
  rw [ck_in (by omega) (by omega), ck_in (by omega) (by omega)]
  simp only [bs]
  rw [ck_in (by omega) (by omega)]
  simp only [bs]
  by_cases c : p.1 * q.2 - q.1 * p.2 < 0
  · rw [decide_eq_true c]; exact ⟨_, rfl, rfl⟩
  · rw [decide_eq_false c]
    simp only [cF]
    by_cases c2 : p.1 * q.2 - q.1 * p.2 > 0
    · rw [decide_eq_true c2]; exact ⟨_, rfl, rfl⟩
    · rw [decide_eq_false c2]; exact ⟨_, rfl, rfl⟩
theorem frCmp_eq {p q : Int × Int} (hp : SmF p) (hq : SmF q) : ∃ r, spec_frCmp_m p.1 p.2 q.1 q.2 = some r ∧ decide (r < 0) = ltF p q := by
  have m1 := mul_bd hp.1.1 hp.1.2 hq.2.1 hq.2.2
  have m2 := mul_bd hq.1.1 hq.1.2 hp.2.1 hp.2.2
  unfold spec_frCmp_m spec_l1Sign_m ltF
  rw [ck_in (by omega) (by omega), ck_in (by omega) (by omega)]
  simp only [bs]
  rw [ck_in (by omega) (by omega)]
  simp only [bs]
  by_cases c2 : p.1 * q.2 - q.1 * p.2 > 0
  · rw [decide_eq_true c2, decide_eq_false (show ¬ p.1 * q.2 - q.1 * p.2 < 0 by omega)]; exact ⟨_, rfl, rfl⟩
  · rw [decide_eq_false c2]
    simp only [cF]
    by_cases c : p.1 * q.2 - q.1 * p.2 < 0
    · rw [decide_eq_true c]; exact ⟨_, rfl, rfl⟩
    · rw [decide_eq_false c]; exact ⟨_, rfl, rfl⟩
theorem eqFrac_self (a b : Int) : laws_eqFrac_m a b a b = some true := by
  unfold laws_eqFrac_m
  simp
end Go.Proofs.Ytjhaealoneennaa
