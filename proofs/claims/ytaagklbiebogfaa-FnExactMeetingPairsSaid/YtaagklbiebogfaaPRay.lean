/- Plain laws: stars of rays, and how often they meet. -/
import Derived.Test.YtaagklbiebogfaaRay1M
import Derived.Test.YtaagklbiebogfaaPFrac
import Derived.Test.YtaagklbiebogfaaPBas
namespace Go.Proofs.Ytaagklbiebogfaa
set_option linter.unusedVariables false
set_option linter.unusedSimpArgs false
set_option linter.unusedSectionVars false

/-! ### Rays -/
theorem stCommon_l1_eq : ∀ (k : Nat) (a b : Int), 0 ≤ a → 0 ≤ b → b.natAbs < k → spec_stCommon_l1 k a b = some (Int.gcd a b : Int) := by
  intro k
  induction k with
  | zero => intro a b _ _ h; omega
  | succ k ih =>
    intro a b ha hb h
    rw [spec_stCommon_l1]
    by_cases h0 : b = 0
    · subst h0
      rw [decide_eq_false (by omega)]
      simp only [cF, Int.gcd_zero_right]
      congr 1
      omega
    · rw [decide_eq_true (show b > 0 by omega)]
      simp only [cT]
      unfold remO
      rw [show (b == 0) = false by simp [h0]]
      simp only [cF, bs]
      have hlt : (a.tmod b).natAbs < k := by
        have := Int.natAbs_tmod a b
        have := Nat.mod_lt a.natAbs (show b.natAbs > 0 by omega)
        omega
      rw [ih b (a.tmod b) hb (Int.tmod_nonneg b ha) hlt, gcd_step]
theorem stCommon_eq {a b : Int} (ha : 0 ≤ a) (hb : 0 ≤ b) (hb' : b ≤ 3000000) : spec_stCommon_m a b = some (Int.gcd a b : Int) := by
  unfold spec_stCommon_m
  rw [stCommon_l1_eq 4000000 a b ha hb (by omega)]
  rfl
def rayB (x y w : Int) : Bool := inR x (-20) 20 && inR y (-20) 20 && (((Int.gcd x y : Nat) : Int) == 1) && inR w 1 20
structure RayP (x : Y3) : Prop where
  a0 : -20 ≤ x.1
  a1 : x.1 ≤ 20
  b0 : -20 ≤ x.2.1
  b1 : x.2.1 ≤ 20
  w0 : 1 ≤ x.2.2
  w1 : x.2.2 ≤ 20
theorem rayB_P {x : Y3} (h : rayB x.1 x.2.1 x.2.2 = true) : RayP x := by
  unfold rayB at h
  simp only [Bool.and_eq_true] at h
  obtain ⟨⟨⟨h1, h2⟩, _⟩, h3⟩ := h
  have h1 := (inR_iff _ _ _).1 h1
  have h2 := (inR_iff _ _ _).1 h2
  have h3 := (inR_iff _ _ _).1 h3
  exact ⟨h1.1, h1.2, h2.1, h2.2, h3.1, h3.2⟩
theorem stRay_eq (x y w : Int) : spec_stRay_m x y w = some (rayB x y w) := by
  unfold spec_stRay_m rayB
  simp only [l1In_eq, bs]
  cases hx : inR x (-20) 20
  · simp only [cF, bs, Bool.false_and]
  cases hy : inR y (-20) 20
  · simp only [cT, cF, bs, Bool.false_and, Bool.and_false]
  have hx := (inR_iff _ _ _).1 hx
  have hy := (inR_iff _ _ _).1 hy
  have e : Int.gcd (x.natAbs : Int) (y.natAbs : Int) = Int.gcd x y := by unfold Int.gcd; simp
  simp only [cT, bs]
  rw [l1Abs_eq (by omega) (by omega), l1Abs_eq (by omega) (by omega)]
  simp only [bs]
  rw [stCommon_eq (by omega) (by omega) (by omega), e]
  simp only [bs, Bool.true_and]
  cases ((Int.gcd x y : Nat) : Int) == 1 <;> rfl
theorem isRay_eq (x y w : Int) : impl_isRay_m x y w = some (rayB x y w) := by
  unfold impl_isRay_m impl_areSteps_m rayB
  simp only [within_eq, bs]
  cases hx : inR x (-20) 20
  · simp only [cF, bs, Bool.false_and]
  cases hy : inR y (-20) 20
  · simp only [cT, cF, bs, Bool.false_and, Bool.and_false]
  have hx := (inR_iff _ _ _).1 hx
  have hy := (inR_iff _ _ _).1 hy
  simp only [cT, bs, Bool.true_and]
  by_cases h0 : x = 0
  · by_cases h1 : y = 0
    · subst h0; subst h1
      rfl
    · rw [show (x != 0) = false by simp [h0], show (y != 0) = true by simp [h1]]
      simp only [cT, cF, bs]
      rw [impl_gcd_eq (by omega) (by omega) (by omega) (by omega)]
      simp only [bs]
      cases ((Int.gcd x y : Nat) : Int) == 1 <;> rfl
  · rw [show (x != 0) = true by simp [h0]]
    simp only [cT, bs]
    rw [impl_gcd_eq (by omega) (by omega) (by omega) (by omega)]
    simp only [bs]
    cases ((Int.gcd x y : Nat) : Int) == 1 <;> rfl
def befB (a b : Y3) : Bool := decide (a.1 < b.1) || (a.1 == b.1 && decide (a.2.1 < b.2.1))
theorem stBefore_eq (a b : Y3) : spec_stBefore_m a.1 a.2.1 a.2.2 b.1 b.2.1 b.2.2 = some (befB a b) := by
  unfold spec_stBefore_m befB
  cases decide (a.1 < b.1)
  · cases a.1 == b.1 <;> rfl
  · rfl
theorem compareRays_eq {a b : Y3} (ha : RayP a) (hb : RayP b) : ∃ r, impl_compareRays_m a.1 a.2.1 a.2.2 b.1 b.2.1 b.2.2 = some r ∧ decide (r ≥ 0) = !befB a b := by
  have := ha.a0; have := ha.a1; have := ha.b0; have := ha.b1
  have := hb.a0; have := hb.a1; have := hb.b0; have := hb.b1
  unfold impl_compareRays_m impl_Ray_steps_m impl_comparePoints_m befB
  simp only [bs]
  by_cases e : a.1 = b.1
  · rw [show (a.1 != b.1) = false by simp [e], show (a.1 == b.1) = true by simp [e]]
    rw [ck_in (n := a.2.1 - b.2.1) (by omega) (by omega)]
    simp only [cF, bs]
    refine ⟨_, rfl, ?_⟩
    rw [decide_eq_false (show ¬ a.1 < b.1 by omega)]
    by_cases h : a.2.1 < b.2.1
    · rw [decide_eq_false (show ¬ a.2.1 - b.2.1 ≥ 0 by omega), decide_eq_true h]; rfl
    · rw [decide_eq_true (show a.2.1 - b.2.1 ≥ 0 by omega), decide_eq_false h]; rfl
  · rw [show (a.1 != b.1) = true by simp [e], show (a.1 == b.1) = false by simp [e]]
    rw [ck_in (n := a.1 - b.1) (by omega) (by omega)]
    simp only [cT, bs]
    refine ⟨_, rfl, ?_⟩
    by_cases h : a.1 < b.1
    · rw [decide_eq_false (show ¬ a.1 - b.1 ≥ 0 by omega), decide_eq_true h]; rfl
    · rw [decide_eq_true (show a.1 - b.1 ≥ 0 by omega), decide_eq_false h]; rfl

/-! ### Stars -/
theorem star_l1 (p : List Y3) (hs : p.length ≤ 1048576) (q : List Y3) : ∀ j, p.drop j = q → (∀ i x, i < j → p[i]? = some x → RayP x) →
    ∃ b : Bool, spec_stGood_l1 p q j = some (cond b (Sum.inr ()) (Sum.inl false)) ∧ impl_isStar_l1 p q j = some (cond b (Sum.inr ()) (Sum.inl false)) ∧ (b = true → ∀ x ∈ q, RayP x) := by
  induction q with
  | nil => intro j _ _; exact ⟨true, rfl, rfl, fun _ x h => by cases h⟩
  | cons x q ih =>
    intro j hd hp
    have hj := drop_lt hd
    rw [spec_stGood_l1, impl_isStar_l1, stRay_eq, isRay_eq]
    simp only [bs]
    cases hr : rayB x.1 x.2.1 x.2.2
    · exact ⟨false, rfl, rfl, fun h => by cases h⟩
    have hx := rayB_P hr
    have hxj : p[j]? = some x := by have := drop_idx hd; rwa [idx_nat] at this
    have hnext : ∀ i y, i < j + 1 → p[i]? = some y → RayP y := fun i y hi hy => by
      by_cases e : i = j
      · subst e; rw [hxj] at hy; cases hy; exact hx
      · exact hp i y (by omega) hy
    obtain ⟨b, h1, h2, h3⟩ := ih (j + 1) (drop_next hd) hnext
    have hall : b = true → ∀ y ∈ x :: q, RayP y := fun h y hy => by
      rcases List.mem_cons.1 hy with e | e
      · rw [e]; exact hx
      · exact h3 h y e
    simp only [Bool.not_true, cF]
    by_cases h0 : j = 0
    · subst h0
      simp only [Int.natCast_zero, show decide ((0 : Int) > 0) = false from rfl, cF, bs]
      exact ⟨b, h1, h2, hall⟩
    · rw [decide_eq_true (show (j : Int) > 0 by omega), ck_in (by omega) (by omega)]
      simp only [cT, bs]
      have hlt : j - 1 < p.length := by omega
      rw [show (j : Int) - 1 = ((j - 1 : Nat) : Int) by omega, idx_lt hlt]
      simp only [bs, stBefore_eq]
      obtain ⟨r, r1, r2⟩ := compareRays_eq (hp (j - 1) _ (by omega) (List.getElem?_eq_getElem hlt)) hx
      rw [r1]
      simp only [bs, r2]
      cases befB p[j - 1] x
      · exact ⟨false, rfl, rfl, fun h => by cases h⟩
      · exact ⟨b, h1, h2, hall⟩
theorem star_both (p : List Y3) (hs : p.length ≤ 1048576) : ∃ b : Bool, spec_stGood_m p = some b ∧ impl_isStar_m p = some b ∧ (b = true → p.length ≤ 10 ∧ ∀ x ∈ p, RayP x) := by
  obtain ⟨b, h1, h2, h3⟩ := star_l1 p hs p 0 rfl (fun i x h => by omega)
  unfold spec_stGood_m impl_isStar_m
  rw [h1, h2]
  simp only [bs]
  by_cases hl : p.length ≤ 10
  · rw [decide_eq_false (show ¬ (p.length : Int) > 10 by omega), decide_eq_true (show (p.length : Int) ≤ 10 by omega)]
    refine ⟨b, by cases b <;> rfl, by cases b <;> rfl, fun h => ⟨hl, h3 h⟩⟩
  · rw [decide_eq_true (show (p.length : Int) > 10 by omega), decide_eq_false (show ¬ (p.length : Int) ≤ 10 by omega)]
    exact ⟨false, by cases b <;> rfl, rfl, fun h => by cases h⟩
theorem mulY {a b A B : Int} (h0 : -A ≤ a) (h1 : a ≤ A) (h2 : -B ≤ b) (h3 : b ≤ B) : -(A * B) ≤ a * b ∧ a * b ≤ A * B := by
  have hA : 0 ≤ A := by omega
  have hB : 0 ≤ B := by omega
  have h : (a * b).natAbs ≤ A.natAbs * B.natAbs := by
    rw [Int.natAbs_mul]
    exact Nat.mul_le_mul (by omega) (by omega)
  have e : ((A.natAbs * B.natAbs : Nat) : Int) = A * B := by
    rw [Int.natCast_mul, Int.natAbs_of_nonneg hA, Int.natAbs_of_nonneg hB]
  constructor <;> omega
theorem sum_l1 (q : List Y3) : ∀ (j : Nat) (x y : Int), (∀ r ∈ q, RayP r) → -1000000000 + 400 * (q.length : Int) ≤ x → x ≤ 1000000000 - 400 * (q.length : Int) → -1000000000 + 400 * (q.length : Int) ≤ y → y ≤ 1000000000 - 400 * (q.length : Int) →
    ∃ X Y, spec_stSum_l1 q j x y = some (Y, X) ∧ impl_starSum_l1 q j x y = some (X, Y) := by
  induction q with
  | nil => intro j x y _ _ _ _ _; exact ⟨x, y, rfl, rfl⟩
  | cons r q ih =>
    intro j x y hq h0 h1 h2 h3
    have hr := hq r List.mem_cons_self
    simp only [List.length_cons] at h0 h1 h2 h3
    have := hr.w0; have := hr.w1
    have m1 := mulY (A := 20) (B := 20) (a := r.2.2) (b := r.1) (by omega) (by omega) hr.a0 hr.a1
    have m2 := mulY (A := 20) (B := 20) (a := r.2.2) (b := r.2.1) (by omega) (by omega) hr.b0 hr.b1
    rw [spec_stSum_l1, impl_starSum_l1]
    rw [ck_in (n := r.2.2 * r.1) (by omega) (by omega), ck_in (n := r.2.2 * r.2.1) (by omega) (by omega)]
    simp only [bs, impl_Point_plus_m]
    rw [ck_in (n := x + r.2.2 * r.1) (by omega) (by omega), ck_in (n := y + r.2.2 * r.2.1) (by omega) (by omega)]
    simp only [bs]
    exact ih (j + 1) _ _ (fun z hz => hq z (List.mem_cons_of_mem _ hz)) (by omega) (by omega) (by omega) (by omega)
theorem bal_both (p : List Y3) (hs : p.length ≤ 1048576) : ∃ b : Bool, spec_mtStar_m p = some b ∧ impl_isBalanced_m p = some b ∧ (b = true → p.length ≤ 10 ∧ ∀ x ∈ p, RayP x) := by
  obtain ⟨b, h1, h2, h3⟩ := star_both p hs
  unfold spec_mtStar_m impl_isBalanced_m spec_stBalanced_m spec_stSum_m impl_starSum_m
  rw [h1, h2]
  simp only [bs]
  cases b
  · exact ⟨false, rfl, rfl, fun h => by cases h⟩
  obtain ⟨hl, hr⟩ := h3 rfl
  obtain ⟨X, Y, s1, s2⟩ := sum_l1 p 0 0 0 hr (by omega) (by omega) (by omega) (by omega)
  rw [s1, s2]
  simp only [bs, cT]
  refine ⟨X == 0 && Y == 0, ?_, rfl, fun _ => ⟨hl, hr⟩⟩
  cases X == 0 <;> rfl

/-! ### Moves -/
theorem move_both (x y : Int) : ∃ b : Bool, spec_mtMove_m x y = some b ∧ impl_isMove_m x y = some b ∧ (b = true → -1000 ≤ x ∧ x ≤ 1000 ∧ -1000 ≤ y ∧ y ≤ 1000) := by
  unfold spec_mtMove_m impl_isMove_m
  simp only [l1In_eq, within_eq, bs]
  cases hx : inR x (-1000) 1000
  · exact ⟨false, rfl, rfl, fun h => by cases h⟩
  cases hy : inR y (-1000) 1000
  · exact ⟨false, rfl, rfl, fun h => by cases h⟩
  have hx := (inR_iff _ _ _).1 hx
  have hy := (inR_iff _ _ _).1 hy
  simp only [cT, bs]
  refine ⟨(x != 0) || (y != 0), ?_, ?_, fun _ => ⟨hx.1, hx.2, hy.1, hy.2⟩⟩ <;> cases x != 0 <;> rfl
theorem free_l1 {vx vy : Int} (h0 : -1000 ≤ vx) (h1 : vx ≤ 1000) (h2 : -1000 ≤ vy) (h3 : vy ≤ 1000) (q : List Y3) : ∀ j, (∀ r ∈ q, RayP r) →
    ∃ b : Bool, spec_mtFree_l1 vx vy q j = some (cond b (Sum.inr ()) (Sum.inl false)) ∧ impl_isGeneral_l1 vx vy q j = some (cond b (Sum.inr ()) (Sum.inl false)) := by
  induction q with
  | nil => intro j _; exact ⟨true, rfl, rfl⟩
  | cons r q ih =>
    intro j hq
    have hr := hq r List.mem_cons_self
    have m1 := mulY (A := 1000) (B := 20) h0 h1 hr.b0 hr.b1
    have m2 := mulY (A := 1000) (B := 20) h2 h3 hr.a0 hr.a1
    have e1 : r.1 * vy = vy * r.1 := Int.mul_comm _ _
    have e2 : r.2.1 * vx = vx * r.2.1 := Int.mul_comm _ _
    obtain ⟨b, k1, k2⟩ := ih (j + 1) (fun z hz => hq z (List.mem_cons_of_mem _ hz))
    rw [spec_mtFree_l1, impl_isGeneral_l1]
    simp only [impl_Ray_steps_m, impl_cross_m, bs, e1, e2]
    rw [ck_in (n := vx * r.2.1) (by omega) (by omega), ck_in (n := vy * r.1) (by omega) (by omega)]
    simp only [bs]
    rw [ck_in (n := vy * r.1 - vx * r.2.1) (by omega) (by omega)]
    simp only [bs]
    by_cases e : vx * r.2.1 = vy * r.1
    · rw [show (vx * r.2.1 == vy * r.1) = true by simp [e], show (vy * r.1 - vx * r.2.1 == 0) = true by simp; omega]
      exact ⟨false, rfl, rfl⟩
    · rw [show (vx * r.2.1 == vy * r.1) = false by simp [e], show (vy * r.1 - vx * r.2.1 == 0) = false by simp; omega]
      exact ⟨b, k1, k2⟩
theorem free_both {vx vy : Int} (h0 : -1000 ≤ vx) (h1 : vx ≤ 1000) (h2 : -1000 ≤ vy) (h3 : vy ≤ 1000) (q : List Y3) (hq : ∀ r ∈ q, RayP r) : ∃ b : Bool, spec_mtFree_m q vx vy = some b ∧ impl_isGeneral_m q vx vy = some b := by
  obtain ⟨b, k1, k2⟩ := free_l1 h0 h1 h2 h3 q 0 hq
  unfold spec_mtFree_m impl_isGeneral_m
  rw [k1, k2]
  exact ⟨b, by cases b <;> rfl, by cases b <;> rfl⟩

/-! ### Meetings -/
def sg (n : Int) : Int := max (-1) (min 1 n)
theorem l1Sign_eq (n : Int) : spec_l1Sign_m n = some (sg n) := by
  unfold spec_l1Sign_m sg
  by_cases h : n > 0
  · rw [decide_eq_true h]; simp only [cT]; congr 1; omega
  · rw [decide_eq_false h]
    by_cases h2 : n < 0
    · rw [decide_eq_true h2]; simp only [cT, cF]; congr 1; omega
    · rw [decide_eq_false h2]; simp only [cF]; congr 1; omega
theorem sign_eq (n : Int) : impl_sign_m n = some (sg n) := rfl
theorem det_eq {a b : Y3} (ha : RayP a) (hb : RayP b) : ∃ d, spec_mtDet_m a.1 a.2.1 a.2.2 b.1 b.2.1 b.2.2 = some d ∧ impl_cross_m a.1 a.2.1 b.1 b.2.1 = some d ∧ -800 ≤ d ∧ d ≤ 800 := by
  have m1 := mulY (A := 20) (B := 20) ha.a0 ha.a1 hb.b0 hb.b1
  have m2 := mulY (A := 20) (B := 20) ha.b0 ha.b1 hb.a0 hb.a1
  unfold spec_mtDet_m impl_cross_m
  rw [ck_in (n := a.1 * b.2.1) (by omega) (by omega), ck_in (n := a.2.1 * b.1) (by omega) (by omega)]
  simp only [bs]
  rw [ck_in (by omega) (by omega)]
  exact ⟨_, rfl, rfl, by omega, by omega⟩
theorem meets_both {a b : Y3} (ha : RayP a) (hb : RayP b) {vx vy : Int} (h0 : -1000 ≤ vx) (h1 : vx ≤ 1000) (h2 : -1000 ≤ vy) (h3 : vy ≤ 1000) :
    ∃ r : Bool, spec_mtMeets_m a.1 a.2.1 a.2.2 b.1 b.2.1 b.2.2 vx vy = some r ∧ impl_meets_m a.1 a.2.1 a.2.2 b.1 b.2.1 b.2.2 vx vy = some r := by
  obtain ⟨d, d1, d2, d3, d4⟩ := det_eq ha hb
  have m1 := mulY (A := 1000) (B := 20) h0 h1 hb.b0 hb.b1
  have m2 := mulY (A := 1000) (B := 20) h2 h3 hb.a0 hb.a1
  have m3 := mulY (A := 1000) (B := 20) h0 h1 ha.b0 ha.b1
  have m4 := mulY (A := 1000) (B := 20) h2 h3 ha.a0 ha.a1
  unfold spec_mtMeets_m impl_meets_m
  simp only [impl_Ray_steps_m, bs]
  rw [d1, d2]
  simp only [bs, l1Sign_eq, sign_eq, impl_cross_m]
  rw [ck_in (n := vx * b.2.1) (by omega) (by omega), ck_in (n := vy * b.1) (by omega) (by omega), ck_in (n := vx * a.2.1) (by omega) (by omega), ck_in (n := vy * a.1) (by omega) (by omega)]
  simp only [bs]
  rw [ck_in (n := vx * b.2.1 - vy * b.1) (by omega) (by omega), ck_in (n := vx * a.2.1 - vy * a.1) (by omega) (by omega)]
  simp only [bs, l1Sign_eq, sign_eq]
  cases sg d != 0
  · exact ⟨false, rfl, rfl⟩
  cases sg (vx * b.2.1 - vy * b.1) == sg d
  · exact ⟨false, rfl, rfl⟩
  exact ⟨_, rfl, rfl⟩
/-- Pairs of places in two lists. -/
def PairsIn (n m : Nat) (l : List (List Int)) : Prop := ∀ x ∈ l, ∃ i k : Nat, x = [(i : Int), (k : Int)] ∧ i < n ∧ k < m
section
variable {vx vy : Int} (h0 : -1000 ≤ vx) (h1 : vx ≤ 1000) (h2 : -1000 ≤ vy) (h3 : vy ≤ 1000)
include h0 h1 h2 h3
theorem pairs_l2 {n m i : Nat} (hi : i < n) {a : Y3} (ha : RayP a) (q : List Y3) : ∀ (j : Nat) (l : List (List Int)), (∀ r ∈ q, RayP r) → j + q.length ≤ m → l.length + q.length < 1000000 → PairsIn n m l →
    ∃ l', spec_mtPairs_l2 vx vy i a q j l = some l' ∧ impl_meetingPairs_l2 vx vy i a q j l = some l' ∧ l'.length ≤ l.length + q.length ∧ PairsIn n m l' := by
  induction q with
  | nil => intro j l _ _ _ hl; exact ⟨l, rfl, rfl, by simp, hl⟩
  | cons b q ih =>
    intro j l hq hj hl hp
    simp only [List.length_cons] at hj hl
    obtain ⟨r, r1, r2⟩ := meets_both ha (hq b List.mem_cons_self) h0 h1 h2 h3
    rw [spec_mtPairs_l2, impl_meetingPairs_l2, r1, r2]
    simp only [bs]
    cases r
    · obtain ⟨l', k1, k2, k3, k4⟩ := ih (j + 1) l (fun z hz => hq z (List.mem_cons_of_mem _ hz)) (by omega) (by omega) hp
      exact ⟨l', k1, k2, by simp only [List.length_cons]; omega, k4⟩
    · rw [app_lt (by omega)]
      simp only [cT, bs]
      obtain ⟨l', k1, k2, k3, k4⟩ := ih (j + 1) (l ++ [[(i : Int), (j : Int)]]) (fun z hz => hq z (List.mem_cons_of_mem _ hz)) (by omega) (by simp; omega) (fun x hx => by
        rcases List.mem_append.1 hx with h | h
        · exact hp x h
        · exact ⟨i, j, by simpa using h, hi, by omega⟩)
      exact ⟨l', k1, k2, by simp only [List.length_cons, List.length_append, List.length_nil] at *; omega, k4⟩
theorem pairs_l1 {n : Nat} (b : List Y3) (hb : ∀ r ∈ b, RayP r) (hbl : b.length ≤ 10) (q : List Y3) : ∀ (j : Nat) (l : List (List Int)), (∀ r ∈ q, RayP r) → j + q.length ≤ n → q.length ≤ 10 → l.length + 10 * q.length < 1000 → PairsIn n b.length l →
    ∃ l', spec_mtPairs_l1 b vx vy q j l = some l' ∧ impl_meetingPairs_l1 b vx vy q j l = some l' ∧ l'.length ≤ l.length + 10 * q.length ∧ PairsIn n b.length l' := by
  induction q with
  | nil => intro j l _ _ _ _ hl; exact ⟨l, rfl, rfl, by simp, hl⟩
  | cons a q ih =>
    intro j l hq hj hql hl hp
    simp only [List.length_cons] at hj hl hql
    obtain ⟨l', k1, k2, k3, k4⟩ := pairs_l2 h0 h1 h2 h3 (n := n) (m := b.length) (i := j) (by omega) (hq a List.mem_cons_self) b 0 l hb (by omega) (by omega) hp
    rw [spec_mtPairs_l1, impl_meetingPairs_l1, k1, k2]
    simp only [bs]
    obtain ⟨l2, g1, g2, g3, g4⟩ := ih (j + 1) l' (fun z hz => hq z (List.mem_cons_of_mem _ hz)) (by omega) (by omega) (by omega) k4
    exact ⟨l2, g1, g2, by simp only [List.length_cons]; omega, g4⟩
theorem pairs_both (a b : List Y3) (ha : ∀ r ∈ a, RayP r) (hb : ∀ r ∈ b, RayP r) (hal : a.length ≤ 10) (hbl : b.length ≤ 10) :
    ∃ l, spec_mtPairs_m a b vx vy = some l ∧ impl_meetingPairs_m a b vx vy = some l ∧ l.length ≤ 100 ∧ PairsIn a.length b.length l := by
  obtain ⟨l, k1, k2, k3, k4⟩ := pairs_l1 h0 h1 h2 h3 (n := a.length) b hb hbl a 0 [] ha (by omega) hal (by simp; omega) (fun x hx => by cases hx)
  unfold spec_mtPairs_m impl_meetingPairs_m
  rw [k1, k2]
  exact ⟨l, rfl, rfl, by simp only [List.length_nil] at k3; omega, k4⟩
end
theorem two_both {a b : Y3} (ha : RayP a) (hb : RayP b) : ∃ r, spec_mtTwo_m a.1 a.2.1 a.2.2 b.1 b.2.1 b.2.2 = some r ∧ impl_multiplicity_m a.1 a.2.1 a.2.2 b.1 b.2.1 b.2.2 = some r ∧ -320000 ≤ r ∧ r ≤ 320000 := by
  obtain ⟨d, d1, d2, d3, d4⟩ := det_eq ha hb
  have := ha.w0; have := ha.w1; have := hb.w0; have := hb.w1
  have m1 := mulY (A := 20) (B := 20) (a := a.2.2) (b := b.2.2) (by omega) (by omega) (by omega) (by omega)
  have m2 := mulY (A := 400) (B := 800) (a := a.2.2 * b.2.2) (b := (d.natAbs : Int)) (by omega) (by omega) (by omega) (by omega)
  unfold spec_mtTwo_m impl_multiplicity_m
  rw [ck_in (n := a.2.2 * b.2.2) (by omega) (by omega)]
  simp only [impl_Ray_steps_m, bs]
  rw [d1, d2]
  simp only [bs]
  rw [l1Abs_eq (by omega) (by omega), abs_eq (by omega) (by omega)]
  simp only [bs]
  rw [ck_in (by omega) (by omega)]
  exact ⟨_, rfl, rfl, by omega, by omega⟩
theorem msum_l1 (a b : List Y3) (ha : ∀ r ∈ a, RayP r) (hb : ∀ r ∈ b, RayP r) (q : List (List Int)) : ∀ (j : Nat) (n : Int), PairsIn a.length b.length q → -1000000000 + 320000 * (q.length : Int) ≤ n → n ≤ 1000000000 - 320000 * (q.length : Int) →
    ∃ s, spec_mtSum_l1 a b q j n = some s ∧ impl_meetSum_l1 a b q j n = some s ∧ n - 320000 * (q.length : Int) ≤ s ∧ s ≤ n + 320000 * (q.length : Int) := by
  induction q with
  | nil => intro j n _ _ _; exact ⟨n, rfl, rfl, by simp, by simp⟩
  | cons x q ih =>
    intro j n hp hn0 hn1
    simp only [List.length_cons] at hn0 hn1
    obtain ⟨i, k, rfl, hi, hk⟩ := hp x List.mem_cons_self
    obtain ⟨r, r1, r2, r3, r4⟩ := two_both (ha _ (List.getElem_mem hi)) (hb _ (List.getElem_mem hk))
    rw [spec_mtSum_l1, impl_meetSum_l1]
    simp only [show idx [(i : Int), (k : Int)] 0 = some (i : Int) from rfl, show idx [(i : Int), (k : Int)] 1 = some (k : Int) from rfl, bs]
    rw [idx_lt hi, idx_lt hk]
    simp only [bs]
    rw [r1, r2]
    simp only [bs]
    rw [ck_in (by omega) (by omega)]
    simp only [bs]
    obtain ⟨s, s1, s2, s3, s4⟩ := ih (j + 1) (n + r) (fun z hz => hp z (List.mem_cons_of_mem _ hz)) (by omega) (by omega)
    exact ⟨s, s1, s2, by simp only [List.length_cons]; omega, by simp only [List.length_cons]; omega⟩
theorem count_both (a b : List Y3) (ha : ∀ r ∈ a, RayP r) (hb : ∀ r ∈ b, RayP r) (hal : a.length ≤ 10) (hbl : b.length ≤ 10) :
    ∃ s, spec_mtCount_m a b = some s ∧ impl_meetCount_m a b = some s ∧ -32000000 ≤ s ∧ s ≤ 32000000 := by
  obtain ⟨l, k1, k2, k3, k4⟩ := pairs_both (vx := 1000) (vy := 1) (by omega) (by omega) (by omega) (by omega) a b ha hb hal hbl
  obtain ⟨s, s1, s2, s3, s4⟩ := msum_l1 a b ha hb l 0 0 k4 (by omega) (by omega)
  unfold spec_mtCount_m spec_mtSum_m impl_meetCount_m impl_meetSum_m
  rw [k1, k2]
  simp only [bs]
  rw [s1, s2]
  exact ⟨s, rfl, rfl, by omega, by omega⟩

/-! ### The laws -/
theorem MeetingPairs_both (a b : List Y3) (vx vy : Int) (ha : a.length ≤ 1048576) (hb : b.length ≤ 1048576) : ∃ r, spec_MeetingPairs_m a b vx vy = some r ∧ impl_MeetingPairs_m a b vx vy = some r ∧ SmallM r.1 := by
  obtain ⟨s1, a1, a2, a3⟩ := star_both a ha
  obtain ⟨s2, b1, b2, b3⟩ := star_both b hb
  obtain ⟨mv, m1, m2, m3⟩ := move_both vx vy
  unfold spec_MeetingPairs_m impl_MeetingPairs_m spec_mtAsked_m
  rw [a1, a2]
  simp only [bs]
  cases s1
  · exact ⟨([], false), rfl, rfl, smallM_nil⟩
  rw [b1, b2]
  simp only [bs, Bool.not_true, cF, cT]
  cases s2
  · exact ⟨([], false), rfl, rfl, smallM_nil⟩
  rw [m1, m2]
  simp only [bs, Bool.not_true, cF, cT]
  cases mv
  · exact ⟨([], false), rfl, rfl, smallM_nil⟩
  obtain ⟨al, ar⟩ := a3 rfl
  obtain ⟨bl, br⟩ := b3 rfl
  obtain ⟨v0, v1, v2, v3⟩ := m3 rfl
  obtain ⟨f1, g1, g2⟩ := free_both v0 v1 v2 v3 a ar
  obtain ⟨f2, g3, g4⟩ := free_both v0 v1 v2 v3 b br
  rw [g1, g2]
  simp only [bs, Bool.not_true, cF, cT]
  cases f1
  · exact ⟨([], false), rfl, rfl, smallM_nil⟩
  rw [g3, g4]
  simp only [bs, Bool.not_true, cF, cT]
  cases f2
  · exact ⟨([], false), rfl, rfl, smallM_nil⟩
  obtain ⟨l, k1, k2, k3, k4⟩ := pairs_both v0 v1 v2 v3 a b ar br al bl
  rw [k1, k2]
  refine ⟨(l, true), rfl, rfl, ?_, fun x hx => ?_⟩
  · unfold Small; show l.length ≤ _; omega
  · obtain ⟨i, k, rfl, _⟩ := k4 x hx
    unfold Small; simp
theorem line_bal : impl_isBalanced_m [(-1, -1, 1), (0, 1, 1), (1, 0, 1)] = some true := by
  unfold impl_isBalanced_m impl_isStar_m
  simp only [impl_isStar_l1, isRay_eq]
  rfl
theorem line_rays : ∀ x ∈ ([(-1, -1, 1), (0, 1, 1), (1, 0, 1)] : List Y3), RayP x := by
  intro x hx
  simp only [List.mem_cons, List.not_mem_nil, or_false] at hx
  rcases hx with rfl | rfl | rfl <;> exact ⟨by decide, by decide, by decide, by decide, by decide, by decide⟩
/-- The degree of a star; of what is none the program's is 0. -/
theorem degree_both (a : List Y3) (hs : a.length ≤ 1048576) : ∃ b : Bool, ∃ n, spec_mtStar_m a = some b ∧ impl_StarDegree_m a = some (n, b) ∧ (b = false → n = 0) ∧ -32000000 ≤ n ∧ n ≤ 32000000 ∧ (b = true → spec_mtDegree_m a = some n ∧ a.length ≤ 10 ∧ ∀ x ∈ a, RayP x) := by
  obtain ⟨b, b1, b2, b3⟩ := bal_both a hs
  unfold impl_StarDegree_m impl_lineStar_m impl_MeetCount_m
  simp only [bs]
  rw [b2]
  simp only [bs]
  cases b
  · exact ⟨false, 0, b1, rfl, fun _ => rfl, by omega, by omega, fun h => by cases h⟩
  obtain ⟨al, ar⟩ := b3 rfl
  rw [line_bal]
  simp only [bs, Bool.not_true, cF]
  obtain ⟨s, s1, s2, s3, s4⟩ := count_both a _ ar line_rays al (by decide)
  rw [s2]
  refine ⟨true, s, b1, rfl, (fun h => by cases h), s3, s4, fun _ => ⟨?_, al, ar⟩⟩
  unfold spec_mtDegree_m
  rw [s1]
  rfl
theorem Bezout_gen (a b : List Y3) (ha : a.length ≤ 1048576) (hb : b.length ≤ 1048576) : ∃ s1 s2 : Bool, ∃ n m, spec_mtStar_m a = some s1 ∧ spec_mtStar_m b = some s2 ∧ impl_BezoutOf_m a b = some (n * m, s1 && s2) ∧ ((s1 && s2) = false → n * m = 0) ∧ -1024000000000000 ≤ n * m ∧ n * m ≤ 1024000000000000 ∧
    ((s1 && s2) = true → spec_mtDegree_m a = some n ∧ spec_mtDegree_m b = some m ∧ a.length ≤ 10 ∧ b.length ≤ 10 ∧ (∀ x ∈ a, RayP x) ∧ ∀ x ∈ b, RayP x) := by
  obtain ⟨s1, n, a1, a2, a3, a4, a5, a6⟩ := degree_both a ha
  obtain ⟨s2, m, b1, b2, b3, b4, b5, b6⟩ := degree_both b hb
  have mm := mulY (A := 32000000) (B := 32000000) a4 a5 b4 b5
  refine ⟨s1, s2, n, m, a1, b1, ?_, fun h => ?_, by omega, by omega, fun h => ?_⟩
  · unfold impl_BezoutOf_m
    rw [a2, b2]
    simp only [bs]
    rw [ck_in (by omega) (by omega)]
    simp only [bs]
    cases s1 <;> rfl
  · cases s1
    · rw [a3 rfl, Int.zero_mul]
    · cases s2
      · rw [b3 rfl, Int.mul_zero]
      · cases h
  · simp only [Bool.and_eq_true] at h
    obtain ⟨k1, k2, k3⟩ := a6 h.1
    obtain ⟨k4, k5, k6⟩ := b6 h.2
    exact ⟨k1, k4, k2, k5, k3, k6⟩
theorem BezoutOf_both (a b : List Y3) (ha : a.length ≤ 1048576) (hb : b.length ≤ 1048576) : ∃ r, spec_BezoutOf_m a b = some r ∧ impl_BezoutOf_m a b = some r ∧ True := by
  obtain ⟨s1, s2, n, m, a1, b1, h1, h2, h3, h4, h5⟩ := Bezout_gen a b ha hb
  rw [h1]
  unfold spec_BezoutOf_m
  rw [a1]
  simp only [bs]
  cases s1
  · rw [h2 rfl]; exact ⟨_, rfl, rfl, trivial⟩
  rw [b1]
  simp only [bs, Bool.not_true, cF]
  cases s2
  · rw [h2 rfl]; exact ⟨_, rfl, rfl, trivial⟩
  obtain ⟨d1, d2, _⟩ := h5 rfl
  simp only [Bool.not_true, cF]
  rw [d1, d2]
  simp only [bs]
  rw [ck_in (by omega) (by omega)]
  exact ⟨_, rfl, rfl, trivial⟩
theorem MeetDefect_both (a b : List Y3) (ha : a.length ≤ 1048576) (hb : b.length ≤ 1048576) : ∃ r, spec_MeetDefect_m a b = some r ∧ impl_MeetDefect_m a b = some r ∧ True := by
  obtain ⟨s1, s2, n, m, a1, b1, h1, h2, h3, h4, h5⟩ := Bezout_gen a b ha hb
  unfold spec_MeetDefect_m impl_MeetDefect_m
  rw [h1, a1]
  simp only [bs]
  cases s1
  · exact ⟨_, rfl, rfl, trivial⟩
  rw [b1]
  simp only [bs, Bool.not_true, cF]
  cases s2
  · exact ⟨_, rfl, rfl, trivial⟩
  obtain ⟨d1, d2, al, bl, ar, br⟩ := h5 rfl
  obtain ⟨s, c1, c2, c3, c4⟩ := count_both a b ar br al bl
  simp only [Bool.not_true, cF, Bool.and_self]
  rw [d1, d2]
  simp only [bs]
  rw [ck_in (n := n * m) (by omega) (by omega), c1, c2]
  simp only [bs]
  rw [ck_in (by omega) (by omega)]
  exact ⟨_, rfl, rfl, trivial⟩

/-! ### The table -/
def GoodY (l : List Y3) : Prop := spec_mtStar_m l = some true ∧ impl_isBalanced_m l = some true ∧ l.length ≤ 10 ∧ ∀ x ∈ l, RayP x
theorem good_or (l : List Y3) (hs : l.length ≤ 1048576) : GoodY l ∨ (spec_mtStar_m l = some false ∧ impl_isBalanced_m l = some false) := by
  obtain ⟨b, h1, h2, h3⟩ := bal_both l hs
  cases b
  · exact .inr ⟨h1, h2⟩
  · exact .inl ⟨h1, h2, (h3 rfl).1, (h3 rfl).2⟩
theorem mc_good {a b : List Y3} (ha : GoodY a) (hb : GoodY b) : ∃ s, spec_mtCount_m a b = some s ∧ impl_MeetCount_m a b = some (s, true) := by
  obtain ⟨s, c1, c2, _⟩ := count_both a b ha.2.2.2 hb.2.2.2 ha.2.2.1 hb.2.2.1
  refine ⟨s, c1, ?_⟩
  unfold impl_MeetCount_m
  rw [ha.2.1, hb.2.1, c2]
  rfl
theorem mc_bad {a b : List Y3} (ha : GoodY a) (hb : impl_isBalanced_m b = some false) : impl_MeetCount_m a b = some (0, false) := by
  unfold impl_MeetCount_m
  rw [ha.2.1, hb]
  rfl
theorem mc_bad' {a b : List Y3} (ha : impl_isBalanced_m a = some false) : impl_MeetCount_m a b = some (0, false) := by
  unfold impl_MeetCount_m
  rw [ha]
  rfl
theorem tab_l1 (q : List (List Y3)) : ∀ j, (∀ l ∈ q, l.length ≤ 1048576) → (spec_MeetTable_l1 q j = some (Sum.inr ()) ∧ ∀ l ∈ q, GoodY l) ∨ (spec_MeetTable_l1 q j = some (Sum.inl ([], false)) ∧ ∃ l ∈ q, impl_isBalanced_m l = some false) := by
  induction q with
  | nil => intro j _; exact .inl ⟨rfl, fun l h => by cases h⟩
  | cons x q ih =>
    intro j hs
    rw [spec_MeetTable_l1]
    rcases good_or x (hs x List.mem_cons_self) with g | ⟨g1, g2⟩
    · rw [g.1]
      rcases ih (j + 1) (fun l h => hs l (List.mem_cons_of_mem _ h)) with ⟨k1, k2⟩ | ⟨k1, l, hl, k2⟩
      · refine .inl ⟨k1, fun l hl => ?_⟩
        rcases List.mem_cons.1 hl with e | e
        · rw [e]; exact g
        · exact k2 l e
      · exact .inr ⟨k1, l, List.mem_cons_of_mem _ hl, k2⟩
    · rw [g1]
      exact .inr ⟨rfl, x, List.mem_cons_self, g2⟩
theorem row_good {a : List Y3} (ha : GoodY a) (q : List (List Y3)) : ∀ j l, (∀ x ∈ q, GoodY x) → l.length + q.length < 1000000 → ∃ r, spec_MeetTable_l3 a q j l = some r ∧ impl_MeetTable_l2 a q j l = some (Sum.inr r) ∧ r.length = l.length + q.length := by
  induction q with
  | nil => intro j l _ _; exact ⟨l, rfl, rfl, by simp⟩
  | cons x q ih =>
    intro j l hq hl
    simp only [List.length_cons] at hl
    obtain ⟨s, s1, s2⟩ := mc_good ha (hq x List.mem_cons_self)
    rw [spec_MeetTable_l3, impl_MeetTable_l2, s1, s2]
    simp only [bs, Bool.not_true, cF]
    rw [app_lt (by omega)]
    simp only [bs]
    obtain ⟨r, r1, r2, r3⟩ := ih (j + 1) (l ++ [s]) (fun z hz => hq z (List.mem_cons_of_mem _ hz)) (by simp; omega)
    exact ⟨r, r1, r2, by rw [r3]; simp; omega⟩
theorem row_bad {a : List Y3} (ha : a.length ≤ 1048576) (q : List (List Y3)) : ∀ j l, (∀ x ∈ q, x.length ≤ 1048576) → l.length + q.length < 1000000 → (∃ x ∈ q, impl_isBalanced_m x = some false) → impl_MeetTable_l2 a q j l = some (Sum.inl ([], false)) := by
  induction q with
  | nil => intro j l _ _ ⟨x, hx, _⟩; cases hx
  | cons x q ih =>
    intro j l hs hl ⟨y, hy, hb⟩
    simp only [List.length_cons] at hl
    rw [impl_MeetTable_l2]
    rcases good_or a ha with g | ⟨_, g⟩
    · rcases good_or x (hs x List.mem_cons_self) with g2 | ⟨_, g2⟩
      · obtain ⟨s, s1, s2⟩ := mc_good g g2
        rw [s2]
        simp only [bs, Bool.not_true, cF]
        rw [app_lt (by omega)]
        simp only [bs]
        refine ih (j + 1) _ (fun z hz => hs z (List.mem_cons_of_mem _ hz)) (by simp; omega) ?_
        rcases List.mem_cons.1 hy with e | e
        · rw [e, g2.2.1] at hb; cases hb
        · exact ⟨y, e, hb⟩
      · rw [mc_bad g g2]; rfl
    · rw [mc_bad' g]; rfl
theorem tab_good (p : List (List Y3)) (hp : ∀ x ∈ p, GoodY x) (hl : p.length ≤ 6) (q : List (List Y3)) : ∀ j l, (∀ x ∈ q, GoodY x) → l.length + q.length ≤ 6 → (∀ x ∈ l, x.length ≤ 6) →
    ∃ r, spec_MeetTable_l2 p q j l = some r ∧ impl_MeetTable_l1 p q j l = some (Sum.inr r) ∧ r.length ≤ 6 ∧ ∀ x ∈ r, x.length ≤ 6 := by
  induction q with
  | nil => intro j l _ h h2; exact ⟨l, rfl, rfl, by simpa using h, h2⟩
  | cons a q ih =>
    intro j l hq hql h2
    simp only [List.length_cons] at hql
    obtain ⟨r, r1, r2, r3⟩ := row_good (hq a List.mem_cons_self) p 0 [] hp (by simp; omega)
    rw [spec_MeetTable_l2, impl_MeetTable_l1, r1, r2]
    simp only [bs, elR]
    rw [app_lt (by omega)]
    simp only [bs]
    refine ih (j + 1) _ (fun z hz => hq z (List.mem_cons_of_mem _ hz)) (by simp; omega) (fun x hx => ?_)
    rcases List.mem_append.1 hx with h | h
    · exact h2 x h
    · simp only [List.mem_cons, List.not_mem_nil, or_false] at h
      rw [h, r3]; simpa using hl
theorem MeetTable_both (p : List (List Y3)) (hr : ∀ l ∈ p, l.length ≤ 1048576) : ∃ r, spec_MeetTable_m p = some r ∧ impl_MeetTable_m p = some r ∧ SmallM r.1 := by
  unfold spec_MeetTable_m impl_MeetTable_m
  by_cases hl : p.length ≤ 6
  case neg =>
    rw [decide_eq_true (show (p.length : Int) > 6 by omega)]
    exact ⟨([], false), rfl, rfl, smallM_nil⟩
  rw [decide_eq_false (show ¬ (p.length : Int) > 6 by omega)]
  simp only [cF]
  rcases tab_l1 p 0 hr with ⟨h1, h2⟩ | ⟨h1, x, hx, h2⟩
  · obtain ⟨r, r1, r2, r3, r4⟩ := tab_good p h2 hl p 0 [] h2 (by simpa using hl) (fun x hx => by cases hx)
    rw [h1]
    simp only [bs, elR]
    rw [r1, r2]
    refine ⟨(r, true), rfl, rfl, ?_, fun x hx => ?_⟩
    · unfold Small; show r.length ≤ _; omega
    · have := r4 x hx; unfold Small; omega
  · rw [h1]
    cases p with
    | nil => cases hx
    | cons a q =>
      rw [impl_MeetTable_l1, row_bad (hr a List.mem_cons_self) (a :: q) 0 [] hr (by simp only [List.length_cons, List.length_nil] at *; omega) ⟨x, hx, h2⟩]
      exact ⟨([], false), rfl, rfl, smallM_nil⟩
end Go.Proofs.Ytaagklbiebogfaa
