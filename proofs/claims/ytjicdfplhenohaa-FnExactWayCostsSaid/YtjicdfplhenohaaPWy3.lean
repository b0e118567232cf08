/- Plain laws: the reduced matrix; does a vector prove a way. -/
import Derived.Test.YtjicdfplhenohaaWy3M
import Derived.Test.YtjicdfplhenohaaPMx2
import Derived.Test.YtjicdfplhenohaaPMn1
import Derived.Test.YtjicdfplhenohaaPWy2
namespace Go.Proofs.Ytjicdfplhenohaa
set_option linter.unusedVariables false
set_option linter.unusedSimpArgs false

theorem hasPotentials_eq (m : List (List Int)) (v : List Int) : ∃ b, ((spec_wyAsked_m m v).bind fun y1 => (cond (!y1) (some true) ((spec_wyPotentials_m m v).bind fun y6 => some (!y6)) : Option Bool)) = some (!b) ∧ impl_hasPotentials_m m v = some b ∧ (b = true → Good m m.length ∧ v.length = m.length ∧ ∀ x ∈ v, fin x = true) := by
  unfold impl_hasPotentials_m
  rw [wyAsked_eq, isSquare_eq, areOnePerVertex_eq]
  simp only [bs]
  cases hs : sqr m
  · exact ⟨false, rfl, rfl, fun h => by cases h⟩
  cases ha : (decide (v.length = m.length) && v.all fin)
  · exact ⟨false, rfl, rfl, fun h => by cases h⟩
  simp only [Bool.and_eq_true, decide_eq_true_eq, List.all_eq_true] at ha
  obtain ⟨r, h1, h2⟩ := arePotentials_both (sqr_good hs) v ha.2 ha.1
  rw [h1, h2]
  exact ⟨r, rfl, rfl, fun _ => ⟨sqr_good hs, ha.1, ha.2⟩⟩

/-! ### The reduced matrix -/
def redRow (p : List Int) (i : Nat) : List Int → Nat → List Int
  | [], _ => []
  | x :: q, j => plus x (nth p i - nth p j) :: redRow p i q (j + 1)
def redM (p : List Int) : List (List Int) → Nat → List (List Int)
  | [], _ => []
  | x :: q, i => redRow p i x 0 :: redM p q (i + 1)
theorem redRow_len (p : List Int) (i : Nat) (q : List Int) : ∀ j, (redRow p i q j).length = q.length := by
  induction q with
  | nil => intro j; rfl
  | cons x q ih => intro j; simp [redRow, ih]
theorem redM_shape (p : List Int) (c : Nat) (q : List (List Int)) : ∀ i, (∀ x ∈ q, x.length = c) → Shape (redM p q i) q.length c := by
  induction q with
  | nil => intro i _; exact ⟨rfl, fun l hl => by cases hl⟩
  | cons x q ih =>
    intro i h
    have := ih (i + 1) (fun y hy => h y (List.mem_cons_of_mem _ hy))
    refine ⟨by simp [redM, this.len], fun l hl => ?_⟩
    rcases List.mem_cons.1 hl with e | e
    · rw [e, redRow_len]; exact h x List.mem_cons_self
    · exact this.row l e
theorem plus_dif {x d : Int} (hx : num x = true) (hd : -2000000 ≤ d ∧ d ≤ 2000000) : spec_nuPlus_m x d = some (plus x d) := by
  have := num_rng hx
  exact nuPlus_eq (by omega) (by omega)
theorem appS_one {l : List Int} {y : Int} (h : l.length < 1000000) : appS l [y] = some (l ++ [y]) := by
  unfold appS; rw [decide_eq_true (by simp; omega)]; rfl
section
variable {p : List Int} {c : Nat} (hp : ∀ x ∈ p, fin x = true) (hc : p.length = c)
include hp hc
theorem dif {i j : Nat} (hi : i < c) (hj : j < c) : ck (nth p i - nth p j) = some (nth p i - nth p j) ∧ -2000000 ≤ nth p i - nth p j ∧ nth p i - nth p j ≤ 2000000 := by
  have h1 := (fin_iff _).1 (hp _ (nth_mem (show i < p.length by omega)))
  have h2 := (fin_iff _).1 (hp _ (nth_mem (show j < p.length by omega)))
  exact ⟨ck_in (by omega) (by omega), by omega, by omega⟩
theorem Red_s_l2 (i : Nat) (hi : i < c) (q : List Int) : ∀ j l, j + q.length = c → l.length + q.length < 1000000 → (∀ x ∈ q, num x = true) → spec_ReducedMatrix_l2 p i q j l = some (l ++ redRow p i q j) := by
  induction q with
  | nil => intro j l _ _ _; simp [spec_ReducedMatrix_l2, redRow]
  | cons x q ih =>
    intro j l hj hl hq
    simp only [List.length_cons] at hj hl
    obtain ⟨d1, d2⟩ := dif hp hc hi (show j < c by omega)
    rw [spec_ReducedMatrix_l2, idx_nth (by omega), idx_nth (by omega)]
    simp only [bs, d1]
    rw [plus_dif (hq x List.mem_cons_self) d2]
    simp only [bs]
    rw [appS_one (by omega)]
    simp only [bs]
    rw [ih _ _ (by omega) (by simp; omega) (fun z hz => hq z (List.mem_cons_of_mem _ hz))]
    simp [redRow]
theorem Red_s_l1 (hc6 : c ≤ 6) (q : List (List Int)) : ∀ i l, i + q.length = c → l.length + q.length < 1000000 → (∀ x ∈ q, x.length = c) → (∀ x ∈ q, ∀ y ∈ x, num y = true) → spec_ReducedMatrix_l1 p q i l = some (l ++ redM p q i) := by
  induction q with
  | nil => intro i l _ _ _ _; simp [spec_ReducedMatrix_l1, redM]
  | cons x q ih =>
    intro i l hi hl hq hn
    simp only [List.length_cons] at hi hl
    have hx := hq x List.mem_cons_self
    rw [spec_ReducedMatrix_l1, Red_s_l2 hp hc i (by omega) x 0 [] (by omega) (by simp; omega) (hn x List.mem_cons_self)]
    simp only [bs, List.nil_append]
    rw [app_lt (by omega)]
    simp only [bs]
    rw [ih _ _ (by omega) (by simp; omega) (fun z hz => hq z (List.mem_cons_of_mem _ hz)) (fun z hz => hn z (List.mem_cons_of_mem _ hz))]
    simp [redM]
theorem Red_i_l2 (i : Nat) (hi : i < c) (q : List Int) : ∀ j l, j + q.length = c → Shape l c c → (∀ x ∈ q, num x = true) →
    impl_ReducedMatrix_l2 p i q j l = some (l.set i ((nthM l i).take j ++ redRow p i q j)) := by
  induction q with
  | nil =>
    intro j l hj h _
    simp only [List.length_nil, Nat.add_zero] at hj
    have hn := h.nth_len hi
    have hl := h.len
    have e : l.set i ((nthM l i).take j) = l := by
      rw [List.take_of_length_le (by omega)]
      apply List.ext_getElem (by simp)
      intro k h1 h2
      by_cases hk : i = k
      · subst hk; simp [nthM, h2]
      · simp [hk]
    simp [impl_ReducedMatrix_l2, redRow, e]
  | cons x q ih =>
    intro j l hj h hq
    simp only [List.length_cons] at hj
    have hn := h.nth_len hi
    have hl := h.len
    obtain ⟨d1, d2⟩ := dif hp hc hi (show j < c by omega)
    rw [impl_ReducedMatrix_l2, h.idx hi, idx_nth (by omega), idx_nth (by omega)]
    simp only [bs, d1]
    rw [show impl_product_m x (nth p i - nth p j) = spec_nuPlus_m x (nth p i - nth p j) from rfl, plus_dif (hq x List.mem_cons_self) d2]
    simp only [bs]
    rw [idx_nth (by omega)]
    simp only [bs]
    rw [upd_nat (by omega)]
    simp only [bs, Int.toNat_natCast]
    rw [ih (j + 1) _ (by omega) (h.set i (by simpa using hn)) (fun z hz => hq z (List.mem_cons_of_mem _ hz)), nthM_set (by omega), List.set_set, take_set _ (by omega)]
    simp [redRow]
theorem Red_i_l1 (q : List (List Int)) : ∀ i l, i + q.length = c → Shape l c c → (∀ x ∈ q, x.length = c) → (∀ x ∈ q, ∀ y ∈ x, num y = true) →
    impl_ReducedMatrix_l1 p q i l = some (l.take i ++ redM p q i) := by
  induction q with
  | nil =>
    intro i l hi h _ _
    simp only [List.length_nil, Nat.add_zero] at hi
    simp [impl_ReducedMatrix_l1, redM, List.take_of_length_le (show l.length ≤ i by rw [h.len]; omega)]
  | cons x q ih =>
    intro i l hi h hq hn
    simp only [List.length_cons] at hi
    have hx := hq x List.mem_cons_self
    rw [impl_ReducedMatrix_l1, Red_i_l2 hp hc i (by omega) x 0 l (by omega) h (hn x List.mem_cons_self)]
    simp only [bs, List.take_zero, List.nil_append]
    rw [ih (i + 1) _ (by omega) (h.set i (by rw [redRow_len]; exact hx)) (fun z hz => hq z (List.mem_cons_of_mem _ hz)) (fun z hz => hn z (List.mem_cons_of_mem _ hz)), take_set _ (by rw [h.len]; omega)]
    simp [redM]
end
theorem wyGood_l2_eq (q : List Int) : ∀ j, spec_wyGood_l2 q j = some (cond (q.all num) (Sum.inr ()) (Sum.inl false)) := by
  induction q with
  | nil => intro j; rfl
  | cons x q ih => intro j; rw [spec_wyGood_l2, nuGood_eq]; simp only [bs, ih, List.all_cons]; cases num x <;> rfl
theorem wyGood_l1_eq (q : List (List Int)) : ∀ j, spec_wyGood_l1 q j = some (cond (q.all fun r => r.all num) (Sum.inr ()) (Sum.inl false)) := by
  induction q with
  | nil => intro j; rfl
  | cons x q ih => intro j; rw [spec_wyGood_l1, wyGood_l2_eq]; simp only [bs, List.all_cons]; cases x.all num <;> simp [ih]
theorem wyGood_eq (m : List (List Int)) : spec_wyGood_m m = some (m.all fun r => r.all num) := by
  unfold spec_wyGood_m; rw [wyGood_l1_eq]; cases m.all fun r => r.all num <;> rfl
theorem toldNumbers_l1_eq (l : List (List Int)) : ∀ j : Nat, ((l.all fun r => r.all num) = true ∧ slices_IndexFunc_int_int_impl_toldNumbers_1_l1 l j = some (Sum.inr ())) ∨ ((l.all fun r => r.all num) = false ∧ ∃ k : Nat, slices_IndexFunc_int_int_impl_toldNumbers_1_l1 l j = some (Sum.inl (k : Int))) := by
  induction l with
  | nil => intro j; exact .inl ⟨rfl, rfl⟩
  | cons x l ih =>
    intro j
    rw [slices_IndexFunc_int_int_impl_toldNumbers_1_l1]
    unfold impl_toldNumbers_1_m
    rw [areNumbers_eq]
    simp only [bs, List.all_cons]
    cases hx : x.all num
    · exact .inr ⟨rfl, j, rfl⟩
    · simp only [Bool.not_true, cF, Bool.true_and]; exact ih (j + 1)
theorem toldNumbers_eq (m : List (List Int)) : impl_toldNumbers_m m = some (m.all (fun r => r.all num), m.all fun r => r.all num) := by
  unfold impl_toldNumbers_m slices_ContainsFunc_int_int_impl_toldNumbers_1_m slices_IndexFunc_int_int_impl_toldNumbers_1_m
  rcases toldNumbers_l1_eq m 0 with ⟨h1, h2⟩ | ⟨h1, k, h2⟩
  · rw [h1, h2]; rfl
  · rw [h1, h2]
    simp only [bs, Sum.elim_inl]
    rw [decide_eq_true (show (k : Int) ≥ 0 by omega)]; rfl
theorem ReducedMatrix_both (m : List (List Int)) (v : List Int) : ∃ r, spec_ReducedMatrix_m m v = some r ∧ impl_ReducedMatrix_m m v = some r ∧ SmallM r.1 := by
  unfold spec_ReducedMatrix_m impl_ReducedMatrix_m
  obtain ⟨b, h1, h2, h3⟩ := hasPotentials_eq m v
  rw [← Option.bind_assoc, h1, h2]
  simp only [bs]
  cases b
  · exact ⟨([], false), rfl, rfl, smallM_nil⟩
  obtain ⟨g, hl, hv⟩ := h3 rfl
  have := g.hi
  simp only [Bool.not_true, cF]
  rw [Red_s_l1 hv hl g.hi m 0 [] (by omega) (by simp; omega) g.row g.nums, clones_eq g.small]
  simp only [bs, List.nil_append]
  rw [Red_i_l1 hv hl m 0 m (by omega) g.shape g.row g.nums, wyGood_eq]
  simp only [bs, List.take_zero, List.nil_append, toldNumbers_eq]
  cases (redM v m 0).all fun r => r.all num
  · exact ⟨([], false), rfl, rfl, smallM_nil⟩
  · exact ⟨(_, true), rfl, rfl, (redM_shape v m.length m 0 g.row).small g.hi g.hi⟩

/-! ### Ways -/
theorem cost_inf {m : List (List Int)} {w : List Int} (h : WayOk m w) : ∀ (k i : Nat), w.length - i < k → 1 ≤ i → impl_costOfSteps_l1 m w k 1000000000 i = some 1000000000 := by
  intro k
  induction k with
  | zero => intro i hk; omega
  | succ k ih =>
    intro i hk h1
    rw [impl_costOfSteps_l1]
    by_cases hc : i < w.length
    · rw [decide_eq_true (show (i : Int) < (w.length : Int) by omega)]
      obtain ⟨e1, e2, e3, e4, e5, e6, e7⟩ := h.step h1 hc
      simp only [cT, bs, e1, e2, e3, e4, e5, e7]
      have e6 := num_rng e6
      have p1 : impl_product_m 1000000000 (stp m w i) = some (plus 1000000000 (stp m w i)) := product_eq (by omega) (by omega)
      have : plus 1000000000 (stp m w i) = 1000000000 := by simp [plus]
      rw [p1, this]
      simp only [bs]
      exact ih (i + 1) (by omega) (by omega)
    · rw [decide_eq_false (by omega)]; rfl
theorem way3_l1 {m : List (List Int)} {w : List Int} (h : WayOk m w) : ∀ (k i : Nat), w.length - i < k → 1 ≤ i → (i ≤ w.length ∨ i = 1) → ∀ (n : Int), -1000000 * (i : Int) ≤ n → n ≤ 1000000 * (i : Int) →
    (spec_wyWay_l1 m w k i = some (Sum.inr ()) ∧ ∃ s, impl_costOfSteps_l1 m w k n i = some s ∧ -100000000 ≤ s ∧ s ≤ 100000000) ∨
    (spec_wyWay_l1 m w k i = some (Sum.inl false) ∧ impl_costOfSteps_l1 m w k n i = some 1000000000) := by
  intro k
  induction k with
  | zero => intro i hk; omega
  | succ k ih =>
    intro i hk h1 hi n hn0 hn1
    have hlen := h.len
    rw [spec_wyWay_l1, impl_costOfSteps_l1]
    by_cases hc : i < w.length
    · rw [decide_eq_true (show (i : Int) < (w.length : Int) by omega)]
      simp only [cT]
      obtain ⟨e1, e2, e3, e4, e5, e6, e7⟩ := h.step h1 hc
      simp only [bs, e1, e2, e3, e4, e5, e7]
      have e6 := (num_iff _).1 e6
      have p1 : impl_product_m n (stp m w i) = some (plus n (stp m w i)) := product_eq (by omega) (by omega)
      simp only [p1, bs]
      by_cases hf : stp m w i = 1000000000
      · refine .inr ⟨by rw [hf]; rfl, ?_⟩
        have : plus n (stp m w i) = 1000000000 := by rw [hf]; simp [plus]
        rw [this]
        exact cost_inf h k (i + 1) (by omega) (by omega)
      · have hb : (stp m w i == 1000000000) = false := by simpa using hf
        have hp : plus n (stp m w i) = n + stp m w i := by unfold plus; rw [if_neg (by omega)]
        rw [hb, hp]
        simp only [cF]
        exact ih (i + 1) (by omega) (by omega) (by omega) (n + stp m w i) (by omega) (by omega)
    · rw [decide_eq_false (by omega)]
      simp only [cF]
      exact .inl ⟨trivial, n, rfl, by omega, by omega⟩
theorem isWay_both {m : List (List Int)} (g : Good m m.length) (w : List Int) : ∃ b, spec_wyWay_m m w = some b ∧ impl_isWay_m m w = some b ∧ (b = true → WayOk m w) := by
  have := g.hi
  unfold spec_wyWay_m impl_isWay_m
  rw [l1In_eq, within_eq, ck_in (by omega) (by omega), areVertices_eq m (by omega)]
  simp only [bs, l1All_eq]
  cases hr : inR w.length 1 20
  · exact ⟨false, rfl, rfl, fun h => by cases h⟩
  have hr := (inR_iff _ _ _).1 hr
  have e : (w.all fun n => inR n 0 ((m.length : Int) - 1)) = w.all (isV m) := rfl
  rw [e]
  cases hv : w.all (isV m)
  · exact ⟨false, rfl, rfl, fun h => by cases h⟩
  have ok : WayOk m w := ⟨g, by omega, fun x hx => by
    have := (inR_iff _ _ _).1 (List.all_eq_true.1 hv x hx); omega⟩
  unfold impl_costOfSteps_m
  have main := way3_l1 ok 4000000 1 (by omega) (by omega) (.inr rfl) 0 (by omega) (by omega)
  rw [show ((1 : Nat) : Int) = 1 from rfl] at main
  rcases main with ⟨h1, s, h2, h4, h5⟩ | ⟨h1, h2⟩
  · rw [h1, h2]
    simp only [bs, Bool.not_true, cF, cT, Sum.elim_inr]
    have : (s != 1000000000) = true := by simp; omega
    rw [this]
    exact ⟨true, rfl, rfl, fun _ => ok⟩
  · rw [h1, h2]
    exact ⟨false, rfl, rfl, fun h => by cases h⟩
theorem Proved_l1 {m : List (List Int)} {w p : List Int} (h : WayOk m w) (hp : ∀ x ∈ p, fin x = true) (hl : p.length = m.length) : ∀ (k i : Nat), w.length - i < k → 1 ≤ i →
    ∃ s, spec_IsProvedWay_l1 m p w k i = some s ∧ impl_IsProvedWay_l1 m p w k i = some s := by
  intro k
  induction k with
  | zero => intro i hk; omega
  | succ k ih =>
    intro i hk h1
    rw [spec_IsProvedWay_l1, impl_IsProvedWay_l1]
    by_cases hc : i < w.length
    · rw [decide_eq_true (show (i : Int) < (w.length : Int) by omega)]
      obtain ⟨e1, e2, e3, e4, e5, e6, e7⟩ := h.step h1 hc
      have v1 := h.ver _ (nth_mem (show i - 1 < w.length by omega))
      have v2 := h.ver _ (nth_mem hc)
      have i1 : idx p (nth w i) = some (nth p (nth w i).toNat) := idx_int v2.1 (by omega)
      have i2 : idx p (nth w (i - 1)) = some (nth p (nth w (i - 1)).toNat) := idx_int v1.1 (by omega)
      have f2 := (fin_iff _).1 (hp _ (nth_mem (show (nth w (i - 1)).toNat < p.length by omega)))
      have e6 := num_rng e6
      have k1 : ck (nth p (nth w (i - 1)).toNat + stp m w i) = some (nth p (nth w (i - 1)).toNat + stp m w i) := ck_in (by omega) (by omega)
      simp only [cT, bs, e1, e2, e3, e4, e5, e7, i1, i2, k1]
      obtain ⟨s, h1, h2⟩ := ih (i + 1) (by omega) (by omega)
      rw [h1, h2]
      cases (nth p (nth w i).toNat != nth p (nth w (i - 1)).toNat + stp m w i) <;> exact ⟨_, rfl, rfl⟩
    · rw [decide_eq_false (by omega)]; exact ⟨_, rfl, rfl⟩
theorem IsProvedWay_both (m : List (List Int)) (p w : List Int) : ∃ r, spec_IsProvedWay_m m p w = some r ∧ impl_IsProvedWay_m m p w = some r ∧ True := by
  unfold spec_IsProvedWay_m impl_IsProvedWay_m
  obtain ⟨b, h1, h2, h3⟩ := hasPotentials_eq m p
  rw [← Option.bind_assoc, h1, h2]
  simp only [bs]
  cases b
  · exact ⟨_, rfl, rfl, trivial⟩
  obtain ⟨g, hl, hv⟩ := h3 rfl
  obtain ⟨b, w1, w2, w3⟩ := isWay_both g w
  rw [w1, w2]
  cases b
  · exact ⟨_, rfl, rfl, trivial⟩
  obtain ⟨s, s1, s2⟩ := Proved_l1 (w3 rfl) hv hl 4000000 1 (by have := (w3 rfl).len; omega) (by omega)
  rw [show ((1 : Nat) : Int) = 1 from rfl] at s1 s2
  rw [s1, s2]
  cases s <;> exact ⟨_, rfl, rfl, trivial⟩
end Go.Proofs.Ytjicdfplhenohaa
