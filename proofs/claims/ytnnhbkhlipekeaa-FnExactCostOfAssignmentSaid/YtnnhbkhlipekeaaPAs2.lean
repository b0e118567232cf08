/- Plain laws: the cost of an assignment; do prices prove it a best one. -/
import Derived.Test.YtnnhbkhlipekeaaAs2M
import Derived.Test.YtnnhbkhlipekeaaPMn1
import Derived.Test.YtnnhbkhlipekeaaPFwC
import Derived.Test.YtnnhbkhlipekeaaPWy2
namespace Go.Proofs.Ytnnhbkhlipekeaa
set_option linter.unusedVariables false
set_option linter.unusedSimpArgs false

theorem cutO_nat {l : List Int} {j : Nat} (h : j ≤ l.length) : cutO l (j : Int) = some (l.take j) := by
  unfold cutO; rw [decide_eq_true (by omega)]; simp
def fA (m : List (List Int)) (a : List Int) (i : Nat) (x : Int) : Bool := isV m x && !(a.take i).contains x
def hA (m : List (List Int)) (a : List Int) (i : Nat) (x : Int) : Bool := !(a.take i).contains x && !(En m i x.toNat == 1000000000)
theorem isV_iff {m : List (List Int)} {x : Int} : isV m x = true ↔ 0 ≤ x ∧ x < m.length := by
  unfold isV; rw [inR_iff]; omega
theorem drop_step {a q : List Int} {x : Int} {j : Nat} (h : x :: q = a.drop j) : j < a.length ∧ x = nth a j ∧ q = a.drop (j + 1) ∧ a.take (j + 1) = a.take j ++ [x] := by
  have hj : j < a.length := by
    have := congrArg List.length h
    simp at this; omega
  rw [drop_cons hj] at h
  simp only [List.cons.injEq] at h
  refine ⟨hj, by simp [nth, hj, h.1], h.2, ?_⟩
  rw [h.1, List.take_succ_eq_append_getElem hj]
theorem asGood_l1_eq {m : List (List Int)} {n : Nat} (sh : Shape m n n) (a : List Int) (ha : a.length = n) (hv : ∀ x ∈ a, isV m x = true) (q : List Int) : ∀ j, q = a.drop j → spec_asGood_l1 m a q j = some (cond (allI (hA m a) q j) (Sum.inr ()) (Sum.inl false)) := by
  have hl := sh.len
  induction q with
  | nil => intro j _; rfl
  | cons x q ih =>
    intro j hq
    obtain ⟨h1, h2, h3, h4⟩ := drop_step hq
    have hx := isV_iff.1 (hv x (by rw [h2]; exact nth_mem h1))
    rw [spec_asGood_l1, cutO_nat (by omega), allI]
    simp only [bs, l1Has_eq]
    rw [sh.idx (show j < n by omega)]
    simp only [bs]
    have e : idx (nthM m j) x = some (En m j x.toNat) := idx_int hx.1 (by rw [sh.nth_len (by omega)]; omega)
    rw [e, ih (j + 1) h3]
    simp only [bs]
    unfold hA
    cases (a.take j).contains x
    · cases En m j x.toNat == 1000000000 <;> rfl
    · rfl
theorem isAssignment_l1_eq {m : List (List Int)} {n : Nat} (hl : m.length = n) (hn : n ≤ 6) (a : List Int) (ha : a.length = n) (q : List Int) : ∀ j (l : List Bool), q = a.drop j → l.length = n → (∀ y : Int, 0 ≤ y → y < n → l[y.toNat]? = some ((a.take j).contains y)) →
    impl_isAssignment_l1 m q j l = some (cond (allI (fA m a) q j) (Sum.inr ()) (Sum.inl false)) := by
  induction q with
  | nil => intro j l _ _ _; rfl
  | cons x q ih =>
    intro j l hq hll hs
    obtain ⟨h1, h2, h3, h4⟩ := drop_step hq
    have kn : ck ((m.length : Int) - 1) = some ((m.length : Int) - 1) := ck_in (by omega) (by omega)
    rw [impl_isAssignment_l1, kn, allI]
    simp only [bs, within_eq]
    have hf : fA m a j x = (inR x 0 ((m.length : Int) - 1) && !(a.take j).contains x) := rfl
    rw [hf]
    cases hr : inR x 0 ((m.length : Int) - 1)
    · rfl
    have hr := (inR_iff _ _ _).1 hr
    have hix : idx l x = some ((a.take j).contains x) := by
      unfold idx; rw [decide_eq_true hr.1]; exact hs x hr.1 (by omega)
    simp only [Bool.not_true, cF, hix, bs, Bool.true_and]
    cases hc : (a.take j).contains x
    · have hu : upd l x true = some (l.set x.toNat true) := by
        unfold upd; rw [decide_eq_true (by omega)]; rfl
      simp only [cF, Bool.not_false, Bool.true_and, hu, bs]
      refine ih (j + 1) _ h3 (by simpa using hll) fun y hy0 hy1 => ?_
      rw [h4]
      by_cases e : y = x
      · subst e
        rw [List.getElem?_set_self (by omega)]
        simp
      · have e2 : x.toNat ≠ y.toNat := by omega
        rw [List.getElem?_set_ne e2, hs y hy0 hy1]
        simp [e]
    · rfl
section
variable {m : List (List Int)} {n : Nat} (g : Good m n) (hn : m.length = n) {a : List Int} (ha : a.length = n) (hv : ∀ x ∈ a, isV m x = true)
include g hn ha hv
theorem entry_at {q : List Int} {x : Int} {j : Nat} (hq : x :: q = a.drop j) : j < n ∧ idx m (j : Int) = some (nthM m j) ∧ idx (nthM m j) x = some (En m j x.toNat) ∧ num (En m j x.toNat) = true := by
  have sh : Shape m n n := ⟨hn, g.row⟩
  obtain ⟨h1, h2, h3, h4⟩ := drop_step hq
  have hx := isV_iff.1 (hv x (by rw [h2]; exact nth_mem h1))
  exact ⟨by omega, sh.idx (by omega), idx_int hx.1 (by rw [sh.nth_len (by omega)]; omega), En_num g (by omega) (by omega)⟩
theorem costA_inf (q : List Int) : ∀ j, q = a.drop j → impl_costOf_l1 m q j 1000000000 = some 1000000000 := by
  induction q with
  | nil => intro j _; rfl
  | cons x q ih =>
    intro j hq
    obtain ⟨h0, h1, h2, h3⟩ := entry_at g hn ha hv hq
    have h3 := num_rng h3
    have hp : impl_product_m 1000000000 (En m j x.toNat) = some 1000000000 := by
      rw [product_eq (by omega) (by omega)]; simp [plus]
    rw [impl_costOf_l1, h1]
    simp only [bs, h2, hp]
    exact ih (j + 1) (drop_step hq).2.2.1
def eA (m : List (List Int)) (i : Nat) (x : Int) : Bool := !(En m i x.toNat == 1000000000)
theorem cost_both (q : List Int) : ∀ j s, q = a.drop j → j ≤ n → -(j * 1000000 : Int) ≤ s → s ≤ (j * 1000000 : Int) →
    (allI (eA m) q j = true ∧ ∃ s', impl_costOf_l1 m q j s = some s' ∧ spec_asCost_l1 m q j s = some s' ∧ -(n * 1000000 : Int) ≤ s' ∧ s' ≤ (n * 1000000 : Int)) ∨ (allI (eA m) q j = false ∧ impl_costOf_l1 m q j s = some 1000000000) := by
  have hi := g.chi
  induction q with
  | nil =>
    intro j s hq hj h1 h2
    have hj2 : n ≤ j := by
      have := congrArg List.length hq
      simp at this; omega
    have : j = n := by omega
    subst this
    exact .inl ⟨rfl, s, rfl, rfl, h1, h2⟩
  | cons x q ih =>
    intro j s hq hj hs1 hs2
    obtain ⟨h0, h1, h2, h3⟩ := entry_at g hn ha hv hq
    have h4 := (num_iff _).1 h3
    rw [impl_costOf_l1, spec_asCost_l1, h1, allI]
    simp only [bs, h2]
    have hp : impl_product_m s (En m j x.toNat) = some (plus s (En m j x.toNat)) := product_eq (by omega) (by omega)
    have hk : ck (s + En m j x.toNat) = some (s + En m j x.toNat) := ck_in (by omega) (by omega)
    simp only [hp, hk, bs]
    by_cases e : En m j x.toNat = 1000000000
    · have e1 : eA m j x = false := by unfold eA; rw [e]; rfl
      have e2 : plus s (En m j x.toNat) = 1000000000 := by rw [e]; simp [plus]
      rw [e1, e2]
      exact .inr ⟨rfl, costA_inf g hn ha hv q (j + 1) (drop_step hq).2.2.1⟩
    · have e1 : eA m j x = true := by unfold eA; simp [e]
      have e2 : plus s (En m j x.toNat) = s + En m j x.toNat := by unfold plus; rw [if_neg (by omega)]
      rw [e1, e2]
      simp only [Bool.true_and]
      exact ih (j + 1) _ (drop_step hq).2.2.1 (by omega) (by omega) (by omega)
end
/-- What both sides say of a list as an assignment. -/
theorem assign_both {m : List (List Int)} (g : Good m m.length) (a : List Int) : ∃ b c, spec_asGood_m m a = some b ∧ impl_isAssignment_m m a = some c ∧
    ((c = false ∧ b = false) ∨ (c = true ∧ b = false ∧ impl_costOf_m m a = some 1000000000) ∨ (c = true ∧ b = true ∧ ∃ s, impl_costOf_m m a = some s ∧ spec_asCost_m m a = some s ∧ -6000000 ≤ s ∧ s ≤ 6000000)) := by
  have hi := g.chi; have hlo := g.clo
  have sh := g.shape
  unfold spec_asGood_m impl_isAssignment_m
  rw [nbne]
  by_cases hl : a.length = m.length
  case neg => rw [decide_eq_false hl]; exact ⟨false, false, rfl, rfl, .inl ⟨rfl, rfl⟩⟩
  rw [decide_eq_true hl, ck_in (by omega) (by omega), guardO_t (by simp; omega)]
  simp only [bs, Bool.not_true, cF, l1All_eq]
  have i1 := isAssignment_l1_eq (m := m) rfl hi a hl a 0 (List.replicate m.length false) rfl (by simp) (fun y h0 h1 => by simp [List.getElem?_replicate]; omega)
  rw [show ((m.length : Int)).toNat = m.length by omega, i1]
  have e : (a.all fun n => inR n 0 ((m.length : Int) - 1)) = a.all (isV m) := rfl
  rw [e]
  cases hv : a.all (isV m)
  · have hf : allI (fA m a) a 0 = false := by
      cases h : allI (fA m a) a 0
      · rfl
      · rw [allI_iff _ (0 : Int)] at h
        have : a.all (isV m) = true := List.all_eq_true.2 fun x hx => by
          obtain ⟨i, hi, e⟩ := List.mem_iff_getElem.1 hx
          have := h i hi
          simp only [fA, Bool.and_eq_true] at this
          have e2 : a.getD i 0 = x := by simp [hi, e]
          rw [e2] at this
          exact this.1
        rw [hv] at this; cases this
    rw [hf]
    exact ⟨false, false, rfl, rfl, .inl ⟨rfl, rfl⟩⟩
  have hv := List.all_eq_true.1 hv
  have s1 := asGood_l1_eq sh a hl hv a 0 rfl
  rw [s1]
  simp only [Bool.not_true, cF, bs]
  have hc := cost_both g rfl hl hv a 0 0 rfl (by omega) (by omega) (by omega)
  cases hf : allI (fA m a) a 0
  · have hh : allI (hA m a) a 0 = false := by
      cases h : allI (hA m a) a 0
      · rfl
      · rw [allI_iff _ (0 : Int)] at h
        have : allI (fA m a) a 0 = true := (allI_iff _ (0 : Int) _ _).2 fun i hi => by
          have := h i hi
          simp only [hA, fA, Bool.and_eq_true, Nat.zero_add] at this ⊢
          exact ⟨hv _ (by simp [hi]), this.1⟩
        rw [hf] at this; cases this
    rw [hh]
    exact ⟨false, false, rfl, rfl, .inl ⟨rfl, rfl⟩⟩
  · have hh : allI (hA m a) a 0 = allI (eA m) a 0 := by
      rw [Bool.eq_iff_iff, allI_iff _ (0 : Int), allI_iff _ (0 : Int)]
      rw [allI_iff _ (0 : Int)] at hf
      constructor
      · intro h i hi
        have := h i hi
        simp only [hA, eA, Bool.and_eq_true] at this ⊢
        exact this.2
      · intro h i hi
        have h1 := h i hi
        have h2 := hf i hi
        simp only [hA, eA, fA, Bool.and_eq_true] at h1 h2 ⊢
        exact ⟨h2.2, h1⟩
    rw [hh]
    unfold impl_costOf_m spec_asCost_m
    rcases hc with ⟨h1, s, h2, h3, h4, h5⟩ | ⟨h1, h2⟩
    · rw [h1, h2, h3]
      exact ⟨true, true, rfl, rfl, .inr (.inr ⟨rfl, rfl, s, rfl, rfl, by omega, by omega⟩)⟩
    · rw [h1, h2]
      exact ⟨false, true, rfl, rfl, .inr (.inl ⟨rfl, rfl, rfl⟩)⟩
theorem CostOfAssignment_both (m : List (List Int)) (a : List Int) : ∃ r, spec_CostOfAssignment_m m a = some r ∧ impl_CostOfAssignment_m m a = some r ∧ True := by
  unfold spec_CostOfAssignment_m impl_CostOfAssignment_m
  rw [mxSquare_eq, isSquare_eq]
  simp only [bs]
  cases hs : sqr m
  · exact ⟨_, rfl, rfl, trivial⟩
  obtain ⟨b, c, h1, h2, h3⟩ := assign_both (sqr_good hs) a
  rw [h1, h2]
  rcases h3 with ⟨e1, e2⟩ | ⟨e1, e2, e3⟩ | ⟨e1, e2, s, e3, e4, e5, e6⟩
  · subst e1; subst e2; exact ⟨_, rfl, rfl, trivial⟩
  · subst e1; subst e2; rw [e3]; exact ⟨_, rfl, rfl, trivial⟩
  · subst e1; subst e2; rw [e3, e4]
    have : (s == 1000000000) = false := beq_eq_false_iff_ne.2 (by omega)
    simp only [bs, Bool.not_true, cF, this, nuIf_eq, told_eq]
    exact ⟨_, rfl, rfl, trivial⟩
theorem chSum_total (q : List Int) : ∀ j n, spec_chSum_l1 q j n = impl_total_l1 q j n := by
  induction q with
  | nil => intro j n; rfl
  | cons x q ih => intro j n; rw [spec_chSum_l1, impl_total_l1]; congr 1; funext y; exact ih _ _
theorem total_some (q : List Int) : ∀ (k : Nat) j n, (∀ x ∈ q, fin x = true) → -((k : Int) * 1000000) ≤ n → n ≤ (k : Int) * 1000000 → k + q.length ≤ 1000 → ∃ s, impl_total_l1 q j n = some s ∧ -1000000000 ≤ s ∧ s ≤ 1000000000 := by
  induction q with
  | nil => intro k j n _ h1 h2 hk; simp only [List.length_nil] at hk; exact ⟨n, rfl, by omega, by omega⟩
  | cons x q ih =>
    intro k j n hf h1 h2 hk
    simp only [List.length_cons] at hk
    have hx := (fin_iff x).1 (hf x List.mem_cons_self)
    rw [impl_total_l1, ck_in (by omega) (by omega)]
    simp only [bs]
    exact ih (k + 1) (j + 1) (n + x) (fun y hy => hf y (List.mem_cons_of_mem _ hy)) (by omega) (by omega) (by omega)
theorem IsProvedBest_both (m : List (List Int)) (a u v : List Int) : ∃ r, spec_IsProvedBest_m m a u v = some r ∧ impl_IsProvedBest_m m a u v = some r ∧ True := by
  unfold spec_IsProvedBest_m impl_IsProvedBest_m impl_ArePrices_m
  rw [asNumbers_eq, isSquare_eq, areOnePerVertex_eq, areOnePerVertex_eq]
  simp only [bs]
  cases hs : sqr m
  · exact ⟨_, rfl, rfl, trivial⟩
  cases hu : (decide (u.length = m.length) && u.all fin)
  · exact ⟨_, rfl, rfl, trivial⟩
  cases hw : (decide (v.length = m.length) && v.all fin)
  · exact ⟨_, rfl, rfl, trivial⟩
  simp only [Bool.and_eq_true, decide_eq_true_eq, List.all_eq_true] at hu hw
  have g := sqr_good hs
  have := g.hi
  obtain ⟨p, p1, p2⟩ := arePrices_both g u v hu.2 hw.2 hu.1 hw.1
  obtain ⟨b, c, h1, h2, h3⟩ := assign_both g a
  obtain ⟨su, t1, t2, t3⟩ := total_some u 0 0 0 hu.2 (by omega) (by omega) (by omega)
  obtain ⟨sv, t4, t5, t6⟩ := total_some v 0 0 0 hw.2 (by omega) (by omega) (by omega)
  have c1 : spec_chSum_m u = some su := by unfold spec_chSum_m; rw [chSum_total, t1]; rfl
  have c2 : spec_chSum_m v = some sv := by unfold spec_chSum_m; rw [chSum_total, t4]; rfl
  have c3 : impl_total_m u = some su := by unfold impl_total_m; rw [t1]; rfl
  have c4 : impl_total_m v = some sv := by unfold impl_total_m; rw [t4]; rfl
  have c5 : ck (su + sv) = some (su + sv) := ck_in (by omega) (by omega)
  rw [h1, p1, p2]
  simp only [bs, Bool.not_true, cF, Bool.true_and, c1, c2, c3, c4, c5, h2]
  rcases h3 with ⟨e1, e2⟩ | ⟨e1, e2, e3⟩ | ⟨e1, e2, s, e3, e4, e5, e6⟩
  · subst e1; subst e2; exact ⟨_, rfl, rfl, trivial⟩
  · subst e1; subst e2; rw [e3]; exact ⟨_, rfl, rfl, trivial⟩
  · subst e1; subst e2; rw [e3, e4]
    have : (s == 1000000000) = false := beq_eq_false_iff_ne.2 (by omega)
    simp only [bs, Bool.not_true, cF, this]
    cases p <;> exact ⟨_, rfl, rfl, trivial⟩
end Go.Proofs.Ytnnhbkhlipekeaa
