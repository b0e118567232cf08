/- Plain laws: the costs of ways, the centre, what lies within a cost. -/
import Derived.Test.YtjicdfplhenohaaPFwC
import Derived.Test.YtjicdfplhenohaaPWy3
namespace Go.Proofs.Ytjicdfplhenohaa
set_option linter.unusedVariables false
set_option linter.unusedSimpArgs false
set_option linter.unusedSectionVars false

theorem wyStart_eq (n : Nat) (h0 : 1 ≤ n) (h1 : n ≤ 6) : spec_wyStart_m (n : Int) = some (unitM n) := by
  have : n = 1 ∨ n = 2 ∨ n = 3 ∨ n = 4 ∨ n = 5 ∨ n = 6 := by omega
  rcases this with e | e | e | e | e | e <;> subst e <;> decide +kernel
theorem unitM_En {n a b : Nat} (ha : a < n) (hb : b < n) : En (unitM n) a b = if a = b then 0 else 1000000000 := by
  simp [En, nth, nthM, unitM, ha, hb]
theorem unitM_shape (n : Nat) : Shape (unitM n) n n := ⟨by simp [unitM], fun l hl => by
  simp only [unitM, List.mem_map] at hl
  obtain ⟨i, _, rfl⟩ := hl
  simp⟩
theorem stepF_congr {n : Nat} {m c c' : Mt} (h : ∀ a b, a < n → b < n → c a b = c' a b) {a b : Nat} (ha : a < n) (hb : b < n) : stepF n m c a b = stepF n m c' a b := by
  unfold stepF
  rw [h a b ha hb]
  have : ∀ (l : List Nat) (z : Ex), (∀ j ∈ l, j < n) → inf (fun j => padd (c a j) (m j b)) l z = inf (fun j => padd (c' a j) (m j b)) l z := by
    intro l
    induction l with
    | nil => intro z _; rfl
    | cons j l ih =>
      intro z hl
      rw [inf, inf, h a j ha (hl j List.mem_cons_self)]
      exact ih _ (fun x hx => hl x (List.mem_cons_of_mem _ hx))
  exact this _ _ (fun j hj => List.mem_range.1 hj)
/-- c holds the costs after t steps. -/
structure After (n : Nat) (m : List (List Int)) (t : Nat) (c : List (List Int)) : Prop where
  sh : Shape c n n
  eq : ∀ a b, a < n → b < n → A n c a b = cs n (A n m) t a b
  wi : ∀ a b, a < n → b < n → wi (-(t * 1000000)) (t * 1000000) (En c a b)
section
variable {m : List (List Int)} {n : Nat} (g : Good m n) (hn : m.length = n)
include g hn
theorem after_0 : After n m 0 (unitM n) := ⟨unitM_shape n, fun a b ha hb => by
  rw [A_in ha hb, unitM_En ha hb]
  simp only [cs, startF]
  by_cases e : a = b
  · simp [e, conv]
  · simp [e, conv], fun a b ha hb => by
  rw [unitM_En ha hb]
  split
  · right; omega
  · left; rfl⟩
theorem after_step {t : Nat} {c : List (List Int)} (h : After n m t c) (ht : t ≤ 7) : ∃ c', spec_wyStep_m m c = some c' ∧ After n m (t + 1) c' := by
  have hm : Shape m n n := ⟨hn, g.row⟩
  obtain ⟨c', h1, h2, h3, h4⟩ := wyStep_eq (B := (t : Int) * 1000000) hm h.sh (fun a b ha hb => num_wi (En_num g (by omega) hb)) h.wi (by omega) (by omega) g.chi
  refine ⟨c', h1, h2, fun a b ha hb => ?_, fun a b ha hb => (h4 a b ha hb).mono (by omega) (by omega)⟩
  rw [h3 a b ha hb, stepF_congr h.eq ha hb]
  rfl
theorem after_l1 (q : List (List Int)) : ∀ t j c, After n m t c → t + q.length ≤ 7 → ∃ c', spec_wyCosts_l1 m q j c = some c' ∧ After n m (t + q.length) c' := by
  induction q with
  | nil => intro t j c h _; exact ⟨c, rfl, h⟩
  | cons x q ih =>
    intro t j c h ht
    simp only [List.length_cons] at ht
    obtain ⟨c1, h1, h2⟩ := after_step g hn h (by omega)
    rw [spec_wyCosts_l1, h1]
    simp only [bs]
    obtain ⟨c', k1, k2⟩ := ih (t + 1) (j + 1) c1 h2 (by omega)
    exact ⟨c', k1, by rw [List.length_cons, show t + (q.length + 1) = t + 1 + q.length by omega]; exact k2⟩
end
theorem l1Same_l1_eq (b : List Int) (q : List Int) : ∀ j, j + q.length = b.length → spec_l1Same_l1 b q j = some (cond (decide (q = b.drop j)) (Sum.inr ()) (Sum.inl false)) := by
  induction q with
  | nil => intro j hj; simp only [List.length_nil, Nat.add_zero] at hj; subst hj; simp [spec_l1Same_l1]
  | cons x q ih =>
    intro j hj
    simp only [List.length_cons] at hj
    rw [spec_l1Same_l1, idx_lt (show j < b.length by omega), drop_cons (show j < b.length by omega)]
    simp only [bs, List.cons.injEq]
    by_cases e : x = b[j]
    · rw [ih (j + 1) (by omega)]; simp [e]
    · have h' : (x != b[j]) = true := by simpa using e
      rw [h']; simp [e]
theorem l1Same_eq (a b : List Int) : spec_l1Same_m a b = some (decide (a = b)) := by
  unfold spec_l1Same_m
  rw [nbne]
  by_cases h : a.length = b.length
  · rw [decide_eq_true h, l1Same_l1_eq b a 0 (by omega)]
    simp only [Bool.not_true, cF, bs, List.drop_zero]
    cases decide (a = b) <;> rfl
  · rw [decide_eq_false h, decide_eq_false (fun e => h (by rw [e]))]; rfl
theorem wySame_l1_eq (b : List (List Int)) (q : List (List Int)) : ∀ j, j + q.length = b.length → spec_wySame_l1 b q j = some (cond (decide (q = b.drop j)) (Sum.inr ()) (Sum.inl false)) := by
  induction q with
  | nil => intro j hj; simp only [List.length_nil, Nat.add_zero] at hj; subst hj; simp [spec_wySame_l1]
  | cons x q ih =>
    intro j hj
    simp only [List.length_cons] at hj
    rw [spec_wySame_l1, idx_lt (show j < b.length by omega), drop_cons (show j < b.length by omega)]
    simp only [bs, l1Same_eq, List.cons.injEq]
    by_cases e : x = b[j]
    · rw [ih (j + 1) (by omega)]; simp [e]
    · simp [e]
theorem wySame_eq {a b : List (List Int)} (h : a.length = b.length) : spec_wySame_m a b = some (decide (a = b)) := by
  unfold spec_wySame_m
  rw [wySame_l1_eq b a 0 (by omega), List.drop_zero]
  cases decide (a = b) <;> rfl
/-- The two ways to the costs: the same matrix, or none for both. -/
theorem ways_both {m : List (List Int)} (g : Good m m.length) : ∃ c ok d, spec_wyCosts_m m = some (c, ok) ∧ impl_wayCosts_m m = some (d, ok) ∧ (ok = true → c = d ∧ Shape d m.length m.length) ∧ (ok = false → d = []) := by
  generalize hn : m.length = n at *
  have hhi := g.chi; have hlo := g.clo
  obtain ⟨c, c1, c2⟩ := after_l1 g hn m 0 0 (unitM n) (after_0 g hn) (by omega)
  rw [hn, Nat.zero_add] at c2
  obtain ⟨c', s1, s2⟩ := after_step g hn c2 (by omega)
  have g' : Good m m.length := hn.symm ▸ g
  obtain ⟨d, d1, d2, ⟨d0, e1, e2, e3⟩, d3⟩ := wayCosts_eq g'
  rw [hn] at d1 d2 e1 e2 e3 d3
  obtain ⟨f1, f2⟩ := fw_bf e2 e3
  have hsp : spec_wyCosts_m m = some (c, decide (c = c')) := by
    unfold spec_wyCosts_m
    rw [hn, wyStart_eq n hlo hhi]
    simp only [bs]
    rw [c1]
    simp only [bs]
    rw [s1]
    simp only [bs]
    rw [wySame_eq (by rw [c2.sh.len, s2.sh.len])]
    rfl
  have hdiag : ∀ i, i < n → (0 ≤ En d i i ↔ ple (some 0) (fwF n n 0 d0 i i)) := fun i hi => by
    rw [← e1, A_in hi hi]
    unfold conv
    by_cases e : En d i i = 1000000000
    · rw [if_pos e, e]; exact ⟨fun _ => trivial, fun _ => by omega⟩
    · rw [if_neg e]; exact Iff.rfl
  rcases d3 with ⟨h1, h2⟩ | ⟨⟨i, hi, h1⟩, h2⟩
  · have hf := f1 (fun i hi => (hdiag i hi).1 (h1 i hi))
    have hcd : c = d := c2.sh.ext d1 fun a b ha hb => conv_inj (by
      rw [← A_in ha hb, ← A_in ha hb, c2.eq a b ha hb, (hf a b ha hb).1, e1])
    have hcc : c = c' := c2.sh.ext s2.sh fun a b ha hb => conv_inj (by
      rw [← A_in ha hb, ← A_in ha hb, c2.eq a b ha hb, s2.eq a b ha hb, (hf a b ha hb).1, (hf a b ha hb).2])
    refine ⟨c, true, d, ?_, h2, fun _ => ⟨hcd, d1⟩, fun h => by cases h⟩
    rw [hsp, decide_eq_true hcc]
  · refine ⟨c, false, [], ?_, h2, (fun h => by cases h), fun _ => rfl⟩
    rw [hsp, decide_eq_false]
    intro hcc
    have := f2 (fun a b ha hb => by rw [← s2.eq a b ha hb, ← c2.eq a b ha hb, hcc]) i hi
    have := (hdiag i hi).2 this
    omega
theorem WayCosts_both (m : List (List Int)) : ∃ r, spec_WayCosts_m m = some r ∧ impl_WayCosts_m m = some r ∧ SmallM r.1 := by
  unfold spec_WayCosts_m impl_WayCosts_m
  rw [mxSquare_eq, isSquare_eq]
  simp only [bs]
  cases hs : sqr m
  · exact ⟨([], false), rfl, rfl, smallM_nil⟩
  have g := sqr_good hs
  obtain ⟨c, ok, d, h1, h2, h3, h4⟩ := ways_both g
  rw [h1, h2]
  simp only [bs, Bool.not_true, cF]
  cases ok
  · exact ⟨([], false), rfl, rfl, smallM_nil⟩
  obtain ⟨e, sh⟩ := h3 rfl
  subst e
  simp only [Bool.not_true, cF, bs, wyGood_eq, toldNumbers_eq]
  cases c.all fun r => r.all num
  · exact ⟨([], false), rfl, rfl, smallM_nil⟩
  · exact ⟨(c, true), rfl, rfl, sh.small g.hi g.hi⟩

/-! ### The centre -/
theorem l1Most_eq (a b : Int) : spec_l1Most_m a b = some (max a b) := by
  unfold spec_l1Most_m
  by_cases h : a > b
  · rw [decide_eq_true h]; simp; omega
  · rw [decide_eq_false h]; simp; omega
theorem Centre_l2_eq (q : List Int) : ∀ j n, spec_CentreOf_l2 q j n = some (q.foldl max n) := by
  induction q with
  | nil => intro j n; rfl
  | cons x q ih => intro j n; rw [spec_CentreOf_l2, l1Most_eq]; simp only [bs, ih, List.foldl_cons]
theorem Max_l1_eq (p : List Int) (hs : p.length < 1000000) : ∀ (k i : Nat) (n : Int), i ≤ p.length → p.length - i < k → slices_Max_int_int_l1 p k n i = some ((p.drop i).foldl max n) := by
  intro k
  induction k with
  | zero => intro i n _ h; omega
  | succ k ih =>
    intro i n hi hk
    rw [slices_Max_int_int_l1]
    by_cases h : i < p.length
    · rw [decide_eq_true (show (i : Int) < (p.length : Int) by omega), idx_lt h, drop_cons h]
      simp only [cT, bs]
      rw [ck_nat (by omega)]
      simp only [bs]
      rw [ih (i + 1) _ (by omega) (by omega), List.foldl_cons]
    · rw [decide_eq_false (by omega), List.drop_eq_nil_of_le (by omega)]; rfl
theorem Max_eq {p : List Int} (h0 : 0 < p.length) (h1 : p.length < 1000000) : slices_Max_int_int_m p = some (p.foldl max (nth p 0)) := by
  unfold slices_Max_int_int_m
  rw [decide_eq_false (by omega), idx_nth0 h0]
  simp only [cF, bs]
  have := Max_l1_eq p h1 4000000 1 (nth p 0) (by omega) (by omega)
  rw [show ((1 : Nat) : Int) = 1 from rfl] at this
  rw [this]
  simp only [bs]
  cases p with
  | nil => simp at h0
  | cons x p => simp [nth]
theorem Centre_l1 {n : Nat} (h0 : 0 < n) (h1 : n < 1000000) (q : List (List Int)) : ∀ j a b, (∀ l ∈ q, l.length = n) → ∃ r, spec_CentreOf_l1 q j a b = some r ∧ impl_CentreOf_l1 q j a b = some r := by
  induction q with
  | nil => intro j a b _; exact ⟨_, rfl, rfl⟩
  | cons x q ih =>
    intro j a b h
    have hx := h x List.mem_cons_self
    rw [spec_CentreOf_l1, impl_CentreOf_l1, idx_nth0 (by omega), Max_eq (by omega) (by omega)]
    simp only [bs, Centre_l2_eq]
    cases decide (x.foldl max (nth x 0) < b)
    · exact ih (j + 1) a b (fun l hl => h l (List.mem_cons_of_mem _ hl))
    · exact ih (j + 1) _ _ (fun l hl => h l (List.mem_cons_of_mem _ hl))
theorem CentreOf_both (m : List (List Int)) : ∃ r, spec_CentreOf_m m = some r ∧ impl_CentreOf_m m = some r ∧ True := by
  unfold spec_CentreOf_m impl_CentreOf_m impl_WayCosts_m
  rw [mxSquare_eq, isSquare_eq]
  simp only [bs]
  cases hs : sqr m
  · exact ⟨_, rfl, rfl, trivial⟩
  have g := sqr_good hs
  obtain ⟨c, ok, d, h1, h2, h3, h4⟩ := ways_both g
  rw [h1, h2]
  simp only [bs, Bool.not_true, cF]
  cases ok
  · exact ⟨_, rfl, rfl, trivial⟩
  obtain ⟨e, sh⟩ := h3 rfl
  subst e
  simp only [Bool.not_true, cF, bs, wyGood_eq, toldNumbers_eq]
  cases c.all fun r => r.all num
  · exact ⟨_, rfl, rfl, trivial⟩
  have := g.lo; have := g.hi
  obtain ⟨r, r1, r2⟩ := Centre_l1 (n := m.length) (by omega) (by omega) c 0 0 1000000000 sh.row
  simp only [Bool.not_true, cF, cT]
  rw [r1, r2]
  simp only [bs]
  cases r.1 == 1000000000 <;> exact ⟨_, rfl, rfl, trivial⟩

/-! ### Within a cost -/
theorem Within_l1 (p : Int) (q : List Int) : ∀ j l, l.length + q.length < 1000000 → ∃ r, spec_WithinCost_l1 p q j l = some r ∧ impl_WithinCost_l1 p q j l = some r ∧ r.length ≤ l.length + q.length := by
  induction q with
  | nil => intro j l _; exact ⟨l, rfl, rfl, by simp⟩
  | cons x q ih =>
    intro j l hl
    simp only [List.length_cons] at hl
    rw [spec_WithinCost_l1, impl_WithinCost_l1, app_lt (by omega)]
    simp only [bs]
    cases decide (x ≤ p)
    · obtain ⟨r, h1, h2, h3⟩ := ih (j + 1) l (by omega)
      exact ⟨r, h1, h2, by simp only [List.length_cons]; omega⟩
    · obtain ⟨r, h1, h2, h3⟩ := ih (j + 1) (l ++ [(j : Int)]) (by simp; omega)
      exact ⟨r, h1, h2, by simp only [List.length_append, List.length_cons, List.length_nil] at *; omega⟩
theorem WithinCost_both (m : List (List Int)) (a p : Int) : ∃ r, spec_WithinCost_m m a p = some r ∧ impl_WithinCost_m m a p = some r ∧ Small r.1 := by
  unfold spec_WithinCost_m impl_WithinCost_m
  rw [mxSquare_eq, isSquare_eq]
  simp only [bs]
  cases hs : sqr m
  · exact ⟨([], false), rfl, rfl, small_nil⟩
  have g := sqr_good hs
  have := g.lo; have := g.hi
  rw [ck_in (by omega) (by omega), areVertices_eq m (by omega), poFinite_eq, isFinite_eq]
  simp only [bs, Bool.not_true, cF, l1In_eq]
  have e : [a].all (isV m) = inR a 0 ((m.length : Int) - 1) := by simp [isV]
  rw [e]
  cases ha : inR a 0 ((m.length : Int) - 1)
  · exact ⟨([], false), rfl, rfl, small_nil⟩
  cases hp : fin p
  · exact ⟨([], false), rfl, rfl, small_nil⟩
  unfold impl_WayCosts_m
  rw [isSquare_eq, hs]
  obtain ⟨c, ok, d, h1, h2, h3, h4⟩ := ways_both g
  rw [h1]
  simp only [bs, Bool.not_true, cF]
  rw [h2]
  simp only [bs]
  cases ok
  · exact ⟨([], false), rfl, rfl, small_nil⟩
  obtain ⟨e, sh⟩ := h3 rfl
  subst e
  simp only [Bool.not_true, cF, bs, wyGood_eq, toldNumbers_eq]
  cases c.all fun r => r.all num
  · exact ⟨([], false), rfl, rfl, small_nil⟩
  have ha := (inR_iff _ _ _).1 ha
  have hl := sh.len
  simp only [Bool.not_true, cF, cT]
  rw [idx_intM ha.1 (by omega)]
  simp only [bs]
  have hr : (nthM c a.toNat).length = m.length := sh.row _ (nthM_mem (by omega))
  obtain ⟨r, r1, r2, r3⟩ := Within_l1 p (nthM c a.toNat) 0 [] (by simp; omega)
  rw [r1, r2]
  exact ⟨(r, true), rfl, rfl, by unfold Small; simp at r3 ⊢; omega⟩
end Go.Proofs.Ytjicdfplhenohaa
