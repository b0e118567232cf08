/- Plain laws: the mean of a circuit. -/
import Derived.Test.YtjhaealoneennaaPMean
import Derived.Test.YtjhaealoneennaaPSame
import Derived.Test.YtjhaealoneennaaPWy3
namespace Go.Proofs.Ytjhaealoneennaa
set_option linter.unusedVariables false
set_option linter.unusedSimpArgs false
set_option linter.unusedSectionVars false

theorem nthA {l t : List Int} {i : Nat} (h : i < l.length) : nth (l ++ t) i = nth l i := by
  unfold nth; rw [List.getD_eq_getElem?_getD, List.getD_eq_getElem?_getD, List.getElem?_append_left h]
theorem nthB {l s : List Int} {x : Int} : nth (l ++ x :: s) l.length = x := by
  unfold nth; simp
theorem mem_circs {m : List (List Int)} {n : Nat} : ∀ (s l : List Int) (r : Nat), s.length < r → 0 < l.length → Beg m n (l ++ s) → arc m (lst (l ++ s)) (nth (l ++ s) 0) ≠ 1000000000 → (l ++ s) ∈ circs m n r l
  | [], l, r, hr, h0, hb, hc => by
    obtain ⟨r, rfl⟩ : ∃ r', r = r' + 1 := ⟨r - 1, by omega⟩
    rw [List.append_nil] at hb hc ⊢
    rw [circs, if_neg hc]
    simp
  | x :: s, l, r, hr, h0, hb, hc => by
    simp only [List.length_cons] at hr
    obtain ⟨r, rfl⟩ : ∃ r', r = r' + 1 := ⟨r - 1, by omega⟩
    have e : l ++ x :: s = (l ++ [x]) ++ s := by simp
    have hlen : (l ++ x :: s).length = l.length + (s.length + 1) := by simp
    have hx := hb.node x (by simp)
    have hup := hb.up l.length h0 (by omega)
    rw [nthA h0, nthB] at hup
    have harc := hb.arcs (l.length - 1) (by omega)
    rw [nthA (by omega), show l.length - 1 + 1 = l.length by omega, nthB] at harc
    have h0n := hb.node (nth l 0) (List.mem_append_left _ (nth_mem h0))
    have hnc : l.contains x = false := by
      have := hb.apart
      rw [List.nodup_append] at this
      simp only [List.contains_eq_mem, decide_eq_false_iff_not]
      intro hm
      exact this.2.2 x hm x (by simp) rfl
    have ih := mem_circs s (l ++ [x]) r (by omega) (by simp) (by rw [← e]; exact hb) (by rw [← e]; exact hc)
    rw [e, circs]
    refine List.mem_append_right _ (List.mem_flatMap.2 ⟨x.toNat, ?_, ?_⟩)
    · rw [List.mem_range'_1]
      omega
    · have ex : ((x.toNat : Nat) : Int) = x := by omega
      rw [ex, if_neg (by
        rintro (h | h)
        · exact harc h
        · rw [hnc] at h; cases h)]
      exact ih
theorem mem_allC {m : List (List Int)} {n : Nat} {a : List Int} (hb : Beg m n a) (hc : arc m (lst a) (nth a 0) ≠ 1000000000) (hl : a.length ≤ n) : a ∈ allC m n := by
  cases a with
  | nil => have := hb.pos; simp at this
  | cons x s =>
    have hx := hb.node x List.mem_cons_self
    simp only [List.length_cons] at hl
    refine List.mem_flatMap.2 ⟨x.toNat, ?_, ?_⟩
    · rw [List.mem_range'_1]; omega
    · rw [show ((x.toNat : Nat) : Int) = x by omega]
      exact mem_circs s [x] n (by omega) (by simp) hb hc

/-! ### Costs, Infinity among them -/
def scP (m : List (List Int)) (l : List Int) : Nat → Int
  | 0 => 0
  | i + 1 => plus (scP m l i) (arc m (nth l i) (nth l (i + 1)))
section
variable {m : List (List Int)} {n : Nat} (g : Good m n) (hn : m.length = n)
include g hn
theorem arc_num {a b : Int} (ha : 0 ≤ a ∧ a < (n : Int)) (hb : 0 ≤ b ∧ b < (n : Int)) : (-1000000 ≤ arc m a b ∧ arc m a b ≤ 1000000) ∨ arc m a b = 1000000000 :=
  (num_iff _).1 (En_num g (i := a.toNat) (k := b.toNat) (by omega) (by omega))
variable {l : List Int} (hv : ∀ x ∈ l, 0 ≤ x ∧ x < (n : Int)) (hl : l.length ≤ 6)
include hv hl
theorem scP_bd : ∀ i, i < l.length → ((-((i : Int) * 1000000) ≤ scP m l i ∧ scP m l i ≤ (i : Int) * 1000000) ∨ scP m l i = 1000000000) ∧ (scP m l i ≠ 1000000000 ↔ ∀ j, j < i → arc m (nth l j) (nth l (j + 1)) ≠ 1000000000)
  | 0, _ => ⟨by left; simp [scP], by simp [scP]⟩
  | i + 1, h => by
    obtain ⟨h1, h2⟩ := scP_bd i (by omega)
    have h3 := arc_num g hn (hv _ (nth_mem (show i < l.length by omega))) (hv _ (nth_mem h))
    have hp : scP m l (i + 1) = plus (scP m l i) (arc m (nth l i) (nth l (i + 1))) := rfl
    unfold plus at hp
    by_cases c : scP m l i = 1000000000 ∨ arc m (nth l i) (nth l (i + 1)) = 1000000000
    · rw [if_pos c] at hp
      refine ⟨.inr hp, ⟨fun h => absurd hp h, fun h => ?_⟩⟩
      rcases c with c | c
      · exact absurd c (h2.2 fun j hj => h j (by omega))
      · exact absurd c (h i (by omega))
    · rw [if_neg c] at hp
      have c1 : scP m l i ≠ 1000000000 := fun e => c (.inl e)
      have c2 : arc m (nth l i) (nth l (i + 1)) ≠ 1000000000 := fun e => c (.inr e)
      refine ⟨.inl (by rw [hp]; push_cast; omega), ⟨fun _ j hj => ?_, fun _ => by rw [hp]; omega⟩⟩
      by_cases e : j = i
      · rw [e]; exact c2
      · exact h2.1 c1 j (by omega)
theorem costOfSteps_l1_gen : ∀ (q fuel i : Nat), i + q = l.length → q < fuel → 1 ≤ i → impl_costOfSteps_l1 m l fuel (scP m l (i - 1)) (i : Int) = some (scP m l (l.length - 1)) := by
  intro q
  induction q with
  | zero =>
    intro fuel i hi hf h1
    obtain ⟨fuel, rfl⟩ : ∃ k', fuel = k' + 1 := ⟨fuel - 1, by omega⟩
    rw [impl_costOfSteps_l1, decide_eq_false (by omega), show i - 1 = l.length - 1 by omega]
    rfl
  | succ q ih =>
    intro fuel i hi hf h1
    obtain ⟨fuel, rfl⟩ : ∃ k', fuel = k' + 1 := ⟨fuel - 1, by omega⟩
    obtain ⟨i, rfl⟩ : ∃ i', i = i' + 1 := ⟨i - 1, by omega⟩
    rw [impl_costOfSteps_l1, decide_eq_true (by omega)]
    have k1 : ck (((i + 1 : Nat) : Int) - 1) = some (i : Int) := by
      rw [ck_in (by omega) (by omega)]; congr 1; omega
    have n1 := hv _ (nth_mem (show i < l.length by omega))
    have n2 := hv _ (nth_mem (show i + 1 < l.length by omega))
    obtain ⟨e1, e2⟩ := arc_idx g hn n1 n2
    have hf := arc_num g hn n1 n2
    have hs := (scP_bd g hn hv hl i (by omega)).1
    simp only [cT, k1, bs]
    rw [idx_nth (show i < l.length by omega)]
    simp only [bs, e1]
    rw [idx_nth (show i + 1 < l.length by omega)]
    simp only [bs, e2]
    rw [show i + 1 - 1 = i by omega, product_eq (by omega) (by omega), ck_nat (by omega)]
    simp only [bs]
    exact ih fuel (i + 1 + 1) (by omega) (by omega) (by omega)
theorem costOfCircuit_gen (h0 : 0 < l.length) : ∃ z, impl_costOfCircuit_m m l = some z ∧ (z ≠ 1000000000 ↔ (∀ j, j + 1 < l.length → arc m (nth l j) (nth l (j + 1)) ≠ 1000000000) ∧ arc m (lst l) (nth l 0) ≠ 1000000000) := by
  have n1 := hv _ (nth_mem h0)
  have n2 := hv _ (nth_mem (show l.length - 1 < l.length by omega))
  obtain ⟨e1, e2⟩ := arc_idx g hn n2 n1
  have hs := scP_bd g hn hv hl (l.length - 1) (by omega)
  have hf := arc_num g hn n2 n1
  refine ⟨plus (scP m l (l.length - 1)) (arc m (lst l) (nth l 0)), ?_, ?_⟩
  · unfold impl_costOfCircuit_m impl_costOfSteps_m
    have h1 := costOfSteps_l1_gen g hn hv hl (l.length - 1) 4000000 1 (by omega) (by omega) (by omega)
    simp only [Nat.sub_self] at h1
    rw [show scP m l 0 = 0 from rfl, show ((1 : Nat) : Int) = 1 from rfl] at h1
    rw [h1, ck_in (by omega) (by omega)]
    simp only [bs]
    rw [show ((l.length : Int) - 1) = ((l.length - 1 : Nat) : Int) by omega, idx_nth (by omega)]
    simp only [bs]
    rw [e1]
    simp only [bs]
    rw [idx_nth0 h0]
    simp only [bs, e2]
    rw [product_eq (by omega) (by omega)]
    rfl
  · have hf : (-1000000 ≤ arc m (lst l) (nth l 0) ∧ arc m (lst l) (nth l 0) ≤ 1000000) ∨ arc m (lst l) (nth l 0) = 1000000000 := hf
    have h2 := hs.2
    have h2' : scP m l (l.length - 1) ≠ 1000000000 ↔ ∀ j, j + 1 < l.length → arc m (nth l j) (nth l (j + 1)) ≠ 1000000000 :=
      h2.trans ⟨fun h j hj => h j (by omega), fun h j hj => h j (by omega)⟩
    rw [← h2']
    unfold plus
    by_cases c : scP m l (l.length - 1) = 1000000000 ∨ arc m (lst l) (nth l 0) = 1000000000
    · rw [if_pos c]
      refine ⟨fun h => absurd rfl h, fun h => ?_⟩
      rcases c with c | c
      · exact absurd c h.1
      · exact absurd c h.2
    · rw [if_neg c]
      exact ⟨fun _ => ⟨fun e => c (.inl e), fun e => c (.inr e)⟩, fun _ => by omega⟩
end

/-! ### What a circuit is -/
theorem isCir_l1 (p : List Int) (h0 : 0 < p.length) (q : List Int) : ∀ (j : Nat) (seen : List Int), (∀ x ∈ q, -9223372036854775808 ≤ x ∧ x ≤ 9223372036854775807) → seen.length + q.length < 1000000 →
    ∃ b : Bool, impl_isCircuit_l1 p q j seen = some (cond b (Sum.inr ()) (Sum.inl false)) ∧ (b = true ↔ q.Nodup ∧ (∀ x ∈ q, x ∉ seen) ∧ ∀ x ∈ q, nth p 0 ≤ x) := by
  induction q with
  | nil => intro j seen _ _; exact ⟨true, rfl, by simp⟩
  | cons x q ih =>
    intro j seen hx hl
    simp only [List.length_cons] at hl
    have hb := hx x List.mem_cons_self
    rw [impl_isCircuit_l1, ck_in hb.1 hb.2]
    simp only [bs]
    cases hc : seen.contains x with
    | true =>
      refine ⟨false, rfl, ⟨(fun h => by cases h), fun h => ?_⟩⟩
      simp only [List.contains_eq_mem, decide_eq_true_eq] at hc
      exact absurd hc (h.2.1 x List.mem_cons_self)
    | false =>
      simp only [List.contains_eq_mem, decide_eq_false_iff_not] at hc
      rw [idx_nth0 h0]
      simp only [cF, bs]
      by_cases hlt : x < nth p 0
      · rw [decide_eq_true hlt]
        refine ⟨false, rfl, ⟨(fun h => by cases h), fun h => ?_⟩⟩
        have := h.2.2 x List.mem_cons_self
        omega
      · rw [decide_eq_false hlt, app_lt (by omega)]
        simp only [cF, bs]
        obtain ⟨b, b1, b2⟩ := ih (j + 1) (seen ++ [x]) (fun y hy => hx y (List.mem_cons_of_mem _ hy)) (by simp; omega)
        refine ⟨b, b1, b2.trans ?_⟩
        simp only [List.nodup_cons, List.mem_append, List.mem_cons, List.not_mem_nil, or_false, not_or, forall_eq_or_imp]
        constructor
        · rintro ⟨a1, a2, a3⟩
          exact ⟨⟨fun h => (a2 x h).2 rfl, a1⟩, ⟨hc, fun y hy => (a2 y hy).1⟩, by omega, a3⟩
        · rintro ⟨⟨a1, a2⟩, ⟨_, a3⟩, _, a4⟩
          exact ⟨a2, fun y hy => ⟨a3 y hy, fun e => a1 (e ▸ hy)⟩, a4⟩
section
variable {m : List (List Int)} {n : Nat} (g : Good m n) (hn : m.length = n)
include g hn
theorem isCircuit_eq (p : List Int) : ∃ b : Bool, impl_isCircuit_m m p = some b ∧ (b = true ↔ p ∈ allC m n) := by
  have hlo := g.clo; have h6 := g.chi
  unfold impl_isCircuit_m
  rw [within_eq]
  simp only [bs]
  cases h1 : inR (p.length : Int) 1 (m.length : Int)
  · refine ⟨false, rfl, ⟨(fun h => by cases h), fun h => ?_⟩⟩
    have := allC_mem h
    have : inR (p.length : Int) 1 (m.length : Int) = true := (inR_iff _ _ _).2 (by omega)
    rw [h1] at this; cases this
  have h1 := (inR_iff _ _ _).1 h1
  rw [areVertices_eq m (by omega)]
  simp only [Bool.not_true, cF, bs]
  cases h2 : p.all (isV m)
  · refine ⟨false, rfl, ⟨(fun h => by cases h), fun h => ?_⟩⟩
    have hb := (allC_mem h).1
    have : p.all (isV m) = true := List.all_eq_true.2 fun x hx => by
      have := hb.node x hx
      exact (inR_iff _ _ _).2 (by omega)
    rw [h2] at this; cases this
  have hv : ∀ x ∈ p, 0 ≤ x ∧ x < (n : Int) := fun x hx => by
    have := (inR_iff _ _ _).1 (List.all_eq_true.1 h2 x hx)
    omega
  have h0 : 0 < p.length := by omega
  obtain ⟨b, b1, b2⟩ := isCir_l1 p h0 p 0 [] (fun x hx => by have := hv x hx; omega) (by simp; omega)
  rw [b1]
  simp only [Bool.not_true, cF, bs]
  cases b
  · refine ⟨false, rfl, ⟨(fun h => by cases h), fun h => ?_⟩⟩
    have hb := (allC_mem h).1
    have hge : ∀ x ∈ p, nth p 0 ≤ x := fun x hx => by
      obtain ⟨i, hi, e⟩ := List.getElem_of_mem hx
      have ex : nth p i = x := by simp [nth, hi, e]
      by_cases hi0 : i = 0
      · rw [hi0] at ex; omega
      · have := hb.up i (by omega) hi; omega
    have := b2.2 ⟨hb.apart, (fun x _ h => by cases h), hge⟩
    cases this
  obtain ⟨z, z1, z2⟩ := costOfCircuit_gen g hn hv (by omega) h0
  rw [z1]
  simp only [cond_true, elR, bs]
  refine ⟨z != 1000000000, rfl, ?_⟩
  obtain ⟨a1, _, a3⟩ := b2.1 rfl
  simp only [bne_iff_ne]
  rw [z2]
  constructor
  · rintro ⟨k1, k2⟩
    refine mem_allC ⟨h0, hv, k1, fun i hi0 hi => ?_, a1⟩ k2 (by omega)
    have h5 := a3 _ (nth_mem hi)
    have hne : nth p 0 ≠ nth p i := by
      cases p with
      | nil => simp at h0
      | cons y s =>
        obtain ⟨i, rfl⟩ : ∃ i', i = i' + 1 := ⟨i - 1, by omega⟩
        simp only [List.length_cons] at hi
        have e1 : nth (y :: s) 0 = y := rfl
        have e2 : nth (y :: s) (i + 1) = nth s i := by simp [nth]
        rw [e1, e2]
        intro e
        have := nth_mem (l := s) (show i < s.length by omega)
        rw [← e] at this
        exact (List.nodup_cons.1 a1).1 this
    omega
  · intro h
    have := allC_mem h
    exact ⟨this.1.arcs, this.2.1⟩
theorem cm_l1 (p : List Int) (q : List (List Int)) : ∀ j, (∀ x ∈ q, x ∈ allC m n) → spec_CircuitMean_l1 m p q j = some (if p ∈ q then Sum.inl ((meanP m p).1, (meanP m p).2, true) else Sum.inr ()) := by
  induction q with
  | nil => intro j _; simp [spec_CircuitMean_l1]
  | cons x q ih =>
    intro j hq
    rw [spec_CircuitMean_l1, l1Same_eq]
    simp only [bs]
    by_cases e : x = p
    · rw [decide_eq_true e, mnMean_eq g hn (hq x List.mem_cons_self), if_pos (by rw [e]; exact List.mem_cons_self), e]
      rfl
    · rw [decide_eq_false e]
      simp only [cF]
      rw [ih (j + 1) (fun y hy => hq y (List.mem_cons_of_mem _ hy))]
      congr 1
      by_cases h : p ∈ q
      · rw [if_pos h, if_pos (List.mem_cons_of_mem _ h)]
      · rw [if_neg h, if_neg (by
          intro h2
          rcases List.mem_cons.1 h2 with h3 | h3
          · exact e h3.symm
          · exact h h3)]
end
theorem CircuitMean_both (m : List (List Int)) (p : List Int) : ∃ r, spec_CircuitMean_m m p = some r ∧ impl_CircuitMean_m m p = some r ∧ True := by
  unfold spec_CircuitMean_m impl_CircuitMean_m
  rw [mxSquare_eq, isSquare_eq]
  simp only [bs]
  cases hs : sqr m
  · exact ⟨_, rfl, rfl, trivial⟩
  have g := sqr_good hs
  obtain ⟨b, b1, b2⟩ := isCircuit_eq g rfl p
  simp only [Bool.not_true, cF]
  rw [mnCircuits_eq g rfl, b1]
  simp only [bs]
  rw [cm_l1 g rfl p _ 0 (fun x h => h)]
  simp only [bs]
  cases b
  · rw [if_neg (fun h => by have := b2.2 h; cases this)]
    exact ⟨_, rfl, rfl, trivial⟩
  · have hp := b2.1 rfl
    obtain ⟨_, _, c1, c2, c3, c4⟩ := mean_sm g rfl hp
    rw [if_pos hp, meanOf_eq g rfl hp]
    simp only [Bool.not_true, cF, bs, elL]
    have : impl_toldFrac_m (meanP m p).1 (meanP m p).2 = some ((meanP m p).1, (meanP m p).2, true) := toldFrac_low (by omega) (by omega) (by omega) (by omega)
    rw [this]
    exact ⟨_, rfl, rfl, trivial⟩
end Go.Proofs.Ytjhaealoneennaa
