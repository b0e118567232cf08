/- Plain laws: numbers put into a rising list; the nodes of all circuits with the least mean. -/
import Derived.Test.YtjhaealoneennaaPPut
import Derived.Test.YtjhaealoneennaaPMean
namespace Go.Proofs.Ytjhaealoneennaa
set_option linter.unusedVariables false
set_option linter.unusedSimpArgs false

theorem rise_len : ∀ (l : List Int) (lo : Int) (n : Nat), Rise l → (∀ y ∈ l, lo ≤ y ∧ y < lo + (n : Int)) → l.length ≤ n
  | [], _, _, _, _ => by simp
  | x :: l, lo, n, h, hb => by
    have hx := hb x List.mem_cons_self
    rw [Rise, List.pairwise_cons] at h
    have := rise_len l (x + 1) (n - 1) h.2 (fun y hy => by
      have h1 := h.1 y hy
      have h2 := hb y (List.mem_cons_of_mem _ hy)
      omega)
    simp only [List.length_cons]
    omega
theorem crit_l2_eq (q : List Int) : ∀ (j : Nat) (l : List Int), Rise l → (∀ y ∈ l, 0 ≤ y ∧ y < 1000) → (∀ y ∈ q, 0 ≤ y ∧ y < 1000) → ∃ r, spec_mnCritical_l2 q j l = some r ∧ Rise r ∧ (∀ y, y ∈ r ↔ y ∈ l ∨ y ∈ q) := by
  induction q with
  | nil => intro j l h _ _; exact ⟨l, rfl, h, by simp⟩
  | cons x q ih =>
    intro j l h hb hq
    have hl := rise_len l 0 1000 h (fun y hy => by have := hb y hy; omega)
    have hx := hq x List.mem_cons_self
    obtain ⟨r, h1, h2, h3, h4⟩ := l1Put_eq x (show l.length < 1000000 by omega) h
    obtain ⟨r', k1, k2, k3⟩ := ih (j + 1) r h2 (fun y hy => by
      rcases (h3 y).1 hy with e | e
      · exact hb y e
      · rw [e]; exact hx) (fun y hy => hq y (List.mem_cons_of_mem _ hy))
    rw [spec_mnCritical_l2, h1]
    simp only [bs]
    refine ⟨r', k1, k2, fun y => ?_⟩
    rw [k3, h3, List.mem_cons]
    constructor
    · rintro ((h | h) | h)
      · exact .inl h
      · exact .inr (.inl h)
      · exact .inr (.inr h)
    · rintro (h | h | h)
      · exact .inl (.inl h)
      · exact .inl (.inr h)
      · exact .inr h
theorem marked_l1_eq (q : List Bool) : ∀ (j : Nat) (l : List Int), l.length + q.length < 1000000 → j + q.length < 1000000 → Rise l → (∀ y ∈ l, y < (j : Int)) → ∃ r, impl_markedOf_l1 q j l = some r ∧ Rise r ∧ (∀ y, y ∈ r ↔ y ∈ l ∨ ∃ i, q[i]? = some true ∧ y = ((j + i : Nat) : Int)) ∧ r.length ≤ l.length + q.length := by
  induction q with
  | nil => intro j l _ _ h _; exact ⟨l, rfl, h, by simp, by simp⟩
  | cons b q ih =>
    intro j l hl hj hr hb
    simp only [List.length_cons] at hl hj
    rw [impl_markedOf_l1]
    have shift : ∀ y : Int, (∃ i, (b :: q)[i]? = some true ∧ y = ((j + i : Nat) : Int)) ↔ ((b = true ∧ y = (j : Int)) ∨ ∃ i, q[i]? = some true ∧ y = ((j + 1 + i : Nat) : Int)) := by
      intro y
      constructor
      · rintro ⟨i, h1, h2⟩
        cases i with
        | zero => simp at h1; exact .inl ⟨h1, by simpa using h2⟩
        | succ i => simp at h1; exact .inr ⟨i, h1, by rw [h2]; congr 1; omega⟩
      · rintro (⟨h1, h2⟩ | ⟨i, h1, h2⟩)
        · exact ⟨0, by simp [h1], by simpa using h2⟩
        · exact ⟨i + 1, by simpa using h1, by rw [h2]; congr 1; omega⟩
    cases b with
    | true =>
      simp only [cT]
      rw [app_lt (by omega)]
      simp only [bs]
      obtain ⟨r, h1, h2, h3, h4⟩ := ih (j + 1) (l ++ [(j : Int)]) (by simp; omega) (by omega) (by
        rw [Rise, List.pairwise_append]
        exact ⟨hr, by simp, fun a ha c hc => by simp at hc; subst hc; exact hb a ha⟩) (fun y hy => by
        rcases List.mem_append.1 hy with e | e
        · have := hb y e; omega
        · simp at e; omega)
      refine ⟨r, h1, h2, fun y => ?_, by simp at h4 ⊢; omega⟩
      rw [h3, shift]
      simp only [List.mem_append, List.mem_singleton, true_and]
      constructor
      · rintro ((h | h) | h)
        · exact .inl h
        · exact .inr (.inl h)
        · exact .inr (.inr h)
      · rintro (h | h | h)
        · exact .inl (.inl h)
        · exact .inl (.inr h)
        · exact .inr h
    | false =>
      simp only [cF]
      obtain ⟨r, h1, h2, h3, h4⟩ := ih (j + 1) l (by omega) (by omega) hr (fun y hy => by have := hb y hy; omega)
      refine ⟨r, h1, h2, fun y => ?_, by simp; omega⟩
      rw [h3, shift]
      simp
/-- The nodes that are marked. -/
theorem markedOf_eq {q : List Bool} (hq : q.length < 1000) : ∃ r, impl_markedOf_m q = some r ∧ Rise r ∧ (∀ y, y ∈ r ↔ ∃ i : Nat, q[i]? = some true ∧ y = (i : Int)) ∧ r.length ≤ q.length := by
  unfold impl_markedOf_m
  obtain ⟨r, h1, h2, h3, h4⟩ := marked_l1_eq q 0 [] (by simp; omega) (by omega) List.Pairwise.nil (fun y h => by cases h)
  rw [h1]
  refine ⟨r, rfl, h2, fun y => ?_, by simpa using h4⟩
  rw [h3]
  simp
section
variable {m : List (List Int)} {n : Nat} (g : Good m n) (hn : m.length = n)
include g hn
theorem crit_l1_eq {b : List Int} (hb : b ∈ allC m n) (q : List (List Int)) : ∀ (j : Nat) (l : List Int), (∀ x ∈ q, x ∈ allC m n) → Rise l → (∀ y ∈ l, 0 ≤ y ∧ y < 1000) →
    ∃ r, spec_mnCritical_l1 m b q j l = some r ∧ Rise r ∧ (∀ y, y ∈ r ↔ y ∈ l ∨ ∃ a ∈ q, meanP m a = meanP m b ∧ y ∈ a) := by
  have h6 := g.chi
  induction q with
  | nil => intro j l _ h _; exact ⟨l, rfl, h, by simp⟩
  | cons x q ih =>
    intro j l hq h hlb
    have hx := hq x List.mem_cons_self
    have hq' := fun y hy => hq y (List.mem_cons_of_mem _ hy)
    have hxn := (allC_mem hx).1.node
    rw [spec_mnCritical_l1, mnMean_eq g hn hx, mnMean_eq g hn hb]
    simp only [bs]
    have hdec : ((meanP m x).1 == (meanP m b).1 && (meanP m x).2 == (meanP m b).2) = decide (meanP m x = meanP m b) := by
      by_cases e : meanP m x = meanP m b
      · rw [decide_eq_true e, e]; simp
      · rw [decide_eq_false e]
        cases hh : ((meanP m x).1 == (meanP m b).1 && (meanP m x).2 == (meanP m b).2) with
        | false => rfl
        | true =>
          simp only [Bool.and_eq_true, beq_iff_eq] at hh
          exact absurd (Prod.ext hh.1 hh.2) e
    rw [hdec]
    by_cases e : meanP m x = meanP m b
    · rw [decide_eq_true e]
      simp only [cT]
      obtain ⟨r, h1, h2, h3⟩ := crit_l2_eq x 0 l h hlb (fun y hy => by have := hxn y hy; omega)
      rw [h1]
      simp only [bs]
      obtain ⟨r', k1, k2, k3⟩ := ih (j + 1) r hq' h2 (fun y hy => by
        rcases (h3 y).1 hy with e | e
        · exact hlb y e
        · have := hxn y e; omega)
      refine ⟨r', k1, k2, fun y => ?_⟩
      rw [k3, h3]
      constructor
      · rintro ((h | h) | ⟨a, h5, h6, h7⟩)
        · exact .inl h
        · exact .inr ⟨x, List.mem_cons_self, e, h⟩
        · exact .inr ⟨a, List.mem_cons_of_mem _ h5, h6, h7⟩
      · rintro (h | ⟨a, h5, h6, h7⟩)
        · exact .inl (.inl h)
        · rcases List.mem_cons.1 h5 with e' | e'
          · subst e'; exact .inl (.inr h7)
          · exact .inr ⟨a, e', h6, h7⟩
    · rw [decide_eq_false e]
      simp only [cF]
      obtain ⟨r', k1, k2, k3⟩ := ih (j + 1) l hq' h hlb
      refine ⟨r', k1, k2, fun y => ?_⟩
      rw [k3]
      constructor
      · rintro (h | ⟨a, h5, h6, h7⟩)
        · exact .inl h
        · exact .inr ⟨a, List.mem_cons_of_mem _ h5, h6, h7⟩
      · rintro (h | ⟨a, h5, h6, h7⟩)
        · exact .inl h
        · rcases List.mem_cons.1 h5 with e' | e'
          · subst e'; exact absurd h6 e
          · exact .inr ⟨a, e', h6, h7⟩
/-- The critical nodes, by the specification and by the program: one list. -/
theorem crit_both : ∃ r, spec_mnCritical_m m = some r ∧ impl_markedOf_m ((allC m n).foldl (gM m n) ([], List.replicate n false, 0, 0)).2.1 = some r ∧ r.length ≤ n ∧
    (∀ y ∈ r, ∃ a ∈ allC m n, meanP m a = meanP m ((allC m n).foldl (bL m) []) ∧ y ∈ a) ∧ (allC m n ≠ [] → r ≠ []) := by
  have h6 := g.chi
  unfold spec_mnCritical_m
  rw [mnLeast_eq g hn, mnCircuits_eq g hn]
  simp only [bs]
  obtain ⟨h1, h2, h3⟩ := Jm_all g hn
  rw [← h2]
  generalize (allC m n).foldl (gM m n) ([], List.replicate n false, 0, 0) = s at h1 h2 h3 ⊢
  obtain ⟨r2, k1, k2, k3, k4⟩ := markedOf_eq (q := s.2.1) (by omega)
  rcases h3 with ⟨h4, h5⟩ | ⟨h4, h5, h6', h7⟩
  · rw [h4]
    have hnil : r2 = [] := by
      refine List.eq_nil_iff_forall_not_mem.2 fun y hy => ?_
      obtain ⟨i, hi, _⟩ := (k3 y).1 hy
      rw [h5] at hi
      simp only [] at hi
      have := List.mem_of_getElem? hi
      simp at this
    exact ⟨[], rfl, by rw [k1, hnil], by simp, (fun y h => by cases h), fun h => absurd rfl h⟩
  · obtain ⟨r, p1, p2, p3⟩ := crit_l1_eq g hn h4 (allC m n) 0 [] (fun x h => h) List.Pairwise.nil (fun y h => by cases h)
    rw [p1]
    simp only [bs]
    have e : r = r2 := by
      refine rise_ext r r2 p2 k2 fun y => ?_
      rw [p3, k3]
      constructor
      · rintro (h | ⟨a, a1, a2, a3⟩)
        · cases h
        · have hy := (allC_mem a1).1.node y a3
          refine ⟨y.toNat, ?_, by omega⟩
          rw [h7 y.toNat (by omega)]
          congr 1
          rw [List.any_eq_true]
          refine ⟨a, a1, ?_⟩
          rw [show ((y.toNat : Nat) : Int) = y by omega]
          simp [a2, a3]
      · rintro ⟨i, a1, rfl⟩
        have hi : i < n := by
          have := (List.getElem?_eq_some_iff.1 a1).1; omega
        rw [h7 i hi] at a1
        have := Option.some.inj a1
        rw [List.any_eq_true] at this
        obtain ⟨a, b1, b2⟩ := this
        simp only [Bool.and_eq_true, decide_eq_true_eq, List.contains_eq_mem] at b2
        exact .inr ⟨a, b1, b2.1, b2.2⟩
    refine ⟨r, rfl, by rw [k1, e], by rw [e]; omega, fun y hy => ?_, fun _ hr => ?_⟩
    · rcases (p3 y).1 hy with h | h
      · cases h
      · exact h
    · have h0 := (allC_mem h4).2.2.1
      have := (p3 (nth s.1 0)).2 (.inr ⟨s.1, h4, rfl, nth_mem (by omega)⟩)
      rw [hr] at this
      cases this
end
theorem CriticalNodes_both (m : List (List Int)) : ∃ r, spec_CriticalNodes_m m = some r ∧ impl_CriticalNodes_m m = some r ∧ Small r.1 := by
  unfold spec_CriticalNodes_m impl_CriticalNodes_m
  rw [mxSquare_eq, isSquare_eq]
  simp only [bs]
  cases hs : sqr m with
  | false => exact ⟨_, rfl, rfl, by simp [Small]⟩
  | true =>
    have g := sqr_good hs
    have h6 := g.chi
    simp only [Bool.not_true, cF]
    obtain ⟨r, h1, h2, h3, _⟩ := crit_both g rfl
    rw [leastMean_fold g rfl, h1]
    simp only [bs]
    rw [h2]
    exact ⟨_, rfl, rfl, by unfold Small; simp only []; omega⟩
end Go.Proofs.Ytjhaealoneennaa
