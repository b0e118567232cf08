/- Plain laws: numbers put into a rising list. -/
import Derived.Test.YtjhaealoneennaaEigM
import Derived.Test.YtjhaealoneennaaPBas
import Derived.Test.YtjhaealoneennaaPPerm
namespace Go.Proofs.Ytjhaealoneennaa
set_option linter.unusedVariables false
set_option linter.unusedSimpArgs false

abbrev Rise (l : List Int) : Prop := l.Pairwise (· < ·)
theorem rise_ext : ∀ (a b : List Int), Rise a → Rise b → (∀ y, y ∈ a ↔ y ∈ b) → a = b
  | [], [], _, _, _ => rfl
  | [], y :: b, _, _, h => by have := (h y).2 List.mem_cons_self; cases this
  | x :: a, [], _, _, h => by have := (h x).1 List.mem_cons_self; cases this
  | x :: a, y :: b, ha, hb, h => by
    rw [Rise, List.pairwise_cons] at ha hb
    have hxy : x = y := by
      have h1 := (h x).1 List.mem_cons_self
      have h2 := (h y).2 List.mem_cons_self
      rcases List.mem_cons.1 h1 with e | e
      · exact e
      · rcases List.mem_cons.1 h2 with e' | e'
        · exact e'.symm
        · have := hb.1 x e; have := ha.1 y e'; omega
    subst hxy
    congr 1
    refine rise_ext a b ha.2 hb.2 fun y => ?_
    have := h y
    simp only [List.mem_cons] at this
    constructor
    · intro hy
      have h1 := ha.1 y hy
      rcases this.1 (.inr hy) with e | e
      · omega
      · exact e
    · intro hy
      have h1 := hb.1 y hy
      rcases this.2 (.inr hy) with e | e
      · omega
      · exact e
theorem put_l1_eq (l : List Int) (x : Int) (hl : l.length < 1000000) : ∀ (q fuel k : Nat), k + q = l.length → q < fuel → (∀ i, i < k → nth l i < x) →
    ∃ k' : Nat, spec_l1Put_l1 l x fuel (k : Int) = some (k' : Int) ∧ k' ≤ l.length ∧ (∀ i, i < k' → nth l i < x) ∧ (k' < l.length → x ≤ nth l k') := by
  intro q
  induction q with
  | zero =>
    intro fuel k hk hf h
    obtain ⟨fuel, rfl⟩ : ∃ k', fuel = k' + 1 := ⟨fuel - 1, by omega⟩
    rw [spec_l1Put_l1, decide_eq_false (by omega)]
    exact ⟨k, rfl, by omega, h, fun h => by omega⟩
  | succ q ih =>
    intro fuel k hk hf h
    obtain ⟨fuel, rfl⟩ : ∃ k', fuel = k' + 1 := ⟨fuel - 1, by omega⟩
    rw [spec_l1Put_l1, decide_eq_true (by omega), idx_nth (by omega)]
    simp only [cT, bs]
    by_cases c : nth l k < x
    · rw [decide_eq_true c, ck_nat (by omega)]
      simp only [cT, bs]
      exact ih fuel (k + 1) (by omega) (by omega) (fun i hi => by
        by_cases e : i = k
        · subst e; exact c
        · exact h i (by omega))
    · rw [decide_eq_false c]
      exact ⟨k, rfl, by omega, h, fun _ => by omega⟩
theorem mem_nth {l : List Int} {y : Int} (h : y ∈ l) : ∃ i, i < l.length ∧ nth l i = y := by
  obtain ⟨i, hi, e⟩ := List.mem_iff_getElem.1 h
  exact ⟨i, hi, by simp [nth, hi, e]⟩
/-- A number put into a rising list. -/
theorem l1Put_eq {l : List Int} (x : Int) (hl : l.length < 1000000) (hr : Rise l) : ∃ r, spec_l1Put_m l x = some r ∧ Rise r ∧ (∀ y, y ∈ r ↔ y ∈ l ∨ y = x) ∧ r.length ≤ l.length + 1 := by
  obtain ⟨k, h1, h2, h3, h4⟩ := put_l1_eq l x hl l.length 4000000 0 (by omega) (by omega) (fun i hi => by omega)
  have h1 : spec_l1Put_l1 l x 4000000 0 = some (k : Int) := h1
  unfold spec_l1Put_m
  rw [h1]
  simp only [bs]
  have hnew : Rise (l.take k ++ x :: l.drop k) → (k < l.length → nth l k ≠ x) → ∃ r, ((cutO l (k : Int)).bind fun l22 => (appS ([]) l22).bind fun l27 => (app l27 x).bind fun l30 => (cutL l (k : Int)).bind fun l34 => (appS l30 l34).bind fun l39 => some l39) = some r ∧ Rise r ∧ (∀ y, y ∈ r ↔ y ∈ l ∨ y = x) ∧ r.length ≤ l.length + 1 := by
    intro hp _
    have e1 : cutL l (k : Int) = some (l.drop k) := by unfold cutL; rw [decide_eq_true (by omega)]; simp
    rw [cut_nat h2, e1]
    simp only [bs]
    rw [appS_nil (by simp; omega)]
    simp only [bs]
    rw [app_lt (by simp; omega)]
    simp only [bs]
    have e2 : appS (l.take k ++ [x]) (l.drop k) = some ((l.take k ++ [x]) ++ l.drop k) := by unfold appS; rw [decide_eq_true (by simp; omega)]; rfl
    rw [e2]
    simp only [bs]
    refine ⟨_, rfl, by simpa using hp, fun y => ?_, by simp; omega⟩
    have := List.take_append_drop k l
    have hm : y ∈ l ↔ y ∈ l.take k ∨ y ∈ l.drop k := by rw [← List.mem_append, this]
    rw [hm]
    simp only [List.mem_append, List.mem_singleton]
    constructor
    · rintro ((h | h) | h)
      · exact .inl (.inl h)
      · exact .inr h
      · exact .inl (.inr h)
    · rintro ((h | h) | h)
      · exact .inl (.inl h)
      · exact .inr h
      · exact .inl (.inr h)
  have hsort : (k < l.length → x < nth l k) → Rise (l.take k ++ x :: l.drop k) := by
    intro hx
    have hsplit : Rise (l.take k ++ l.drop k) := by rw [List.take_append_drop]; exact hr
    rw [Rise, List.pairwise_append] at hsplit
    obtain ⟨p1, p2, p3⟩ := hsplit
    have hlt : ∀ a ∈ l.take k, a < x := by
      intro a ha
      obtain ⟨i, hi, e⟩ := List.mem_iff_getElem.1 ha
      rw [List.length_take] at hi
      rw [List.getElem_take] at e
      have := h3 i (by omega)
      rw [← e]
      simpa [nth, show i < l.length by omega] using this
    have hgt : ∀ b ∈ l.drop k, x < b := by
      intro b hb
      have hk : k < l.length := by
        rcases Nat.lt_or_ge k l.length with h | h
        · exact h
        · rw [List.drop_eq_nil_of_le h] at hb; cases hb
      have hx := hx hk
      rw [drop_cons hk] at hb p2
      rw [List.pairwise_cons] at p2
      have e : nth l k = l[k] := by simp [nth, hk]
      rw [e] at hx
      rcases List.mem_cons.1 hb with h | h
      · omega
      · have := p2.1 b h; omega
    rw [Rise, List.pairwise_append]
    refine ⟨p1, List.pairwise_cons.2 ⟨hgt, p2⟩, fun a ha b hb => ?_⟩
    rcases List.mem_cons.1 hb with h | h
    · subst h; exact hlt a ha
    · exact p3 a ha b h
  by_cases hk : k < l.length
  · rw [decide_eq_true (show (k : Int) < (l.length : Int) by omega), idx_nth hk]
    simp only [cT, bs]
    by_cases e : nth l k = x
    · rw [show (nth l k == x) = true by simp [e]]
      simp only [cT]
      refine ⟨l, rfl, hr, fun y => ⟨.inl, fun h => ?_⟩, by omega⟩
      rcases h with h | h
      · exact h
      · rw [h, ← e]; exact nth_mem hk
    · rw [show (nth l k == x) = false by simp [e]]
      simp only [cF]
      exact hnew (hsort fun _ => by have := h4 hk; omega) (fun _ => e)
  · rw [decide_eq_false (show ¬ (k : Int) < (l.length : Int) by omega)]
    simp only [cF, bs]
    exact hnew (hsort fun h => absurd h hk) (fun h => absurd h hk)
end Go.Proofs.Ytjhaealoneennaa
