/- Plain laws: the costs of ways, the centre, what lies within a cost. -/
import Derived.Test.YtjhaealoneennaaPBf
import Derived.Test.YtjhaealoneennaaPWy3
namespace Go.Proofs.Ytjhaealoneennaa
set_option linter.unusedVariables false
set_option linter.unusedSimpArgs false
set_option linter.unusedSectionVars false

/-- c holds the costs after t steps. -/
structure After (n : Nat) (m : List (List Int)) (t : Nat) (c : List (List Int)) : Prop where
  sh : Shape c n n
  eq : ∀ a b, a < n → b < n → A n c a b = cs n (A n m) t a b
  wi : ∀ a b, a < n → b < n → wi (-(t * 1000000)) (t * 1000000) (En c a b)
section
variable {m : List (List Int)} {n : Nat} (g : Good m n) (hn : m.length = n)
include g hn
theorem after_0 : After n m 0 (unitM n) := ⟨unitM_shape n, fun a b ha hb => by
  rw [A_in ha hb, unitM_En ha hb]
  simp only [cs, startF]
  by_cases e : a = b
  · simp [e, conv]
  · simp [e, conv], fun a b ha hb => by
  rw [unitM_En ha hb]
  split
  · right; omega
  · left; rfl⟩
theorem after_step {t : Nat} {c : List (List Int)} (h : After n m t c) (ht : t ≤ 7) : ∃ c', spec_wyStep_m m c = some c' ∧ After n m (t + 1) c' := by
  have hm : Shape m n n := ⟨hn, g.row⟩
  obtain ⟨c', h1, h2, h3, h4⟩ := wyStep_eq (B := (t : Int) * 1000000) hm h.sh (fun a b ha hb => num_wi (En_num g (by omega) hb)) h.wi (by omega) (by omega) (by omega) (by omega) g.chi
  refine ⟨c', h1, h2, fun a b ha hb => ?_, fun a b ha hb => (h4 a b ha hb).mono (by omega) (by omega)⟩
  rw [h3 a b ha hb, stepF_congr h.eq ha hb]
  rfl
theorem after_l1 (q : List (List Int)) : ∀ t j c, After n m t c → t + q.length ≤ 7 → ∃ c', spec_wyCosts_l1 m q j c = some c' ∧ After n m (t + q.length) c' := by
  induction q with
  | nil => intro t j c h _; exact ⟨c, rfl, h⟩
  | cons x q ih =>
    intro t j c h ht
    simp only [List.length_cons] at ht
    obtain ⟨c1, h1, h2⟩ := after_step g hn h (by omega)
    rw [spec_wyCosts_l1, h1]
    simp only [bs]
    obtain ⟨c', k1, k2⟩ := ih (t + 1) (j + 1) c1 h2 (by omega)
    exact ⟨c', k1, by rw [List.length_cons, show t + (q.length + 1) = t + 1 + q.length by omega]; exact k2⟩
end
/-- The two ways to the costs: the same matrix, or none for both. -/
theorem ways_both {m : List (List Int)} (g : Good m m.length) : ∃ c ok d, spec_wyCosts_m m = some (c, ok) ∧ impl_wayCosts_m m = some (d, ok) ∧ (ok = true → c = d ∧ Shape d m.length m.length) ∧ (ok = false → d = []) := by
  generalize hn : m.length = n at *
  have hhi := g.chi; have hlo := g.clo
  obtain ⟨c, c1, c2⟩ := after_l1 g hn m 0 0 (unitM n) (after_0 g hn) (by omega)
  rw [hn, Nat.zero_add] at c2
  obtain ⟨c', s1, s2⟩ := after_step g hn c2 (by omega)
  have g' : Good m m.length := hn.symm ▸ g
  obtain ⟨d, d1, d2, ⟨d0, e1, e2, e3⟩, d3⟩ := wayCosts_eq g'
  rw [hn] at d1 d2 e1 e2 e3 d3
  obtain ⟨f1, f2⟩ := fw_bf e2 e3
  have hsp : spec_wyCosts_m m = some (c, decide (c = c')) := by
    unfold spec_wyCosts_m
    rw [hn, wyStart_eq n hlo hhi]
    simp only [bs]
    rw [c1]
    simp only [bs]
    rw [s1]
    simp only [bs]
    rw [wySame_eq (by rw [c2.sh.len, s2.sh.len])]
    rfl
  have hdiag : ∀ i, i < n → (0 ≤ En d i i ↔ ple (some 0) (fwF n n 0 d0 i i)) := fun i hi => by
    rw [← e1, A_in hi hi]
    unfold conv
    by_cases e : En d i i = 1000000000
    · rw [if_pos e, e]; exact ⟨fun _ => trivial, fun _ => by omega⟩
    · rw [if_neg e]; exact Iff.rfl
  rcases d3 with ⟨h1, h2⟩ | ⟨⟨i, hi, h1⟩, h2⟩
  · have hf := f1 (fun i hi => (hdiag i hi).1 (h1 i hi))
    have hcd : c = d := c2.sh.ext d1 fun a b ha hb => conv_inj (by
      rw [← A_in ha hb, ← A_in ha hb, c2.eq a b ha hb, (hf a b ha hb).1, e1])
    have hcc : c = c' := c2.sh.ext s2.sh fun a b ha hb => conv_inj (by
      rw [← A_in ha hb, ← A_in ha hb, c2.eq a b ha hb, s2.eq a b ha hb, (hf a b ha hb).1, (hf a b ha hb).2])
    refine ⟨c, true, d, ?_, h2, fun _ => ⟨hcd, d1⟩, fun h => by cases h⟩
    rw [hsp, decide_eq_true hcc]
  · refine ⟨c, false, [], ?_, h2, (fun h => by cases h), fun _ => rfl⟩
    rw [hsp, decide_eq_false]
    intro hcc
    have := f2 (fun a b ha hb => by rw [← s2.eq a b ha hb, ← c2.eq a b ha hb, hcc]) i hi
    have := (hdiag i hi).2 this
    omega
/-! ### The centre -/
theorem l1Most_eq (a b : Int) : spec_l1Most_m a b = some (max a b) := by
  unfold spec_l1Most_m
  by_cases h : a > b
  · rw [decide_eq_true h]; simp; omega
  · rw [decide_eq_false h]; simp; omega
/-! ### Within a cost -/
end Go.Proofs.Ytjhaealoneennaa
