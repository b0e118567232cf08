/- Plain laws: the least solution of a system. -/
import Derived.Test.YtaagklbiebogfaaLinM
import Derived.Test.YtaagklbiebogfaaHlsM
import Derived.Test.YtaagklbiebogfaaPWy2
import Derived.Test.YtaagklbiebogfaaPMx1
import Derived.Test.YtaagklbiebogfaaStr
namespace Go.Proofs.Ytaagklbiebogfaa
set_option linter.unusedVariables false
set_option linter.unusedSimpArgs false
set_option linter.unusedSectionVars false

theorem least_l2 (v : List Int) (hv : ∀ x ∈ v, fin x = true) {j : Nat} (q : List (List Int)) : ∀ (k : Nat) (b : Bool) (n : Int), (∀ r ∈ q, j < r.length ∧ ∀ x ∈ r, num x = true) → k + q.length = v.length → -2000000 ≤ n → n ≤ 2000000 →
    ∃ z, spec_lyLeast_l2 v j q k b n = some z ∧ impl_leastSolution_l2 v (q.map fun r => nth r j) k n (!b) = some z ∧ -2000000 ≤ z ∧ z ≤ 2000000 := by
  induction q with
  | nil => intro k b n _ _ h0 h1; exact ⟨n, rfl, rfl, h0, h1⟩
  | cons x q ih =>
    intro k b n hq hk h0 h1
    simp only [List.length_cons] at hk
    obtain ⟨hj, hx⟩ := hq x List.mem_cons_self
    have hq' : ∀ r ∈ q, j < r.length ∧ ∀ x ∈ r, num x = true := fun r hr => hq r (List.mem_cons_of_mem _ hr)
    have hkv : k < v.length := by omega
    have ha := (num_iff _).1 (hx _ (nth_mem hj))
    have hb := (fin_iff _).1 (hv _ (nth_mem hkv))
    rw [spec_lyLeast_l2, List.map_cons, impl_leastSolution_l2, idx_nth hj]
    simp only [bs]
    rw [idx_nth hkv]
    simp only [bs]
    by_cases e : nth x j = 1000000000
    · rw [show (nth x j != 1000000000) = false by simp [e]]
      simp only [cF, bs]
      exact ih (k + 1) b n hq' (by omega) h0 h1
    · rw [show (nth x j != 1000000000) = true by simp [e], ck_in (by omega) (by omega)]
      simp only [cT, bs]
      cases b
      · simp only [Bool.not_false, Bool.not_true, cF, cT, bs]
        cases decide (nth v k - nth x j > n)
        · simp only [cF]
          exact ih (k + 1) false n hq' (by omega) h0 h1
        · simp only [cT]
          exact ih (k + 1) false (nth v k - nth x j) hq' (by omega) (by omega) (by omega)
      · simp only [Bool.not_true, Bool.not_false, cF, cT, bs]
        exact ih (k + 1) false (nth v k - nth x j) hq' (by omega) (by omega) (by omega)
section
variable {m : List (List Int)} {c : Nat} (g : Good m c) {v : List Int} (hv : ∀ x ∈ v, fin x = true) (hl : v.length = m.length)
include g hv hl
theorem least_l1 (q : List Int) : ∀ (k : Nat) (l : List Int), k + q.length = c → l.length = k → (∀ z ∈ l, -2000000 ≤ z ∧ z ≤ 2000000) →
    ∃ r, spec_lyLeast_l1 m v q k l = some r ∧ impl_leastSolution_l1 v ((turn m c).drop k) k l = some r ∧ r.length = c ∧ ∀ z ∈ r, -2000000 ≤ z ∧ z ≤ 2000000 := by
  have h6 := g.chi
  induction q with
  | nil =>
    intro k l hk hlk hz
    simp only [List.length_nil, Nat.add_zero] at hk
    subst hk
    rw [List.drop_eq_nil_of_le (by simp [turn])]
    exact ⟨l, rfl, rfl, hlk, hz⟩
  | cons x q ih =>
    intro k l hk hlk hz
    simp only [List.length_cons] at hk
    have hkl : k < (turn m c).length := by simp [turn]; omega
    have hcol : (turn m c)[k] = m.map fun r => nth r k := by simp [turn, colAt]
    obtain ⟨z, z1, z2, z3, z4⟩ := least_l2 v hv (j := k) m 0 true 0 (fun r hr => ⟨by rw [g.row r hr]; omega, g.nums r hr⟩) (by omega) (by omega) (by omega)
    rw [spec_lyLeast_l1, drop_cons hkl, impl_leastSolution_l1, hcol, z1]
    have z2' : impl_leastSolution_l2 v (m.map fun r => nth r k) 0 0 false = some z := z2
    rw [z2']
    simp only [bs]
    rw [app_lt (by omega)]
    simp only [bs]
    refine ih (k + 1) _ (by omega) (by simp; omega) (fun y hy => ?_)
    rcases List.mem_append.1 hy with h | h
    · exact hz y h
    · simp only [List.mem_cons, List.not_mem_nil, or_false] at h
      subst h
      exact ⟨z3, z4⟩
theorem least_both : ∃ r, spec_lyLeast_m m v = some r ∧ impl_leastSolution_m m v = some r ∧ r.length = c ∧ ∀ z ∈ r, -2000000 ≤ z ∧ z ≤ 2000000 := by
  have hlo := g.lo
  unfold spec_lyLeast_m impl_leastSolution_m
  rw [idx_head (by omega), transposed_eq g]
  simp only [bs]
  obtain ⟨r, h1, h2, h3, h4⟩ := least_l1 g hv hl (hd m) 0 [] (by have := g.head; omega) rfl (fun z h => by cases h)
  rw [List.drop_zero] at h2
  rw [h1, h2]
  exact ⟨r, rfl, rfl, h3, h4⟩
end
theorem small_nilL : Small ([] : List Int) := by simp [Small]
theorem LeastSolution_both (m : List (List Int)) (v : List Int) : ∃ r, spec_LeastSolution_m m v = some r ∧ impl_LeastSolution_m m v = some r ∧ Small r.1 := by
  obtain ⟨b, h1, h2, h3⟩ := isSystem_both m v
  unfold spec_LeastSolution_m spec_lyAsked_m impl_LeastSolution_m impl_systemOf_m
  rw [h1, h2]
  simp only [bs]
  cases b
  · exact ⟨([], false), rfl, rfl, small_nilL⟩
  obtain ⟨g, hl, hv, _⟩ := h3 rfl
  obtain ⟨r, r1, r2, r3, r4⟩ := least_both g hv hl
  have h6 := g.chi
  have e : r.all (fun n => inR n (-1000000) 1000000) = r.all num := by
    rw [Bool.eq_iff_iff, List.all_eq_true, List.all_eq_true]
    constructor
    · intro h x hx
      have := (inR_iff _ _ _).1 (h x hx)
      exact (num_iff _).2 (.inl this)
    · intro h x hx
      have := r4 x hx
      have := (num_iff _).1 (h x hx)
      exact (inR_iff _ _ _).2 (by omega)
  rw [r1, r2]
  simp only [bs, cT, Bool.not_true, cF, l1All_eq, areNumbers_eq, e]
  cases r.all num
  · exact ⟨([], false), rfl, rfl, small_nilL⟩
  · exact ⟨(r, true), rfl, rfl, by unfold Small; show r.length ≤ _; omega⟩
end Go.Proofs.Ytaagklbiebogfaa
