/- Plain laws: the classes of columns that differ by one number; bounds for the number of factors. -/
import Derived.Test.YtaagklbiebogfaaClsM
import Derived.Test.YtaagklbiebogfaaCliM
import Derived.Test.YtaagklbiebogfaaStr
import Derived.Test.YtaagklbiebogfaaPCho
import Derived.Test.YtaagklbiebogfaaPMx1
namespace Go.Proofs.Ytaagklbiebogfaa
set_option linter.unusedVariables false
set_option linter.unusedSimpArgs false
set_option linter.unusedSectionVars false

theorem alike_l1 {i k : Nat} (b : List Int) (q : List (List Int)) : ∀ (j : Nat) (met : Bool) (by_ : Int), (∀ r ∈ q, i < r.length ∧ k < r.length ∧ ∀ x ∈ r, num x = true) → b.drop j = q.map (fun r => nth r k) →
    ∃ r, spec_rkAlike_l1 (i : Int) (k : Int) q j met by_ = some r ∧ impl_differByOne_l1 b (q.map fun r => nth r i) j by_ met = some r := by
  induction q with
  | nil => intro j met by_ _ _; exact ⟨_, rfl, rfl⟩
  | cons x q ih =>
    intro j met by_ hq hb
    obtain ⟨hi, hk, hx⟩ := hq x List.mem_cons_self
    have hq' : ∀ r ∈ q, i < r.length ∧ k < r.length ∧ ∀ x ∈ r, num x = true := fun r hr => hq r (List.mem_cons_of_mem _ hr)
    rw [List.map_cons] at hb
    have hbj : idx b (j : Int) = some (nth x k) := drop_idx hb
    have ha := (num_iff _).1 (hx _ (nth_mem hi))
    have hc := (num_iff _).1 (hx _ (nth_mem hk))
    rw [spec_rkAlike_l1, idx_nth hi, idx_nth hk, List.map_cons, impl_differByOne_l1, hbj]
    simp only [bs]
    generalize hA : nth x i = A at *
    generalize hC : nth x k = C at *
    by_cases eA : A = 1000000000
    · rw [show (A == 1000000000) = true by simp [eA]]
      by_cases eC : C = 1000000000
      · rw [show (C == 1000000000) = true by simp [eC]]
        simp only [bne_self_eq_false, cT, cF, bs]
        exact ih (j + 1) met by_ hq' (drop_next hb)
      · rw [show (C == 1000000000) = false by simp [eC]]
        exact ⟨_, rfl, rfl⟩
    · rw [show (A == 1000000000) = false by simp [eA]]
      by_cases eC : C = 1000000000
      · rw [show (C == 1000000000) = true by simp [eC]]
        exact ⟨_, rfl, rfl⟩
      · rw [show (C == 1000000000) = false by simp [eC]]
        rw [ck_in (n := C - A) (by omega) (by omega)]
        simp only [bne_self_eq_false, cT, cF, bs]
        cases met
        · simp only [Bool.not_false, cT, cF, bs]
          exact ih (j + 1) true (C - A) hq' (drop_next hb)
        · simp only [Bool.not_true, cT, cF, bs]
          by_cases e : C - A = by_
          · rw [show (C - A != by_) = false by simp [e]]
            simp only [cF]
            rw [e]
            exact ih (j + 1) true by_ hq' (drop_next hb)
          · rw [show (C - A != by_) = true by simp [e]]
            exact ⟨_, rfl, rfl⟩
section
variable {m : List (List Int)} {c : Nat} (g : Good m c)
include g
theorem alike_both {i k : Nat} (hi : i < c) (hk : k < c) : ∃ b : Bool, spec_rkAlike_m m (i : Int) (k : Int) = some b ∧ impl_differByOne_m (colAt m i) (colAt m k) = some b := by
  obtain ⟨r, h1, h2⟩ := alike_l1 (i := i) (k := k) (colAt m k) m 0 false 0 (fun r hr => ⟨by rw [g.row r hr]; exact hi, by rw [g.row r hr]; exact hk, g.nums r hr⟩) rfl
  unfold spec_rkAlike_m impl_differByOne_m
  rw [h1, show colAt m i = m.map (fun r => nth r i) from rfl, h2]
  cases r with
  | inl b => exact ⟨b, rfl, rfl⟩
  | inr _ => exact ⟨true, rfl, rfl⟩
/-- Classes: none is empty, their members are columns, few of them. -/
def ClsOk (c k : Nat) (l : List (List Int)) : Prop := l.length ≤ k ∧ ∀ x ∈ l, x.length ≤ k ∧ ∃ (i : Nat) (r : List Int), x = (i : Int) :: r ∧ i < c
omit g in
theorem ClsOk.put {c k : Nat} {l : List (List Int)} (h : ClsOk c k l) {n : Nat} (hn : n < l.length) : ClsOk c (k + 1) (l.set n (l[n] ++ [(k : Int)])) := by
  refine ⟨by rw [List.length_set]; have := h.1; omega, fun x hx => ?_⟩
  rcases List.mem_or_eq_of_mem_set hx with h1 | h1
  · obtain ⟨a, b⟩ := h.2 x h1
    exact ⟨by omega, b⟩
  · subst h1
    obtain ⟨a, i, r, e, hi⟩ := h.2 _ (List.getElem_mem hn)
    refine ⟨by simp; omega, i, r ++ [(k : Int)], by rw [e]; rfl, hi⟩
omit g in
theorem rk_found (k : Nat) (l : List (List Int)) : ∀ (q j : Nat), j + q = l.length → spec_rkClasses_l2 m k q j l true = some (l, true)
  | 0, j, _ => rfl
  | q + 1, j, h => by
    rw [spec_rkClasses_l2, idx_lt (show j < l.length by omega)]
    simp only [bs, Bool.not_true, cF]
    exact rk_found k l q (j + 1) (by omega)
theorem cls_l2 {k : Nat} (hk : k < c) (l : List (List Int)) (hl : ClsOk c k l) (q : List (List Int)) : ∀ j, l.drop j = q →
    (∃ l', spec_rkClasses_l2 m k q.length j l false = some (l', true) ∧ impl_columnClasses_l2 (turn m c) k l (colAt m k) q j = some (Sum.inl l') ∧ ClsOk c (k + 1) l') ∨
    (spec_rkClasses_l2 m k q.length j l false = some (l, false) ∧ impl_columnClasses_l2 (turn m c) k l (colAt m k) q j = some (Sum.inr ())) := by
  have h6 := g.chi
  induction q with
  | nil => intro j _; exact .inr ⟨rfl, rfl⟩
  | cons x q ih =>
    intro j hd
    have hj := drop_lt hd
    have hx : l[j] = x := by
      have := drop_idx hd
      rw [idx_lt hj] at this
      exact Option.some.inj this
    obtain ⟨hxl, i, r, e, hi⟩ := hl.2 x (by rw [← hx]; exact List.getElem_mem hj)
    have hlen : j + (q.length + 1) = l.length := by
      have := congrArg List.length hd
      simp only [List.length_drop, List.length_cons] at this
      omega
    rw [List.length_cons, spec_rkClasses_l2, impl_columnClasses_l2, idx_lt hj, hx]
    have hx0 : idx x 0 = some (i : Int) := by rw [e]; rfl
    simp only [bs, Bool.not_false, cT, hx0]
    have ht : idx (turn m c) (i : Int) = some (colAt m i) := by
      rw [idx_lt (show i < (turn m c).length by simpa [turn] using hi)]
      simp [turn]
    obtain ⟨b, b1, b2⟩ := alike_both g hi hk
    rw [b1, ht]
    simp only [bs]
    rw [b2]
    simp only [bs]
    cases b
    · simp only [cF]
      exact ih (j + 1) (drop_next hd)
    · simp only [cT]
      rw [app_lt (by omega)]
      simp only [bs]
      rw [upd_nat hj]
      simp only [bs]
      rw [rk_found k _ q.length (j + 1) (by rw [List.length_set]; omega)]
      refine .inl ⟨_, rfl, rfl, ?_⟩
      have := hl.put hj
      rwa [hx] at this
theorem cls_l1 (q : List Int) : ∀ (k : Nat) (l : List (List Int)), k + q.length = c → ClsOk c k l →
    ∃ r, spec_rkClasses_l1 m q k l = some r ∧ impl_columnClasses_l1 (turn m c) ((turn m c).drop k) k l = some r ∧ ClsOk c c r := by
  have h6 := g.chi
  induction q with
  | nil =>
    intro k l hk hl
    simp only [List.length_nil, Nat.add_zero] at hk
    subst hk
    rw [List.drop_eq_nil_of_le (by simp [turn])]
    exact ⟨l, rfl, rfl, hl⟩
  | cons x q ih =>
    intro k l hk hl
    simp only [List.length_cons] at hk
    have hkl : k < (turn m c).length := by simp [turn]; omega
    have hcol : (turn m c)[k] = colAt m k := by simp [turn]
    rw [spec_rkClasses_l1, drop_cons hkl, impl_columnClasses_l1, hcol, ck_in (by have := hl.1; omega) (by have := hl.1; omega)]
    simp only [bs]
    rw [show ((l.length : Int) - (0 : Nat) : Int).toNat = l.length by simp]
    have h2 := cls_l2 g (k := k) (by omega) l hl l 0 rfl
    rcases h2 with ⟨l', h1, h2, h3⟩ | ⟨h1, h2⟩
    · rw [h1, h2]
      simp only [bs, elL, Bool.not_true, cF]
      exact ih (k + 1) l' (by omega) h3
    · rw [h1, h2]
      simp only [bs, elR, Bool.not_false, cT]
      rw [app_lt (by have := hl.1; omega)]
      simp only [bs]
      refine ih (k + 1) _ (by omega) ⟨by simp; exact hl.1, fun y hy => ?_⟩
      rcases List.mem_append.1 hy with h | h
      · obtain ⟨a, b⟩ := hl.2 y h
        exact ⟨by omega, b⟩
      · simp only [List.mem_cons, List.not_mem_nil, or_false] at h
        subst h
        exact ⟨by simp, k, [], rfl, by omega⟩
theorem classes_both : ∃ r, spec_rkClasses_m m = some r ∧ impl_columnClasses_m m = some r ∧ ClsOk c c r := by
  have hlo := g.lo
  unfold spec_rkClasses_m impl_columnClasses_m
  rw [idx_head (by omega), transposed_eq g]
  simp only [bs]
  obtain ⟨r, h1, h2, h3⟩ := cls_l1 g (hd m) 0 [] (by have := g.head; omega) ⟨by simp, fun x h => by cases h⟩
  rw [List.drop_zero] at h2
  rw [h1, h2]
  exact ⟨r, rfl, rfl, h3⟩
theorem turn_Good : Good (turn m c) m.length := by
  have := g.lo; have := g.hi; have := g.clo; have := g.chi
  have hrow : ∀ l ∈ turn m c, l.length = m.length := fun l hl => by
    simp only [turn, List.mem_map] at hl
    obtain ⟨i, _, rfl⟩ := hl
    simp [colAt]
  refine ⟨by simp [turn]; omega, by simp [turn]; omega, by omega, by omega, ?_, hrow, fun l hl x hx => ?_⟩
  · refine hrow _ ?_
    cases ht : turn m c with
    | nil => have := congrArg List.length ht; simp [turn] at this; omega
    | cons y q => rw [hd_cons]; exact List.mem_cons_self
  · simp only [turn, List.mem_map, List.mem_range] at hl
    obtain ⟨i, hi, rfl⟩ := hl
    simp only [colAt, List.mem_map] at hx
    obtain ⟨r, hr, rfl⟩ := hx
    exact g.nums r hr _ (nth_mem (by rw [g.row r hr]; exact hi))
end
theorem ColumnClasses_both (m : List (List Int)) : ∃ r, spec_ColumnClasses_m m = some r ∧ impl_ColumnClasses_m m = some r ∧ SmallM r.1 := by
  unfold spec_ColumnClasses_m impl_ColumnClasses_m
  rw [mxGood_eq, isMatrix_eq]
  simp only [bs]
  cases hs : mat m with
  | false => exact ⟨([], false), rfl, rfl, smallM_nil⟩
  | true =>
    have g := mat_good hs
    obtain ⟨r, h1, h2, h3⟩ := classes_both g
    have h6 := g.chi
    simp only [Bool.not_true, cF]
    rw [h1, h2]
    refine ⟨(r, true), rfl, rfl, ?_, fun l hl => ?_⟩
    · have := h3.1; unfold Small; show r.length ≤ _; omega
    · have := (h3.2 l hl).1; unfold Small; omega
theorem FactorBounds_both (m : List (List Int)) : ∃ r, spec_FactorBounds_m m = some r ∧ impl_FactorBounds_m m = some r ∧ True := by
  unfold spec_FactorBounds_m impl_FactorBounds_m
  rw [mxGood_eq, isMatrix_eq]
  simp only [bs]
  cases hs : mat m with
  | false => exact ⟨_, rfl, rfl, trivial⟩
  | true =>
    have g := mat_good hs
    obtain ⟨r, h1, h2⟩ := rank_eq g
    obtain ⟨a, a1, a2, a3⟩ := classes_both g
    obtain ⟨b, b1, b2, b3⟩ := classes_both (turn_Good g)
    simp only [Bool.not_true, cF]
    rw [h1, h2, a1, a2, mxTurn_eq g, transposed_eq g]
    simp only [bs]
    rw [b1, b2]
    simp only [bs, l1Least_eq]
    exact ⟨_, rfl, rfl, trivial⟩
end Go.Proofs.Ytaagklbiebogfaa
