/- Plain laws: the potential of a question. -/
import Derived.Test.YtjhaealoneennaaPofM
import Derived.Test.YtjhaealoneennaaPMnw
namespace Go.Proofs.Ytjhaealoneennaa
set_option linter.unusedVariables false
set_option linter.unusedSimpArgs false
set_option linter.unusedSectionVars false

theorem ple_conv0 {e z : Int} (h : ple (conv e) (some z)) : e ≤ z := by
  unfold conv at h
  split at h
  · exact h.elim
  · exact h
theorem ltF_tr {p q r : Int × Int} (hp : 1 ≤ p.2) (hq : 1 ≤ q.2) (hr : 1 ≤ r.2) (h1 : ltF p q = false) (h2 : ltF q r = false) : ltF p r = false := by
  unfold ltF at *
  have h1 := of_decide_eq_false h1
  have h2 := of_decide_eq_false h2
  refine decide_eq_false fun h3 => ?_
  have a1 : q.1 * p.2 * r.2 ≤ p.1 * q.2 * r.2 := Int.mul_le_mul_of_nonneg_right (by omega) (by omega)
  have a2 : r.1 * q.2 * p.2 ≤ q.1 * r.2 * p.2 := Int.mul_le_mul_of_nonneg_right (by omega) (by omega)
  have a3 : p.1 * r.2 * q.2 < r.1 * p.2 * q.2 := Int.mul_lt_mul_of_pos_right (by omega) (by omega)
  have e1 : p.1 * q.2 * r.2 = p.1 * r.2 * q.2 := by rw [Int.mul_assoc, Int.mul_comm q.2, ← Int.mul_assoc]
  have e2 : q.1 * p.2 * r.2 = q.1 * r.2 * p.2 := by rw [Int.mul_assoc, Int.mul_comm p.2, ← Int.mul_assoc]
  have e3 : r.1 * q.2 * p.2 = r.1 * p.2 * q.2 := by rw [Int.mul_assoc, Int.mul_comm q.2, ← Int.mul_assoc]
  rw [e1, e2] at a1
  rw [e3] at a2
  omega
theorem ltF_int {c d p : Int} (hd : 1 ≤ d) : ltF (low c d) (p, 1) = decide (c - p * d < 0) := by
  obtain ⟨h1, _, _, _, h5⟩ := low_spec (n := c) hd
  unfold ltF
  simp only [Int.mul_one]
  have e : ((low c d).1 - p * (low c d).2) * d = (c - p * d) * (low c d).2 := by
    rw [Int.sub_mul, Int.sub_mul, h5, Int.mul_assoc, Int.mul_assoc, Int.mul_comm d]
  by_cases c1 : c - p * d < 0
  · rw [decide_eq_true c1]
    refine decide_eq_true ?_
    have : (c - p * d) * (low c d).2 < 0 := Int.mul_neg_of_neg_of_pos c1 (by omega)
    rw [← e] at this
    refine Int.lt_of_not_ge fun h => ?_
    have := Int.mul_nonneg h (show 0 ≤ d by omega)
    omega
  · rw [decide_eq_false c1]
    refine decide_eq_false fun h => ?_
    have : ((low c d).1 - p * (low c d).2) * d < 0 := Int.mul_neg_of_neg_of_pos h (by omega)
    rw [e] at this
    have := Int.mul_nonneg (show 0 ≤ c - p * d by omega) (show 0 ≤ (low c d).2 by omega)
    omega
section
variable {m : List (List Int)} {n : Nat} (g : Good m n) (hn : m.length = n)
include g hn
theorem bL_fold : ∀ (L pre : List (List Int)) (b : List Int), (∀ x ∈ L, x ∈ allC m n) → (∀ x ∈ pre, x ∈ allC m n) → ((b = [] ∧ pre = []) ∨ (b ∈ pre ∧ ∀ x ∈ pre, ltF (meanP m x) (meanP m b) = false)) →
    ((L.foldl (bL m) b = [] ∧ pre ++ L = []) ∨ (L.foldl (bL m) b ∈ pre ++ L ∧ ∀ x ∈ pre ++ L, ltF (meanP m x) (meanP m (L.foldl (bL m) b)) = false))
  | [], pre, b, _, _, h => by simpa using h
  | a :: L, pre, b, hL, hpre, h => by
    have ha := hL a List.mem_cons_self
    have hda := (mean_sm g hn ha).2.1
    have := bL_fold L (pre ++ [a]) (bL m b a) (fun x hx => hL x (List.mem_cons_of_mem _ hx)) (fun x hx => by
      rcases List.mem_append.1 hx with e | e
      · exact hpre x e
      · simp at e; rw [e]; exact ha) (by
      right
      unfold bL
      by_cases hc : b.length = 0 ∨ ltF (meanP m a) (meanP m b) = true
      · rw [if_pos hc]
        refine ⟨by simp, fun x hx => ?_⟩
        rcases List.mem_append.1 hx with e | e
        · rcases h with ⟨_, h2⟩ | ⟨h1, h2⟩
          · rw [h2] at e; cases e
          · have hb := (allC_mem (hpre b h1)).2.2.1
            have hlt := hc.resolve_left (by omega)
            cases hq : ltF (meanP m x) (meanP m a) with
            | false => rfl
            | true =>
              have := ltF_trans (mean_sm g hn (hpre x e)).2.1 hda (mean_sm g hn (hpre b h1)).2.1 hq hlt
              rw [h2 x e] at this; cases this
        · simp at e; rw [e]; exact ltF_irrefl _
      · rw [if_neg hc]
        rcases h with ⟨h1, h2⟩ | ⟨h1, h2⟩
        · exact absurd (.inl (by rw [h1]; rfl)) hc
        · refine ⟨List.mem_append_left _ h1, fun x hx => ?_⟩
          rcases List.mem_append.1 hx with e | e
          · exact h2 x e
          · simp at e; rw [e]
            cases hq : ltF (meanP m a) (meanP m b) with
            | false => rfl
            | true => exact absurd (.inr hq) hc)
    rw [List.append_assoc] at this
    exact this
/-- The specification's question: does a circuit have a mean below p. -/
theorem below_eq {p : Int} (hp : fin p = true) : ∃ y b, spec_mnLeast_m m = some y ∧ (b = false ↔ NC m n p) ∧
    (cond (decide ((y.length : Int) > 0)) ((spec_mnMean_m m y).bind fun y16 => (spec_frInt_m p).bind fun y18 => (spec_frCmp_m y16.1 y16.2 y18.1 y18.2).bind fun y20 => some (decide (y20 < 0))) (some false) : Option Bool) = some b := by
  have hp' := (fin_iff p).1 hp
  rw [mnLeast_eq g hn]
  refine ⟨(allC m n).foldl (bL m) [], ?_⟩
  rcases bL_fold g hn (allC m n) [] [] (fun x h => h) (fun x h => by cases h) (.inl ⟨rfl, rfl⟩) with ⟨h1, h2⟩ | ⟨h1, h2⟩
  · rw [h1, decide_eq_false (by simp)]
    rw [List.nil_append] at h2
    have : NC m n p := fun a ha => by rw [h2] at ha; cases ha
    exact ⟨false, rfl, ⟨fun _ => this, fun _ => rfl⟩, rfl⟩
  · rw [List.nil_append] at h1 h2
    generalize (allC m n).foldl (bL m) [] = y at *
    have hy := (allC_mem h1).2.2.1
    have hsm := mean_sm g hn h1
    rw [decide_eq_true (by omega), mnMean_eq g hn h1]
    simp only [cT, bs]
    unfold spec_frInt_m
    simp only [bs]
    obtain ⟨r, k1, k2⟩ := frCmp_eq (p := meanP m y) (q := (p, 1)) hsm.1 ⟨⟨by simp only []; omega, by simp only []; omega⟩, by simp only []; omega, by simp only []; omega⟩
    simp only [] at k1
    rw [k1]
    simp only [bs]
    rw [k2]
    refine ⟨_, trivial, ?_, rfl⟩
    have key : ∀ a ∈ allC m n, ltF (meanP m a) (p, 1) = decide (ccost m a - p * a.length < 0) := fun a ha => ltF_int (by have := (allC_mem ha).2.2.1; omega)
    cases hq : ltF (meanP m y) (p, 1) with
    | true =>
      rw [key y h1] at hq
      have hq := of_decide_eq_true hq
      exact ⟨fun h => (by cases h), fun nc => (by have := nc y h1; omega)⟩
    | false =>
      have : NC m n p := fun a ha => by
        have := ltF_tr (mean_sm g hn ha).2.1 hsm.2.1 (show 1 ≤ ((p, 1) : Int × Int).2 by simp) (h2 a ha) hq
        rw [key a ha] at this
        have := of_decide_eq_false this
        omega
      exact ⟨fun _ => this, fun _ => rfl⟩
end
theorem fold_le (l : List Int) : ∀ a : Int, l.foldl min a ≤ a ∧ ∀ x ∈ l, l.foldl min a ≤ x := by
  induction l with
  | nil => intro a; exact ⟨Int.le_refl _, fun x h => by cases h⟩
  | cons y l ih =>
    intro a
    obtain ⟨h1, h2⟩ := ih (min a y)
    rw [List.foldl_cons]
    refine ⟨by omega, fun x hx => ?_⟩
    rcases List.mem_cons.1 hx with e | e
    · subst e; omega
    · exact h2 x e
theorem le_fold (l : List Int) : ∀ a z : Int, z ≤ a → (∀ x ∈ l, z ≤ x) → z ≤ l.foldl min a := by
  induction l with
  | nil => intro a z h _; exact h
  | cons y l ih =>
    intro a z h hl
    rw [List.foldl_cons]
    have := hl y List.mem_cons_self
    exact ih _ z (by omega) (fun x hx => hl x (List.mem_cons_of_mem _ hx))
theorem sumOf_min_l1 (q : List Int) : ∀ (j : Nat) (n : Int), impl_sumOf_l1 q j n = some (q.foldl min n) := by
  induction q with
  | nil => intro j n; rfl
  | cons x q ih => intro j n; rw [impl_sumOf_l1, ih]; rfl
theorem sumOf_min (l : List Int) : impl_sumOf_m l = some (l.foldl min 1000000000) := by
  unfold impl_sumOf_m; rw [sumOf_min_l1]; rfl
theorem pot_l1 (q : List (List Int)) : ∀ j l, l.length + q.length < 1000000 → impl_PotentialOf_l1 q j l = some (l ++ q.map fun r => r.foldl min 1000000000) := by
  induction q with
  | nil => intro j l _; simp [impl_PotentialOf_l1]
  | cons x q ih =>
    intro j l hl
    simp only [List.length_cons] at hl
    rw [impl_PotentialOf_l1, sumOf_min]
    simp only [bs]
    rw [app_lt (by omega)]
    simp only [bs]
    rw [ih _ _ (by simp; omega)]
    simp
theorem all_fin {l : List Int} (h : ∀ x ∈ l, x ≤ 100000000) : l.all num = l.all fun n => inR n (-1000000) 1000000 := by
  rw [Bool.eq_iff_iff, List.all_eq_true, List.all_eq_true]
  refine forall_congr' fun x => forall_congr' fun hx => ?_
  have := h x hx
  rw [num_iff, inR_iff]
  omega
theorem mnIf_eq (l : List Int) : spec_mnIf_m l = some (l.all (fun n => inR n (-1000000) 1000000), l.all (fun n => inR n (-1000000) 1000000)) := by
  unfold spec_mnIf_m
  rw [l1All_eq]
  cases l.all (fun n => inR n (-1000000) 1000000) <;> rfl
theorem PotentialOf_both (m : List (List Int)) (p : Int) : ∃ r, spec_PotentialOf_m m p = some r ∧ impl_PotentialOf_m m p = some r ∧ Small r.1 := by
  unfold spec_PotentialOf_m impl_PotentialOf_m
  rw [mxSquare_eq, isSquare_eq, poFinite_eq, isFinite_eq]
  cases hs : sqr m with
  | false => exact ⟨_, rfl, rfl, by simp [Small]⟩
  | true =>
  cases hp : fin p with
  | false => exact ⟨_, rfl, rfl, by simp [Small]⟩
  | true =>
    have g := sqr_good hs
    have h6 := g.chi
    have hlo := g.clo
    generalize hn : m.length = n at *
    obtain ⟨y, b, y1, yb, y2⟩ := below_eq g hn hp
    simp only [Bool.not_true, cF, bs]
    rw [y1, shorter_eq g hn hp]
    simp only [bs]
    rw [y2]
    simp only [bs]
    rcases wc_less g hn hp with ⟨nc, d, d1, d2, d3⟩ | ⟨nc, d1⟩
    · rw [yb.2 nc, d1]
      simp only [Bool.not_true, cF, bs]
      rw [guardO_t (decide_eq_true (by omega)), show ((n : Int)).toNat = n by omega]
      simp only [bs]
      have hw0 : ∀ k, k < n → nth (List.replicate n (0 : Int)) k = 0 := fun k hk => by simp [nth, hk]
      obtain ⟨R, r1, r2, r3⟩ := mnWays_eq g hn hp nc (w := List.replicate n 0) (by simp) (fun k hk => .inr (hw0 k hk))
      rw [r1, pot_l1 d 0 [] (by have := d2.len; simp; omega)]
      simp only [bs, List.nil_append]
      have hc0 : ∀ k, k < n → conv (nth (List.replicate n (0 : Int)) k) = some 0 := fun k hk => by rw [hw0 k hk]; rfl
      have hR0 : ∀ i, i < n → nth R i ≤ 0 := fun i hi => by
        have := tgt_start g hn hp nc (w := List.replicate n 0) (by simp) (fun k hk => .inr (hw0 k hk)) hi
        rw [hc0 i hi, ← r3 i hi] at this
        exact ple_conv0 this
      have hRe : d.map (fun r => r.foldl min 1000000000) = R := by
        apply List.ext_getElem (by have := d2.len; simp; omega)
        intro i h1 h2
        have hi : i < n := by omega
        have e1 : nth R i = R[i] := by simp [nth, h2]
        have hid : i < d.length := by have := d2.len; omega
        have e2 : nthM d i = d[i] := by simp [nthM, hid]
        simp only [List.getElem_map]
        rw [← e1, ← e2]
        have hrl : (nthM d i).length = n := d2.nth_len hi
        have hle := hR0 i hi
        refine Int.le_antisymm ?_ ?_
        · have hT := r3 i hi
          rw [conv_some (by omega)] at hT
          rcases inf_none_or (fun k => padd (cs n (lesm m n p) n i k) (conv (nth (List.replicate n (0 : Int)) k))) (List.range n) with e | ⟨k, hk, e⟩
          · have e : tgt (lesm m n p) n (List.replicate n 0) i = none := e
            rw [e] at hT; cases hT
          · have hk := List.mem_range.1 hk
            have e : tgt (lesm m n p) n (List.replicate n 0) i = padd (cs n (lesm m n p) n i k) (conv (nth (List.replicate n (0 : Int)) k)) := e
            rw [hc0 k hk, padd_zero, ← d3 i k hi hk, ← hT] at e
            have e := (conv_some_iff.1 e.symm).2
            rw [← e]
            exact (fold_le (nthM d i) 1000000000).2 _ (nth_mem (by omega))
        · refine le_fold _ _ _ (by omega) fun x hx => ?_
          obtain ⟨k, hk, rfl⟩ := List.getElem_of_mem hx
          have hkn : k < n := by omega
          have := tgt_le g hn hp nc (w := List.replicate n 0) (by simp) (fun k hk => .inr (hw0 k hk)) (i := i) hkn
          rw [hc0 k hkn, padd_zero, ← d3 i k hi hkn, ← r3 i hi, conv_some (by omega)] at this
          have e3 : En d i k = (nthM d i)[k] := by simp [En, nth, hk]
          rw [← e3]
          unfold conv at this
          split at this
          · omega
          · exact this
      rw [hRe, mnIf_eq, toldList_eq, all_fin (fun x hx => by
        obtain ⟨i, hi, rfl⟩ := List.getElem_of_mem hx
        have := hR0 i (by omega)
        have e : nth R i = R[i] := by simp [nth, hi]
        omega)]
      simp only [bs]
      cases R.all fun n => inR n (-1000000) 1000000
      · exact ⟨_, rfl, rfl, by simp [Small]⟩
      · exact ⟨_, rfl, rfl, by unfold Small; simp only [cT]; omega⟩
    · have : b = true := by cases b with | true => rfl | false => exact absurd (yb.1 rfl) nc
      rw [this, d1]
      exact ⟨_, rfl, rfl, by simp [Small]⟩
end Go.Proofs.Ytjhaealoneennaa
