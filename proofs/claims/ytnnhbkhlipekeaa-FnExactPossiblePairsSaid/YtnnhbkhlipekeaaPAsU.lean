/- Plain laws: how many best assignments there are, and the pairs that all of them have. -/
import Derived.Test.YtnnhbkhlipekeaaAsuM
import Derived.Test.YtnnhbkhlipekeaaPAsB
namespace Go.Proofs.Ytnnhbkhlipekeaa
set_option linter.unusedVariables false
set_option linter.unusedSimpArgs false
set_option linter.unusedSectionVars false

def cnU (L : List (List Int)) (i k : Nat) : Nat := L.countP fun a => nth a i == (k : Int)
def rowU (n : Nat) (L : List (List Int)) (i : Nat) : List Int := (List.range n).map fun k => ((cnU L i k : Nat) : Int)
def useU (n : Nat) (L : List (List Int)) : List (List Int) := (List.range n).map fun i => rowU n L i
def useV (n : Nat) (L : List (List Int)) (a : List Int) (j : Nat) : List (List Int) := (List.range n).map fun i => rowU n (if i < j then L ++ [a] else L) i
theorem idx_rm {α : Type} {f : Nat → α} {n i : Nat} (h : i < n) : idx ((List.range n).map f) (i : Int) = some (f i) := by
  rw [idx_lt (show i < ((List.range n).map f).length by simpa using h)]
  simp
theorem set_rm {α : Type} {f : Nat → α} {n i : Nat} (x : α) : ((List.range n).map f).set i x = (List.range n).map fun j => if j = i then x else f j := by
  apply List.ext_getElem (by simp)
  intro j h1 h2
  simp only [List.getElem_set, List.getElem_map, List.getElem_range, eq_comm]
theorem cnU_le (L : List (List Int)) (i k : Nat) : cnU L i k ≤ L.length := List.countP_le_length
theorem cnU_app (L : List (List Int)) (a : List Int) (i k : Nat) : cnU (L ++ [a]) i k = cnU L i k + if nth a i = (k : Int) then 1 else 0 := by
  unfold cnU
  rw [List.countP_append]
  congr 1
  by_cases h : nth a i = (k : Int) <;> simp [h]
theorem uses_l1 {n : Nat} {L : List (List Int)} {a : List Int} (ha : a.length = n) (hv : ∀ x ∈ a, 0 ≤ x ∧ x < (n : Int)) (hL : L.length ≤ 46656) :
    ∀ (q : List Int) (j : Nat), q = a.drop j → impl_usesOf_1_l1 q j (useV n L a j) = some (useU n (L ++ [a])) := by
  intro q
  induction q with
  | nil =>
    intro j hj
    have : a.length ≤ j := by simpa using hj.symm
    rw [impl_usesOf_1_l1]
    unfold useV useU
    congr 1
    refine List.map_congr_left fun i hi => ?_
    rw [if_pos (by have := List.mem_range.1 hi; omega)]
  | cons x q ih =>
    intro j hj
    have hjn : j < a.length := by
      refine Nat.lt_of_not_le fun h => ?_
      rw [List.drop_eq_nil_of_le h] at hj
      cases hj
    rw [drop_cons hjn] at hj
    have hx : x = a[j] := by injection hj
    have hq : q = a.drop (j + 1) := by injection hj
    obtain ⟨h0, h1⟩ := hv x (by rw [hx]; exact List.getElem_mem hjn)
    obtain ⟨y, rfl⟩ := Int.eq_ofNat_of_zero_le h0
    have hn : nth a j = (y : Int) := by rw [hx]; simp [nth, hjn]
    have hc := cnU_le L j y
    rw [impl_usesOf_1_l1]
    unfold useV
    rw [idx_rm (by omega)]
    simp only [bs, Nat.lt_irrefl, if_false]
    unfold rowU
    rw [idx_rm (by omega)]
    simp only [bs]
    rw [ck_in (by omega) (by omega)]
    simp only [bs]
    rw [upd_nat (by simp; omega), set_rm]
    simp only [bs]
    rw [set_rm, ← ih (j + 1) hq]
    congr 1
    unfold useV
    refine List.map_congr_left fun i hi => ?_
    by_cases e : i = j
    · subst e
      rw [if_pos (by omega), if_pos (by omega)]
      refine List.map_congr_left fun b hb => ?_
      rw [cnU_app, hn]
      by_cases e : b = y
      · subst e; simp
      · rw [if_neg e, if_neg (by omega)]; simp
    · rw [if_neg (by omega)]
      by_cases e2 : i < j
      · rw [if_pos e2, if_pos (by omega)]; rfl
      · rw [if_neg e2, if_neg (by omega)]; rfl
def fvU (m : List (List Int)) (c : Int) (f : List Int) (l : List Int) (s : List (List Int) × Int) : Option (List (List Int) × Int) := (impl_usesOf_1_m l m c f s.2 s.1).bind fun y => some (y.2, y.1)
theorem uses_permL (n : Int) (m : List (List Int)) (c : Int) (f : List Int) (rec : List Int → Int → List Bool → List (List Int) → Int → List Int → Int → List (List Int) → Option (List Int × List Bool × Int × List (List Int))) (rec' : List Int → List Bool → List (List Int) × Int → Option (List Int × List Bool × List (List Int) × Int))
    (h : ∀ l u s t, rec l n u m c f t s = (rec' l u (s, t)).bind fun y => some (y.1, y.2.1, y.2.2.2, y.2.2.1)) : ∀ q j l u s t, impl_permutations_1_uses_l1 n m c f rec q j l u s t = (permL n rec' q j l u (s, t)).bind fun y => some (y.1, y.2.1, y.2.2.1, y.2.2.2) := by
  intro q
  induction q with
  | zero => intro j l u s t; rfl
  | succ q ih =>
    intro j l u s t
    rw [impl_permutations_1_uses_l1, permL]
    simp only [ih, h, Option.bind_assoc, bs]
    cases idx u (j : Int) with
    | none => rfl
    | some b => cases b <;> simp only [cT, cF, bs, Option.bind_assoc]
theorem uses_permR (n : Int) (m : List (List Int)) (c : Int) (f : List Int) : ∀ k l u s t, impl_permutations_1_uses_r k l n u m c f t s = (permR (fvU m c f) n k l u (s, t)).bind fun y => some (y.1, y.2.1, y.2.2.2, y.2.2.1) := by
  intro k
  induction k with
  | zero => intro l u s t; rfl
  | succ k ih =>
    intro l u s t
    rw [impl_permutations_1_uses_r, permR, impl_permutations_1_uses_b, permB, uses_permL n m c f _ _ ih]
    cases ((l.length : Int) == n)
    · simp only [cF, Option.bind_assoc, bs]
    · simp only [cT, fvU, Option.bind_assoc, bs]
theorem usesOf_l1_eq {m : List (List Int)} {n : Nat} (hn : m.length = n) (h6 : n ≤ 6) : ∀ (q j : Nat) (l : List (List Int)), l.length = n → j + q = n → impl_usesOf_l1 m q j l = some (l.take j ++ List.replicate q (List.replicate n 0)) := by
  intro q
  induction q with
  | zero => intro j l hl hj; rw [impl_usesOf_l1, List.take_of_length_le (by omega)]; simp
  | succ q ih =>
    intro j l hl hj
    rw [impl_usesOf_l1, hn, guardO_t (decide_eq_true (by omega)), idx_lt (show j < l.length by omega), upd_nat (by omega)]
    simp only [bs]
    rw [ih (j + 1) _ (by simpa using hl) (by omega), List.take_succ_eq_append_getElem (by simpa using (show j < l.length by omega))]
    rw [List.take_set_of_le (by omega), List.getElem_set_self, List.append_assoc, show ((n : Int)).toNat = n by omega]
    rfl
theorem useU_nil (n : Nat) : useU n [] = List.replicate n (List.replicate n 0) := by
  simp [useU, rowU, cnU, List.map_const']
section
variable {m : List (List Int)} {n : Nat} (g : Good m n) (hn : m.length = n)
include g hn
theorem foldU (c : Int) (f : List Int) : ∀ (Q pre : List (List Int)), (∀ a ∈ Q, a ∈ comps n n []) → pre.length + Q.length ≤ 46656 →
    foldV (fvU m c f) Q (useU n (pre.filter fun a => decide (cst m a = c)), ((pre.filter fun a => decide (cst m a = c)).length : Int)) = some (useU n ((pre ++ Q).filter fun a => decide (cst m a = c)), (((pre ++ Q).filter fun a => decide (cst m a = c)).length : Int)) := by
  have h6 := g.chi
  intro Q
  induction Q with
  | nil => intro pre _ _; rw [List.append_nil]; rfl
  | cons a Q ih =>
    intro pre hQ hl
    simp only [List.length_cons] at hl
    obtain ⟨k1, k2⟩ := comps_ok (hQ a List.mem_cons_self)
    have hf := List.length_filter_le (fun a => decide (cst m a = c)) pre
    have hI := ih (pre ++ [a]) (fun x hx => hQ x (List.mem_cons_of_mem _ hx)) (by simp; omega)
    rw [show pre ++ a :: Q = pre ++ [a] ++ Q by simp, ← hI, List.filter_append (l₁ := pre)]
    rw [foldV]
    unfold fvU impl_usesOf_1_m
    rw [costOf_eq g hn (by omega) k2, show pcost m a 0 0 = cst m a from rfl]
    simp only [bs]
    by_cases e : cst m a = c
    · rw [show (cst m a != c) = false by simpa using e, ck_in (by omega) (by omega)]
      simp only [cF, bs]
      rw [show useU n (pre.filter fun a => decide (cst m a = c)) = useV n (pre.filter fun a => decide (cst m a = c)) a 0 by simp [useU, useV], uses_l1 k1 k2 (by omega) a 0 rfl]
      simp [e]
    · rw [show (cst m a != c) = true by simpa using e]
      simp [e]
theorem usesOf_eq (c : Int) (f : List Int) : impl_usesOf_m m c f = some (useU n ((comps n n []).filter fun a => decide (cst m a = c)), (((comps n n []).filter fun a => decide (cst m a = c)).length : Int)) := by
  have h6 := g.chi
  have hlo := g.clo
  have hl := comps_len h6 n []
  have hp : 6 ^ n ≤ 6 ^ 6 := Nat.pow_le_pow_right (by omega) h6
  have key := foldU g hn c f (comps n n []) [] (fun a h => h) (by simp only [List.length_nil]; omega)
  unfold impl_usesOf_m
  rw [hn, guardO_t (decide_eq_true (by omega)), ck_in (by simp only [List.length_replicate]; omega) (by simp only [List.length_replicate]; omega)]
  simp only [bs, List.length_replicate]
  rw [usesOf_l1_eq hn h6 _ 0 _ (by simp) (by simp)]
  simp only [bs]
  rw [show (((n : Int)).toNat : Int) - ((0 : Nat) : Int) = (n : Int) by omega, show ((n : Int)).toNat = n by omega, List.take_zero, List.nil_append, ← useU_nil]
  unfold impl_permutations_uses_m
  rw [guardO_t (by simp; omega)]
  simp only [bs]
  unfold impl_permutations_1_uses_m
  rw [uses_permR, show ((n : Int)).toNat = n by omega, permR_start _ (by omega) (by omega)]
  simp only [List.filter_nil, List.length_nil, List.nil_append] at key
  rw [show ((0 : Nat) : Int) = 0 from rfl] at key
  rw [key]
  rfl
end
theorem CountBest_both (m : List (List Int)) : ∃ r, spec_CountBest_m m = some r ∧ impl_CountBest_m m = some r ∧ True := by
  unfold spec_CountBest_m impl_CountBest_m
  cases hs : sqr m with
  | false => rw [asAsked_no hs, bestAsked_no hs]; exact ⟨_, rfl, rfl, trivial⟩
  | true =>
    have g := sqr_good hs
    have h6 := g.chi
    have hlo := g.clo
    rw [asAsked_eq g rfl hs, bestAsked_eq g rfl hs]
    simp only [bs]
    rcases opt g rfl with ⟨h1, h2⟩ | ⟨f, o, c, h1, h2, h3, h4, h5, h6', h7, h8, h9, h10⟩
    · rw [h1, h2]; exact ⟨_, rfl, rfl, trivial⟩
    have hfl := (comps_ok h5).1
    rw [decide_eq_true h1, h3, h2]
    simp only [Bool.not_true, cF, bs]
    rw [decide_eq_true (show (f.length : Int) > 0 by omega), usesOf_eq g rfl, ← h9]
    exact ⟨_, rfl, rfl, trivial⟩

/-! ### The pairs of all -/
theorem forced_l2 (u : List (List Int)) (t : Int) (i k0 : Nat) (A : Bool) (c : Nat → Int) : ∀ (q j : Nat) (out : List (List Int)), out.length + q ≤ 100 → (∀ k, j ≤ k → k < j + q → (c k == t) = (A && decide (k = k0))) →
    impl_pairsUsed_forced_l2 (u, t) i ((List.range' j q).map c) j out = some (if A = true ∧ j ≤ k0 ∧ k0 < j + q then out ++ [[(i : Int), (k0 : Int)]] else out) := by
  intro q
  induction q with
  | zero => intro j out _ _; rw [if_neg (by omega)]; rfl
  | succ q ih =>
    intro j out ho h
    rw [List.range'_succ, List.map_cons, impl_pairsUsed_forced_l2]
    unfold impl_ForcedPairs_1_m
    simp only [bs]
    rw [h j (Nat.le_refl _) (by omega)]
    have h' : ∀ k, j + 1 ≤ k → k < j + 1 + q → (c k == t) = (A && decide (k = k0)) := fun k a b => h k (by omega) (by omega)
    by_cases e : j = k0
    · subst e
      cases A with
      | true =>
        rw [decide_eq_true rfl]
        simp only [Bool.and_self, cT]
        rw [app_lt (by omega)]
        simp only [bs]
        rw [ih (j + 1) (out ++ [[(i : Int), (j : Int)]]) (by simp; omega) h', if_neg (by omega), if_pos ⟨trivial, by omega, by omega⟩]
      | false =>
        simp only [Bool.false_and, cF]
        rw [ih (j + 1) out (by omega) h', if_neg (by simp), if_neg (by simp)]
    · rw [decide_eq_false e, Bool.and_false]
      simp only [cF]
      rw [ih (j + 1) out (by omega) h']
      by_cases hA : A = true
      · by_cases hk : j + 1 ≤ k0 ∧ k0 < j + 1 + q
        · rw [if_pos ⟨hA, hk⟩, if_pos ⟨hA, by omega, by omega⟩]
        · rw [if_neg (fun x => hk x.2), if_neg (fun x => hk ⟨by omega, by omega⟩)]
      · rw [if_neg (fun x => hA x.1), if_neg (fun x => hA x.1)]
theorem fp_l2 (i : Nat) (x : Int) : ∀ (q : List (List Int)) (j : Nat) (b : Bool), (∀ a ∈ q, i < a.length) → spec_ForcedPairs_l2 i x q j b = some (b && q.all fun a => nth a i == x) := by
  intro q
  induction q with
  | nil => intro j b _; rw [spec_ForcedPairs_l2]; simp
  | cons a q ih =>
    intro j b h
    rw [spec_ForcedPairs_l2]
    have h' : ∀ a ∈ q, i < a.length := fun y hy => h y (List.mem_cons_of_mem _ hy)
    cases b with
    | false => simp only [cF, bs]; rw [ih _ _ h']; simp
    | true =>
      simp only [cT, bs]
      rw [idx_nth (h a List.mem_cons_self)]
      simp only [bs]
      rw [ih _ _ h']
      simp
theorem forced_l1 {n : Nat} {f : List Int} {o : List (List Int)} {c : Int} (hf : f ∈ o) (ho : ∀ a ∈ o, a.length = n ∧ ∀ x ∈ a, 0 ≤ x ∧ x < (n : Int)) (h6 : n ≤ 6) :
    ∀ (d i : Nat) (out : List (List Int)), i + d = n → out.length ≤ i → (∀ l ∈ out, l.length = 2) → ∃ r, spec_ForcedPairs_l1 (o, c) (f.drop i) i out = some r ∧ impl_pairsUsed_forced_l1 (useU n o, (o.length : Int)) ((List.range' i d).map (rowU n o)) i out = some r ∧ r.length ≤ n ∧ ∀ l ∈ r, l.length = 2 := by
  intro d
  induction d with
  | zero =>
    intro i out hi hl h2
    have hfl := (ho f hf).1
    rw [List.drop_eq_nil_of_le (by omega), spec_ForcedPairs_l1]
    exact ⟨out, rfl, rfl, by omega, h2⟩
  | succ d ih =>
    intro i out hi hl h2
    obtain ⟨hfl, hfv⟩ := ho f hf
    have hif : i < f.length := by omega
    obtain ⟨h0, h1⟩ := hfv (f[i]) (List.getElem_mem hif)
    obtain ⟨k0, hk0⟩ := Int.eq_ofNat_of_zero_le h0
    have hnf : nth f i = (k0 : Int) := by rw [← hk0]; simp [nth, hif]
    rw [drop_cons hif, spec_ForcedPairs_l1, hk0, fp_l2 i (k0 : Int) o 0 true (fun a ha => by have := (ho a ha).1; omega)]
    rw [List.range'_succ, List.map_cons, impl_pairsUsed_forced_l1]
    have key := forced_l2 (useU n o) (o.length : Int) i k0 (o.all fun a => nth a i == (k0 : Int)) (fun k => ((cnU o i k : Nat) : Int)) n 0 out (by omega) (fun k _ _ => by
      unfold cnU
      by_cases e : k = k0
      · subst e
        rw [decide_eq_true rfl, Bool.and_true, Bool.eq_iff_iff]
        simp only [beq_iff_eq, Int.ofNat_inj, List.all_eq_true]
        rw [List.countP_eq_length]
        simp
      · rw [decide_eq_false e, Bool.and_false]
        rw [beq_eq_false_iff_ne]
        intro hh
        have hh : o.countP (fun a => nth a i == (k : Int)) = o.length := by omega
        rw [List.countP_eq_length] at hh
        have := hh f hf
        simp only [beq_iff_eq, hnf] at this
        omega)
    rw [← List.range_eq_range'] at key
    rw [show rowU n o i = (List.range n).map fun k => ((cnU o i k : Nat) : Int) from rfl, key]
    simp only [bs, Bool.true_and]
    by_cases hA : (o.all fun a => nth a i == (k0 : Int)) = true
    · rw [if_pos ⟨hA, by omega, by omega⟩, hA]
      simp only [cT]
      rw [app_lt (by omega)]
      simp only [bs]
      exact ih (i + 1) _ (by omega) (by simp; omega) (fun l hl => by
        rcases List.mem_append.1 hl with h | h
        · exact h2 l h
        · simp at h; rw [h]; rfl)
    · rw [if_neg (fun h => hA h.1), Bool.eq_false_iff.2 hA]
      simp only [cF]
      exact ih (i + 1) _ (by omega) (by omega) h2
theorem ForcedPairs_both (m : List (List Int)) : ∃ r, spec_ForcedPairs_m m = some r ∧ impl_ForcedPairs_m m = some r ∧ SmallM r.1 := by
  unfold spec_ForcedPairs_m impl_ForcedPairs_m impl_pairsUsed_forced_m
  have s0 : SmallM ([], false).1 := ⟨by simp [Small], fun l h => by cases h⟩
  cases hs : sqr m with
  | false => rw [asAsked_no hs, bestAsked_no hs]; exact ⟨_, rfl, rfl, s0⟩
  | true =>
    have g := sqr_good hs
    have h6 := g.chi
    have hlo := g.clo
    rw [asAsked_eq g rfl hs, bestAsked_eq g rfl hs]
    simp only [bs]
    rcases opt g rfl with ⟨h1, h2⟩ | ⟨f, o, c, h1, h2, h3, h4, h5, h6', h7, h8, h9, h10⟩
    · rw [h1, h2]; exact ⟨_, rfl, rfl, s0⟩
    have hfl := (comps_ok h5).1
    rw [decide_eq_true h1, h3, h2]
    simp only [Bool.not_true, cF, bs]
    rw [decide_eq_true (show (f.length : Int) > 0 by omega), usesOf_eq g rfl, ← h9, idx_first h4]
    simp only [Bool.not_true, cF, bs]
    have hfo : f ∈ o := List.mem_of_getElem? h4
    obtain ⟨r, k1, k2, k3, k4⟩ := forced_l1 (c := c) hfo (fun a ha => by rw [h9] at ha; exact comps_ok (List.mem_filter.1 ha).1) h6 m.length 0 [] (by omega) (by simp) (fun l h => by cases h)
    rw [← List.range_eq_range', List.drop_zero] at *
    rw [show (List.range m.length).map (rowU m.length o) = useU m.length o from rfl] at k2
    rw [k1, k2]
    exact ⟨_, rfl, rfl, by unfold Small; simp only []; omega, fun l hl => by unfold Small; rw [k4 l hl]; omega⟩
end Go.Proofs.Ytnnhbkhlipekeaa
