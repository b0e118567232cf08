/- Plain laws: the pairs that some best assignment has. -/
import Derived.Test.YtnnhbkhlipekeaaAsqM
import Derived.Test.YtnnhbkhlipekeaaPAsU
import Derived.Test.YtnnhbkhlipekeaaPSame
import Derived.Test.YtnnhbkhlipekeaaStr
namespace Go.Proofs.Ytnnhbkhlipekeaa
set_option linter.unusedVariables false
set_option linter.unusedSimpArgs false
set_option linter.unusedSectionVars false

/-! ### Pairs in order -/
def befP (a b : List Int) : Bool := decide (nth a 0 < nth b 0) || (nth a 0 == nth b 0 && decide (nth a 1 < nth b 1))
def PairL (y : List Int) : Prop := ∃ i k : Int, y = [i, k]
theorem befP_iff (a b : List Int) : befP a b = true ↔ nth a 0 < nth b 0 ∨ (nth a 0 = nth b 0 ∧ nth a 1 < nth b 1) := by simp [befP]
theorem befP_irr (a : List Int) : ¬ befP a a = true := by rw [befP_iff]; omega
theorem befP_tr {a b c : List Int} (h : befP a b = true) (h' : befP b c = true) : befP a c = true := by
  rw [befP_iff] at *; omega
theorem befP_tot {a b : List Int} (ha : PairL a) (hb : PairL b) (h : ¬ befP a b = true) (hne : a ≠ b) : befP b a = true := by
  obtain ⟨i, k, rfl⟩ := ha
  obtain ⟨i', k', rfl⟩ := hb
  rw [befP_iff] at *
  simp only [show nth [i, k] 0 = i from rfl, show nth [i, k] 1 = k from rfl, show nth [i', k'] 0 = i' from rfl, show nth [i', k'] 1 = k' from rfl] at *
  by_cases e : i = i'
  · by_cases e2 : k = k'
    · subst e; subst e2; exact absurd rfl hne
    · omega
  · omega
def SrtP (l : List (List Int)) : Prop := l.Pairwise fun a b => befP a b = true
theorem srt_ext : ∀ {l l' : List (List Int)}, SrtP l → SrtP l' → (∀ y, y ∈ l ↔ y ∈ l') → l = l'
  | [], [], _, _, _ => rfl
  | [], b :: l', _, _, h => by have := (h b).2 List.mem_cons_self; cases this
  | a :: l, [], _, _, h => by have := (h a).1 List.mem_cons_self; cases this
  | a :: l, b :: l', hs, hs', h => by
    obtain ⟨h1, h2⟩ := List.pairwise_cons.1 hs
    obtain ⟨h1', h2'⟩ := List.pairwise_cons.1 hs'
    have e : a = b := by
      rcases List.mem_cons.1 ((h a).1 List.mem_cons_self) with e | e
      · exact e
      · rcases List.mem_cons.1 ((h b).2 List.mem_cons_self) with e' | e'
        · exact e'.symm
        · exact absurd (befP_tr (h1 b e') (h1' a e)) (befP_irr a)
    subst e
    rw [srt_ext h2 h2' fun y => ⟨fun hy => ?_, fun hy => ?_⟩]
    · rcases List.mem_cons.1 ((h y).1 (List.mem_cons_of_mem _ hy)) with e | e
      · subst e; exact absurd (h1 y hy) (befP_irr y)
      · exact e
    · rcases List.mem_cons.1 ((h y).2 (List.mem_cons_of_mem _ hy)) with e | e
      · subst e; exact absurd (h1' y hy) (befP_irr y)
      · exact e
theorem ceBefore_eq {a b : List Int} (ha : PairL a) (hb : PairL b) : spec_ceBefore_m a b = some (befP a b) := by
  obtain ⟨i, k, rfl⟩ := ha
  obtain ⟨i', k', rfl⟩ := hb
  unfold spec_ceBefore_m befP
  simp only [show nth [i, k] 0 = i from rfl, show nth [i, k] 1 = k from rfl, show nth [i', k'] 0 = i' from rfl, show nth [i', k'] 1 = k' from rfl]
  rw [spec_ceBefore_l1]
  have x0 : idx [i', k'] ((0 : Nat) : Int) = some i' := rfl
  have x1 : idx [i', k'] ((0 + 1 : Nat) : Int) = some k' := rfl
  rw [show (((0 : Nat) : Int) == (([i', k'] : List Int).length : Int)) = false from rfl, x0, show decide (((0 : Nat) : Int) < (([i', k'] : List Int).length : Int)) = true from rfl]
  simp only [cF, cT, bs]
  by_cases e : i = i'
  · rw [show (i != i') = false by simp [e], show (i == i') = true by simp [e], decide_eq_false (show ¬ i < i' by omega)]
    simp only [cF]
    rw [spec_ceBefore_l1, show (((0 + 1 : Nat) : Int) == (([i', k'] : List Int).length : Int)) = false from rfl, x1, show decide (((0 + 1 : Nat) : Int) < (([i', k'] : List Int).length : Int)) = true from rfl]
    simp only [cF, cT, bs]
    by_cases e2 : k = k'
    · rw [show (k != k') = false by simp [e2], decide_eq_false (show ¬ k < k' by omega)]
      rfl
    · rw [show (k != k') = true by simp [e2]]
      rfl
  · rw [show (i != i') = true by simp [e], show (i == i') = false by simp [e]]
    simp only [cT, bs, elL, Bool.false_and, Bool.or_false]
theorem cePut_l1 {x : List Int} (hx : PairL x) (l : List (List Int)) (hl : ∀ y ∈ l, PairL y) (hs : l.length < 1000000) : ∀ (q fuel j : Nat), j + q = l.length → q < fuel →
    ∃ k, j ≤ k ∧ k ≤ l.length ∧ spec_cePut_l1 l x fuel (j : Int) = some (k : Int) ∧ (∀ i y, j ≤ i → i < k → l[i]? = some y → befP y x = true) ∧ ∀ y, l[k]? = some y → ¬ befP y x = true := by
  intro q
  induction q with
  | zero =>
    intro fuel j hj hf
    obtain ⟨fuel, rfl⟩ : ∃ k', fuel = k' + 1 := ⟨fuel - 1, by omega⟩
    rw [spec_cePut_l1, decide_eq_false (by omega)]
    exact ⟨j, Nat.le_refl _, by omega, rfl, fun i y h1 h2 => by omega, fun y hy => by rw [List.getElem?_eq_none (by omega)] at hy; cases hy⟩
  | succ q ih =>
    intro fuel j hj hf
    obtain ⟨fuel, rfl⟩ : ∃ k', fuel = k' + 1 := ⟨fuel - 1, by omega⟩
    have hjl : j < l.length := by omega
    rw [spec_cePut_l1, decide_eq_true (show (j : Int) < (l.length : Int) by omega), idx_lt hjl]
    simp only [cT, bs]
    rw [ceBefore_eq (hl _ (List.getElem_mem hjl)) hx]
    simp only [bs]
    cases hb : befP l[j] x with
    | false =>
      refine ⟨j, Nat.le_refl _, by omega, rfl, fun i y h1 h2 => by omega, fun y hy => ?_⟩
      rw [List.getElem?_eq_getElem hjl] at hy
      cases hy
      rw [hb]; simp
    | true =>
      simp only [cT]
      rw [ck_nat (by omega)]
      simp only [bs]
      obtain ⟨k, k1, k2, k3, k4, k5⟩ := ih fuel (j + 1) (by omega) (by omega)
      refine ⟨k, by omega, k2, k3, fun i y h1 h2 hy => ?_, k5⟩
      by_cases e : i = j
      · subst e
        rw [List.getElem?_eq_getElem hjl] at hy
        cases hy
        exact hb
      · exact k4 i y (by omega) h2 hy
theorem appS_lt {α : Type} {l l2 : List α} (h : l.length + l2.length < 1000000000) : appS l l2 = some (l ++ l2) := by unfold appS; rw [decide_eq_true h]; rfl
theorem cePut_eq {x : List Int} (hx : PairL x) {l : List (List Int)} (hl : ∀ y ∈ l, PairL y) (hs : l.length < 1000000) (hp : SrtP l) : ∃ r, spec_cePut_m l x = some r ∧ SrtP r ∧ (∀ y, y ∈ r ↔ y ∈ l ∨ y = x) ∧ r.length ≤ l.length + 1 := by
  obtain ⟨k, k1, k2, k3, k4, k5⟩ := cePut_l1 hx l hl hs l.length 4000000 0 (by omega) (by omega)
  rw [Int.natCast_zero] at k3
  unfold spec_cePut_m
  rw [k3]
  simp only [bs]
  have hsplit : l = l.take k ++ l.drop k := (List.take_append_drop k l).symm
  have hcut : cutO l (k : Int) = some (l.take k) := by unfold cutO; rw [decide_eq_true ⟨by omega, by omega⟩]; simp
  have hcutl : cutL l (k : Int) = some (l.drop k) := by unfold cutL; rw [decide_eq_true ⟨by omega, by omega⟩]; simp
  have hlt : (l.take k).length = k := by rw [List.length_take]; omega
  have hld : (l.drop k).length = l.length - k := List.length_drop
  -- the new one goes in
  have put : (∀ y, l[k]? = some y → y ≠ x) → ∃ r, ((((cutO l (k : Int)).bind fun l33 => (cutL l (k : Int)).bind fun l38 => (appS ([]) l33).bind fun a => (appS a ([x])).bind fun b => (appS b l38).bind fun c => some c : Option (List (List Int)))).bind (fun l30 => some l30)) = some r ∧ SrtP r ∧ (∀ y, y ∈ r ↔ y ∈ l ∨ y = x) ∧ r.length ≤ l.length + 1 := fun hne => by
    rw [hcut, hcutl]
    simp only [bs]
    rw [appS_lt (by simp; omega)]
    simp only [bs]
    rw [appS_lt (by simp; omega)]
    simp only [bs]
    rw [appS_lt (by simp; omega)]
    simp only [bs, List.nil_append]
    refine ⟨_, rfl, ?_, fun y => ?_, by simp; omega⟩
    · have hp' := hp
      rw [SrtP, hsplit, List.pairwise_append] at hp'
      obtain ⟨p1, p2, p3⟩ := hp'
      have hbx : ∀ a ∈ l.take k, befP a x = true := fun a ha => by
        obtain ⟨i, hi, e⟩ := List.getElem_of_mem ha
        rw [hlt] at hi
        refine k4 i a (by omega) hi ?_
        rw [← e, List.getElem_take]
        exact List.getElem?_eq_getElem _
      have hxd : ∀ b ∈ l.drop k, befP x b = true := fun b hb => by
        cases hd : l.drop k with
        | nil => rw [hd] at hb; cases hb
        | cons c q =>
          have hc : l[k]? = some c := by have := congrArg (·[0]?) hd; simpa using this
          have h1 := befP_tot (hl c (List.mem_of_getElem? hc)) hx (k5 c hc) (hne c hc)
          rw [hd] at hb p2
          rcases List.mem_cons.1 hb with e | e
          · rw [e]; exact h1
          · exact befP_tr h1 ((List.pairwise_cons.1 p2).1 b e)
      rw [SrtP, List.append_assoc, List.pairwise_append]
      refine ⟨p1, List.pairwise_cons.2 ⟨hxd, p2⟩, fun a ha b hb => ?_⟩
      rcases List.mem_cons.1 hb with e | e
      · rw [e]; exact hbx a ha
      · exact p3 a ha b e
    · conv => rhs; rw [hsplit]
      simp only [List.mem_append, List.mem_cons, List.not_mem_nil, or_false]
      constructor
      · rintro ((h | h) | h)
        · exact .inl (.inl h)
        · exact .inr h
        · exact .inl (.inr h)
      · rintro ((h | h) | h)
        · exact .inl (.inl h)
        · exact .inr h
        · exact .inl (.inr h)
  by_cases hk : k < l.length
  · rw [decide_eq_true (show (k : Int) < (l.length : Int) by omega), idx_lt hk]
    simp only [cT, bs, l1Same_eq]
    by_cases e : l[k] = x
    · rw [decide_eq_true e]
      refine ⟨l, rfl, hp, fun y => ⟨.inl, fun h => ?_⟩, by omega⟩
      rcases h with h | h
      · exact h
      · rw [h, ← e]; exact List.getElem_mem hk
    · rw [decide_eq_false e]
      simp only [cF]
      exact put fun y hy h => e (by rw [List.getElem?_eq_getElem hk] at hy; cases hy; exact h)
  · rw [decide_eq_false (show ¬ (k : Int) < (l.length : Int) by omega)]
    simp only [cF, bs]
    exact put fun y hy => by rw [List.getElem?_eq_none (by omega)] at hy; cases hy

/-! ### The specification's pairs -/
theorem pos_l2 (a : List Int) (q : List Int) : ∀ (j : Nat) (l : List (List Int)), a.drop j = q → (∀ y ∈ l, PairL y) → l.length + q.length < 1000000 → SrtP l →
    ∃ r, spec_PossiblePairs_l2 q j l = some r ∧ SrtP r ∧ (∀ y ∈ r, PairL y) ∧ (∀ y, y ∈ r ↔ y ∈ l ∨ ∃ i : Nat, j ≤ i ∧ i < a.length ∧ y = [(i : Int), nth a i]) ∧ r.length ≤ l.length + q.length := by
  induction q with
  | nil =>
    intro j l hd hl _ hp
    have : a.length ≤ j := by simpa using hd
    exact ⟨l, rfl, hp, hl, fun y => ⟨.inl, fun h => by
      rcases h with h | ⟨i, h1, h2, _⟩
      · exact h
      · omega⟩, by simp⟩
  | cons x q ih =>
    intro j l hd hl hs hp
    simp only [List.length_cons] at hs
    have hj := drop_lt hd
    have hx : nth a j = x := by
      have := drop_idx hd
      rw [idx_nth hj] at this
      exact Option.some.inj this
    obtain ⟨r, r1, r2, r3, r4⟩ := cePut_eq (x := [(j : Int), x]) ⟨_, _, rfl⟩ hl (by omega) hp
    rw [spec_PossiblePairs_l2, r1]
    simp only [bs]
    have hrl : ∀ y ∈ r, PairL y := fun y hy => by
      rcases (r3 y).1 hy with h | h
      · exact hl y h
      · exact ⟨_, _, h⟩
    obtain ⟨s, s1, s2, s3, s4, s5⟩ := ih (j + 1) r (drop_next hd) hrl (by omega) r2
    refine ⟨s, s1, s2, s3, fun y => ?_, by simp only [List.length_cons]; omega⟩
    rw [s4 y, r3 y]
    constructor
    · rintro ((h | h) | ⟨i, h1, h2, h3⟩)
      · exact .inl h
      · exact .inr ⟨j, Nat.le_refl _, hj, by rw [hx]; exact h⟩
      · exact .inr ⟨i, by omega, h2, h3⟩
    · rintro (h | ⟨i, h1, h2, h3⟩)
      · exact .inl (.inl h)
      · by_cases e : i = j
        · subst e; rw [hx] at h3; exact .inl (.inr h3)
        · exact .inr ⟨i, by omega, h2, h3⟩
theorem pos_l1 {n : Nat} (hn : n ≤ 6) (q : List (List Int)) : ∀ (j : Nat) (l : List (List Int)), (∀ a ∈ q, a.length = n) → (∀ y ∈ l, PairL y) → l.length + 6 * q.length < 1000000 → SrtP l →
    ∃ r, spec_PossiblePairs_l1 q j l = some r ∧ SrtP r ∧ (∀ y, y ∈ r ↔ y ∈ l ∨ ∃ a ∈ q, ∃ i : Nat, i < n ∧ y = [(i : Int), nth a i]) := by
  induction q with
  | nil => intro j l _ _ _ hp; exact ⟨l, rfl, hp, fun y => ⟨.inl, fun h => by
      rcases h with h | ⟨a, h, _⟩
      · exact h
      · cases h⟩⟩
  | cons x q ih =>
    intro j l hq hl hs hp
    simp only [List.length_cons] at hs
    have hx := hq x List.mem_cons_self
    obtain ⟨r, r1, r2, r3, r4, r5⟩ := pos_l2 x x 0 l rfl hl (by omega) hp
    rw [spec_PossiblePairs_l1, r1]
    simp only [bs]
    obtain ⟨s, s1, s2, s3⟩ := ih (j + 1) r (fun a ha => hq a (List.mem_cons_of_mem _ ha)) r3 (by omega) r2
    refine ⟨s, s1, s2, fun y => ?_⟩
    rw [s3 y, r4 y]
    constructor
    · rintro ((h | ⟨i, _, h2, h3⟩) | ⟨a, ha, h⟩)
      · exact .inl h
      · exact .inr ⟨x, List.mem_cons_self, i, by omega, h3⟩
      · exact .inr ⟨a, List.mem_cons_of_mem _ ha, h⟩
    · rintro (h | ⟨a, ha, i, h2, h3⟩)
      · exact .inl (.inl h)
      · rcases List.mem_cons.1 ha with e | e
        · subst e; exact .inl (.inr ⟨i, by omega, by omega, h3⟩)
        · exact .inr ⟨a, e, i, h2, h3⟩

/-! ### The program's pairs -/
theorem posi_l2 (u : List (List Int) × Int) (i : Nat) (c : Nat → Int) : ∀ (q j : Nat) (out : List (List Int)), out.length + q ≤ 1000 → SrtP out → (∀ y ∈ out, ∃ a b : Nat, y = [(a : Int), (b : Int)] ∧ (a < i ∨ (a = i ∧ b < j))) →
    ∃ r, impl_pairsUsed_possible_l2 u i ((List.range' j q).map c) j out = some r ∧ SrtP r ∧ (∀ y, y ∈ r ↔ y ∈ out ∨ ∃ k : Nat, j ≤ k ∧ k < j + q ∧ c k > 0 ∧ y = [(i : Int), (k : Int)]) ∧ r.length ≤ out.length + q := by
  intro q
  induction q with
  | zero => intro j out _ hp _; exact ⟨out, rfl, hp, fun y => ⟨.inl, fun h => by
      rcases h with h | ⟨k, h1, h2, _⟩
      · exact h
      · omega⟩, by omega⟩
  | succ q ih =>
    intro j out ho hp hb
    rw [List.range'_succ, List.map_cons, impl_pairsUsed_possible_l2]
    unfold impl_PossiblePairs_1_m
    simp only [bs]
    by_cases hc : c j > 0
    · rw [decide_eq_true hc, app_lt (by omega)]
      simp only [cT, bs]
      have hp' : SrtP (out ++ [[(i : Int), (j : Int)]]) := by
        rw [SrtP, List.pairwise_append]
        refine ⟨hp, by simp, fun a ha b hb' => ?_⟩
        simp only [List.mem_cons, List.not_mem_nil, or_false] at hb'
        obtain ⟨p, q', rfl, h⟩ := hb a ha
        rw [hb', befP_iff]
        show (p : Int) < (i : Int) ∨ ((p : Int) = (i : Int) ∧ (q' : Int) < (j : Int))
        omega
      obtain ⟨r, r1, r2, r3, r4⟩ := ih (j + 1) (out ++ [[(i : Int), (j : Int)]]) (by simp; omega) hp' (fun y hy => by
        rcases List.mem_append.1 hy with h | h
        · obtain ⟨a, b, e, h'⟩ := hb y h
          exact ⟨a, b, e, by omega⟩
        · simp only [List.mem_cons, List.not_mem_nil, or_false] at h
          exact ⟨i, j, h, by omega⟩)
      refine ⟨r, r1, r2, fun y => ?_, by simp at r4; omega⟩
      rw [r3 y, List.mem_append]
      simp only [List.mem_cons, List.not_mem_nil, or_false]
      constructor
      · rintro ((h | h) | ⟨k, h1, h2, h3⟩)
        · exact .inl h
        · exact .inr ⟨j, Nat.le_refl _, by omega, hc, h⟩
        · exact .inr ⟨k, by omega, by omega, h3⟩
      · rintro (h | ⟨k, h1, h2, h3, h4⟩)
        · exact .inl (.inl h)
        · by_cases e : k = j
          · subst e; exact .inl (.inr h4)
          · exact .inr ⟨k, by omega, by omega, h3, h4⟩
    · rw [decide_eq_false hc]
      simp only [cF]
      obtain ⟨r, r1, r2, r3, r4⟩ := ih (j + 1) out (by omega) hp (fun y hy => by
        obtain ⟨a, b, e, h'⟩ := hb y hy
        exact ⟨a, b, e, by omega⟩)
      refine ⟨r, r1, r2, fun y => ?_, by omega⟩
      rw [r3 y]
      constructor
      · rintro (h | ⟨k, h1, h2, h3⟩)
        · exact .inl h
        · exact .inr ⟨k, by omega, by omega, h3⟩
      · rintro (h | ⟨k, h1, h2, h3, h4⟩)
        · exact .inl h
        · by_cases e : k = j
          · subst e; exact absurd h3 hc
          · exact .inr ⟨k, by omega, by omega, h3, h4⟩
theorem posi_l1 {n : Nat} (h6 : n ≤ 6) (u : List (List Int) × Int) (c : Nat → Nat → Int) : ∀ (d i : Nat) (out : List (List Int)), i + d = n → out.length ≤ 6 * i → SrtP out → (∀ y ∈ out, ∃ a b : Nat, y = [(a : Int), (b : Int)] ∧ a < i) →
    ∃ r, impl_pairsUsed_possible_l1 u ((List.range' i d).map fun i => (List.range n).map (c i)) i out = some r ∧ SrtP r ∧ (∀ y, y ∈ r ↔ y ∈ out ∨ ∃ a k : Nat, i ≤ a ∧ a < n ∧ k < n ∧ c a k > 0 ∧ y = [(a : Int), (k : Int)]) ∧ r.length ≤ 36 := by
  intro d
  induction d with
  | zero => intro i out hi ho hp _; exact ⟨out, rfl, hp, fun y => ⟨.inl, fun h => by
      rcases h with h | ⟨a, k, h1, h2, _⟩
      · exact h
      · omega⟩, by omega⟩
  | succ d ih =>
    intro i out hi ho hp hb
    rw [List.range'_succ, List.map_cons, impl_pairsUsed_possible_l1]
    obtain ⟨r, r1, r2, r3, r4⟩ := posi_l2 u i (c i) n 0 out (by omega) hp (fun y hy => by
      obtain ⟨a, b, e, h⟩ := hb y hy
      exact ⟨a, b, e, by omega⟩)
    rw [← List.range_eq_range'] at r1
    rw [r1]
    simp only [bs]
    obtain ⟨s, s1, s2, s3, s4⟩ := ih (i + 1) r (by omega) (by omega) r2 (fun y hy => by
      rcases (r3 y).1 hy with h | ⟨k, _, _, _, h⟩
      · obtain ⟨a, b, e, h⟩ := hb y h
        exact ⟨a, b, e, by omega⟩
      · exact ⟨i, k, h, by omega⟩)
    refine ⟨s, s1, s2, fun y => ?_, s4⟩
    rw [s3 y, r3 y]
    constructor
    · rintro ((h | ⟨k, h1, h2, h3, h4⟩) | ⟨a, k, h1, h2, h3⟩)
      · exact .inl h
      · exact .inr ⟨i, k, Nat.le_refl _, by omega, by omega, h3, h4⟩
      · exact .inr ⟨a, k, by omega, h2, h3⟩
    · rintro (h | ⟨a, k, h1, h2, h3, h4, h5⟩)
      · exact .inl (.inl h)
      · by_cases e : a = i
        · subst e; exact .inl (.inr ⟨k, by omega, by omega, h4, h5⟩)
        · exact .inr ⟨a, k, by omega, h2, h3, h4, h5⟩
theorem PossiblePairs_both (m : List (List Int)) : ∃ r, spec_PossiblePairs_m m = some r ∧ impl_PossiblePairs_m m = some r ∧ SmallM r.1 := by
  unfold spec_PossiblePairs_m impl_PossiblePairs_m impl_pairsUsed_possible_m
  have s0 : SmallM ([], false).1 := ⟨by simp [Small], fun l h => by cases h⟩
  cases hs : sqr m with
  | false => rw [asAsked_no hs, bestAsked_no hs]; exact ⟨_, rfl, rfl, s0⟩
  | true =>
    have g := sqr_good hs
    have h6 := g.chi
    have hlo := g.clo
    rw [asAsked_eq g rfl hs, bestAsked_eq g rfl hs]
    simp only [bs]
    rcases opt g rfl with ⟨h1, h2⟩ | ⟨f, o, c, h1, h2, h3, h4, h5, h6', h7, h8, h9, h10⟩
    · rw [h1, h2]; exact ⟨_, rfl, rfl, s0⟩
    have hfl := (comps_ok h5).1
    rw [decide_eq_true h1, h3, h2]
    simp only [Bool.not_true, cF, bs]
    rw [decide_eq_true (show (f.length : Int) > 0 by omega), usesOf_eq g rfl, ← h9]
    simp only [Bool.not_true, cF, bs]
    have hok : ∀ a ∈ o, a.length = m.length ∧ ∀ x ∈ a, 0 ≤ x ∧ x < (m.length : Int) := fun a ha => by rw [h9] at ha; exact comps_ok (List.mem_filter.1 ha).1
    have hol : o.length ≤ 46656 := by
      have hl := comps_len h6 m.length []
      have hp : 6 ^ m.length ≤ 6 ^ 6 := Nat.pow_le_pow_right (by omega) h6
      have := List.length_filter_le (fun a => decide (cst m a = c)) (comps m.length m.length [])
      rw [h9]
      omega
    obtain ⟨r, r1, r2, r3⟩ := pos_l1 h6 o 0 [] (fun a ha => (hok a ha).1) (fun y h => by cases h) (by simp; omega) List.Pairwise.nil
    obtain ⟨s, s1, s2, s3, s4⟩ := posi_l1 h6 (useU m.length o, (o.length : Int)) (fun i k => ((cnU o i k : Nat) : Int)) m.length 0 [] (by omega) (by simp) List.Pairwise.nil (fun y h => by cases h)
    rw [← List.range_eq_range'] at s1
    have s1' : impl_pairsUsed_possible_l1 (useU m.length o, (o.length : Int)) (useU m.length o) 0 [] = some s := s1
    have hrs : r = s := srt_ext r2 s2 fun y => by
      rw [r3 y, s3 y]
      constructor
      · rintro (h | ⟨a, ha, i, hi, h⟩)
        · cases h
        · obtain ⟨ka, kv⟩ := hok a ha
          obtain ⟨v0, v1⟩ := kv _ (nth_mem (show i < a.length by omega))
          refine .inr ⟨i, (nth a i).toNat, by omega, hi, by omega, ?_, by rw [h]; congr 2; omega⟩
          have : 0 < cnU o i (nth a i).toNat := List.countP_pos_iff.2 ⟨a, ha, by simp; omega⟩
          omega
      · rintro (h | ⟨i, k, _, hi, hk, hc, h⟩)
        · cases h
        · have : 0 < cnU o i k := by omega
          obtain ⟨a, ha, e⟩ := List.countP_pos_iff.1 this
          simp only [beq_iff_eq] at e
          exact .inr ⟨a, ha, i, hi, by rw [h, e]⟩
    rw [r1, s1']
    simp only [bs]
    refine ⟨(r, true), rfl, by rw [hrs], ?_, fun l hl => ?_⟩
    · unfold Small; rw [hrs]; show s.length ≤ _; omega
    · rcases (r3 l).1 hl with h | ⟨a, _, i, _, h⟩
      · cases h
      · unfold Small; rw [h]; simp
end Go.Proofs.Ytnnhbkhlipekeaa
