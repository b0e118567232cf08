/- Plain laws: the first circuit with a negative cost that has the fewest vertices. -/
import Derived.Test.YtjicdfplhenohaaCircM
import Derived.Test.YtjicdfplhenohaaPCirc
namespace Go.Proofs.Ytjicdfplhenohaa
set_option linter.unusedVariables false
set_option linter.unusedSimpArgs false

def negP (m : List (List Int)) (N : Nat) (a : List Int) : Bool := decide (a.length = N) && decide (ccost m a < 0)
/-- What the search answers over a list of circuits. -/
def Found (L : List (List Int)) (P : List Int → Bool) (x : List Int × Bool) : Prop := (∃ a, L.find? P = some a ∧ x = (a, true)) ∨ (L.find? P = none ∧ x.2 = false)
theorem find_append {α : Type} {P : α → Bool} {A B : List α} (h : A.find? P = none) : (A ++ B).find? P = B.find? P := by rw [List.find?_append, h]; rfl
section
variable {m : List (List Int)} {n : Nat} (g : Good m n) (hn : m.length = n)
include g hn
theorem wyCircuit_l1_eq {N r : Nat} {l : List Int} {rec : List (List Int) → List Int → Int → Int → Option (List Int × Bool)} (hb : Beg m n l) (hl : l.length < N) (hN : N ≤ 6)
    (hrec : ∀ (k : Nat), k < n → nth l 0 < (k : Int) → arc m (lst l) (k : Int) ≠ 1000000000 → l.contains (k : Int) = false → ∃ x, rec m (l ++ [(k : Int)]) (sc m l (l.length - 1) + arc m (lst l) (k : Int)) (N : Int) = some x ∧ Found (circs m n r (l ++ [(k : Int)])) (negP m N) x) :
    ∀ (q fuel i : Nat), i + q = n → q < fuel → nth l 0 < (i : Int) →
      (∃ a, ((List.range' i q).flatMap fun (k : Nat) => if arc m (lst l) (k : Int) = 1000000000 ∨ l.contains (k : Int) = true then [] else circs m n r (l ++ [(k : Int)])).find? (negP m N) = some a ∧ spec_wyCircuit_l1 m l (sc m l (l.length - 1)) (N : Int) rec (lst l) fuel (i : Int) = some (Sum.inl (a, true))) ∨
      (((List.range' i q).flatMap fun (k : Nat) => if arc m (lst l) (k : Int) = 1000000000 ∨ l.contains (k : Int) = true then [] else circs m n r (l ++ [(k : Int)])).find? (negP m N) = none ∧ spec_wyCircuit_l1 m l (sc m l (l.length - 1)) (N : Int) rec (lst l) fuel (i : Int) = some (Sum.inr ())) := by
  have h6 := g.chi
  have h0 := hb.pos
  intro q
  induction q with
  | zero =>
    intro fuel i hi hf _
    obtain ⟨fuel, rfl⟩ : ∃ k', fuel = k' + 1 := ⟨fuel - 1, by omega⟩
    rw [spec_wyCircuit_l1, decide_eq_false (by omega)]
    exact .inr ⟨rfl, rfl⟩
  | succ q ih =>
    intro fuel i hi hf hu
    obtain ⟨fuel, rfl⟩ : ∃ k', fuel = k' + 1 := ⟨fuel - 1, by omega⟩
    rw [spec_wyCircuit_l1, decide_eq_true (show (i : Int) < (m.length : Int) by omega), List.range'_succ, List.flatMap_cons, l1Has_eq]
    simp only [cT, bs]
    have k1 : ck ((i : Int) + 1) = some ((i + 1 : Nat) : Int) := ck_nat (by omega)
    have next := ih fuel (i + 1) (by omega) (by omega) (by omega)
    obtain ⟨e1, e2⟩ := arc_idx g hn hb.last (b := (i : Int)) (by omega)
    cases hc : l.contains (i : Int) with
    | true =>
      simp only [cT, bs, k1]
      rw [if_pos (.inr trivial), List.nil_append]
      exact next
    | false =>
      simp only [cF, bs, e1, e2]
      by_cases ha : arc m (lst l) (i : Int) = 1000000000
      · rw [show (arc m (lst l) (i : Int) == 1000000000) = true by simp [ha]]
        simp only [cT, k1, bs]
        rw [if_pos (.inl ha), List.nil_append]
        exact next
      · rw [show (arc m (lst l) (i : Int) == 1000000000) = false by simp [ha]]
        simp only [cF]
        rw [if_neg (by simp [ha])]
        have hs := sc_bd g hn hb (l.length - 1) (by omega)
        have hf := arc_fin g hn hb.last (b := (i : Int)) (by omega) ha
        rw [ck_in (by omega) (by omega), l1Own_eq (by omega)]
        simp only [bs]
        have e3 : appS l [(i : Int)] = some (l ++ [(i : Int)]) := by unfold appS; rw [decide_eq_true (by simp; omega)]; rfl
        rw [e3]
        simp only [bs]
        obtain ⟨x, hx, hF⟩ := hrec i (by omega) hu ha hc
        rw [hx]
        simp only [bs, k1]
        rcases hF with ⟨a, h1, h2⟩ | ⟨h1, h2⟩
        · subst h2
          simp only [cT]
          exact .inl ⟨a, by rw [List.find?_append, h1]; rfl, rfl⟩
        · rw [h2]
          simp only [cF]
          rw [find_append h1]
          exact next
theorem wyCircuit_eq {N : Nat} (hN : N ≤ n) : ∀ (r k : Nat) (l : List Int), Beg m n l → free n l < r → free n l < k → l.length ≤ N → ∃ x, spec_wyCircuit_r k m l (sc m l (l.length - 1)) (N : Int) = some x ∧ Found (circs m n r l) (negP m N) x := by
  have h6 := g.chi
  intro r
  induction r with
  | zero => intro k l _ h; omega
  | succ r ih =>
    intro k l hb hr hk hl
    obtain ⟨k, rfl⟩ : ∃ k', k = k' + 1 := ⟨k - 1, by omega⟩
    have h0 := hb.pos
    obtain ⟨e1, e2⟩ := arc_idx g hn hb.last hb.head
    have e3 : ck (nth l 0 + 1) = some (((nth l 0).toNat + 1 : Nat) : Int) := by
      have := hb.head
      rw [ck_in (by omega) (by omega)]; congr 1; omega
    rw [spec_wyCircuit_r, spec_wyCircuit_b, ck_in (by omega) (by omega)]
    simp only [bs]
    rw [show ((l.length : Int) - 1) = ((l.length - 1 : Nat) : Int) by omega, idx_nth (by omega)]
    simp only [bs]
    rw [show nth l (l.length - 1) = lst l from rfl]
    by_cases hlN : l.length = N
    · rw [show ((l.length : Int) == (N : Int)) = true by simp; omega]
      simp only [cT, e1, bs]
      rw [idx_nth0 h0]
      simp only [bs, e2]
      have hs := sc_bd g hn hb (l.length - 1) (by omega)
      have h3 := num_rng (En_num g (i := (lst l).toNat) (k := (nth l 0).toNat) (by have := hb.last; omega) (by have := hb.head; omega))
      have h3 : -1000000000 ≤ arc m (lst l) (nth l 0) ∧ arc m (lst l) (nth l 0) ≤ 1000000000 := h3
      rw [nuPlus_eq (by omega) (by omega)]
      simp only [bs]
      refine ⟨_, rfl, ?_⟩
      -- longer ones do not count
      have hrest : ((List.range' ((nth l 0).toNat + 1) (n - ((nth l 0).toNat + 1))).flatMap fun (k : Nat) => if arc m (lst l) (k : Int) = 1000000000 ∨ l.contains (k : Int) = true then [] else circs m n r (l ++ [(k : Int)])).find? (negP m N) = none := by
        refine List.find?_eq_none.2 fun a ha => ?_
        simp only [List.mem_flatMap, List.mem_range'_1] at ha
        obtain ⟨j, hj, ha⟩ := ha
        split at ha
        · cases ha
        · rename_i hne
          have hc : l.contains (j : Int) = false := by
            cases hc : l.contains (j : Int)
            · rfl
            · exact absurd (.inr hc) hne
          have := (circs_mem (hb.add (k := j) (by omega) (fun e => hne (.inl e)) (by have := hb.head; omega) hc) ha).2.2.1
          simp only [List.length_append, List.length_singleton] at this
          unfold negP
          rw [decide_eq_false (by omega)]
          simp
      unfold Found
      rw [circs]
      have ec : plus (sc m l (l.length - 1)) (arc m (lst l) (nth l 0)) = ccost m l := rfl
      rw [ec]
      by_cases ha : arc m (lst l) (nth l 0) = 1000000000
      · rw [if_pos ha, List.nil_append, hrest]
        refine .inr ⟨rfl, ?_⟩
        have : ccost m l = 1000000000 := by unfold ccost plus; rw [if_pos (.inr ha)]
        rw [this]; rfl
      · rw [if_neg ha]
        by_cases hc : ccost m l < 0
        · refine .inl ⟨l, ?_, by rw [decide_eq_true hc]⟩
          have : negP m N l = true := by unfold negP; rw [decide_eq_true hlN, decide_eq_true hc]; rfl
          rw [List.singleton_append, List.find?_cons, this]
        · refine .inr ⟨?_, decide_eq_false hc⟩
          have : negP m N l = false := by unfold negP; rw [decide_eq_false hc]; simp
          rw [List.singleton_append, List.find?_cons, this]
          exact hrest
    · rw [show ((l.length : Int) == (N : Int)) = false by simp; omega]
      simp only [cF]
      rw [idx_nth0 h0]
      simp only [bs, e3]
      have main := wyCircuit_l1_eq g hn (N := N) (r := r) (rec := spec_wyCircuit_r k) hb (by omega) (by omega) (fun j hj hu ha hc => by
        have := ih k (l ++ [(j : Int)]) (hb.add hj ha hu hc) (by have := free_add hj hc; omega) (by have := free_add hj hc; omega) (by simp; omega)
        rwa [show (l ++ [(j : Int)]).length - 1 = l.length by simp, sc_last m h0] at this)
        (n - ((nth l 0).toNat + 1)) 4000000 ((nth l 0).toNat + 1) (by have := hb.head; omega) (by omega) (by have := hb.head; omega)
      have hhead : ∀ B : List (List Int), ((if arc m (lst l) (nth l 0) = 1000000000 then [] else [l]) ++ B).find? (negP m N) = B.find? (negP m N) := by
        intro B
        refine find_append ?_
        split
        · rfl
        · have : negP m N l = false := by unfold negP; rw [decide_eq_false hlN]; rfl
          simp [this]
      unfold Found
      rw [circs, hhead]
      rcases main with ⟨a, h1, h2⟩ | ⟨h1, h2⟩
      · rw [h2]
        exact ⟨_, rfl, .inl ⟨a, h1, rfl⟩⟩
      · rw [h2]
        exact ⟨_, rfl, .inr ⟨h1, rfl⟩⟩
theorem Neg_l2_eq {N : Nat} (hN1 : 1 ≤ N) (hN : N ≤ n) (q : List (List Int)) : ∀ j, j + q.length = n →
    (∃ a, ((List.range' j q.length).flatMap fun (i : Nat) => circs m n n [(i : Int)]).find? (negP m N) = some a ∧ spec_NegativeCircuit_l2 m (N : Int) q j = some (Sum.inl (a, true))) ∨
    (((List.range' j q.length).flatMap fun (i : Nat) => circs m n n [(i : Int)]).find? (negP m N) = none ∧ spec_NegativeCircuit_l2 m (N : Int) q j = some (Sum.inr ())) := by
  have h6 := g.chi
  induction q with
  | nil => intro j _; exact .inr ⟨rfl, rfl⟩
  | cons x q ih =>
    intro j hj
    simp only [List.length_cons] at hj
    have hfree := free_one (n := n) j (by omega)
    obtain ⟨y, h1, h2⟩ := wyCircuit_eq g hn hN n 64 [(j : Int)] (Beg.one (by omega)) hfree (by omega) (by simpa using hN1)
    have h1 : spec_wyCircuit_m m [(j : Int)] 0 (N : Int) = some y := h1
    rw [spec_NegativeCircuit_l2, h1, List.length_cons, List.range'_succ, List.flatMap_cons]
    simp only [bs]
    rcases h2 with ⟨a, h3, h4⟩ | ⟨h3, h4⟩
    · subst h4
      exact .inl ⟨a, by rw [List.find?_append, h3]; rfl, rfl⟩
    · rw [h4, find_append h3]
      exact ih (j + 1) (by omega)
end
/-- The best so far. -/
def negB (m : List (List Int)) (b a : List Int) : List Int := if ccost m a < 0 ∧ (b.length = 0 ∨ a.length < b.length) then a else b
theorem negB_inv (m : List (List Int)) : ∀ (L pre : List (List Int)) (b : List Int), (∀ a ∈ L, 0 < a.length) →
    ((b = [] ∧ ∀ a ∈ pre, ¬ ccost m a < 0) ∨ (0 < b.length ∧ b ∈ pre ∧ pre.find? (negP m b.length) = some b ∧ ∀ a ∈ pre, ccost m a < 0 → b.length ≤ a.length)) →
    ((L.foldl (negB m) b = [] ∧ ∀ a ∈ pre ++ L, ¬ ccost m a < 0) ∨ (0 < (L.foldl (negB m) b).length ∧ L.foldl (negB m) b ∈ pre ++ L ∧ (pre ++ L).find? (negP m (L.foldl (negB m) b).length) = some (L.foldl (negB m) b) ∧ ∀ a ∈ pre ++ L, ccost m a < 0 → (L.foldl (negB m) b).length ≤ a.length))
  | [], pre, b, _, h => by simpa using h
  | a :: L, pre, b, hL, h => by
    have ha := hL a List.mem_cons_self
    have key := negB_inv m L (pre ++ [a]) (negB m b a) (fun x hx => hL x (List.mem_cons_of_mem _ hx)) ?_
    · rw [List.append_assoc] at key
      exact key
    · unfold negB
      by_cases hc : ccost m a < 0
      · by_cases hs : b.length = 0 ∨ a.length < b.length
        · rw [if_pos ⟨hc, hs⟩]
          refine .inr ⟨ha, by simp, ?_, fun x hx hxc => ?_⟩
          · rw [find_append]
            · simp [negP, hc]
            · refine List.find?_eq_none.2 fun x hx => ?_
              unfold negP
              rcases h with ⟨_, h2⟩ | ⟨h1, _, _, h2⟩
              · simp [h2 x hx]
              · by_cases hxc : ccost m x < 0
                · have := h2 x hx hxc
                  rw [decide_eq_false (by omega)]; simp
                · simp [hxc]
          · rcases List.mem_append.1 hx with e | e
            · rcases h with ⟨_, h2⟩ | ⟨h1, _, _, h2⟩
              · exact absurd hxc (h2 x e)
              · have := h2 x e hxc; omega
            · simp at e; subst e; omega
        · rw [if_neg (by omega)]
          rcases h with ⟨h1, _⟩ | ⟨h1, h2, h3, h4⟩
          · subst h1; simp at hs
          · refine .inr ⟨h1, List.mem_append_left _ h2, by rw [List.find?_append, h3]; rfl, fun x hx hxc => ?_⟩
            rcases List.mem_append.1 hx with e | e
            · exact h4 x e hxc
            · simp at e; subst e; omega
      · rw [if_neg (by omega)]
        rcases h with ⟨h1, h2⟩ | ⟨h1, h2, h3, h4⟩
        · refine .inl ⟨h1, fun x hx => ?_⟩
          rcases List.mem_append.1 hx with e | e
          · exact h2 x e
          · simp at e; subst e; exact hc
        · refine .inr ⟨h1, List.mem_append_left _ h2, by rw [List.find?_append, h3]; rfl, fun x hx hxc => ?_⟩
          rcases List.mem_append.1 hx with e | e
          · exact h4 x e hxc
          · simp at e; subst e; exact absurd hxc hc
theorem neg_cirL (mm m : List (List Int)) (rec : List Int → List (List Int) → List (List Int) → List Int → Option (List Int × List Int)) (rec' : List Int → List Int → Option (List Int × List Int))
    (h : ∀ l b, rec l mm m b = rec' l b) (x6 : List Int) : ∀ k l b i, impl_circuits_1_NegativeCircuit_l1 mm m rec x6 k l b i = cirL mm rec' x6 k l b i := by
  intro k
  induction k with
  | zero => intro l b i; rfl
  | succ k ih =>
    intro l b i
    rw [impl_circuits_1_NegativeCircuit_l1, cirL]
    simp only [ih, h]
theorem bind_id {α : Type} (o : Option α) : (o.bind fun s => some s) = o := by cases o <;> rfl
theorem bind2 {α β : Type} (o : Option (α × β)) : (o.bind fun s => some (s.1, s.2)) = o := by cases o <;> rfl
theorem neg_cirR (mm m : List (List Int)) : ∀ k l b, impl_circuits_1_NegativeCircuit_r k l mm m b = cirR (fun l b => impl_NegativeCircuit_1_m l m b) mm k l b := by
  intro k
  induction k with
  | zero => intro l b; rfl
  | succ k ih =>
    intro l b
    rw [impl_circuits_1_NegativeCircuit_r, cirR, impl_circuits_1_NegativeCircuit_b, cirB]
    simp only [neg_cirL mm m _ _ ih, bind2, bind_id]
theorem neg_cirA (mm m : List (List Int)) (q : List (List Int)) : ∀ j l b, impl_circuits_NegativeCircuit_l1 mm m q j l b = cirA (fun l b => impl_NegativeCircuit_1_m l m b) mm q j l b := by
  induction q with
  | nil => intro j l b; rfl
  | cons x q ih =>
    intro j l b
    rw [impl_circuits_NegativeCircuit_l1, cirA]
    unfold impl_circuits_1_NegativeCircuit_m
    simp only [neg_cirR, ih]
section
variable {m : List (List Int)} {n : Nat} (g : Good m n) (hn : m.length = n)
include g hn
theorem impl_neg_eq : impl_circuits_NegativeCircuit_m m m [] = some ((allC m n).foldl (negB m) []) := by
  have h6 := g.chi
  unfold impl_circuits_NegativeCircuit_m
  rw [neg_cirA, cirA_eq g hn]
  have key := (foldV_some (f := fun l b => impl_NegativeCircuit_1_m l m b) (g := negB m) (I := fun _ b => b.length ≤ 1000) (L := allC m n) (s := []) (i := 0) (by simp) (fun a ha j b _ _ h3 => by
    obtain ⟨h1, h2, h4, h5⟩ := allC_mem ha
    refine ⟨?_, by unfold negB; split <;> omega⟩
    unfold impl_NegativeCircuit_1_m
    rw [costOfCircuit_eq g hn h1 (by omega), Clone_eq (by omega)]
    simp only [bs]
    unfold negB
    by_cases c1 : ccost m a < 0
    · rw [decide_eq_true c1]
      simp only [cT]
      by_cases c2 : b.length = 0
      · rw [show ((b.length : Int) == 0) = true by simp; exact List.eq_nil_of_length_eq_zero c2]
        simp only [cT, bs]
        rw [if_pos ⟨c1, .inl c2⟩]
      · rw [show ((b.length : Int) == 0) = false by simp; intro e; rw [e] at c2; exact c2 rfl]
        simp only [cF, bs]
        by_cases c3 : a.length < b.length
        · rw [decide_eq_true (by omega), if_pos ⟨c1, .inr c3⟩]; rfl
        · rw [decide_eq_false (by omega), if_neg (by omega)]; rfl
    · rw [decide_eq_false c1, if_neg (by omega)]; rfl)).1
  rw [key]; rfl
theorem Neg_l1_eq (F : List Int) (hF : 0 < F.length) (hFn : F.length ≤ n) (h1 : (allC m n).find? (negP m F.length) = some F) (h2 : ∀ a ∈ allC m n, ccost m a < 0 → F.length ≤ a.length) :
    ∀ (q fuel N : Nat), N + q = F.length → q < fuel → 1 ≤ N → spec_NegativeCircuit_l1 m fuel (N : Int) = some (Sum.inl (F, true)) := by
  have h6 := g.chi
  intro q
  induction q with
  | zero =>
    intro fuel N hq hf hN
    obtain ⟨fuel, rfl⟩ : ∃ k', fuel = k' + 1 := ⟨fuel - 1, by omega⟩
    rw [spec_NegativeCircuit_l1, decide_eq_true (by omega)]
    simp only [cT]
    have := Neg_l2_eq g hn hN (by omega) m 0 (by omega)
    rw [hn] at this
    have hall : (List.range' 0 n).flatMap (fun (i : Nat) => circs m n n [(i : Int)]) = allC m n := rfl
    rw [hall, show N = F.length by omega, h1] at this
    rcases this with ⟨a, h3, h4⟩ | ⟨h3, h4⟩
    · cases h3
      rw [show N = F.length by omega, h4]
      simp only [bs, elL]
    · cases h3
  | succ q ih =>
    intro fuel N hq hf hN
    obtain ⟨fuel, rfl⟩ : ∃ k', fuel = k' + 1 := ⟨fuel - 1, by omega⟩
    rw [spec_NegativeCircuit_l1, decide_eq_true (by omega)]
    simp only [cT]
    have := Neg_l2_eq g hn hN (by omega) m 0 (by omega)
    rw [hn] at this
    have hall : (List.range' 0 n).flatMap (fun (i : Nat) => circs m n n [(i : Int)]) = allC m n := rfl
    rw [hall] at this
    rcases this with ⟨a, h3, h4⟩ | ⟨h3, h4⟩
    · have h5 := List.find?_some h3
      unfold negP at h5
      simp only [Bool.and_eq_true, decide_eq_true_eq] at h5
      have := h2 a (List.mem_of_find?_eq_some h3) h5.2
      omega
    · rw [h4]
      simp only [bs, elR]
      rw [ck_nat (by omega)]
      exact ih fuel (N + 1) (by omega) (by omega) (by omega)
theorem Neg_l1_none (h2 : ∀ a ∈ allC m n, ¬ ccost m a < 0) : ∀ (q fuel N : Nat), N + q = n + 1 → q < fuel → 1 ≤ N → spec_NegativeCircuit_l1 m fuel (N : Int) = some (Sum.inr ()) := by
  have h6 := g.chi
  intro q
  induction q with
  | zero =>
    intro fuel N hq hf hN
    obtain ⟨fuel, rfl⟩ : ∃ k', fuel = k' + 1 := ⟨fuel - 1, by omega⟩
    rw [spec_NegativeCircuit_l1, decide_eq_false (by omega)]
    rfl
  | succ q ih =>
    intro fuel N hq hf hN
    obtain ⟨fuel, rfl⟩ : ∃ k', fuel = k' + 1 := ⟨fuel - 1, by omega⟩
    rw [spec_NegativeCircuit_l1, decide_eq_true (by omega)]
    simp only [cT]
    have := Neg_l2_eq g hn hN (by omega) m 0 (by omega)
    rw [hn] at this
    have hall : (List.range' 0 n).flatMap (fun (i : Nat) => circs m n n [(i : Int)]) = allC m n := rfl
    rw [hall] at this
    rcases this with ⟨a, h3, h4⟩ | ⟨h3, h4⟩
    · have h5 := List.find?_some h3
      unfold negP at h5
      simp only [Bool.and_eq_true, decide_eq_true_eq] at h5
      exact absurd h5.2 (h2 a (List.mem_of_find?_eq_some h3))
    · rw [h4]
      simp only [bs, elR]
      rw [ck_nat (by omega)]
      exact ih fuel (N + 1) (by omega) (by omega) (by omega)
end
theorem NegativeCircuit_both (m : List (List Int)) : ∃ r, spec_NegativeCircuit_m m = some r ∧ impl_NegativeCircuit_m m = some r ∧ Small r.1 := by
  unfold spec_NegativeCircuit_m impl_NegativeCircuit_m
  rw [mxSquare_eq, isSquare_eq]
  simp only [bs]
  cases hs : sqr m with
  | false => exact ⟨_, rfl, rfl, by simp [Small]⟩
  | true =>
    have g := sqr_good hs
    have h6 := g.chi
    simp only [Bool.not_true, cF]
    rw [impl_neg_eq g rfl]
    simp only [bs]
    have hinv := negB_inv m (allC m m.length) [] [] (fun a ha => (allC_mem ha).2.2.1) (.inl ⟨rfl, fun a ha => by cases ha⟩)
    rw [List.nil_append] at hinv
    rcases hinv with ⟨h1, h2⟩ | ⟨h1, h2, h3, h4⟩
    · rw [h1]
      have := Neg_l1_none g rfl h2 m.length 4000000 1 (by omega) (by omega) (by omega)
      rw [show ((1 : Nat) : Int) = 1 from rfl] at this
      rw [this]
      exact ⟨_, rfl, rfl, by simp [Small]⟩
    · have hb := allC_mem h2
      have := Neg_l1_eq g rfl _ h1 hb.2.2.2 h3 h4 (((allC m m.length).foldl (negB m) []).length - 1) 4000000 1 (by omega) (by omega) (by omega)
      rw [show ((1 : Nat) : Int) = 1 from rfl] at this
      rw [this]
      refine ⟨_, rfl, ?_, ?_⟩
      · rw [decide_eq_true (by omega)]
      · unfold Small; simp only []; omega
end Go.Proofs.Ytjicdfplhenohaa
