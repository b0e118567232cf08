/- The circuits of a matrix in the program's order: what a visitor makes of each, one behind the other. -/
import Derived.Test.YtjhaealoneennaaCirM
import Derived.Test.YtjhaealoneennaaEigM
import Derived.Test.YtjhaealoneennaaWy2M
import Derived.Test.YtjhaealoneennaaMnbM
import Derived.Test.YtjhaealoneennaaPBas
import Derived.Test.YtjhaealoneennaaPPerm
namespace Go.Proofs.Ytjhaealoneennaa
set_option linter.unusedVariables false
set_option linter.unusedSimpArgs false

theorem Index_l1_eq (n : Int) (l : List Int) : ∀ j : Nat, (l.contains n = false ∧ slices_Index_int_int_l1 n l j = some (Sum.inr ())) ∨ (l.contains n = true ∧ ∃ k : Nat, slices_Index_int_int_l1 n l j = some (Sum.inl (k : Int))) := by
  induction l with
  | nil => intro j; exact .inl ⟨rfl, rfl⟩
  | cons x l ih =>
    intro j
    rw [slices_Index_int_int_l1]
    by_cases e : n = x
    · rw [show (n == x) = true by simp [e]]
      exact .inr ⟨by simp [e], j, rfl⟩
    · rw [show (n == x) = false by simp [e]]
      simp only [cF]
      rcases ih (j + 1) with ⟨h1, h2⟩ | ⟨h1, k, h2⟩
      · exact .inl ⟨by rw [List.contains_cons, h1]; simp [e], h2⟩
      · exact .inr ⟨by rw [List.contains_cons, h1]; simp, k, h2⟩
theorem Contains_eq (l : List Int) (n : Int) : slices_Contains_int_int_m l n = some (l.contains n) := by
  unfold slices_Contains_int_int_m slices_Index_int_int_m
  rcases Index_l1_eq n l 0 with ⟨h1, h2⟩ | ⟨h1, k, h2⟩
  · rw [h1, h2]; rfl
  · rw [h1, h2]
    simp only [bs, Sum.elim_inl]
    rw [decide_eq_true (show (k : Int) ≥ 0 by omega)]

/-! ### Nodes that are left -/
def free (n : Nat) (l : List Int) : Nat := (List.range' 0 n).countP fun (k : Nat) => !l.contains (k : Int)
theorem countP_lt {α : Type} {p q : α → Bool} : ∀ {L : List α}, (∀ x ∈ L, p x = true → q x = true) → (∃ x ∈ L, q x = true ∧ p x = false) → L.countP p < L.countP q
  | [], _, ⟨x, h, _⟩ => by cases h
  | y :: L, h, ⟨x, hx, h1, h2⟩ => by
    have hle : L.countP p ≤ L.countP q := List.countP_mono_left fun z hz hp => h z (List.mem_cons_of_mem _ hz) hp
    rw [List.countP_cons, List.countP_cons]
    rcases List.mem_cons.1 hx with e | e
    · subst e
      simp [h1, h2]; omega
    · have := countP_lt (L := L) (fun z hz => h z (List.mem_cons_of_mem _ hz)) ⟨x, e, h1, h2⟩
      cases hp : p y
      · simp; omega
      · simp [h y List.mem_cons_self hp]; omega
theorem free_add {n k : Nat} {l : List Int} (hk : k < n) (hc : l.contains (k : Int) = false) : free n (l ++ [(k : Int)]) < free n l := by
  refine countP_lt (fun x _ h => ?_) ⟨k, by simp; omega, by simpa using hc, by simp⟩
  simp only [Bool.not_eq_true', List.contains_eq_mem, List.mem_append, decide_eq_false_iff_not, not_or] at h ⊢
  exact h.1
theorem free_one {n : Nat} (i : Nat) (hi : i < n) : free n [(i : Int)] < n := by
  have := free_add (n := n) (k := i) (l := []) hi rfl
  have h2 : free n [] ≤ n := by
    unfold free
    refine Nat.le_trans List.countP_le_length ?_
    simp
  simp only [List.nil_append] at this
  omega

/-! ### The circuits -/
def lst (l : List Int) : Int := nth l (l.length - 1)
def arc (m : List (List Int)) (a b : Int) : Int := En m a.toNat b.toNat
def circs (m : List (List Int)) (n : Nat) : Nat → List Int → List (List Int)
  | 0, _ => []
  | r + 1, l => (if arc m (lst l) (nth l 0) = 1000000000 then [] else [l]) ++
      (List.range' ((nth l 0).toNat + 1) (n - ((nth l 0).toNat + 1))).flatMap fun (k : Nat) => if arc m (lst l) (k : Int) = 1000000000 ∨ l.contains (k : Int) = true then [] else circs m n r (l ++ [(k : Int)])
/-- All of them. -/
def allC (m : List (List Int)) (n : Nat) : List (List Int) := (List.range' 0 n).flatMap fun (i : Nat) => circs m n n [(i : Int)]

/-- A beginning of a circuit: nodes, joined by arcs. -/
structure Beg (m : List (List Int)) (n : Nat) (l : List Int) : Prop where
  pos : 0 < l.length
  node : ∀ x ∈ l, 0 ≤ x ∧ x < (n : Int)
  arcs : ∀ i, i + 1 < l.length → arc m (nth l i) (nth l (i + 1)) ≠ 1000000000
  up : ∀ i, 0 < i → i < l.length → nth l 0 < nth l i
  apart : l.Nodup
theorem nth_app_lt {l : List Int} {x : Int} {i : Nat} (h : i < l.length) : nth (l ++ [x]) i = nth l i := by
  unfold nth; rw [List.getD_eq_getElem?_getD, List.getD_eq_getElem?_getD, List.getElem?_append_left h]
theorem nth_app_eq {l : List Int} {x : Int} : nth (l ++ [x]) l.length = x := by
  unfold nth; simp
theorem lst_app (l : List Int) (x : Int) : lst (l ++ [x]) = x := by
  unfold lst; rw [List.length_append]; exact nth_app_eq
theorem Beg.one {m : List (List Int)} {n i : Nat} (hi : i < n) : Beg m n [(i : Int)] := ⟨by simp, fun x hx => by simp at hx; omega, fun j hj => by simp at hj, fun j h0 hj => by simp at hj; omega, by simp⟩
theorem Beg.head {m : List (List Int)} {n : Nat} {l : List Int} (h : Beg m n l) : 0 ≤ nth l 0 ∧ nth l 0 < n := h.node _ (nth_mem h.pos)
theorem Beg.last {m : List (List Int)} {n : Nat} {l : List Int} (h : Beg m n l) : 0 ≤ lst l ∧ lst l < n := h.node _ (nth_mem (by have := h.pos; omega))
theorem Beg.add {m : List (List Int)} {n k : Nat} {l : List Int} (h : Beg m n l) (hk : k < n) (ha : arc m (lst l) (k : Int) ≠ 1000000000) (hu : nth l 0 < (k : Int)) (hc : l.contains (k : Int) = false) : Beg m n (l ++ [(k : Int)]) := by
  have h0 := h.pos
  refine ⟨by simp, fun x hx => ?_, fun i hi => ?_, fun i hi0 hi => ?_, ?_⟩
  · rcases List.mem_append.1 hx with e | e
    · exact h.node x e
    · simp at e; omega
  · simp only [List.length_append, List.length_singleton] at hi
    by_cases e : i + 1 < l.length
    · rw [nth_app_lt (by omega), nth_app_lt e]; exact h.arcs i e
    · have e1 : i + 1 = l.length := by omega
      have e2 : i = l.length - 1 := by omega
      rw [nth_app_lt (by omega), e1, nth_app_eq, e2]; exact ha
  · simp only [List.length_append, List.length_singleton] at hi
    rw [nth_app_lt h0]
    by_cases e : i < l.length
    · rw [nth_app_lt e]; exact h.up i hi0 e
    · rw [show i = l.length by omega, nth_app_eq]; exact hu
  · refine List.nodup_append.2 ⟨h.apart, by simp, fun a ha b hb e => ?_⟩
    simp at hb
    subst hb; subst e
    simp only [List.contains_eq_mem, decide_eq_false_iff_not] at hc
    exact hc ha
theorem circs_mem {m : List (List Int)} {n : Nat} : ∀ {r : Nat} {l a : List Int}, Beg m n l → a ∈ circs m n r l → Beg m n a ∧ arc m (lst a) (nth a 0) ≠ 1000000000 ∧ l.length ≤ a.length ∧ a.length ≤ l.length + r - 1 ∧ (a = l ∨ l.length < a.length)
  | 0, l, a, _, h => by cases h
  | r + 1, l, a, hb, h => by
    simp only [circs, List.mem_append, List.mem_flatMap, List.mem_range'_1] at h
    rcases h with h | ⟨k, hk, h⟩
    · split at h
      · cases h
      · rename_i hne
        simp at h
        subst h
        exact ⟨hb, hne, by omega, by omega, .inl rfl⟩
    · split at h
      · cases h
      · rename_i hne
        have h0 := hb.head
        have hc : l.contains (k : Int) = false := by
          cases hc : l.contains (k : Int)
          · rfl
          · exact absurd (.inr hc) hne
        obtain ⟨h1, h2, h3, h4, h5⟩ := circs_mem (hb.add (k := k) (by omega) (fun e => hne (.inl e)) (by omega) hc) h
        simp only [List.length_append, List.length_singleton] at h3 h4
        exact ⟨h1, h2, by omega, by omega, .inr (by omega)⟩
theorem allC_mem {m : List (List Int)} {n : Nat} {a : List Int} (h : a ∈ allC m n) : Beg m n a ∧ arc m (lst a) (nth a 0) ≠ 1000000000 ∧ 1 ≤ a.length ∧ a.length ≤ n := by
  simp only [allC, List.mem_flatMap, List.mem_range'_1] at h
  obtain ⟨i, hi, h⟩ := h
  obtain ⟨h1, h2, h3, h4, _⟩ := circs_mem (Beg.one (by omega)) h
  simp at h3 h4
  exact ⟨h1, h2, h3, by omega⟩

/-! ### The program's way through them -/
section
variable {σ : Type}
def cirL (mm : List (List Int)) (rec : List Int → σ → Option (List Int × σ)) (x6 : List Int) : Nat → List Int → σ → Int → Option (List Int × σ)
  | 0, _, _, _ => none
  | k + 1, l, s, i => cond (decide (i < (mm.length : Int)))
      ((idx x6 i).bind fun x42 => ((cond (x42 != 1000000000) ((slices_Contains_int_int_m l i).bind fun y48 => some (!y48)) (some false) : Option Bool)).bind fun b45 => cond b45
        ((app l i).bind fun l50 => (rec l50 s).bind fun y54 => (ck ((y54.1.length : Int) - 1)).bind fun n58 => (cutO y54.1 n58).bind fun l60 => (ck (i + 1)).bind fun n64 => cirL mm rec x6 k l60 y54.2 n64)
        ((ck (i + 1)).bind fun n66 => cirL mm rec x6 k l s n66))
      (some (l, s))
def cirB (f : List Int → σ → Option σ) (mm : List (List Int)) (rec : List Int → σ → Option (List Int × σ)) (l : List Int) (s : σ) : Option (List Int × σ) :=
  (ck ((l.length : Int) - 1)).bind fun n1 => (idx l n1).bind fun x3 => (idx mm x3).bind fun x6 => (idx l 0).bind fun x11 => (idx x6 x11).bind fun x14 =>
    ((cond (x14 != 1000000000) (f l s) (some s) : Option σ)).bind fun s18 => (ck (x11 + 1)).bind fun n25 => cirL mm rec x6 4000000 l s18 n25
def cirR (f : List Int → σ → Option σ) (mm : List (List Int)) : Nat → List Int → σ → Option (List Int × σ)
  | 0 => fun _ _ => none
  | k + 1 => cirB f mm (cirR f mm k)
def cirA (f : List Int → σ → Option σ) (mm : List (List Int)) : List (List Int) → Nat → List Int → σ → Option σ
  | [], j, l, s => some s
  | x :: q, j, l, s => (cirR f mm 64 [(j : Int)] s).bind fun y => cirA f mm q (j + 1) y.1 y.2
variable {m : List (List Int)} {n : Nat} (g : Good m n) (hn : m.length = n) (f : List Int → σ → Option σ)
include g hn
theorem cirL_eq {r : Nat} {l : List Int} {rec : List Int → σ → Option (List Int × σ)} (hb : Beg m n l) (hl : l.length ≤ 1000)
    (hrec : ∀ (k : Nat) s, k < n → nth l 0 < (k : Int) → arc m (lst l) (k : Int) ≠ 1000000000 → l.contains (k : Int) = false → rec (l ++ [(k : Int)]) s = (foldV f (circs m n r (l ++ [(k : Int)])) s).bind fun s' => some (l ++ [(k : Int)], s')) :
    ∀ (q fuel i : Nat) (s : σ), i + q = n → q < fuel → nth l 0 < (i : Int) → cirL m rec (nthM m (lst l).toNat) fuel l s (i : Int) = (foldV f ((List.range' i q).flatMap fun (k : Nat) => if arc m (lst l) (k : Int) = 1000000000 ∨ l.contains (k : Int) = true then [] else circs m n r (l ++ [(k : Int)])) s).bind fun s' => some (l, s') := by
  have h6 := g.chi
  have sh : Shape m n n := ⟨hn, g.row⟩
  have hla := hb.last
  intro q
  induction q with
  | zero =>
    intro fuel i s hi hf _
    obtain ⟨fuel, rfl⟩ : ∃ k', fuel = k' + 1 := ⟨fuel - 1, by omega⟩
    rw [cirL, decide_eq_false (by omega)]
    rfl
  | succ q ih =>
    intro fuel i s hi hf h0
    obtain ⟨fuel, rfl⟩ : ∃ k', fuel = k' + 1 := ⟨fuel - 1, by omega⟩
    rw [cirL, decide_eq_true (show (i : Int) < (m.length : Int) by omega), List.range'_succ, List.flatMap_cons, foldV_append]
    simp only [cT]
    have e1 : idx (nthM m (lst l).toNat) (i : Int) = some (arc m (lst l) (i : Int)) := by
      rw [idx_nth (by rw [sh.nth_len (by omega)]; omega)]; rfl
    rw [e1]
    simp only [bs]
    have k1 : ck ((i : Int) + 1) = some ((i + 1 : Nat) : Int) := ck_nat (by omega)
    by_cases ha : arc m (lst l) (i : Int) = 1000000000
    · rw [show (arc m (lst l) (i : Int) != 1000000000) = false by simp [ha]]
      simp only [cF, bs, k1]
      rw [if_pos (.inl ha), foldV]
      simp only [bs]
      exact ih fuel (i + 1) s (by omega) (by omega) (by omega)
    · rw [show (arc m (lst l) (i : Int) != 1000000000) = true by simp [ha], Contains_eq]
      simp only [cT, bs]
      cases hc : l.contains (i : Int) with
      | true =>
        simp only [Bool.not_true, cF, k1, bs]
        rw [if_pos (.inr trivial), foldV]
        simp only [bs]
        exact ih fuel (i + 1) s (by omega) (by omega) (by omega)
      | false =>
        simp only [Bool.not_false, cT, k1, bs]
        rw [if_neg (by simp [ha]), app_lt (by omega)]
        simp only [bs]
        rw [hrec i s (by omega) h0 ha hc]
        cases hf' : foldV f (circs m n r (l ++ [(i : Int)])) s with
        | none => rfl
        | some s' =>
          simp only [bs]
          have e1 : ck (((l ++ [(i : Int)]).length : Int) - 1) = some ((l.length : Nat) : Int) := by
            rw [ck_in (by simp <;> omega) (by simp <;> omega)]
            rw [show (((l ++ [(i : Int)]).length : Int) - 1) = (l.length : Int) by simp]
          rw [e1]
          simp only [bs]
          rw [cut_nat (by simp), List.take_left' rfl]
          simp only [bs, k1]
          exact ih fuel (i + 1) s' (by omega) (by omega) (by omega)
theorem cirR_eq : ∀ (r k : Nat) (l : List Int) (s : σ), Beg m n l → l.length + r ≤ 1000 → free n l < r → free n l < k → cirR f m k l s = (foldV f (circs m n r l) s).bind fun s' => some (l, s') := by
  have h6 := g.chi
  have sh : Shape m n n := ⟨hn, g.row⟩
  intro r
  induction r with
  | zero => intro k l s _ _ h; omega
  | succ r ih =>
    intro k l s hb hl hr hk
    obtain ⟨k, rfl⟩ : ∃ k', k = k' + 1 := ⟨k - 1, by omega⟩
    have h0 := hb.pos
    have hh := hb.head
    have hla := hb.last
    rw [cirR, cirB, ck_in (by omega) (by omega)]
    simp only [bs]
    rw [show ((l.length : Int) - 1) = ((l.length - 1 : Nat) : Int) by omega, idx_nth (by omega)]
    simp only [bs]
    have e1 : idx m (nth l (l.length - 1)) = some (nthM m (lst l).toNat) := by
      have := sh.idx (i := (lst l).toNat) (by omega)
      rwa [show (((lst l).toNat : Nat) : Int) = lst l by omega] at this
    have e2 : idx (nthM m (lst l).toNat) (nth l 0) = some (arc m (lst l) (nth l 0)) := by
      have := idx_nth (l := nthM m (lst l).toNat) (j := (nth l 0).toNat) (by rw [sh.nth_len (by omega)]; omega)
      rwa [show (((nth l 0).toNat : Nat) : Int) = nth l 0 by omega] at this
    have e3 : ck (nth l 0 + 1) = some (((nth l 0).toNat + 1 : Nat) : Int) := by
      rw [ck_in (by omega) (by omega)]; congr 1; omega
    rw [e1]
    simp only [bs]
    rw [idx_nth0 h0]
    simp only [bs]
    rw [e2]
    simp only [bs]
    rw [circs, foldV_append]
    have hloop := fun s => cirL_eq g hn f (r := r) (rec := cirR f m k) hb (by omega) (fun j s hj hu ha hc => ih k _ s (hb.add hj ha hu hc) (by simp; omega) (by have := free_add hj hc; omega) (by have := free_add hj hc; omega))
      (n - ((nth l 0).toNat + 1)) 4000000 ((nth l 0).toNat + 1) s (by omega) (by omega) (by omega)
    by_cases ha : arc m (lst l) (nth l 0) = 1000000000
    · rw [show (arc m (lst l) (nth l 0) != 1000000000) = false by simp [ha], if_pos ha, foldV]
      simp only [cF, bs, e3]
      exact hloop s
    · rw [show (arc m (lst l) (nth l 0) != 1000000000) = true by simp [ha], if_neg ha, foldV]
      simp only [cT]
      cases f l s with
      | none => rfl
      | some s1 =>
        simp only [bs, e3, foldV]
        exact hloop s1
theorem cirA_l (q : List (List Int)) : ∀ (j : Nat) (l : List Int) (s : σ), j + q.length = n → cirA f m q j l s = foldV f ((List.range' j q.length).flatMap fun (i : Nat) => circs m n n [(i : Int)]) s := by
  have h6 := g.chi
  induction q with
  | nil => intro j l s _; rfl
  | cons x q ih =>
    intro j l s hj
    simp only [List.length_cons] at hj
    have := free_one (n := n) j (by omega)
    rw [cirA, cirR_eq g hn f n 64 _ s (Beg.one (by omega)) (by simp; omega) this (by omega), List.length_cons, List.range'_succ, List.flatMap_cons, foldV_append]
    cases foldV f (circs m n n [(j : Int)]) s with
    | none => rfl
    | some s' => simp only [bs]; exact ih (j + 1) _ s' (by omega)
theorem cirA_eq (l : List Int) (s : σ) : cirA f m m 0 l s = foldV f (allC m n) s := by
  rw [cirA_l g hn f m 0 l s (by omega), hn]; rfl
end

/-! ### What a circuit costs -/
/-- The cost of the first i steps. -/
def sc (m : List (List Int)) (l : List Int) : Nat → Int
  | 0 => 0
  | i + 1 => sc m l i + arc m (nth l i) (nth l (i + 1))
def ccost (m : List (List Int)) (l : List Int) : Int := plus (sc m l (l.length - 1)) (arc m (lst l) (nth l 0))
theorem sc_app (m : List (List Int)) (l : List Int) (x : Int) : ∀ i, i < l.length → sc m (l ++ [x]) i = sc m l i
  | 0, _ => rfl
  | i + 1, h => by rw [sc, sc, sc_app m l x i (by omega), nth_app_lt (by omega), nth_app_lt h]
theorem sc_last (m : List (List Int)) {l : List Int} (h : 0 < l.length) (x : Int) : sc m (l ++ [x]) l.length = sc m l (l.length - 1) + arc m (lst l) x := by
  obtain ⟨k, hk⟩ : ∃ k, l.length = k + 1 := ⟨l.length - 1, by omega⟩
  have h1 := sc_app m l x k (by omega)
  rw [hk, sc, h1, nth_app_lt (by omega), ← hk, nth_app_eq]
  unfold lst
  rw [show l.length - 1 = k by omega]
section
variable {m : List (List Int)} {n : Nat} (g : Good m n) (hn : m.length = n)
include g hn
theorem arc_fin {a b : Int} (ha : 0 ≤ a ∧ a < (n : Int)) (hb : 0 ≤ b ∧ b < (n : Int)) (h : arc m a b ≠ 1000000000) : -1000000 ≤ arc m a b ∧ arc m a b ≤ 1000000 := by
  have := (num_iff _).1 (En_num g (i := a.toNat) (k := b.toNat) (by omega) (by omega))
  unfold arc at h ⊢
  omega
theorem arc_idx {a b : Int} (ha : 0 ≤ a ∧ a < (n : Int)) (hb : 0 ≤ b ∧ b < (n : Int)) : idx m a = some (nthM m a.toNat) ∧ idx (nthM m a.toNat) b = some (arc m a b) := by
  have sh : Shape m n n := ⟨hn, g.row⟩
  constructor
  · have := sh.idx (i := a.toNat) (by omega)
    rwa [show ((a.toNat : Nat) : Int) = a by omega] at this
  · have := idx_nth (l := nthM m a.toNat) (j := b.toNat) (by rw [sh.nth_len (by omega)]; omega)
    rwa [show ((b.toNat : Nat) : Int) = b by omega] at this
theorem sc_bd {l : List Int} (hb : Beg m n l) : ∀ i, i < l.length → -((i : Int) * 1000000) ≤ sc m l i ∧ sc m l i ≤ (i : Int) * 1000000
  | 0, _ => by simp [sc]
  | i + 1, h => by
    have h1 := sc_bd hb i (by omega)
    have h2 := arc_fin g hn (hb.node _ (nth_mem (show i < l.length by omega))) (hb.node _ (nth_mem h)) (hb.arcs i h)
    rw [sc]; push_cast; omega
theorem costOfSteps_l1_eq {l : List Int} (hb : Beg m n l) (hl : l.length ≤ 1000) : ∀ (q fuel i : Nat), i + q = l.length → q < fuel → 1 ≤ i → impl_costOfSteps_l1 m l fuel (sc m l (i - 1)) (i : Int) = some (sc m l (l.length - 1)) := by
  intro q
  induction q with
  | zero =>
    intro fuel i hi hf h1
    obtain ⟨fuel, rfl⟩ : ∃ k', fuel = k' + 1 := ⟨fuel - 1, by omega⟩
    rw [impl_costOfSteps_l1, decide_eq_false (by omega), show i - 1 = l.length - 1 by omega]
    rfl
  | succ q ih =>
    intro fuel i hi hf h1
    obtain ⟨fuel, rfl⟩ : ∃ k', fuel = k' + 1 := ⟨fuel - 1, by omega⟩
    obtain ⟨i, rfl⟩ : ∃ i', i = i' + 1 := ⟨i - 1, by omega⟩
    rw [impl_costOfSteps_l1, decide_eq_true (by omega)]
    have k1 : ck (((i + 1 : Nat) : Int) - 1) = some (i : Int) := by
      rw [ck_in (by omega) (by omega)]; congr 1; omega
    have n1 := hb.node _ (nth_mem (show i < l.length by omega))
    have n2 := hb.node _ (nth_mem (show i + 1 < l.length by omega))
    obtain ⟨e1, e2⟩ := arc_idx g hn n1 n2
    have hf := arc_fin g hn n1 n2 (hb.arcs i (by omega))
    have hs := sc_bd g hn hb i (by omega)
    simp only [cT, k1, bs]
    rw [idx_nth (show i < l.length by omega)]
    simp only [bs, e1]
    rw [idx_nth (show i + 1 < l.length by omega)]
    simp only [bs, e2]
    rw [show i + 1 - 1 = i by omega, product_eq (by omega) (by omega), ck_nat (by omega)]
    simp only [bs]
    have e3 : plus (sc m l i) (arc m (nth l i) (nth l (i + 1))) = sc m l (i + 1) := by
      unfold plus; rw [if_neg (by omega), sc]
    rw [e3]
    exact ih fuel (i + 1 + 1) (by omega) (by omega) (by omega)
theorem costOfCircuit_eq {l : List Int} (hb : Beg m n l) (hl : l.length ≤ 1000) : impl_costOfCircuit_m m l = some (ccost m l) := by
  have h0 := hb.pos
  unfold impl_costOfCircuit_m impl_costOfSteps_m
  have h1 := costOfSteps_l1_eq g hn hb hl (l.length - 1) 4000000 1 (by omega) (by omega) (by omega)
  simp only [Nat.sub_self] at h1
  rw [show sc m l 0 = 0 from rfl, show ((1 : Nat) : Int) = 1 from rfl] at h1
  rw [h1, ck_in (by omega) (by omega)]
  simp only [bs]
  rw [show ((l.length : Int) - 1) = ((l.length - 1 : Nat) : Int) by omega, idx_nth (by omega)]
  simp only [bs]
  obtain ⟨e1, e2⟩ := arc_idx g hn hb.last hb.head
  have e1 : idx m (nth l (l.length - 1)) = some (nthM m (lst l).toNat) := e1
  rw [e1]
  simp only [bs]
  rw [idx_nth0 h0]
  simp only [bs, e2]
  have h2 := sc_bd g hn hb (l.length - 1) (by omega)
  have h3 := num_rng (En_num g (i := (lst l).toNat) (k := (nth l 0).toNat) (by have := hb.last; omega) (by have := hb.head; omega))
  have h3 : -1000000000 ≤ arc m (lst l) (nth l 0) ∧ arc m (lst l) (nth l 0) ≤ 1000000000 := h3
  rw [product_eq (by omega) (by omega)]
  rfl
theorem ccost_fin {l : List Int} (hb : Beg m n l) (ha : arc m (lst l) (nth l 0) ≠ 1000000000) (hl : l.length ≤ 1000) : ccost m l = sc m l (l.length - 1) + arc m (lst l) (nth l 0) ∧ -((l.length : Int) * 1000000) ≤ ccost m l ∧ ccost m l ≤ (l.length : Int) * 1000000 := by
  have h0 := hb.pos
  have h2 := sc_bd g hn hb (l.length - 1) (by omega)
  have h3 := arc_fin g hn hb.last hb.head ha
  have e : ccost m l = sc m l (l.length - 1) + arc m (lst l) (nth l 0) := by unfold ccost plus; rw [if_neg (by omega)]
  exact ⟨e, by rw [e]; omega, by rw [e]; omega⟩
end
end Go.Proofs.Ytjhaealoneennaa
