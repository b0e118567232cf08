/- Permutations as the program goes through them: what a visitor makes of each, one behind the other. Nothing of a program is named here. -/
import Derived.Test.YtnnhbkhlipekeaaPNum
namespace Go.Proofs.Ytnnhbkhlipekeaa
set_option linter.unusedVariables false
set_option linter.unusedSimpArgs false

theorem elL {α β γ : Type} (f : α → γ) (g : β → γ) (x : α) : Sum.elim f g (Sum.inl x) = f x := (Sum.elim_inl f g x).trans rfl
theorem elR {α β γ : Type} (f : α → γ) (g : β → γ) (x : β) : Sum.elim f g (Sum.inr x) = g x := (Sum.elim_inr f g x).trans rfl
theorem cut_nat {α : Type} {l : List α} {j : Nat} (h : j ≤ l.length) : cutO l (j : Int) = some (l.take j) := by
  unfold cutO; rw [decide_eq_true (by omega)]; simp
section
variable {σ : Type} {α : Type}
def foldV (f : α → σ → Option σ) : List α → σ → Option σ
  | [], s => some s
  | a :: r, s => (f a s).bind (foldV f r)
theorem foldV_append (f : α → σ → Option σ) : ∀ (a b : List α) (s : σ), foldV f (a ++ b) s = (foldV f a s).bind (foldV f b)
  | [], b, s => rfl
  | x :: a, b, s => by
    simp only [List.cons_append, foldV]
    cases f x s with
    | none => rfl
    | some t => simp only [bs]; exact foldV_append f a b t
theorem foldV_some {f : α → σ → Option σ} {g : σ → α → σ} {I : Nat → σ → Prop} : ∀ {L : List α} {s : σ} {i : Nat}, I i s → (∀ a ∈ L, ∀ j s, i ≤ j → j < i + L.length → I j s → f a s = some (g s a) ∧ I (j + 1) (g s a)) → foldV f L s = some (L.foldl g s) ∧ I (i + L.length) (L.foldl g s)
  | [], s, i, h, _ => ⟨rfl, h⟩
  | a :: L, s, i, h, hf => by
    obtain ⟨h1, h2⟩ := hf a List.mem_cons_self i s (Nat.le_refl _) (by simp) h
    obtain ⟨h3, h4⟩ := foldV_some (L := L) h2 (fun b hb j s h5 h6 h7 => hf b (List.mem_cons_of_mem _ hb) j s (by omega) (by simp; omega) h7)
    simp only [foldV, h1, bs, List.foldl_cons, List.length_cons]
    exact ⟨h3, by rw [show i + (L.length + 1) = i + 1 + L.length by omega]; exact h4⟩

/-- All ways to go on from l by r numbers below n that are not in the list. -/
def comps (n : Nat) : Nat → List Int → List (List Int)
  | 0, l => [l]
  | r + 1, l => (List.range' 0 n).flatMap fun (k : Nat) => if l.contains (k : Int) then [] else comps n r (l ++ [(k : Int)])
theorem comps_mem {n : Nat} : ∀ {r : Nat} {l a : List Int}, a ∈ comps n r l → ∃ t, a = l ++ t ∧ t.length = r ∧ ∀ x ∈ t, 0 ≤ x ∧ x < (n : Int)
  | 0, l, a, h => by
    simp only [comps, List.mem_singleton] at h
    exact ⟨[], by simp [h], rfl, fun x hx => by cases hx⟩
  | r + 1, l, a, h => by
    simp only [comps, List.mem_flatMap, List.mem_range'_1] at h
    obtain ⟨k, hk, ha⟩ := h
    split at ha
    · cases ha
    · obtain ⟨t, rfl, h2, h3⟩ := comps_mem ha
      refine ⟨(k : Int) :: t, by simp, by simp [h2], fun x hx => ?_⟩
      rcases List.mem_cons.1 hx with e | e
      · subst e; omega
      · exact h3 x e
theorem flat_len {β : Type} {B : Nat} {g : Nat → List β} : ∀ (q j : Nat), (∀ k, (g k).length ≤ B) → ((List.range' j q).flatMap g).length ≤ q * B
  | 0, j, _ => by simp
  | q + 1, j, h => by
    rw [List.range'_succ, List.flatMap_cons, List.length_append]
    have := flat_len q (j + 1) h
    have := h j
    rw [Nat.succ_mul]; omega
theorem comps_len {n : Nat} (hn : n ≤ 6) : ∀ (r : Nat) (l : List Int), (comps n r l).length ≤ 6 ^ r
  | 0, l => by simp [comps]
  | r + 1, l => by
    have := flat_len (B := 6 ^ r) (g := fun (k : Nat) => if l.contains (k : Int) then [] else comps n r (l ++ [(k : Int)])) n 0 (fun k => by
      split
      · simp
      · exact comps_len hn r _)
    simp only [comps]
    refine Nat.le_trans this ?_
    rw [Nat.pow_succ, Nat.mul_comm]
    exact Nat.mul_le_mul_left _ hn

def permL (n : Int) (rec : List Int → List Bool → σ → Option (List Int × List Bool × σ)) : Nat → Nat → List Int → List Bool → σ → Option (List Int × List Bool × σ)
  | 0, j, l, u, s => some (l, u, s)
  | q + 1, j, l, u, s => (idx u (j : Int)).bind fun x => cond x (permL n rec q (j + 1) l u s)
      ((upd u (j : Int) true).bind fun u1 => (app l (j : Int)).bind fun l1 => (rec l1 u1 s).bind fun y => (ck ((y.1.length : Int) - 1)).bind fun c => (cutO y.1 c).bind fun l2 => (idx y.2.1 (j : Int)).bind fun _ => (upd y.2.1 (j : Int) false).bind fun u2 => permL n rec q (j + 1) l2 u2 y.2.2)
def permB (f : List Int → σ → Option σ) (n : Int) (rec : List Int → List Bool → σ → Option (List Int × List Bool × σ)) (l : List Int) (u : List Bool) (s : σ) : Option (List Int × List Bool × σ) :=
  cond ((l.length : Int) == n) ((f l s).bind fun s' => some (l, u, s')) ((ck n).bind fun _ => permL n rec ((n - (0 : Nat) : Int).toNat) 0 l u s)
def permR (f : List Int → σ → Option σ) (n : Int) : Nat → List Int → List Bool → σ → Option (List Int × List Bool × σ)
  | 0 => fun _ _ _ => none
  | k + 1 => permB f n (permR f n k)

theorem permL_eq {f : List Int → σ → Option σ} {n r : Nat} (hn : n ≤ 1000) {rec : List Int → List Bool → σ → Option (List Int × List Bool × σ)} {l : List Int} {u : List Bool} (hl : l.length < n) (hu : u.length = n)
    (hc : ∀ j, j < n → u[j]? = some (l.contains (j : Int)))
    (hrec : ∀ j s, j < n → l.contains (j : Int) = false → rec (l ++ [(j : Int)]) (u.set j true) s = (foldV f (comps n r (l ++ [(j : Int)])) s).bind fun s' => some (l ++ [(j : Int)], u.set j true, s')) :
    ∀ (q j : Nat) (s : σ), j + q = n → permL (n : Int) rec q j l u s = (foldV f ((List.range' j q).flatMap fun (k : Nat) => if l.contains (k : Int) then [] else comps n r (l ++ [(k : Int)])) s).bind fun s' => some (l, u, s') := by
  intro q
  induction q with
  | zero => intro j s _; rfl
  | succ q ih =>
    intro j s hj
    have hjn : j < n := by omega
    rw [permL, idx_nat, hc j hjn, List.range'_succ, List.flatMap_cons, foldV_append]
    simp only [bs]
    cases hb : l.contains (j : Int) with
    | true =>
      simp only [cT, if_true, foldV, bs]
      exact ih (j + 1) s (by omega)
    | false =>
      simp only [cF, Bool.false_eq_true, if_false]
      rw [upd_nat (by omega), app_lt (by omega)]
      simp only [bs]
      rw [hrec j s hjn hb]
      cases hf : foldV f (comps n r (l ++ [(j : Int)])) s with
      | none => rfl
      | some s' =>
        simp only [bs]
        have e1 : ck (((l ++ [(j : Int)]).length : Int) - 1) = some ((l.length : Nat) : Int) := by
          rw [ck_in (by simp <;> omega) (by simp <;> omega)]
          rw [show (((l ++ [(j : Int)]).length : Int) - 1) = (l.length : Int) by simp]
        rw [e1]
        simp only [bs]
        rw [cut_nat (by simp), List.take_left' rfl]
        simp only [bs]
        rw [idx_nat, List.getElem?_set_self (by omega)]
        simp only [bs]
        rw [upd_nat (by simp; omega), List.set_set]
        simp only [bs]
        have e2 : u.set j false = u := by
          refine List.ext_getElem? fun i => ?_
          by_cases e : j = i
          · subst e
            rw [List.getElem?_set_self (by omega), hc j hjn, hb]
          · rw [List.getElem?_set_ne e]
        rw [e2]
        exact ih (j + 1) s' (by omega)
theorem permR_eq (f : List Int → σ → Option σ) {n : Nat} (hn : n ≤ 1000) : ∀ (r k : Nat) (l : List Int) (u : List Bool) (s : σ), l.length + r = n → r < k → u.length = n → (∀ j, j < n → u[j]? = some (l.contains (j : Int))) →
    permR f (n : Int) k l u s = (foldV f (comps n r l) s).bind fun s' => some (l, u, s') := by
  intro r
  induction r with
  | zero =>
    intro k l u s hl hk hu hc
    obtain ⟨k, rfl⟩ : ∃ k', k = k' + 1 := ⟨k - 1, by omega⟩
    rw [permR, permB, show ((l.length : Int) == (n : Int)) = true by simp; omega]
    simp only [cT, comps, foldV]
    cases f l s <;> rfl
  | succ r ih =>
    intro k l u s hl hk hu hc
    obtain ⟨k, rfl⟩ : ∃ k', k = k' + 1 := ⟨k - 1, by omega⟩
    rw [permR, permB, show ((l.length : Int) == (n : Int)) = false by simp; omega]
    simp only [cF]
    rw [ck_in (by omega) (by omega)]
    simp only [bs]
    rw [show (((n : Int) - ((0 : Nat) : Int)).toNat) = n by omega]
    exact permL_eq hn (by omega) hu hc (fun j s hj hb => ih k _ _ s (by simp; omega) (by omega) (by simp [hu]) (fun i hi => by
      by_cases e : j = i
      · subst e
        rw [List.getElem?_set_self (by omega)]
        simp
      · rw [List.getElem?_set_ne e, hc i hi]
        congr 1
        have : ¬ ((i : Int) = (j : Int)) := by omega
        simp [this])) n 0 s (by omega)
/-- From the start. -/
theorem permR_start (f : List Int → σ → Option σ) {n k : Nat} (hn : n ≤ 1000) (hk : n < k) (s : σ) :
    permR f (n : Int) k [] (List.replicate n false) s = (foldV f (comps n n []) s).bind fun s' => some ([], List.replicate n false, s') :=
  permR_eq f hn n k [] _ s (by simp) hk (by simp) (fun j hj => by simp [hj])
end

/-! ### The least of numbers, and how often it is there -/
def cmb (a b : Int × Int) : Int × Int := if b.1 < a.1 then b else if b.1 = a.1 then (a.1, a.2 + b.2) else a
theorem cmb_assoc (a b c : Int × Int) : cmb (cmb a b) c = cmb a (cmb b c) := by
  obtain ⟨a1, a2⟩ := a; obtain ⟨b1, b2⟩ := b; obtain ⟨c1, c2⟩ := c
  unfold cmb
  simp only []
  rcases Int.lt_trichotomy b1 a1 with h | h | h
  · rcases Int.lt_trichotomy c1 b1 with h' | h' | h'
    · simp [h, h', Int.lt_trans h' h]
    · subst h'; simp [h]
    · have : ¬ c1 < b1 := by omega
      have : ¬ c1 = b1 := by omega
      simp [*]
  · subst h
    rcases Int.lt_trichotomy c1 b1 with h' | h' | h'
    · simp [h']
    · subst h'; simp [Int.add_assoc]
    · have : ¬ c1 < b1 := by omega
      have : ¬ c1 = b1 := by omega
      simp [*]
  · have h1 : ¬ b1 < a1 := by omega
    have h2 : ¬ b1 = a1 := by omega
    rcases Int.lt_trichotomy c1 b1 with h' | h' | h'
    · simp [h1, h2, h']
    · subst h'; simp [h1, h2]
    · have h3 : ¬ c1 < b1 := by omega
      have h4 : ¬ c1 = b1 := by omega
      have h5 : ¬ c1 < a1 := by omega
      have h6 : ¬ c1 = a1 := by omega
      simp [h1, h2, h3, h4, h5, h6]
def bestF (L : List Int) : Int × Int := L.foldl (fun a x => cmb a (x, 1)) (1000000000, 0)
theorem cmb_unit {a : Int × Int} (h : a.1 ≤ 1000000000) : cmb a (1000000000, 0) = a := by
  unfold cmb
  have : ¬ (1000000000 : Int) < a.1 := by omega
  simp only [this, if_false]
  split
  · simp
  · rfl
theorem unit_cmb {a : Int × Int} (h : a.1 ≤ 1000000000) : cmb (1000000000, 0) a = a := by
  unfold cmb
  simp only []
  split
  · rfl
  · split
    · rename_i h1 h2
      rw [← h2]; simp
    · omega
theorem cmb_le {a b : Int × Int} (h : a.1 ≤ 1000000000) : (cmb a b).1 ≤ 1000000000 := by
  unfold cmb; split
  · omega
  · split <;> simpa using h
theorem best_from : ∀ (L : List Int) (a : Int × Int), a.1 ≤ 1000000000 → (∀ x ∈ L, x ≤ 1000000000) → L.foldl (fun a x => cmb a (x, 1)) a = cmb a (bestF L)
  | [], a, h, _ => (cmb_unit h).symm
  | x :: L, a, h, hL => by
    have hx := hL x List.mem_cons_self
    have hr := fun y hy => hL y (List.mem_cons_of_mem _ hy)
    unfold bestF
    simp only [List.foldl_cons]
    rw [best_from L _ (cmb_le h) hr, best_from L _ (cmb_le (Int.le_refl _)) hr, unit_cmb hx, cmb_assoc]
theorem bestF_append {A B : List Int} (hA : ∀ x ∈ A, x ≤ 1000000000) (hB : ∀ x ∈ B, x ≤ 1000000000) : bestF (A ++ B) = cmb (bestF A) (bestF B) := by
  have : bestF (A ++ B) = B.foldl (fun a x => cmb a (x, 1)) (bestF A) := by unfold bestF; rw [List.foldl_append]
  rw [this]
  refine best_from B _ ?_ hB
  have h2 := best_from A (1000000000, 0) (Int.le_refl _) hA
  have : bestF A = cmb (1000000000, 0) (bestF A) := h2
  rw [this]; exact cmb_le (Int.le_refl _)
theorem bestF_one {x : Int} (h : x ≤ 1000000000) : bestF [x] = (x, 1) := unit_cmb (a := (x, 1)) h
theorem cmb_cnt {a b : Int × Int} {i j : Int} (h0 : 0 ≤ a.2 ∧ a.2 ≤ i) (h1 : 0 ≤ b.2 ∧ b.2 ≤ j) : 0 ≤ (cmb a b).2 ∧ (cmb a b).2 ≤ i + j := by
  unfold cmb; split
  · omega
  · split
    · simp only []; omega
    · omega
theorem fold_cnt : ∀ (L : List Int) (a : Int × Int) (i : Int), 0 ≤ a.2 → a.2 ≤ i → 0 ≤ (L.foldl (fun a x => cmb a (x, 1)) a).2 ∧ (L.foldl (fun a x => cmb a (x, 1)) a).2 ≤ i + L.length
  | [], a, i, h0, h1 => by simp; omega
  | x :: L, a, i, h0, h1 => by
    have h2 := cmb_cnt (a := a) (b := (x, 1)) (i := i) (j := 1) ⟨h0, h1⟩ (by simp)
    have h3 := fold_cnt L (cmb a (x, 1)) (i + 1) h2.1 h2.2
    simp only [List.foldl_cons, List.length_cons]
    omega
theorem bestF_cnt (L : List Int) : 0 ≤ (bestF L).2 ∧ (bestF L).2 ≤ L.length := by
  have := fold_cnt L (1000000000, 0) 0 (Int.le_refl _) (Int.le_refl _)
  unfold bestF; omega
theorem fold_pos : ∀ (L : List Int) (a : Int × Int), (a.2 = 0 → a.1 = 1000000000) → 0 ≤ a.2 → ((L.foldl (fun a x => cmb a (x, 1)) a).2 = 0 → (L.foldl (fun a x => cmb a (x, 1)) a).1 = 1000000000)
  | [], a, h, _ => h
  | x :: L, a, h, h0 => by
    simp only [List.foldl_cons]
    refine fold_pos L _ (fun h2 => ?_) (cmb_cnt (a := a) (b := (x, 1)) (i := a.2) (j := 1) ⟨h0, Int.le_refl _⟩ (by simp)).1
    unfold cmb at h2 ⊢
    by_cases c1 : x < a.1
    · simp [c1] at h2
    · by_cases c2 : x = a.1
      · simp only [c2, Int.lt_irrefl, if_true, if_false] at h2; omega
      · simp only [c1, c2, if_false] at h2 ⊢; exact h h2
theorem bestF_zero {L : List Int} (h : (bestF L).2 = 0) : (bestF L).1 = 1000000000 := fold_pos L (1000000000, 0) (fun _ => rfl) (Int.le_refl _) h
end Go.Proofs.Ytnnhbkhlipekeaa
