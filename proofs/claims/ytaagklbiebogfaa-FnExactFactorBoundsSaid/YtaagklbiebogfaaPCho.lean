/- Plain laws: the first regular part of a size, the tropical rank. -/
import Derived.Test.YtaagklbiebogfaaChoM
import Derived.Test.YtaagklbiebogfaaChiM
import Derived.Test.YtaagklbiebogfaaPPmt
import Derived.Test.YtaagklbiebogfaaRk2M
namespace Go.Proofs.Ytaagklbiebogfaa
set_option linter.unusedVariables false
set_option linter.unusedSimpArgs false

/-! ### Increasing lists -/
/-- All ways to go on from l by r increasing numbers, f at least, below n. -/
def chs (n : Nat) : Nat → Nat → List Int → List (List Int)
  | 0, f, l => [l]
  | r + 1, f, l => (List.range' f (n - f)).flatMap fun (i : Nat) => chs n r (i + 1) (l ++ [(i : Int)])
theorem chs_nil {n : Nat} : ∀ {r f : Nat} {l : List Int}, n < f + r → f ≤ n → chs n r f l = []
  | 0, f, l, h, h' => by omega
  | r + 1, f, l, h, h' => by
    rw [chs]
    refine List.flatMap_eq_nil_iff.2 fun i hi => ?_
    rw [List.mem_range'_1] at hi
    exact chs_nil (by omega) (by omega)
theorem chs_shift (n d : Nat) (l0 : List Int) : ∀ (r f : Nat) (l : List Int), chs (n + d) r (f + d) (l0 ++ l.map fun k => (d : Int) + k) = (chs n r f l).map fun t => l0 ++ t.map fun k => (d : Int) + k
  | 0, f, l => rfl
  | r + 1, f, l => by
    rw [chs, chs, List.map_flatMap, show n + d - (f + d) = n - f by omega, show f + d = d + f by omega, ← List.map_add_range', List.flatMap_map]
    congr 1
    funext i
    have := chs_shift n d l0 r (i + 1) (l ++ [(i : Int)])
    rw [← this]
    simp only [List.map_append, List.map_cons, List.map_nil, List.append_assoc]
    rw [show d + i + 1 = i + 1 + d by omega, show ((d + i : Nat) : Int) = (d : Int) + (i : Int) by omega]
theorem chs_mem {n : Nat} : ∀ {r f : Nat} {l a : List Int}, a ∈ chs n r f l → ∃ t, a = l ++ t ∧ t.length = r ∧ ∀ x ∈ t, 0 ≤ x ∧ x < (n : Int)
  | 0, f, l, a, h => by
    simp only [chs, List.mem_singleton] at h
    exact ⟨[], by simp [h], rfl, fun x hx => by cases hx⟩
  | r + 1, f, l, a, h => by
    simp only [chs, List.mem_flatMap, List.mem_range'_1] at h
    obtain ⟨k, hk, ha⟩ := h
    obtain ⟨t, rfl, h2, h3⟩ := chs_mem ha
    refine ⟨(k : Int) :: t, by simp, by simp [h2], fun x hx => ?_⟩
    rcases List.mem_cons.1 hx with e | e
    · subst e; omega
    · exact h3 x e
theorem chs_len {n : Nat} (hn : n ≤ 6) : ∀ (r f : Nat) (l : List Int), (chs n r f l).length ≤ 6 ^ r
  | 0, f, l => by simp [chs]
  | r + 1, f, l => by
    have := flat_len (B := 6 ^ r) (g := fun (i : Nat) => chs n r (i + 1) (l ++ [(i : Int)])) (n - f) f (fun k => chs_len hn r _ _)
    simp only [chs]
    refine Nat.le_trans this ?_
    rw [Nat.pow_succ, Nat.mul_comm]
    exact Nat.mul_le_mul_left _ (by omega)

/-! ### The specification's lists -/
theorem rkCh_l3 (f : Nat) (hf : f ≤ 10) (q : List Int) : ∀ j l, l.length + q.length < 1000000 → (∀ x ∈ q, 0 ≤ x ∧ x < 1000) → spec_rkChoices_l3 (f : Int) q j l = some (l ++ q.map fun k => ((f + 1 : Nat) : Int) + k) := by
  induction q with
  | nil => intro j l _ _; simp [spec_rkChoices_l3]
  | cons x q ih =>
    intro j l hl hq
    simp only [List.length_cons] at hl
    have hx := hq x List.mem_cons_self
    rw [spec_rkChoices_l3, ck_nat (by omega)]
    simp only [bs]
    rw [ck_in (by omega) (by omega)]
    simp only [bs]
    rw [app_lt (by omega)]
    simp only [bs]
    rw [ih (j + 1) _ (by simp; omega) (fun y hy => hq y (List.mem_cons_of_mem _ hy))]
    simp
theorem rkCh_l2 (f : Nat) (hf : f ≤ 10) (q : List (List Int)) : ∀ j l, l.length + q.length < 1000000 → (∀ t ∈ q, t.length < 1000 ∧ ∀ x ∈ t, 0 ≤ x ∧ x < 1000) →
    spec_rkChoices_l2 (f : Int) q j l = some (l ++ q.map fun t => [(f : Int)] ++ t.map fun k => ((f + 1 : Nat) : Int) + k) := by
  induction q with
  | nil => intro j l _ _; simp [spec_rkChoices_l2]
  | cons t q ih =>
    intro j l hl hq
    simp only [List.length_cons] at hl
    have ht := hq t List.mem_cons_self
    rw [spec_rkChoices_l2, rkCh_l3 f hf t 0 _ (by simp; omega) ht.2]
    simp only [bs]
    rw [app_lt (by omega)]
    simp only [bs]
    rw [ih (j + 1) _ (by simp; omega) (fun y hy => hq y (List.mem_cons_of_mem _ hy))]
    simp
theorem rkCh_l1 (n r : Nat) (hn : n ≤ 6) (hr : r ≤ 6) (rec : Int → Int → Option (List (List Int))) (hrec : ∀ i, i < n → rec ((n - i - 1 : Nat) : Int) (r : Int) = some (chs (n - i - 1) r 0 [])) :
    ∀ (q fuel f : Nat) (l : List (List Int)), f + q = n - r → q < fuel → l.length ≤ f * 46656 →
      spec_rkChoices_l1 (n : Int) ((r + 1 : Nat) : Int) rec fuel l (f : Int) = some (l ++ (List.range' f q).flatMap fun (i : Nat) => chs n r (i + 1) [(i : Int)]) := by
  intro q
  induction q with
  | zero =>
    intro fuel f l hf hq hl
    obtain ⟨fuel, rfl⟩ : ∃ k', fuel = k' + 1 := ⟨fuel - 1, by omega⟩
    rw [spec_rkChoices_l1, ck_in (by omega) (by omega)]
    simp only [bs]
    rw [decide_eq_false (by omega)]
    simp
  | succ q ih =>
    intro fuel f l hf hq hl
    obtain ⟨fuel, rfl⟩ : ∃ k', fuel = k' + 1 := ⟨fuel - 1, by omega⟩
    rw [spec_rkChoices_l1, ck_in (by omega) (by omega)]
    simp only [bs]
    rw [decide_eq_true (by omega)]
    simp only [cT]
    rw [ck_in (by omega) (by omega)]
    simp only [bs]
    rw [ck_in (by omega) (by omega), ck_in (by omega) (by omega)]
    simp only [bs]
    rw [show ((n : Int) - (f : Int) - 1) = ((n - f - 1 : Nat) : Int) by omega, show (((r + 1 : Nat) : Int) - 1) = (r : Int) by omega, hrec f (by omega)]
    simp only [bs]
    have hlen := chs_len (n := n - f - 1) (by omega) r 0 []
    have h8 : 6 ^ r ≤ 6 ^ 6 := Nat.pow_le_pow_right (by omega) hr
    have h9 : (6 : Nat) ^ 6 = 46656 := by decide
    rw [rkCh_l2 f (by omega) _ 0 l (by omega) (fun t ht => by
      obtain ⟨u, e, h1, h2⟩ := chs_mem ht
      have e : t = u := e
      subst e
      exact ⟨by omega, fun x hx => by have := h2 x hx; omega⟩)]
    simp only [bs]
    rw [ck_nat (by omega)]
    simp only [bs]
    have hs := chs_shift (n - f - 1) (f + 1) [(f : Int)] r 0 []
    rw [show n - f - 1 + (f + 1) = n by omega, Nat.zero_add, List.map_nil, List.append_nil] at hs
    rw [← hs, ih fuel (f + 1) _ (by omega) (by omega) (by
      have := chs_len (n := n) hn r (f + 1) [(f : Int)]
      rw [List.length_append, Nat.succ_mul]; omega), List.range'_succ, List.flatMap_cons, List.append_assoc]
theorem rkChoices_eq : ∀ (r k n : Nat), n ≤ 6 → r ≤ 6 → r < k → spec_rkChoices_r k (n : Int) (r : Int) = some (chs n r 0 []) := by
  intro r
  induction r with
  | zero =>
    intro k n _ _ hk
    obtain ⟨k, rfl⟩ : ∃ k', k = k' + 1 := ⟨k - 1, by omega⟩
    rfl
  | succ r ih =>
    intro k n hn hr hk
    obtain ⟨k, rfl⟩ : ∃ k', k = k' + 1 := ⟨k - 1, by omega⟩
    rw [spec_rkChoices_r, spec_rkChoices_b, show (((r + 1 : Nat) : Int) == 0) = false by simp; omega]
    simp only [cF]
    have := rkCh_l1 n r hn (by omega) (spec_rkChoices_r k) (fun i hi => ih k (n - i - 1) (by omega) (by omega) (by omega)) (n - r) 4000000 0 [] (by omega) (by omega) (by simp)
    rw [show ((0 : Nat) : Int) = 0 from rfl] at this
    rw [this]
    simp only [bs, List.nil_append, chs, Nat.sub_zero]
    congr 1
    -- beyond n - r there is nothing
    by_cases hnr : r ≤ n
    · rw [show n = (n - r) + r by omega]
      rw [show n - r + r - r = n - r by omega]
      have e : List.range' 0 (n - r + r) = List.range' 0 (n - r) ++ List.range' (0 + (n - r)) r := by
        rw [← List.range'_append_1]
      rw [e, List.flatMap_append]
      have : (List.range' (0 + (n - r)) r).flatMap (fun (i : Nat) => chs (n - r + r) r (i + 1) [(i : Int)]) = [] := by
        refine List.flatMap_eq_nil_iff.2 fun i hi => ?_
        rw [List.mem_range'_1] at hi
        exact chs_nil (by omega) (by omega)
      rw [this, List.append_nil]
    · rw [show n - r = 0 by omega]
      simp only [List.range'_zero, List.flatMap_nil]
      symm
      refine List.flatMap_eq_nil_iff.2 fun i hi => ?_
      rw [List.mem_range'_1] at hi
      exact chs_nil (by omega) (by omega)

/-! ### The program's way through them -/
section
variable {σ : Type}
def choL (n : Int) (rec : Int → List Int → σ → Option (Bool × List Int × σ)) : Nat → List Int → σ → Int → Option ((Bool × List Int × σ) ⊕ (List Int × σ))
  | 0, _, _, _ => none
  | k + 1, l, s, i => cond (decide (i < n))
      ((app l i).bind fun l1 => (ck (i + 1)).bind fun c => (rec c l1 s).bind fun y => cond (!y.1) (some (Sum.inl (false, y.2)))
        ((ck ((y.2.1.length : Int) - 1)).bind fun c => (cutO y.2.1 c).bind fun l2 => (ck (i + 1)).bind fun c => choL n rec k l2 y.2.2 c))
      (some (Sum.inr (l, s)))
def choB (f : List Int → σ → Option (Bool × σ)) (n kk : Int) (rec : Int → List Int → σ → Option (Bool × List Int × σ)) (i : Int) (l : List Int) (s : σ) : Option (Bool × List Int × σ) :=
  cond ((l.length : Int) == kk) ((f l s).bind fun y => some (y.1, l, y.2)) ((choL n rec 4000000 l s i).bind fun r => Sum.elim (fun rv => some rv) (fun s => some (true, s)) r)
def choR (f : List Int → σ → Option (Bool × σ)) (n kk : Int) : Nat → Int → List Int → σ → Option (Bool × List Int × σ)
  | 0 => fun _ _ _ => none
  | k + 1 => choB f n kk (choR f n kk k)
/-- The visitor's answers, until it wants no more. -/
def foldG {α : Type} (g : α → σ → Bool × σ) : List α → σ → Bool × σ
  | [], s => (true, s)
  | a :: r, s => cond (g a s).1 (foldG g r (g a s).2) (false, (g a s).2)
theorem foldG_append {α : Type} (g : α → σ → Bool × σ) : ∀ (a b : List α) (s : σ), foldG g (a ++ b) s = cond (foldG g a s).1 (foldG g b (foldG g a s).2) (false, (foldG g a s).2)
  | [], b, s => rfl
  | x :: a, b, s => by
    simp only [List.cons_append, foldG]
    cases (g x s).1
    · rfl
    · exact foldG_append g a b _
theorem choL_eq {f : List Int → σ → Option (Bool × σ)} {g : List Int → σ → Bool × σ} {n r : Nat} (hn : n ≤ 1000) {rec : Int → List Int → σ → Option (Bool × List Int × σ)} {l : List Int} (hl : l.length ≤ 1000)
    (hrec : ∀ i s, i < n → ∃ l', rec ((i + 1 : Nat) : Int) (l ++ [(i : Int)]) s = some ((foldG g (chs n r (i + 1) (l ++ [(i : Int)])) s).1, l', (foldG g (chs n r (i + 1) (l ++ [(i : Int)])) s).2) ∧ ((foldG g (chs n r (i + 1) (l ++ [(i : Int)])) s).1 = true → l' = l ++ [(i : Int)])) :
    ∀ (q fuel i : Nat) (s : σ), q = n - i → q < fuel →
      ((foldG g ((List.range' i q).flatMap fun (i : Nat) => chs n r (i + 1) (l ++ [(i : Int)])) s).1 = true ∧ choL (n : Int) rec fuel l s (i : Int) = some (Sum.inr (l, (foldG g ((List.range' i q).flatMap fun (i : Nat) => chs n r (i + 1) (l ++ [(i : Int)])) s).2))) ∨
      ((foldG g ((List.range' i q).flatMap fun (i : Nat) => chs n r (i + 1) (l ++ [(i : Int)])) s).1 = false ∧ ∃ l', choL (n : Int) rec fuel l s (i : Int) = some (Sum.inl (false, l', (foldG g ((List.range' i q).flatMap fun (i : Nat) => chs n r (i + 1) (l ++ [(i : Int)])) s).2))) := by
  intro q
  induction q with
  | zero =>
    intro fuel i s hi hf
    obtain ⟨fuel, rfl⟩ : ∃ k', fuel = k' + 1 := ⟨fuel - 1, by omega⟩
    rw [choL, decide_eq_false (by omega)]
    exact .inl ⟨rfl, rfl⟩
  | succ q ih =>
    intro fuel i s hi hf
    obtain ⟨fuel, rfl⟩ : ∃ k', fuel = k' + 1 := ⟨fuel - 1, by omega⟩
    rw [choL, decide_eq_true (by omega), app_lt (by omega), ck_nat (by omega)]
    simp only [cT, bs]
    obtain ⟨l', h1, h2⟩ := hrec i s (by omega)
    rw [h1, List.range'_succ, List.flatMap_cons, foldG_append]
    simp only [bs]
    generalize foldG g (chs n r (i + 1) (l ++ [(i : Int)])) s = y at h1 h2 ⊢
    obtain ⟨b, s'⟩ := y
    cases b with
    | false => simp only [Bool.not_false, cT, cF]; exact .inr ⟨trivial, l', rfl⟩
    | true =>
      have h3 : l' = l ++ [(i : Int)] := h2 rfl
      subst h3
      simp only [Bool.not_true, cF, cT]
      have e1 : ck (((l ++ [(i : Int)]).length : Int) - 1) = some ((l.length : Nat) : Int) := by
        rw [ck_in (by simp <;> omega) (by simp <;> omega)]
        rw [show (((l ++ [(i : Int)]).length : Int) - 1) = (l.length : Int) by simp]
      rw [e1]
      simp only [bs]
      rw [cut_nat (by simp), List.take_left' rfl]
      simp only [bs]
      exact ih fuel (i + 1) s' (by omega) (by omega)
theorem choR_eq {f : List Int → σ → Option (Bool × σ)} {g : List Int → σ → Bool × σ} {n kk : Nat} (hn : n ≤ 1000) (hk : kk ≤ 1000) (hf : ∀ a s, a.length = kk → (∀ x ∈ a, 0 ≤ x ∧ x < (n : Int)) → f a s = some (g a s)) :
    ∀ (r k i : Nat) (l : List Int) (s : σ), l.length + r = kk → r < k → (∀ x ∈ l, 0 ≤ x ∧ x < (n : Int)) → ∃ l', choR f (n : Int) (kk : Int) k (i : Int) l s = some ((foldG g (chs n r i l) s).1, l', (foldG g (chs n r i l) s).2) ∧ ((foldG g (chs n r i l) s).1 = true → l' = l) := by
  intro r
  induction r with
  | zero =>
    intro k i l s hl hk hv
    obtain ⟨k, rfl⟩ : ∃ k', k = k' + 1 := ⟨k - 1, by omega⟩
    rw [choR, choB, show ((l.length : Int) == (kk : Int)) = true by simp; omega, hf l s (by omega) hv]
    simp only [cT, bs, chs, foldG]
    generalize g l s = y
    obtain ⟨b, s'⟩ := y
    cases b <;> exact ⟨l, rfl, fun _ => rfl⟩
  | succ r ih =>
    intro k i l s hl hk hv
    obtain ⟨k, rfl⟩ : ∃ k', k = k' + 1 := ⟨k - 1, by omega⟩
    rw [choR, choB, show ((l.length : Int) == (kk : Int)) = false by simp; omega]
    simp only [cF]
    have main := choL_eq (f := f) (g := g) (r := r) (rec := choR f (n : Int) (kk : Int) k) hn (l := l) (by omega) (fun j s hj => ih k (j + 1) _ s (by simp; omega) (by omega) (fun x hx => by
      rcases List.mem_append.1 hx with e | e
      · exact hv x e
      · simp at e; omega)) (n - i) 4000000 i s rfl (by omega)
    rw [chs]
    rcases main with ⟨h1, h2⟩ | ⟨h1, l', h2⟩
    · rw [h2, h1]
      simp only [bs, elR]
      exact ⟨l, rfl, fun _ => rfl⟩
    · rw [h2, h1]
      simp only [bs, elL]
      exact ⟨l', rfl, fun h => by cases h⟩
end

/-! ### Parts of a matrix -/
def partF (m : List (List Int)) (a b : List Int) : List (List Int) := a.map fun i => b.map fun k => En m i.toNat k.toNat
theorem partF_l2 {m : List (List Int)} {c : Nat} (sh : ∀ r ∈ m, r.length = c) (a : Int) (ha : 0 ≤ a ∧ a < m.length) (q : List Int) : ∀ j l, l.length + q.length < 1000000 → (∀ x ∈ q, 0 ≤ x ∧ x < c) →
    spec_rkPart_l2 m a q j l = some (l ++ q.map fun k => En m a.toNat k.toNat) ∧ impl_partOf_l2 m a q j l = some (l ++ q.map fun k => En m a.toNat k.toNat) := by
  induction q with
  | nil => intro j l _ _; simp [spec_rkPart_l2, impl_partOf_l2]
  | cons x q ih =>
    intro j l hl hq
    simp only [List.length_cons] at hl
    have hx := hq x List.mem_cons_self
    have hr := sh _ (nthM_mem (show a.toNat < m.length by omega))
    rw [spec_rkPart_l2, impl_partOf_l2, idx_intM ha.1 ha.2]
    simp only [bs]
    rw [idx_int hx.1 (by omega)]
    simp only [bs]
    rw [app_lt (by omega)]
    simp only [bs]
    have := ih (j + 1) (l ++ [nth (nthM m a.toNat) x.toNat]) (by simp; omega) (fun y hy => hq y (List.mem_cons_of_mem _ hy))
    rw [this.1, this.2]
    simp [En]
theorem partF_l1 {m : List (List Int)} {c : Nat} (sh : ∀ r ∈ m, r.length = c) (p : List Int) (hp : p.length < 10000) (hpc : ∀ x ∈ p, 0 ≤ x ∧ x < c) (q : List Int) : ∀ j l, l.length + q.length < 1000000 → (∀ x ∈ q, 0 ≤ x ∧ x < m.length) →
    spec_rkPart_l1 m p q j l = some (l ++ partF m q p) ∧ impl_partOf_l1 m p q j l = some (l ++ partF m q p) := by
  induction q with
  | nil => intro j l _ _; simp [spec_rkPart_l1, impl_partOf_l1, partF]
  | cons x q ih =>
    intro j l hl hq
    simp only [List.length_cons] at hl
    have h2 := partF_l2 sh x (hq x List.mem_cons_self) p 0 [] (by simp; omega) hpc
    rw [spec_rkPart_l1, impl_partOf_l1, h2.1, h2.2]
    simp only [bs]
    rw [app_lt (by omega)]
    simp only [bs]
    have := ih (j + 1) (l ++ [[] ++ p.map fun k => En m x.toNat k.toNat]) (by simp; omega) (fun z hz => hq z (List.mem_cons_of_mem _ hz))
    rw [this.1, this.2]
    simp [partF]
theorem partF_eq {m : List (List Int)} {c : Nat} (sh : ∀ r ∈ m, r.length = c) (a b : List Int) (ha : a.length ≤ 6) (hb : b.length ≤ 6) (ham : ∀ x ∈ a, 0 ≤ x ∧ x < m.length) (hbc : ∀ x ∈ b, 0 ≤ x ∧ x < c) :
    spec_rkPart_m m a b = some (partF m a b) ∧ impl_partOf_m m a b = some (partF m a b) := by
  unfold spec_rkPart_m impl_partOf_m
  have := partF_l1 sh b (by omega) hbc a 0 [] (by simp; omega) ham
  rw [this.1, this.2]
  simp
theorem partF_good {m : List (List Int)} {c : Nat} (g : Good m c) {a b : List Int} (h0 : 1 ≤ a.length) (ha : a.length ≤ 6) (hb : b.length = a.length) (ham : ∀ x ∈ a, 0 ≤ x ∧ x < m.length) (hbc : ∀ x ∈ b, 0 ≤ x ∧ x < c) : Good (partF m a b) a.length := by
  have hr : ∀ l ∈ partF m a b, l.length = a.length := fun l hl => by
    obtain ⟨i, _, rfl⟩ := List.mem_map.1 hl
    simp [hb]
  refine ⟨by simpa [partF] using h0, by simpa [partF] using ha, h0, ha, ?_, hr, fun l hl x hx => ?_⟩
  · refine hr _ ?_
    cases a with
    | nil => simp at h0
    | cons i a => simp [partF, hd]
  · obtain ⟨i, hi, rfl⟩ := List.mem_map.1 hl
    obtain ⟨k, hk, rfl⟩ := List.mem_map.1 hx
    have := ham i hi; have := hbc k hk
    exact En_num g (by omega) (by omega)
theorem sing_reg {m : List (List Int)} {n : Nat} (g : Good m n) (hn : m.length = n) : ∃ b, spec_rkSingular_m m = some b ∧ impl_isRegular_m m = some (!b) := by
  unfold spec_rkSingular_m impl_isRegular_m
  rw [mxBest_start g hn, permanent_eq g hn]
  simp only [bs]
  have h0 := bestF_cnt (pcosts m n n [] 0)
  have h1 := @bestF_zero (pcosts m n n [] 0)
  generalize bestF (pcosts m n n [] 0) = y at h0 h1 ⊢
  by_cases c1 : y.1 = 1000000000
  · rw [show (y.1 == 1000000000) = true by simp [c1], show (y.1 != 1000000000) = false by simp [c1]]
    exact ⟨_, rfl, rfl⟩
  · rw [show (y.1 == 1000000000) = false by simp [c1], show (y.1 != 1000000000) = true by simp [c1]]
    have h2 : y.2 ≠ 0 := fun e => c1 (h1 e)
    simp only [cF, cT, bs]
    by_cases c2 : y.2 = 1
    · rw [c2]
      exact ⟨_, rfl, rfl⟩
    · rw [show (y.2 == 1) = false by simp [c2], decide_eq_true (show y.2 > 1 by omega)]
      exact ⟨_, rfl, rfl⟩
def singF (m : List (List Int)) (a b : List Int) : Bool := (spec_rkSingular_m (partF m a b)).getD true
/-- The first columns with which the rows make a regular part. -/
def colsF (m : List (List Int)) (a : List Int) (L : List (List Int)) : Option (List Int) := L.find? fun b => !singF m a b
def rowsF (m : List (List Int)) (C : List (List Int)) : List (List Int) → Option (List Int × List Int)
  | [] => none
  | a :: q => match colsF m a C with
    | some b => some (a, b)
    | none => rowsF m C q
def gIn (m : List (List Int)) (a : List Int) (b : List Int) (s : List Int × List Int) : Bool × List Int × List Int := cond (singF m a b) (true, s.1, s.2) (false, a, b)
theorem foldIn (m : List (List Int)) (a : List Int) : ∀ (L : List (List Int)) (s : List Int × List Int), foldG (gIn m a) L s = match colsF m a L with | some b => (false, a, b) | none => (true, s)
  | [], s => rfl
  | b :: L, s => by
    unfold colsF
    rw [foldG, List.find?_cons]
    unfold gIn
    cases hb : singF m a b
    · rfl
    · simp only [cT, Bool.not_true]
      exact foldIn m a L s
def gOut (m : List (List Int)) (C : List (List Int)) (a : List Int) (s : List Int × List Int) : Bool × List Int × List Int := match colsF m a C with | some b => (false, a, b) | none => (true, s)
theorem foldOut (m : List (List Int)) (C : List (List Int)) : ∀ (L : List (List Int)) (s : List Int × List Int), foldG (gOut m C) L s = match rowsF m C L with | some x => (false, x.1, x.2) | none => (true, s)
  | [], s => rfl
  | a :: L, s => by
    rw [foldG, rowsF]
    unfold gOut
    cases hb : colsF m a C
    · exact foldOut m C L s
    · rfl
theorem in_choL (n kk : Int) (m : List (List Int)) (r : List Int) (rec : Int → List Int → Int → Int → List (List Int) → List Int → List Int → List Int → Option (Bool × List Int × List Int × List Int)) (rec' : Int → List Int → List Int × List Int → Option (Bool × List Int × List Int × List Int))
    (h : ∀ i l a b, rec i l kk n m r a b = rec' i l (a, b)) : ∀ k l a b i, impl_choices_1_in_l1 kk n m r rec k l a b i = choL n rec' k l (a, b) i := by
  intro k
  induction k with
  | zero => intro l a b i; rfl
  | succ k ih =>
    intro l a b i
    rw [impl_choices_1_in_l1, choL]
    simp only [ih, h, Prod.eta]
theorem in_choR (n kk : Int) (m : List (List Int)) (r : List Int) : ∀ k i l a b, impl_choices_1_in_r k i l kk n m r a b = choR (fun l s => impl_firstRegular_1_1_m l m r s.1 s.2) n kk k i l (a, b) := by
  intro k
  induction k with
  | zero => intro i l a b; rfl
  | succ k ih =>
    intro i l a b
    rw [impl_choices_1_in_r, choR, impl_choices_1_in_b, choB, in_choL n kk m r _ _ ih]
theorem out_choL (n kk nn : Int) (m : List (List Int)) (rec : Int → List Int → Int → Int → List (List Int) → Int → List Int → List Int → Option (Bool × List Int × List Int × List Int)) (rec' : Int → List Int → List Int × List Int → Option (Bool × List Int × List Int × List Int))
    (h : ∀ i l a b, rec i l kk n m nn a b = rec' i l (a, b)) : ∀ k l a b i, impl_choices_1_out_l1 kk n m nn rec k l a b i = choL n rec' k l (a, b) i := by
  intro k
  induction k with
  | zero => intro l a b i; rfl
  | succ k ih =>
    intro l a b i
    rw [impl_choices_1_out_l1, choL]
    simp only [ih, h, Prod.eta]
theorem out_choR (n kk nn : Int) (m : List (List Int)) : ∀ k i l a b, impl_choices_1_out_r k i l kk n m nn a b = choR (fun l s => impl_firstRegular_1_m l m nn s.1 s.2) n kk k i l (a, b) := by
  intro k
  induction k with
  | zero => intro i l a b; rfl
  | succ k ih =>
    intro i l a b
    rw [impl_choices_1_out_r, choR, impl_choices_1_out_b, choB, out_choL n kk nn m _ _ ih]
section
variable {m : List (List Int)} {c : Nat} (g : Good m c)
include g
theorem sing_at {a b : List Int} (h0 : 1 ≤ a.length) (ha : a.length ≤ 6) (hb : b.length = a.length) (ham : ∀ x ∈ a, 0 ≤ x ∧ x < (m.length : Int)) (hbc : ∀ x ∈ b, 0 ≤ x ∧ x < (c : Int)) :
    spec_rkPart_m m a b = some (partF m a b) ∧ impl_partOf_m m a b = some (partF m a b) ∧ spec_rkSingular_m (partF m a b) = some (singF m a b) ∧ impl_isRegular_m (partF m a b) = some (!singF m a b) := by
  obtain ⟨h1, h2⟩ := partF_eq g.row a b ha (by omega) ham hbc
  obtain ⟨x, h3, h4⟩ := sing_reg (partF_good g h0 ha hb ham hbc) (by simp [partF])
  refine ⟨h1, h2, ?_, ?_⟩
  · unfold singF; rw [h3]; rfl
  · unfold singF; rw [h3, h4]; rfl
theorem inner_eq {a : List Int} {n : Nat} (h0 : 1 ≤ n) (h6 : n ≤ 6) (ha : a.length = n) (ham : ∀ x ∈ a, 0 ≤ x ∧ x < (m.length : Int)) (s : List Int × List Int) :
    impl_choices_in_m (c : Int) (n : Int) m a s.1 s.2 = some (match colsF m a (chs c n 0 []) with | some b => (false, a, b) | none => (true, s)) := by
  have hc := g.chi
  unfold impl_choices_in_m impl_choices_1_in_m
  rw [in_choR]
  obtain ⟨l', h1, _⟩ := choR_eq (f := fun l s => impl_firstRegular_1_1_m l m a s.1 s.2) (g := gIn m a) (n := c) (kk := n) (by omega) (by omega) (fun b s hb hv => by
    obtain ⟨h1, h2, h3, h4⟩ := sing_at g (a := a) (b := b) (by omega) (by omega) (by omega) ham hv
    unfold impl_firstRegular_1_1_m gIn
    rw [h2]
    simp only [bs]
    rw [h4]
    simp only [bs]
    cases singF m a b
    · simp only [Bool.not_false, Bool.not_true, cF]
      rw [Clone_eq (by omega), Clone_eq (by omega)]
      rfl
    · rfl) n 64 0 [] s (by simp) (by omega) (fun x hx => by cases hx)
  rw [show ((0 : Nat) : Int) = 0 from rfl] at h1
  rw [show (s.1, s.2) = s from rfl, h1, foldIn]
  simp only [bs]
theorem firstRegular_eq {n : Nat} (h0 : 1 ≤ n) (h6 : n ≤ 6) : impl_firstRegular_m m (n : Int) = some (match rowsF m (chs c n 0 []) (chs m.length n 0 []) with | some x => (x.1, x.2, true) | none => ([], [], false)) := by
  have hm := g.hi
  have hlo := g.lo
  unfold impl_firstRegular_m impl_choices_out_m impl_choices_1_out_m
  rw [out_choR]
  obtain ⟨l', h1, _⟩ := choR_eq (f := fun l s => impl_firstRegular_1_m l m (n : Int) s.1 s.2) (g := gOut m (chs c n 0 [])) (n := m.length) (kk := n) (by omega) (by omega) (fun a s ha hv => by
    unfold impl_firstRegular_1_m
    rw [idx_head (by omega)]
    simp only [bs]
    rw [g.head, inner_eq g h0 h6 ha hv s]
    simp only [bs]
    unfold gOut
    cases colsF m a (chs c n 0 []) <;> rfl) n 64 0 [] ([], []) (by simp) (by omega) (fun x hx => by cases hx)
  rw [show ((0 : Nat) : Int) = 0 from rfl] at h1
  rw [h1, foldOut]
  simp only [bs]
  cases rowsF m (chs c n 0 []) (chs m.length n 0 []) <;> rfl
theorem rkFirst_l2_eq {a : List Int} {n : Nat} (h0 : 1 ≤ n) (h6 : n ≤ 6) (ha : a.length = n) (ham : ∀ x ∈ a, 0 ≤ x ∧ x < (m.length : Int)) (q : List (List Int)) (hq : ∀ b ∈ q, b.length = n ∧ ∀ x ∈ b, 0 ≤ x ∧ x < (c : Int)) :
    ∀ j, spec_rkFirst_l2 m a q j = some (match colsF m a q with | some b => Sum.inl (a, b, true) | none => Sum.inr ()) := by
  induction q with
  | nil => intro j; rfl
  | cons b q ih =>
    intro j
    obtain ⟨hb, hv⟩ := hq b List.mem_cons_self
    obtain ⟨h1, h2, h3, h4⟩ := sing_at g (a := a) (b := b) (by omega) (by omega) (by omega) ham hv
    have ih := ih (fun x hx => hq x (List.mem_cons_of_mem _ hx)) (j + 1)
    unfold colsF at ih ⊢
    rw [spec_rkFirst_l2, h1]
    simp only [bs]
    rw [h3, List.find?_cons]
    simp only [bs]
    cases singF m a b
    · rfl
    · simp only [Bool.not_true, cF]
      exact ih
theorem rkFirst_l1_eq {n : Nat} (h0 : 1 ≤ n) (h6 : n ≤ 6) (q : List (List Int)) (hq : ∀ b ∈ q, b.length = n ∧ ∀ x ∈ b, 0 ≤ x ∧ x < (m.length : Int)) :
    ∀ j, spec_rkFirst_l1 m (n : Int) q j = some (match rowsF m (chs c n 0 []) q with | some x => Sum.inl (x.1, x.2, true) | none => Sum.inr ()) := by
  have hlo := g.lo
  have hc := g.chi
  induction q with
  | nil => intro j; rfl
  | cons a q ih =>
    intro j
    obtain ⟨ha, hv⟩ := hq a List.mem_cons_self
    have ih := ih (fun x hx => hq x (List.mem_cons_of_mem _ hx)) (j + 1)
    rw [spec_rkFirst_l1, idx_head (by omega)]
    simp only [bs]
    unfold spec_rkChoices_m
    rw [g.head, rkChoices_eq n 64 c hc h6 (by omega)]
    simp only [bs]
    rw [rkFirst_l2_eq g h0 h6 ha hv _ (fun b hb => by
      obtain ⟨t, e, h1, h2⟩ := chs_mem hb
      have e : b = t := e
      subst e
      exact ⟨h1, h2⟩), rowsF]
    simp only [bs]
    cases colsF m a (chs c n 0 []) with
    | none => simp only [elR]; exact ih
    | some b => simp only [elL]
theorem rkFirst_eq {n : Nat} (h0 : 1 ≤ n) (h6 : n ≤ 6) : spec_rkFirst_m m (n : Int) = some (match rowsF m (chs c n 0 []) (chs m.length n 0 []) with | some x => (x.1, x.2, true) | none => ([], [], false)) := by
  have hm := g.hi
  unfold spec_rkFirst_m spec_rkChoices_m
  rw [rkChoices_eq n 64 m.length hm h6 (by omega)]
  simp only [bs]
  rw [rkFirst_l1_eq g h0 h6 _ (fun b hb => by
      obtain ⟨t, e, h1, h2⟩ := chs_mem hb
      have e : b = t := e
      subst e
      exact ⟨h1, h2⟩)]
  simp only [bs]
  cases rowsF m (chs c n 0 []) (chs m.length n 0 []) <;> rfl
omit g in
theorem rowsF_mem {C : List (List Int)} : ∀ {L : List (List Int)} {x : List Int × List Int}, rowsF m C L = some x → x.1 ∈ L ∧ x.2 ∈ C
  | a :: L, x, h => by
    rw [rowsF] at h
    cases hb : colsF m a C with
    | none => rw [hb] at h; have := rowsF_mem h; exact ⟨List.mem_cons_of_mem _ this.1, this.2⟩
    | some b =>
      rw [hb] at h
      cases h
      exact ⟨List.mem_cons_self, List.mem_of_find?_eq_some hb⟩
theorem rank_l1_eq : ∀ (n fuel : Nat), n ≤ 6 → n < fuel → spec_rkRank_l1 m fuel (n : Int) = impl_tropicalRank_l1 m fuel (n : Int) ∧ ∃ r, spec_rkRank_l1 m fuel (n : Int) = some r := by
  intro n
  induction n with
  | zero =>
    intro fuel _ hf
    obtain ⟨fuel, rfl⟩ : ∃ k', fuel = k' + 1 := ⟨fuel - 1, by omega⟩
    rw [spec_rkRank_l1, impl_tropicalRank_l1, decide_eq_false (by omega)]
    exact ⟨rfl, _, rfl⟩
  | succ n ih =>
    intro fuel h6 hf
    obtain ⟨fuel, rfl⟩ : ∃ k', fuel = k' + 1 := ⟨fuel - 1, by omega⟩
    rw [spec_rkRank_l1, impl_tropicalRank_l1, decide_eq_true (by omega), firstRegular_eq g (by omega) h6, rkFirst_eq g (by omega) h6]
    simp only [cT, bs]
    rw [ck_in (by omega) (by omega)]
    simp only [bs]
    rw [show (((n + 1 : Nat) : Int) - 1) = (n : Int) by omega]
    cases rowsF m (chs c (n + 1) 0 []) (chs m.length (n + 1) 0 []) with
    | none => simp only [cF]; exact ih fuel (by omega) (by omega)
    | some x => exact ⟨rfl, _, rfl⟩
theorem rank_eq : ∃ r, spec_rkRank_m m = some r ∧ impl_tropicalRank_m m = some r := by
  have hlo := g.lo
  have hm := g.hi
  have hc := g.chi
  unfold spec_rkRank_m impl_tropicalRank_m
  rw [idx_head (by omega)]
  simp only [bs, l1Least_eq]
  rw [g.head, show (min (m.length : Int) (c : Int)) = ((min m.length c : Nat) : Int) by omega]
  obtain ⟨h1, r, h2⟩ := rank_l1_eq g (min m.length c) 4000000 (by omega) (by omega)
  rw [← h1, h2]
  simp only [bs]
  cases r
  · simp only [elL]; exact ⟨_, rfl, rfl⟩
  · simp only [elR]; exact ⟨_, rfl, rfl⟩
end
theorem TropicalRank_both (m : List (List Int)) : ∃ r, spec_TropicalRank_m m = some r ∧ impl_TropicalRank_m m = some r ∧ True := by
  unfold spec_TropicalRank_m impl_TropicalRank_m
  rw [mxGood_eq, isMatrix_eq]
  simp only [bs]
  cases hs : mat m with
  | false => exact ⟨_, rfl, rfl, trivial⟩
  | true =>
    obtain ⟨r, h1, h2⟩ := rank_eq (mat_good hs)
    simp only [Bool.not_true, cF]
    rw [h1, h2]
    exact ⟨_, rfl, rfl, trivial⟩
theorem FirstRegular_both (m : List (List Int)) (p : Int) : ∃ r, spec_FirstRegular_m m p = some r ∧ impl_FirstRegular_m m p = some r ∧ Small r.1 ∧ Small r.2.1 := by
  unfold spec_FirstRegular_m impl_FirstRegular_m
  rw [mxGood_eq, isMatrix_eq, l1In_eq, within_eq]
  simp only [bs]
  cases hs : mat m with
  | false => exact ⟨_, rfl, rfl, by simp [Small], by simp [Small]⟩
  | true =>
    simp only [Bool.not_true, cF, bs]
    cases hp : inR p 1 6 with
    | false => exact ⟨_, rfl, rfl, by simp [Small], by simp [Small]⟩
    | true =>
      have hp := (inR_iff _ _ _).1 hp
      have g := mat_good hs
      simp only [Bool.not_true, cF]
      obtain ⟨n, rfl⟩ : ∃ n : Nat, p = (n : Int) := ⟨p.toNat, by omega⟩
      rw [rkFirst_eq g (by omega) (by omega), firstRegular_eq g (by omega) (by omega)]
      simp only [bs]
      refine ⟨_, rfl, rfl, ?_⟩
      cases hx : rowsF m (chs (hd m).length n 0 []) (chs m.length n 0 []) with
      | none => exact ⟨by simp [Small], by simp [Small]⟩
      | some x =>
        obtain ⟨h1, h2⟩ := rowsF_mem hx
        obtain ⟨t, e, h3, _⟩ := chs_mem h1
        obtain ⟨u, e', h4, _⟩ := chs_mem h2
        simp only [Small]
        rw [e, e']
        simp only [List.nil_append]
        omega
end Go.Proofs.Ytaagklbiebogfaa
