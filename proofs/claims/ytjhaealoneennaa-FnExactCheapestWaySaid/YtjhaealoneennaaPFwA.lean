/- The least costs of ways, in plain Lean: the steps of Bellman and Ford against the loops of Floyd and Warshall. Costs are numbers or none (no way). No program is named here. -/
import Derived.Test.YtjhaealoneennaaMem
namespace Go.Proofs.Ytjhaealoneennaa
set_option linter.unusedVariables false
set_option linter.unusedSimpArgs false
set_option linter.unusedSectionVars false

abbrev Ex := Option Int
abbrev Mt := Nat → Nat → Ex
def padd : Ex → Ex → Ex
  | some a, some b => some (a + b)
  | _, _ => none
def pmin : Ex → Ex → Ex
  | some a, some b => some (min a b)
  | none, b => b
  | some a, none => some a
def ple : Ex → Ex → Prop
  | _, none => True
  | none, some _ => False
  | some a, some b => a ≤ b
theorem ple_none (a : Ex) : ple a none := by cases a <;> trivial
theorem ple_refl (a : Ex) : ple a a := by cases a with | none => trivial | some a => exact Int.le_refl a
theorem ple_trans {a b c : Ex} (h : ple a b) (h' : ple b c) : ple a c := by
  cases c with
  | none => exact ple_none a
  | some c => cases b with
    | none => exact h'.elim
    | some b => cases a with
      | none => exact h.elim
      | some a => exact Int.le_trans h h'
theorem ple_antisymm {a b : Ex} (h : ple a b) (h' : ple b a) : a = b := by
  cases a with
  | none => cases b with
    | none => rfl
    | some b => exact h.elim
  | some a => cases b with
    | none => exact h'.elim
    | some b => rw [Int.le_antisymm h h']
theorem padd_mono {a a' b b' : Ex} (h : ple a a') (h' : ple b b') : ple (padd a b) (padd a' b') := by
  cases a' with
  | none => exact ple_none _
  | some a' => cases b' with
    | none => exact ple_none _
    | some b' => cases a with
      | none => exact h.elim
      | some a => cases b with
        | none => exact h'.elim
        | some b => exact Int.add_le_add h h'
theorem padd_assoc (a b c : Ex) : padd (padd a b) c = padd a (padd b c) := by
  cases a <;> cases b <;> cases c <;> simp [padd, Int.add_assoc]
theorem padd_zero (a : Ex) : padd a (some 0) = a := by cases a <;> simp [padd]
theorem zero_padd (a : Ex) : padd (some 0) a = a := by cases a <;> simp [padd]
theorem padd_none (a : Ex) : padd a none = none := by cases a <;> rfl
theorem pmin_left (a b : Ex) : ple (pmin a b) a := by
  cases a with
  | none => exact ple_none _
  | some a => cases b with
    | none => exact Int.le_refl a
    | some b => show min a b ≤ a; omega
theorem pmin_right (a b : Ex) : ple (pmin a b) b := by
  cases a with
  | none => cases b with
    | none => trivial
    | some b => exact Int.le_refl b
  | some a => cases b with
    | none => exact ple_none _
    | some b => show min a b ≤ b; omega
theorem pmin_or (a b : Ex) : pmin a b = a ∨ pmin a b = b := by
  cases a with
  | none => exact .inr rfl
  | some a => cases b with
    | none => exact .inl rfl
    | some b =>
      by_cases h : a ≤ b
      · exact .inl (by simp [pmin]; omega)
      · exact .inr (by simp [pmin]; omega)
theorem le_pmin {a b c : Ex} (h : ple c a) (h' : ple c b) : ple c (pmin a b) := by
  rcases pmin_or a b with e | e <;> rw [e] <;> assumption

/-! ### The steps -/
def inf (f : Nat → Ex) : List Nat → Ex → Ex
  | [], a => a
  | j :: q, a => inf f q (pmin a (f j))
theorem inf_init (f : Nat → Ex) (q : List Nat) : ∀ a, ple (inf f q a) a := by
  induction q with
  | nil => intro a; exact ple_refl a
  | cons j q ih => intro a; exact ple_trans (ih _) (pmin_left _ _)
theorem inf_le (f : Nat → Ex) (q : List Nat) : ∀ a, ∀ j ∈ q, ple (inf f q a) (f j) := by
  induction q with
  | nil => intro a j h; cases h
  | cons x q ih =>
    intro a j h
    rcases List.mem_cons.1 h with e | e
    · subst e; exact ple_trans (inf_init f q _) (pmin_right _ _)
    · exact ih _ j e
theorem inf_or (f : Nat → Ex) (q : List Nat) : ∀ a, inf f q a = a ∨ ∃ j ∈ q, inf f q a = f j := by
  induction q with
  | nil => intro a; exact .inl rfl
  | cons x q ih =>
    intro a
    rcases ih (pmin a (f x)) with h | ⟨j, hj, h⟩
    · rcases pmin_or a (f x) with e | e
      · exact .inl (by rw [inf, h, e])
      · exact .inr ⟨x, List.mem_cons_self, by rw [inf, h, e]⟩
    · exact .inr ⟨j, List.mem_cons_of_mem _ hj, h⟩
def stepF (n : Nat) (m c : Mt) : Mt := fun i k => inf (fun j => padd (c i j) (m j k)) (List.range n) (c i k)
def startF : Mt := fun i k => if i = k then some 0 else none
def cs (n : Nat) (m : Mt) : Nat → Mt
  | 0 => startF
  | t + 1 => stepF n m (cs n m t)
section
variable {n : Nat} {m : Mt}
theorem cs_le (t i k : Nat) : ple (cs n m (t + 1) i k) (cs n m t i k) := inf_init _ _ _
theorem cs_st (t i k j : Nat) (hj : j < n) : ple (cs n m (t + 1) i k) (padd (cs n m t i j) (m j k)) :=
  inf_le (fun j => padd (cs n m t i j) (m j k)) (List.range n) _ j (List.mem_range.2 hj)
theorem cs_or (t i k : Nat) : cs n m (t + 1) i k = cs n m t i k ∨ ∃ j, j < n ∧ cs n m (t + 1) i k = padd (cs n m t i j) (m j k) := by
  rcases inf_or (fun j => padd (cs n m t i j) (m j k)) (List.range n) (cs n m t i k) with h | ⟨j, hj, h⟩
  · exact .inl h
  · exact .inr ⟨j, List.mem_range.1 hj, h⟩
theorem cs_mono (i k s : Nat) : ∀ t, ple (cs n m (s + t) i k) (cs n m s i k)
  | 0 => ple_refl _
  | t + 1 => ple_trans (cs_le (s + t) i k) (cs_mono i k s t)
theorem cs_diag (t i : Nat) : ple (cs n m t i i) (some 0) := by
  have := cs_mono (n := n) (m := m) i i 0 t
  rw [Nat.zero_add] at this
  have e : cs n m 0 i i = some 0 := by simp [cs, startF]
  rw [e] at this
  exact this
/-- Two ways, one behind the other. -/
theorem cs_comp (s i j k : Nat) : ∀ t, ple (cs n m (s + t) i k) (padd (cs n m s i j) (cs n m t j k))
  | 0 => by
    by_cases h : j = k
    · subst h; simp [cs, startF, padd_zero]; exact ple_refl _
    · simp [cs, startF, h, padd_none]; exact ple_none _
  | t + 1 => by
    rcases cs_or (n := n) (m := m) t j k with h | ⟨l, hl, h⟩
    · rw [h]; exact ple_trans (cs_le (s + t) i k) (cs_comp s i j k t)
    · rw [h, ← padd_assoc]
      exact ple_trans (cs_st (s + t) i k l hl) (padd_mono (cs_comp s i j l t) (ple_refl _))
def Closed_ (n : Nat) (d : Mt) : Prop := ∀ i j k, i < n → j < n → k < n → ple (d i k) (padd (d i j) (d j k))
/-- A closed matrix below m lies below all steps. -/
theorem closed_le {d : Mt} (hc : Closed_ n d) (h0 : ∀ i, i < n → ple (d i i) (some 0)) (hm : ∀ i k, i < n → k < n → ple (d i k) (m i k)) : ∀ t i k, i < n → k < n → ple (d i k) (cs n m t i k)
  | 0, i, k, hi, hk => by
    by_cases h : i = k
    · subst h; simp [cs, startF]; exact h0 i hi
    · simp [cs, startF, h]; exact ple_none _
  | t + 1, i, k, hi, hk => by
    rcases cs_or (n := n) (m := m) t i k with h | ⟨j, hj, h⟩
    · rw [h]; exact closed_le hc h0 hm t i k hi hk
    · rw [h]; exact ple_trans (hc i j k hi hj hk) (padd_mono (closed_le hc h0 hm t i j hi hj) (hm j k hj hk))

/-! ### After n steps all is settled -/
def cnt_ (P : Nat → Bool) : Nat → Nat
  | 0 => 0
  | n + 1 => cnt_ P n + (if P n = true then 1 else 0)
theorem cnt_le_n (P : Nat → Bool) : ∀ n, cnt_ P n ≤ n
  | 0 => Nat.le_refl _
  | n + 1 => by have := cnt_le_n P n; simp only [cnt_]; split <;> omega
theorem cnt_mono {P Q : Nat → Bool} : ∀ n, (∀ v, v < n → P v = true → Q v = true) → cnt_ P n ≤ cnt_ Q n
  | 0, _ => Nat.le_refl _
  | n + 1, h => by
    have := cnt_mono n (fun v hv => h v (by omega))
    have h1 := h n (by omega)
    simp only [cnt_]
    split <;> split <;> first | omega | (rename_i a b; exact absurd (h1 a) b)
theorem cnt_lt {P Q : Nat → Bool} : ∀ n, (∀ v, v < n → P v = true → Q v = true) → (∃ v, v < n ∧ P v = false ∧ Q v = true) → cnt_ P n < cnt_ Q n
  | 0, _, ⟨v, hv, _⟩ => by omega
  | n + 1, h, ⟨v, hv, hp, hq⟩ => by
    have h1 := h n (by omega)
    simp only [cnt_]
    by_cases e : v = n
    · subst e
      have := cnt_mono v (fun u hu => h u (by omega))
      rw [hp, hq]
      simp
      omega
    · have := cnt_lt n (fun u hu => h u (by omega)) ⟨v, by omega, hp, hq⟩
      split <;> split <;> first | omega | (rename_i a b; exact absurd (h1 a) b)
theorem cnt_all {P : Nat → Bool} : ∀ n, cnt_ P n = n → ∀ v, v < n → P v = true
  | 0, _, v, hv => by omega
  | n + 1, h, v, hv => by
    have := cnt_le_n P n
    simp only [cnt_] at h
    by_cases hp : P n = true
    · rw [if_pos hp] at h
      by_cases e : v = n
      · rw [e]; exact hp
      · exact cnt_all n (by omega) v (by omega)
    · rw [if_neg hp] at h; omega
theorem cnt_pos {P : Nat → Bool} {i : Nat} (hp : P i = true) : ∀ n, i < n → 1 ≤ cnt_ P n
  | 0, h => by omega
  | n + 1, h => by
    simp only [cnt_]
    by_cases e : i = n
    · subst e; rw [if_pos hp]; omega
    · have := cnt_pos hp n (by omega); omega
def setl (n : Nat) (m d : Mt) (i t v : Nat) : Bool := cs n m t i v == d i v
theorem setl_iff {d : Mt} {i t v : Nat} : setl n m d i t v = true ↔ cs n m t i v = d i v := by simp [setl]
section
variable {d : Mt} {i : Nat} (hi : i < n) (low : ∀ t v, v < n → ple (d i v) (cs n m t i v)) (hst : ∀ u v, u < n → v < n → ple (d i v) (padd (d i u) (m u v)))
include hi low hst
theorem setl_up {t v : Nat} (hv : v < n) (h : setl n m d i t v = true) : setl n m d i (t + 1) v = true := by
  rw [setl_iff] at *
  exact ple_antisymm (h ▸ cs_le t i v) (low (t + 1) v hv)
/-- Where a step settles nothing, nothing is ever settled again. -/
theorem setl_stop {t : Nat} (h : ∀ v, v < n → setl n m d i (t + 1) v = true → setl n m d i t v = true) : ∀ s v, v < n → setl n m d i (t + s) v = true → setl n m d i t v = true
  | 0, v, hv, hs => hs
  | s + 1, v, hv, hs => by
    by_cases hp : setl n m d i (t + s) v = true
    · exact setl_stop h s v hv hp
    · rw [setl_iff] at hs
      have hs : cs n m ((t + s) + 1) i v = d i v := hs
      rcases cs_or (n := n) (m := m) (t + s) i v with e | ⟨u, hu, e⟩
      · exact absurd (setl_iff.2 (e ▸ hs)) hp
      · have hdv : ∃ z, d i v = some z := by
          cases hd : d i v with
          | some z => exact ⟨z, rfl⟩
          | none =>
            refine absurd (setl_iff.2 ?_) hp
            have := low (t + s) v hv
            rw [hd] at this ⊢
            cases hc : cs n m (t + s) i v with
            | none => rfl
            | some z => rw [hc] at this; exact this.elim
        obtain ⟨z, hz⟩ := hdv
        have hlow := low (t + s) u hu
        have htri := hst u v hu hv
        rw [hs, hz] at e
        rw [hz] at htri
        have hus : setl n m d i (t + s) u = true := by
          rw [setl_iff]
          cases hcu : cs n m (t + s) i u with
          | none => rw [hcu] at e; cases e
          | some x =>
            cases hmu : m u v with
            | none => rw [hcu, hmu] at e; cases e
            | some y =>
              rw [hcu, hmu] at e
              simp only [padd, Option.some.injEq] at e
              rw [hcu] at hlow
              rw [hmu] at htri
              cases hdu : d i u with
              | none => rw [hdu] at hlow; exact hlow.elim
              | some w =>
                rw [hdu] at hlow htri
                have h1 : w ≤ x := hlow
                have h2 : z ≤ w + y := htri
                have : x = w := by omega
                rw [this]
        have hut := setl_stop h s u hu hus
        refine h v hv ?_
        rw [setl_iff] at hut ⊢
        refine ple_antisymm ?_ (low (t + 1) v hv)
        have h3 := cs_st (n := n) (m := m) t i v u hu
        rw [hut] at h3
        have : padd (d i u) (m u v) = d i v := by
          rw [setl_iff] at hus
          rw [← hus, hz]
          exact e.symm
        rwa [this] at h3
theorem setl_count (h0 : d i i = some 0) (hT : ∃ T, ∀ v, v < n → ple (cs n m T i v) (d i v)) : ∀ t, (∀ v, v < n → setl n m d i t v = true) ∨ t + 1 ≤ cnt_ (setl n m d i t) n
  | 0 => by
    refine .inr (cnt_pos (i := i) ?_ n hi)
    rw [setl_iff, h0]
    simp [cs, startF]
  | t + 1 => by
    rcases setl_count h0 hT t with h | h
    · exact .inl fun v hv => setl_up hi low hst hv (h v hv)
    · by_cases hn : ∃ v, v < n ∧ setl n m d i t v = false ∧ setl n m d i (t + 1) v = true
      · have := cnt_lt (P := setl n m d i t) (Q := setl n m d i (t + 1)) n (fun v hv hp => setl_up hi low hst hv hp) hn
        exact .inr (by omega)
      · refine .inl fun v hv => setl_up hi low hst hv ?_
        have hstop : ∀ v, v < n → setl n m d i (t + 1) v = true → setl n m d i t v = true := fun v hv h1 => by
          cases h2 : setl n m d i t v
          · exact absurd ⟨v, hv, h2, h1⟩ hn
          · rfl
        obtain ⟨T, hT⟩ := hT
        refine setl_stop hi low hst hstop T v hv ?_
        rw [setl_iff]
        refine ple_antisymm (ple_trans ?_ (hT v hv)) (low _ v hv)
        have := cs_mono (n := n) (m := m) i v T t
        rwa [Nat.add_comm] at this
/-- After n steps every cost is the least one. -/
theorem setl_all (h0 : d i i = some 0) (hT : ∃ T, ∀ v, v < n → ple (cs n m T i v) (d i v)) (v : Nat) (hv : v < n) : cs n m n i v = d i v := by
  rcases setl_count hi low hst h0 hT n with h | h
  · exact setl_iff.1 (h v hv)
  · have := cnt_le_n (setl n m d i n) n
    omega
end
end

/-! ### The loops of Floyd and Warshall -/
def upd2 (d : Mt) (i k : Nat) (v : Ex) : Mt := fun a b => if a = i ∧ b = k then v else d a b
def rowF (j i : Nat) : Nat → Nat → Mt → Mt
  | 0, _, d => d
  | q + 1, k, d => rowF j i q (k + 1) (upd2 d i k (pmin (d i k) (padd (d i j) (d j k))))
def stageF (n j : Nat) : Nat → Nat → Mt → Mt
  | 0, _, d => d
  | q + 1, i, d => stageF n j q (i + 1) (rowF j i n 0 d)
def fwF (n : Nat) : Nat → Nat → Mt → Mt
  | 0, _, d => d
  | q + 1, j, d => fwF n q (j + 1) (stageF n j n 0 d)
/-- What every single step keeps, the loops keep. -/
theorem rowF_keep (I : Mt → Prop) (j i : Nat) (h : ∀ d k, I d → I (upd2 d i k (pmin (d i k) (padd (d i j) (d j k))))) : ∀ q k d, I d → I (rowF j i q k d)
  | 0, _, d, hd => hd
  | q + 1, k, d, hd => rowF_keep I j i h q (k + 1) _ (h d k hd)
theorem stageF_keep (I : Mt → Prop) (n j : Nat) (h : ∀ d i k, I d → I (upd2 d i k (pmin (d i k) (padd (d i j) (d j k))))) : ∀ q i d, I d → I (stageF n j q i d)
  | 0, _, d, hd => hd
  | q + 1, i, d, hd => stageF_keep I n j h q (i + 1) _ (rowF_keep I j i (fun d k hd => h d i k hd) n 0 d hd)
theorem fwF_keep (I : Mt → Prop) (n : Nat) (h : ∀ d i j k, I d → I (upd2 d i k (pmin (d i k) (padd (d i j) (d j k))))) : ∀ q j d, I d → I (fwF n q j d)
  | 0, _, d, hd => hd
  | q + 1, j, d, hd => fwF_keep I n h q (j + 1) _ (stageF_keep I n j (fun d i k hd => h d i j k hd) n 0 d hd)
theorem upd2_le (d : Mt) (i j k a b : Nat) : ple (upd2 d i k (pmin (d i k) (padd (d i j) (d j k))) a b) (d a b) := by
  unfold upd2
  split
  · rename_i h; rw [h.1, h.2]; exact pmin_left _ _
  · exact ple_refl _
theorem fwF_le (n q j : Nat) (d : Mt) (a b : Nat) : ple (fwF n q j d a b) (d a b) :=
  fwF_keep (fun d' => ple (d' a b) (d a b)) n (fun d' i j k h => ple_trans (upd2_le d' i j k a b) h) q j d (ple_refl _)
theorem stageF_le (n j q i : Nat) (d : Mt) (a b : Nat) : ple (stageF n j q i d a b) (d a b) :=
  stageF_keep (fun d' => ple (d' a b) (d a b)) n j (fun d' i k h => ple_trans (upd2_le d' i j k a b) h) q i d (ple_refl _)
/-- Each entry is the cost of a way, of some length. -/
theorem fwF_way {n : Nat} {m : Mt} (q j : Nat) (d : Mt) (hd : ∃ T, ∀ a b, ple (cs n m T a b) (d a b)) : ∃ T, ∀ a b, ple (cs n m T a b) (fwF n q j d a b) :=
  fwF_keep (fun d' => ∃ T, ∀ a b, ple (cs n m T a b) (d' a b)) n (fun d' i j k ⟨T, hT⟩ => ⟨T + T, fun a b => by
    unfold upd2
    split
    · rename_i h
      rw [h.1, h.2]
      exact le_pmin (ple_trans (cs_mono i k T T) (hT i k)) (ple_trans (cs_comp T i j k T) (padd_mono (hT i j) (hT j k)))
    · exact ple_trans (cs_mono a b T T) (hT a b)⟩) q j d hd
/-- One stage where the entry (j, j) is 0: row j and column j stand, all entries at once. -/
def atOnce (j : Nat) (d : Mt) : Mt := fun a b => pmin (d a b) (padd (d a j) (d j b))
theorem pmin_self (a : Ex) : pmin a a = a := by cases a <;> simp [pmin]
theorem atOnce_row {j : Nat} {d : Mt} (h : d j j = some 0) (b : Nat) : atOnce j d j b = d j b := by unfold atOnce; rw [h, zero_padd, pmin_self]
theorem atOnce_col {j : Nat} {d : Mt} (h : d j j = some 0) (a : Nat) : atOnce j d a j = d a j := by unfold atOnce; rw [h, padd_zero, pmin_self]
theorem rowF_once {j : Nat} {d0 : Mt} (h : d0 j j = some 0) (i : Nat) : ∀ q k d, (∀ b, d i b = if b < k then atOnce j d0 i b else d0 i b) → (∀ a, a ≠ i → ∀ b, d a b = d0 a b ∨ d a b = atOnce j d0 a b) →
    (∀ b, rowF j i q k d i b = if b < k + q then atOnce j d0 i b else d0 i b) ∧ ∀ a, a ≠ i → ∀ b, rowF j i q k d a b = d a b
  | 0, k, d, h1, _ => ⟨h1, fun a _ b => rfl⟩
  | q + 1, k, d, h1, h2 => by
    have hij : d i j = d0 i j := by
      rw [h1 j]; split
      · exact atOnce_col h i
      · rfl
    have hjk : d j k = d0 j k := by
      by_cases e : j = i
      · subst e; rw [h1 k, if_neg (by omega)]
      · rcases h2 j e k with e1 | e1
        · exact e1
        · rw [e1]; exact atOnce_row h k
    have hik : d i k = d0 i k := by rw [h1 k, if_neg (by omega)]
    have step : ∀ b, upd2 d i k (pmin (d i k) (padd (d i j) (d j k))) i b = if b < k + 1 then atOnce j d0 i b else d0 i b := by
      intro b
      unfold upd2
      by_cases e : b = k
      · subst e
        rw [if_pos ⟨rfl, rfl⟩, if_pos (by omega), hik, hij, hjk]
        rfl
      · rw [if_neg (fun hh => e hh.2), h1 b]
        by_cases hb : b < k
        · rw [if_pos hb, if_pos (by omega)]
        · rw [if_neg hb, if_neg (by omega)]
    have other : ∀ a, a ≠ i → ∀ b, upd2 d i k (pmin (d i k) (padd (d i j) (d j k))) a b = d a b := fun a ha b => by
      unfold upd2; rw [if_neg (fun hh => ha hh.1)]
    obtain ⟨g1, g2⟩ := rowF_once h i q (k + 1) _ step (fun a ha b => by rw [other a ha b]; exact h2 a ha b)
    refine ⟨fun b => ?_, fun a ha b => ?_⟩
    · show rowF j i q (k + 1) _ i b = _
      rw [g1 b, show k + 1 + q = k + (q + 1) by omega]
    · show rowF j i q (k + 1) _ a b = _
      rw [g2 a ha b, other a ha b]
theorem stageF_once {j n : Nat} {d0 : Mt} (h : d0 j j = some 0) : ∀ q i d, (∀ a, a < i → ∀ b, b < n → d a b = atOnce j d0 a b) → (∀ a, a < i → ∀ b, ¬ b < n → d a b = d0 a b) → (∀ a, i ≤ a → ∀ b, d a b = d0 a b) →
    ∀ a, a < i + q → ∀ b, b < n → stageF n j q i d a b = atOnce j d0 a b
  | 0, i, d, h1, _, _ => h1
  | q + 1, i, d, h1, h2, h3 => by
    obtain ⟨g1, g2⟩ := rowF_once h i n 0 d (fun b => by rw [if_neg (by omega)]; exact h3 i (Nat.le_refl _) b) (fun a ha b => by
      by_cases hai : a < i
      · by_cases hb : b < n
        · exact .inr (h1 a hai b hb)
        · exact .inl (h2 a hai b hb)
      · exact .inl (h3 a (by omega) b))
    intro a ha b hb
    show stageF n j q (i + 1) _ a b = _
    refine stageF_once h q (i + 1) (rowF j i n 0 d) (fun a' ha' b' hb' => ?_) (fun a' ha' b' hb' => ?_) (fun a' ha' b' => ?_) a (by omega) b hb
    · by_cases e : a' = i
      · subst e; rw [g1 b', if_pos (by omega)]
      · rw [g2 a' e b']; exact h1 a' (by omega) b' hb'
    · by_cases e : a' = i
      · subst e; rw [g1 b', if_neg (by omega)]
      · rw [g2 a' e b']; exact h2 a' (by omega) b' hb'
    · rw [g2 a' (by omega) b']; exact h3 a' (by omega) b'
/-- The entries are closed under the vertices below j. -/
def Upto (n j : Nat) (d : Mt) : Prop := ∀ i k l, i < n → k < n → l < n → l < j → ple (d i k) (padd (d i l) (d l k))
theorem upto_once {n j : Nat} {d : Mt} (hj : j < n) (h : d j j = some 0) (hu : Upto n j d) : Upto n (j + 1) (atOnce j d) := by
  intro i k l hi hk hl hlj
  by_cases e : l = j
  · subst e
    rw [atOnce_row h, atOnce_col h]
    exact pmin_right _ _
  · have hlj : l < j := by omega
    have a1 := hu i k l hi hk hl hlj
    have a2 := hu i j l hi hj hl hlj
    have a3 := hu j k l hj hk hl hlj
    have a4 := hu j j l hj hj hl hlj
    have L := pmin_left (d i k) (padd (d i j) (d j k))
    have R := pmin_right (d i k) (padd (d i j) (d j k))
    show ple (pmin (d i k) (padd (d i j) (d j k))) (padd (pmin (d i l) (padd (d i j) (d j l))) (pmin (d l k) (padd (d l j) (d j k))))
    rcases pmin_or (d i l) (padd (d i j) (d j l)) with e1 | e1 <;> rcases pmin_or (d l k) (padd (d l j) (d j k)) with e2 | e2 <;> rw [e1, e2]
    · exact ple_trans L a1
    · rw [← padd_assoc]
      exact ple_trans R (padd_mono a2 (ple_refl _))
    · rw [padd_assoc]
      exact ple_trans R (padd_mono (ple_refl _) a3)
    · have e3 : padd (padd (d i j) (d j l)) (padd (d l j) (d j k)) = padd (d i j) (padd (padd (d j l) (d l j)) (d j k)) := by rw [padd_assoc, padd_assoc]
      rw [e3]
      have : ple (padd (some 0) (d j k)) (padd (padd (d j l) (d l j)) (d j k)) := padd_mono (h ▸ a4) (ple_refl _)
      rw [zero_padd] at this
      exact ple_trans R (padd_mono (ple_refl _) this)
theorem upto_congr {n j : Nat} {d d' : Mt} (h : ∀ a, a < n → ∀ b, b < n → d a b = d' a b) (hu : Upto n j d') : Upto n j d := fun i k l hi hk hl hlj => by
  rw [h i hi k hk, h i hi l hl, h l hl k hk]
  exact hu i k l hi hk hl hlj
/-- No entry (i, i) below 0 at the end: then the end is closed. -/
theorem fwF_closed {n : Nat} : ∀ q j d, j + q = n → Upto n j d → (∀ i, i < n → ple (d i i) (some 0)) → (∀ i, i < n → ple (some 0) (fwF n q j d i i)) → Upto n n (fwF n q j d)
  | 0, j, d, hj, hu, _, _ => by simp only [Nat.add_zero] at hj; subst hj; exact hu
  | q + 1, j, d, hj, hu, h0, hf => by
    have hjn : j < n := by omega
    have hjj : d j j = some 0 := ple_antisymm (h0 j hjn) (ple_trans (hf j hjn) (ple_trans (fwF_le n q (j + 1) _ j j) (stageF_le n j n 0 d j j)))
    have hst : ∀ a, a < n → ∀ b, b < n → stageF n j n 0 d a b = atOnce j d a b := fun a ha b hb =>
      stageF_once hjj n 0 d (fun a ha => by omega) (fun a ha => by omega) (fun a _ b => rfl) a (by omega) b hb
    exact fwF_closed q (j + 1) (stageF n j n 0 d) (by omega) (upto_congr hst (upto_once hjn hjj hu)) (fun i hi => ple_trans (stageF_le n j n 0 d i i) (h0 i hi)) hf

/-! ### Both say the same -/
/-- The start of the loops: what m says, and no more than 0 from a vertex to itself. -/
structure Init (n : Nat) (m d : Mt) : Prop where
  off : ∀ i k, i < n → k < n → i ≠ k → d i k = m i k
  dia : ∀ i, i < n → d i i = pmin (m i i) (some 0)
theorem fw_bf {n : Nat} {m d : Mt} (h : Init n m d) (hd : ∃ T, ∀ a b, ple (cs n m T a b) (d a b)) :
    ((∀ i, i < n → ple (some 0) (fwF n n 0 d i i)) → ∀ i k, i < n → k < n → cs n m n i k = fwF n n 0 d i k ∧ cs n m (n + 1) i k = fwF n n 0 d i k) ∧
    ((∀ i k, i < n → k < n → cs n m (n + 1) i k = cs n m n i k) → ∀ i, i < n → ple (some 0) (fwF n n 0 d i i)) := by
  obtain ⟨T, hT⟩ := fwF_way n 0 d hd
  refine ⟨fun hf => ?_, fun hs => ?_⟩
  · have hd0 : ∀ i, i < n → ple (d i i) (some 0) := fun i hi => by rw [h.dia i hi]; exact pmin_right _ _
    have hdm : ∀ i k, i < n → k < n → ple (d i k) (m i k) := fun i k hi hk => by
      by_cases e : i = k
      · subst e; rw [h.dia i hi]; exact pmin_left _ _
      · rw [h.off i k hi hk e]; exact ple_refl _
    have hcl : Closed_ n (fwF n n 0 d) := fun i j k hi hj hk => fwF_closed n 0 d (by omega) (fun i k l _ _ _ hl => by omega) hd0 hf i k j hi hk hj hj
    have f0 : ∀ i, i < n → ple (fwF n n 0 d i i) (some 0) := fun i hi => ple_trans (fwF_le n n 0 d i i) (hd0 i hi)
    have fm : ∀ i k, i < n → k < n → ple (fwF n n 0 d i k) (m i k) := fun i k hi hk => ple_trans (fwF_le n n 0 d i k) (hdm i k hi hk)
    have low := closed_le (n := n) (m := m) hcl f0 fm
    have main : ∀ i k, i < n → k < n → cs n m n i k = fwF n n 0 d i k := fun i k hi hk =>
      setl_all (d := fwF n n 0 d) hi (fun t v hv => low t i v hi hv) (fun u v hu hv => ple_trans (hcl i u v hi hu hv) (padd_mono (ple_refl _) (fm u v hu hv))) (ple_antisymm (f0 i hi) (hf i hi)) ⟨T, fun v _ => hT i v⟩ k hk
    intro i k hi hk
    refine ⟨main i k hi hk, ple_antisymm (main i k hi hk ▸ cs_le n i k) (low (n + 1) i k hi hk)⟩
  · have hst : ∀ s i k, i < n → k < n → cs n m (n + s) i k = cs n m n i k := by
      intro s
      induction s with
      | zero => intro i k _ _; rfl
      | succ s ih =>
        intro i k hi hk
        refine ple_antisymm (cs_mono i k n (s + 1)) ?_
        show ple _ (cs n m ((n + s) + 1) i k)
        rcases cs_or (n := n) (m := m) (n + s) i k with e | ⟨j, hj, e⟩
        · rw [e, ih i k hi hk]; exact ple_refl _
        · rw [e, ih i j hi hj, ← hs i k hi hk]
          exact cs_st n i k j hj
    intro i hi
    have h1 := cs_comp (n := n) (m := m) n i i i n
    rw [hst n i i hi hi] at h1
    have h2 := cs_mono (n := n) (m := m) i i T n
    rw [Nat.add_comm, hst T i i hi hi] at h2
    have h3 := hT i i
    have h0 : ple (some 0) (cs n m n i i) := by
      cases hc : cs n m n i i with
      | none => trivial
      | some z =>
        rw [hc] at h1
        have h1 : z ≤ z + z := h1
        show (0 : Int) ≤ z
        omega
    exact ple_trans h0 (ple_trans h2 h3)
end Go.Proofs.Ytjhaealoneennaa
