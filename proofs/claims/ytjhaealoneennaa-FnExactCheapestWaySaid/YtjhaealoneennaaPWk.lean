/- Ways as lists of vertices; where no circuit costs less than 0, the steps of Bellman and Ford settle. No program is named here. -/
import Derived.Test.YtjhaealoneennaaPFwA
namespace Go.Proofs.Ytjhaealoneennaa
set_option linter.unusedVariables false
set_option linter.unusedSimpArgs false
set_option linter.unusedSectionVars false

/-! ### Ways as lists -/
def wk (m : Mt) : Nat → List Nat → Ex
  | _, [] => some 0
  | i, j :: l => padd (m i j) (wk m j l)
def las : Nat → List Nat → Nat
  | i, [] => i
  | _, j :: l => las j l
theorem wk_append (m : Mt) : ∀ (l : List Nat) (i : Nat) (l' : List Nat), wk m i (l ++ l') = padd (wk m i l) (wk m (las i l) l')
  | [], i, l' => by simp only [List.nil_append, wk, las, zero_padd]
  | j :: l, i, l' => by simp only [List.cons_append, wk, las, wk_append m l j l', padd_assoc]
theorem las_append : ∀ (l : List Nat) (i : Nat) (l' : List Nat), las i (l ++ l') = las (las i l) l'
  | [], i, l' => rfl
  | j :: l, i, l' => by simp only [List.cons_append, las, las_append l j l']
theorem padd_some {a b : Ex} {x : Int} (h : padd a b = some x) : ∃ y z, a = some y ∧ b = some z ∧ x = y + z := by
  cases a with
  | none => cases h
  | some y => cases b with
    | none => cases h
    | some z => exact ⟨y, z, rfl, rfl, by simpa [padd] using h.symm⟩
theorem cs_wk {n : Nat} {m : Mt} : ∀ (t i k : Nat) (x : Int), k < n → cs n m t i k = some x → ∃ l, las i l = k ∧ wk m i l = some x ∧ (∀ v ∈ l, v < n) ∧ l.length ≤ t
  | 0, i, k, x, hk, h => by
    simp only [cs, startF] at h
    by_cases e : i = k
    · rw [if_pos e] at h
      exact ⟨[], e, h, (fun v hv => by cases hv), by simp⟩
    · rw [if_neg e] at h; cases h
  | t + 1, i, k, x, hk, h => by
    rcases cs_or (n := n) (m := m) t i k with e | ⟨j, hj, e⟩
    · obtain ⟨l, k1, k2, k3, k4⟩ := cs_wk t i k x hk (e ▸ h)
      exact ⟨l, k1, k2, k3, by omega⟩
    · rw [e] at h
      obtain ⟨y, z, h1, h2, h3⟩ := padd_some h
      obtain ⟨l, k1, k2, k3, k4⟩ := cs_wk t i j y hj h1
      refine ⟨l ++ [k], by rw [las_append]; rfl, ?_, fun v hv => ?_, by simp; omega⟩
      · rw [wk_append, k1, k2]
        simp only [wk, h2, padd, h3, Int.add_zero]
      · rcases List.mem_append.1 hv with hv | hv
        · exact k3 v hv
        · simp at hv; omega
theorem dup_split : ∀ (l : List Nat), ¬ l.Nodup → ∃ p y q s, l = p ++ y :: (q ++ y :: s)
  | [], h => absurd List.nodup_nil h
  | a :: t, h => by
    by_cases ha : a ∈ t
    · obtain ⟨q, s, e⟩ := List.append_of_mem ha
      exact ⟨[], a, q, s, by rw [e]; rfl⟩
    · obtain ⟨p, y, q, s, e⟩ := dup_split t (fun hn => h (List.nodup_cons.2 ⟨ha, hn⟩))
      exact ⟨a :: p, y, q, s, by rw [e]; rfl⟩
theorem least_mem : ∀ (l : List Nat), l ≠ [] → ∃ v ∈ l, ∀ w ∈ l, v ≤ w
  | [], h => absurd rfl h
  | [x], _ => ⟨x, by simp, fun w hw => by simp at hw; omega⟩
  | x :: y :: l, _ => by
    obtain ⟨v, h1, h2⟩ := least_mem (y :: l) (by simp)
    by_cases e : x ≤ v
    · exact ⟨x, by simp, fun w hw => by
        rcases List.mem_cons.1 hw with c | c
        · omega
        · have := h2 w c; omega⟩
    · exact ⟨v, List.mem_cons_of_mem _ h1, fun w hw => by
        rcases List.mem_cons.1 hw with c | c
        · omega
        · exact h2 w c⟩
/-- A circuit, begun at its least vertex. -/
theorem rotate {m : Mt} {l : List Nat} {i : Nat} {x : Int} (h0 : l ≠ []) (hd : l.Nodup) (hl : las i l = i) (hw : wk m i l = some x) :
    ∃ v l', v ∈ l ∧ (l' ++ [v]).Nodup ∧ (∀ w ∈ l', v < w ∧ w ∈ l) ∧ wk m v (l' ++ [v]) = some x := by
  obtain ⟨v, hv, hmin⟩ := least_mem l h0
  obtain ⟨p, s, e⟩ := List.append_of_mem hv
  subst e
  rw [wk_append] at hw
  simp only [wk] at hw
  obtain ⟨a, w1, h1, h2, h3⟩ := padd_some hw
  obtain ⟨e1, c, h4, h5, h6⟩ := padd_some h2
  rw [las_append] at hl
  simp only [las] at hl
  have hnd : (s ++ p ++ [v]).Nodup := by
    refine (List.Perm.nodup_iff ?_).1 hd
    have : (p ++ v :: s).Perm (s ++ (p ++ [v])) := by
      rw [show p ++ v :: s = (p ++ [v]) ++ s by simp]
      exact List.perm_append_comm
    rw [List.append_assoc]
    exact this
  refine ⟨v, s ++ p, by simp, hnd, fun w hw' => ?_, ?_⟩
  · have hm : w ∈ p ++ v :: s := by
      rcases List.mem_append.1 hw' with h | h <;> simp [h]
    have := hmin w hm
    have hne : w ≠ v := fun e => (List.nodup_append.1 hnd).2.2 w hw' v (by simp) e
    exact ⟨by omega, hm⟩
  · rw [wk_append, wk_append, h5, hl, h1, las_append, hl]
    simp only [wk, h4, padd, Option.some.injEq]
    omega
theorem closed_nn {n : Nat} {m : Mt} (hc : ∀ i l x, i < n → (l ++ [i]).Nodup → (∀ v ∈ l, i < v ∧ v < n) → wk m i (l ++ [i]) = some x → 0 ≤ x) :
    ∀ (N : Nat) (l : List Nat) (i : Nat) (x : Int), l.length ≤ N → i < n → (∀ v ∈ l, v < n) → las i l = i → wk m i l = some x → 0 ≤ x
  | 0, l, i, x, hN, hi, hv, hl, hw => by
    have : l = [] := List.length_eq_zero_iff.1 (by omega)
    subst this
    simp only [wk, Option.some.injEq] at hw
    omega
  | N + 1, l, i, x, hN, hi, hv, hl, hw => by
    by_cases hd : l.Nodup
    · by_cases h0 : l = []
      · subst h0
        simp only [wk, Option.some.injEq] at hw
        omega
      · obtain ⟨v, l', h1, h2, h3, h4⟩ := rotate h0 hd hl hw
        exact hc v l' x (hv v h1) h2 (fun w hw => ⟨(h3 w hw).1, hv w (h3 w hw).2⟩) h4
    · obtain ⟨p, y, q, s, e⟩ := dup_split l hd
      subst e
      rw [wk_append] at hw
      simp only [wk] at hw
      obtain ⟨a, w1, h1, h2, h3⟩ := padd_some hw
      obtain ⟨e1, w2, h4, h5, h6⟩ := padd_some h2
      rw [wk_append] at h5
      simp only [wk] at h5
      obtain ⟨b, w3, h7, h8, h9⟩ := padd_some h5
      obtain ⟨e2, c, h10, h11, h12⟩ := padd_some h8
      simp only [List.length_append, List.length_cons] at hN
      have hy : y < n := hv y (by simp)
      have k1 := closed_nn hc N (q ++ [y]) y (b + e2) (by simp; omega) hy (fun v h => hv v (by
        rcases List.mem_append.1 h with h | h
        · simp [h]
        · simp at h; simp [h])) (by rw [las_append]; rfl) (by rw [wk_append, h7]; simp only [wk, h10, padd, Int.add_zero])
      have k2 := closed_nn hc N (p ++ y :: s) i (a + (e1 + c)) (by simp; omega) hi (fun v h => hv v (by
        rcases List.mem_append.1 h with h | h
        · simp [h]
        · rcases List.mem_cons.1 h with h | h <;> simp [h])) (by
          rw [las_append] at hl ⊢
          simp only [las] at hl ⊢
          rw [las_append] at hl
          simpa [las] using hl) (by rw [wk_append, h1]; simp only [wk, h4, h11, padd])
      omega
/-- No circuit below 0: after n steps all is settled. -/
theorem settled {n : Nat} {m : Mt} (hout : ∀ i k, ¬ (i < n ∧ k < n) → m i k = none) (hc : ∀ i l x, i < n → (l ++ [i]).Nodup → (∀ v ∈ l, i < v ∧ v < n) → wk m i (l ++ [i]) = some x → 0 ≤ x)
    : (∀ i k, i < n → k < n → cs n m (n + 1) i k = cs n m n i k) ∧ Closed_ n (cs n m n) ∧ ∀ i, i < n → cs n m n i i = some 0 := by
  let d : Mt := fun i k => if i = k then pmin (m i i) (some 0) else m i k
  have hI : Init n m d := ⟨fun i k _ _ h => if_neg h, fun i _ => if_pos rfl⟩
  have hd : ∃ T, ∀ a b, ple (cs n m T a b) (d a b) := ⟨1, fun a b => by
    have base : ple (cs n m 1 a b) (m a b) := by
      by_cases ha : a < n
      · have := cs_st (n := n) (m := m) 0 a b a ha
        simpa [cs, startF, zero_padd] using this
      · rw [hout a b (fun h => ha h.1)]; exact ple_none _
    show ple _ (if a = b then pmin (m a a) (some 0) else m a b)
    by_cases e : a = b
    · subst e
      rw [if_pos rfl]
      exact le_pmin base (cs_diag 1 a)
    · rw [if_neg e]; exact base⟩
  obtain ⟨T, hT⟩ := fwF_way n 0 d hd
  have hf : ∀ i, i < n → ple (some 0) (fwF n n 0 d i i) := fun i hi => by
    refine ple_trans ?_ (hT i i)
    cases h : cs n m T i i with
    | none => trivial
    | some x =>
      obtain ⟨l, h1, h2, h3, _⟩ := cs_wk T i i x hi h
      exact closed_nn hc l.length l i x (Nat.le_refl _) hi h3 h1 h2
  have all := (fw_bf hI hd).1 hf
  have hd0 : ∀ i, i < n → ple (d i i) (some 0) := fun i hi => by rw [hI.dia i hi]; exact pmin_right _ _
  have hcl := fwF_closed n 0 d (by omega) (fun i k l _ _ _ hl => by omega) hd0 hf
  refine ⟨fun i k hi hk => by rw [(all i k hi hk).1, (all i k hi hk).2], fun i j k hi hj hk => ?_, fun i hi => ?_⟩
  · rw [(all i k hi hk).1, (all i j hi hj).1, (all j k hj hk).1]
    exact hcl i k j hi hk hj hj
  · rw [(all i i hi hi).1]
    exact ple_antisymm (ple_trans (fwF_le n n 0 d i i) (hd0 i hi)) (hf i hi)
theorem fw_closed {n : Nat} {m d : Mt} (h : Init n m d) (hf : ∀ i, i < n → ple (some 0) (fwF n n 0 d i i)) : Closed_ n (fwF n n 0 d) ∧ (∀ i, i < n → ple (fwF n n 0 d i i) (some 0)) ∧ ∀ i k, i < n → k < n → ple (fwF n n 0 d i k) (m i k) := by
  have hd0 : ∀ i, i < n → ple (d i i) (some 0) := fun i hi => by rw [h.dia i hi]; exact pmin_right _ _
  have hdm : ∀ i k, i < n → k < n → ple (d i k) (m i k) := fun i k hi hk => by
    by_cases e : i = k
    · subst e; rw [h.dia i hi]; exact pmin_left _ _
    · rw [h.off i k hi hk e]; exact ple_refl _
  exact ⟨fun i j k hi hj hk => fwF_closed n 0 d (by omega) (fun i k l _ _ _ hl => by omega) hd0 hf i k j hi hk hj hj, fun i hi => ple_trans (fwF_le n n 0 d i i) (hd0 i hi), fun i k hi hk => ple_trans (fwF_le n n 0 d i k) (hdm i k hi hk)⟩
theorem closed_wk {n : Nat} {m D : Mt} (hc : Closed_ n D) (h0 : ∀ i, i < n → ple (D i i) (some 0)) (hm : ∀ i k, i < n → k < n → ple (D i k) (m i k)) : ∀ (l : List Nat) (i : Nat), i < n → (∀ v ∈ l, v < n) → ple (D i (las i l)) (wk m i l)
  | [], i, hi, _ => h0 i hi
  | k :: l, i, hi, hv => by
    have hk := hv k List.mem_cons_self
    have hl : las k l < n := by
      have : ∀ (l : List Nat) (k : Nat), k < n → (∀ v ∈ l, v < n) → las k l < n := by
        intro l
        induction l with
        | nil => intro k hk _; exact hk
        | cons x l ih => intro k _ hv; exact ih x (hv x List.mem_cons_self) (fun v h => hv v (List.mem_cons_of_mem _ h))
      exact this l k hk (fun v h => hv v (List.mem_cons_of_mem _ h))
    exact ple_trans (hc i k (las k l) hi hk hl) (padd_mono (hm i k hi hk) (closed_wk hc h0 hm l k hk (fun v h => hv v (List.mem_cons_of_mem _ h))))
theorem nodup_len : ∀ (n : Nat) (l : List Nat), l.Nodup → (∀ v ∈ l, v < n) → l.length ≤ n
  | 0, l, _, h => by
    cases l with
    | nil => simp
    | cons x l => have := h x List.mem_cons_self; omega
  | n + 1, l, hd, h => by
    have h1 := nodup_len n (l.erase n) (hd.erase n) (fun v hv => by
      have := (List.Nodup.mem_erase_iff hd).1 hv
      have := h v this.2
      omega)
    have h2 : l.length ≤ (l.erase n).length + 1 := by rw [List.length_erase]; split <;> omega
    omega
end Go.Proofs.Ytjhaealoneennaa
