/- Plain laws: where an assignment is best, no circuit of exchanges costs less than 0; so the steps of Bellman and Ford settle. No program is named here. -/
import Derived.Test.YtnnhbkhlipekeaaPAsA
import Derived.Test.YtnnhbkhlipekeaaPFwA
namespace Go.Proofs.Ytnnhbkhlipekeaa
set_option linter.unusedVariables false
set_option linter.unusedSimpArgs false
set_option linter.unusedSectionVars false

/-! ### Ways as lists -/
def wk (m : Mt) : Nat → List Nat → Ex
  | _, [] => some 0
  | i, j :: l => padd (m i j) (wk m j l)
def las : Nat → List Nat → Nat
  | i, [] => i
  | _, j :: l => las j l
theorem wk_append (m : Mt) : ∀ (l : List Nat) (i : Nat) (l' : List Nat), wk m i (l ++ l') = padd (wk m i l) (wk m (las i l) l')
  | [], i, l' => by simp only [List.nil_append, wk, las, zero_padd]
  | j :: l, i, l' => by simp only [List.cons_append, wk, las, wk_append m l j l', padd_assoc]
theorem las_append : ∀ (l : List Nat) (i : Nat) (l' : List Nat), las i (l ++ l') = las (las i l) l'
  | [], i, l' => rfl
  | j :: l, i, l' => by simp only [List.cons_append, las, las_append l j l']
theorem padd_some {a b : Ex} {x : Int} (h : padd a b = some x) : ∃ y z, a = some y ∧ b = some z ∧ x = y + z := by
  cases a with
  | none => cases h
  | some y => cases b with
    | none => cases h
    | some z => exact ⟨y, z, rfl, rfl, by simpa [padd] using h.symm⟩
theorem cs_wk {n : Nat} {m : Mt} : ∀ (t i k : Nat) (x : Int), k < n → cs n m t i k = some x → ∃ l, las i l = k ∧ wk m i l = some x ∧ ∀ v ∈ l, v < n
  | 0, i, k, x, hk, h => by
    simp only [cs, startF] at h
    by_cases e : i = k
    · rw [if_pos e] at h
      exact ⟨[], e, h, fun v hv => by cases hv⟩
    · rw [if_neg e] at h; cases h
  | t + 1, i, k, x, hk, h => by
    rcases cs_or (n := n) (m := m) t i k with e | ⟨j, hj, e⟩
    · exact cs_wk t i k x hk (e ▸ h)
    · rw [e] at h
      obtain ⟨y, z, h1, h2, h3⟩ := padd_some h
      obtain ⟨l, k1, k2, k3⟩ := cs_wk t i j y hj h1
      refine ⟨l ++ [k], by rw [las_append]; rfl, ?_, fun v hv => ?_⟩
      · rw [wk_append, k1, k2]
        simp only [wk, h2, padd, h3, Int.add_zero]
      · rcases List.mem_append.1 hv with hv | hv
        · exact k3 v hv
        · simp at hv; omega
theorem dup_split : ∀ (l : List Nat), ¬ l.Nodup → ∃ p y q s, l = p ++ y :: (q ++ y :: s)
  | [], h => absurd List.nodup_nil h
  | a :: t, h => by
    by_cases ha : a ∈ t
    · obtain ⟨q, s, e⟩ := List.append_of_mem ha
      exact ⟨[], a, q, s, by rw [e]; rfl⟩
    · obtain ⟨p, y, q, s, e⟩ := dup_split t (fun hn => h (List.nodup_cons.2 ⟨ha, hn⟩))
      exact ⟨a :: p, y, q, s, by rw [e]; rfl⟩
theorem closed_nn {n : Nat} {m : Mt} (hc : ∀ i l x, i < n → (l ++ [i]).Nodup → (∀ v ∈ l, v < n) → wk m i (l ++ [i]) = some x → 0 ≤ x) :
    ∀ (N : Nat) (l : List Nat) (i : Nat) (x : Int), l.length ≤ N → i < n → (∀ v ∈ l, v < n) → las i l = i → wk m i l = some x → 0 ≤ x
  | 0, l, i, x, hN, hi, hv, hl, hw => by
    have : l = [] := List.length_eq_zero_iff.1 (by omega)
    subst this
    simp only [wk, Option.some.injEq] at hw
    omega
  | N + 1, l, i, x, hN, hi, hv, hl, hw => by
    by_cases hd : l.Nodup
    · rcases List.eq_nil_or_concat l with e | ⟨l', z, e⟩
      · subst e
        simp only [wk, Option.some.injEq] at hw
        omega
      · rw [List.concat_eq_append] at e
        rw [e, las_append] at hl
        have hz : z = i := hl
        subst hz
        subst e
        exact hc z l' x hi hd (fun v h => hv v (List.mem_append_left _ h)) hw
    · obtain ⟨p, y, q, s, e⟩ := dup_split l hd
      subst e
      rw [wk_append] at hw
      simp only [wk] at hw
      obtain ⟨a, w1, h1, h2, h3⟩ := padd_some hw
      obtain ⟨e1, w2, h4, h5, h6⟩ := padd_some h2
      rw [wk_append] at h5
      simp only [wk] at h5
      obtain ⟨b, w3, h7, h8, h9⟩ := padd_some h5
      obtain ⟨e2, c, h10, h11, h12⟩ := padd_some h8
      simp only [List.length_append, List.length_cons] at hN
      have hy : y < n := hv y (by simp)
      have k1 := closed_nn hc N (q ++ [y]) y (b + e2) (by simp; omega) hy (fun v h => hv v (by
        rcases List.mem_append.1 h with h | h
        · simp [h]
        · simp at h; simp [h])) (by rw [las_append]; rfl) (by rw [wk_append, h7]; simp only [wk, h10, padd, Int.add_zero])
      have k2 := closed_nn hc N (p ++ y :: s) i (a + (e1 + c)) (by simp; omega) hi (fun v h => hv v (by
        rcases List.mem_append.1 h with h | h
        · simp [h]
        · rcases List.mem_cons.1 h with h | h <;> simp [h])) (by
          rw [las_append] at hl ⊢
          simp only [las] at hl ⊢
          rw [las_append] at hl
          simpa [las] using hl) (by rw [wk_append, h1]; simp only [wk, h4, h11, padd])
      omega
/-- No circuit below 0: after n steps all is settled. -/
theorem settled {n : Nat} {m : Mt} (hout : ∀ i k, ¬ (i < n ∧ k < n) → m i k = none) (hc : ∀ i l x, i < n → (l ++ [i]).Nodup → (∀ v ∈ l, v < n) → wk m i (l ++ [i]) = some x → 0 ≤ x)
    (i k : Nat) (hi : i < n) (hk : k < n) : cs n m (n + 1) i k = cs n m n i k := by
  let d : Mt := fun i k => if i = k then pmin (m i i) (some 0) else m i k
  have hI : Init n m d := ⟨fun i k _ _ h => if_neg h, fun i _ => if_pos rfl⟩
  have hd : ∃ T, ∀ a b, ple (cs n m T a b) (d a b) := ⟨1, fun a b => by
    have base : ple (cs n m 1 a b) (m a b) := by
      by_cases ha : a < n
      · have := cs_st (n := n) (m := m) 0 a b a ha
        simpa [cs, startF, zero_padd] using this
      · rw [hout a b (fun h => ha h.1)]; exact ple_none _
    show ple _ (if a = b then pmin (m a a) (some 0) else m a b)
    by_cases e : a = b
    · subst e
      rw [if_pos rfl]
      exact le_pmin base (cs_diag 1 a)
    · rw [if_neg e]; exact base⟩
  obtain ⟨T, hT⟩ := fwF_way n 0 d hd
  have hf : ∀ i, i < n → ple (some 0) (fwF n n 0 d i i) := fun i hi => by
    refine ple_trans ?_ (hT i i)
    cases h : cs n m T i i with
    | none => trivial
    | some x =>
      obtain ⟨l, h1, h2, h3⟩ := cs_wk T i i x hi h
      exact closed_nn hc l.length l i x (Nat.le_refl _) hi h3 h1 h2
  obtain ⟨h1, h2⟩ := (fw_bf hI hd).1 hf i k hi hk
  rw [h1, h2]

/-! ### Permutations as lists -/
theorem comps_in {n : Nat} : ∀ (t l : List Int), (∀ x ∈ t, 0 ≤ x ∧ x < (n : Int)) → (l ++ t).Nodup → l ++ t ∈ comps n t.length l
  | [], l, _, _ => by simp [comps]
  | x :: t, l, hv, hd => by
    have hx := hv x List.mem_cons_self
    obtain ⟨k, hk⟩ := Int.eq_ofNat_of_zero_le hx.1
    have h1 := comps_in t (l ++ [x]) (fun y hy => hv y (List.mem_cons_of_mem _ hy)) (by rw [List.append_assoc]; exact hd)
    rw [List.append_assoc] at h1
    simp only [List.length_cons, comps, List.mem_flatMap, List.mem_range'_1]
    refine ⟨k, ⟨by omega, by omega⟩, ?_⟩
    have hx : l.contains (k : Int) = false := by
      have := (List.nodup_append.1 hd).2.2
      cases hc : l.contains (k : Int) with
      | false => rfl
      | true =>
        have hm : (k : Int) ∈ l := by simpa using hc
        exact absurd hk.symm (this _ hm x List.mem_cons_self)
    rw [if_neg (by rw [hx]; simp), ← hk]
    exact h1
theorem comps_nd {n : Nat} : ∀ {r : Nat} {l a : List Int}, a ∈ comps n r l → l.Nodup → a.Nodup
  | 0, l, a, h, hl => by simp only [comps, List.mem_singleton] at h; rw [h]; exact hl
  | r + 1, l, a, h, hl => by
    simp only [comps, List.mem_flatMap, List.mem_range'_1] at h
    obtain ⟨k, hk, ha⟩ := h
    split at ha
    · cases ha
    · rename_i hc
      refine comps_nd ha (List.nodup_append.2 ⟨hl, by simp, fun x hx y hy => ?_⟩)
      simp only [List.mem_singleton] at hy
      intro e
      exact hc (by simpa [← hy, ← e] using hx)
def Inj (b : List Int) : Prop := ∀ p q, p < b.length → q < b.length → nth b p = nth b q → p = q
theorem nd_inj {b : List Int} (h : b.Nodup) : Inj b := fun p q hp hq e => by
  have h := List.pairwise_iff_getElem.1 h
  simp only [nth, List.getD_eq_getElem?_getD, List.getElem?_eq_getElem hp, List.getElem?_eq_getElem hq, Option.getD_some] at e
  rcases Nat.lt_trichotomy p q with c | c | c
  · exact absurd e (h p q hp hq c)
  · exact c
  · exact absurd e.symm (h q p hq hp c)
theorem inj_nd {b : List Int} (h : Inj b) : b.Nodup := by
  refine List.pairwise_iff_getElem.2 fun p q hp hq c e => ?_
  have := h p q hp hq (by simp only [nth, List.getD_eq_getElem?_getD, List.getElem?_eq_getElem hp, List.getElem?_eq_getElem hq, Option.getD_some]; exact e)
  omega
def sw (b : List Int) (u v : Nat) : List Int := (b.set u (nth b v)).set v (nth b u)
def tau (u v p : Nat) : Nat := if p = v then u else if p = u then v else p
theorem nth_sw {b : List Int} {u v : Nat} (hu : u < b.length) (hv : v < b.length) (p : Nat) : nth (sw b u v) p = nth b (tau u v p) := by
  unfold sw tau
  rw [nth_set (by simpa using hv), nth_set hu]
  split
  · rfl
  · split <;> rfl
theorem sw_len (b : List Int) (u v : Nat) : (sw b u v).length = b.length := by simp [sw]
theorem sw_inj {b : List Int} {u v : Nat} (hu : u < b.length) (hv : v < b.length) (h : Inj b) : Inj (sw b u v) := fun p q hp hq e => by
  rw [sw_len] at hp hq
  rw [nth_sw hu hv, nth_sw hu hv] at e
  have := h _ _ (by unfold tau; split; omega; split <;> omega) (by unfold tau; split; omega; split <;> omega) e
  unfold tau at this
  split at this <;> split at this <;> (try split at this) <;> (try split at this) <;> omega
theorem sw_in {b : List Int} {u v : Nat} (hu : u < b.length) (hv : v < b.length) : ∀ x ∈ sw b u v, x ∈ b := fun x hx => by
  unfold sw at hx
  rcases List.mem_or_eq_of_mem_set hx with h | h
  · rcases List.mem_or_eq_of_mem_set h with h | h
    · exact h
    · rw [h]; exact nth_mem hv
  · rw [h]; exact nth_mem hu
def lin (m : List (List Int)) : List Int → Nat → Int
  | [], _ => 0
  | x :: q, j => En m j x.toNat + lin m q (j + 1)
theorem lin_set (m : List (List Int)) (v : Int) : ∀ (q : List Int) (i j : Nat), i < q.length → lin m (q.set i v) j = lin m q j - En m (j + i) (nth q i).toNat + En m (j + i) v.toNat
  | [], i, j, h => by simp at h
  | x :: q, 0, j, h => by simp [lin, nth]; omega
  | x :: q, i + 1, j, h => by
    have := lin_set m v q i (j + 1) (by simpa using h)
    simp only [List.set_cons_succ, lin, this]
    rw [show j + 1 + i = j + (i + 1) by omega, show nth (x :: q) (i + 1) = nth q i by simp [nth]]
    omega
theorem lin_sw (m : List (List Int)) {b : List Int} {u v : Nat} (hu : u < b.length) (hv : v < b.length) (h : v ≠ u) :
    lin m (sw b u v) 0 = lin m b 0 - En m u (nth b u).toNat - En m v (nth b v).toNat + En m u (nth b v).toNat + En m v (nth b u).toNat := by
  unfold sw
  rw [lin_set m _ _ v 0 (by simpa using hv), lin_set m _ _ u 0 hu, nth_set hu, if_neg h]
  simp only [Nat.zero_add]
  omega
theorem lin_inf (m : List (List Int)) : ∀ (q : List Int) (j : Nat) (p : Int), pcost m q j p ≠ 1000000000 → ∀ i, i < q.length → En m (j + i) (nth q i).toNat ≠ 1000000000
  | [], j, p, _, i, h => by simp at h
  | x :: q, j, p, hp, i, h => by
    rw [pcost] at hp
    cases i with
    | zero =>
      intro e
      have e : En m j x.toNat = 1000000000 := by simpa [nth] using e
      rw [e, plus_inf', pcost_inf] at hp
      exact hp rfl
    | succ i =>
      have := lin_inf m q (j + 1) _ hp i (by simpa using h)
      rw [show j + 1 + i = j + (i + 1) by omega] at this
      simpa [nth] using this
section
variable {m : List (List Int)} {n : Nat} (g : Good m n) (hn : m.length = n)
include g hn
theorem pcost_lin : ∀ (q : List Int) (j : Nat) (p : Int), j + q.length ≤ n → (∀ x ∈ q, 0 ≤ x ∧ x < (n : Int)) → Bp j p → p ≠ 1000000000 → (∀ i, i < q.length → En m (j + i) (nth q i).toNat ≠ 1000000000) → pcost m q j p = p + lin m q j
  | [], j, p, _, _, _, _, _ => by simp [pcost, lin]
  | x :: q, j, p, hl, hv, hb, hp, hf => by
    have h6 := g.chi
    simp only [List.length_cons] at hl
    have hx := hv x List.mem_cons_self
    have h0 : En m j x.toNat ≠ 1000000000 := by simpa [nth] using hf 0 (by simp)
    have h1 := Bp_step g hn (i := j) (k := x.toNat) (p := p) (by omega) (by omega) hb
    have e : plus p (En m j x.toNat) = p + En m j x.toNat := by unfold plus; rw [if_neg (by omega)]
    have hne : p + En m j x.toNat ≠ 1000000000 := by
      have := (num_iff _).1 (En_num g (i := j) (k := x.toNat) (by omega) (by omega))
      have := hb.le (by omega)
      unfold Bp at hb
      omega
    rw [pcost, lin]
    rw [e] at h1 ⊢
    rw [pcost_lin q (j + 1) _ (by omega) (fun y hy => hv y (List.mem_cons_of_mem _ hy)) h1.1 hne (fun i hi => by
      have := hf (i + 1) (by simpa using hi)
      rw [show j + (i + 1) = j + 1 + i by omega] at this
      simpa [nth] using this)]
    omega
/-- What it costs to give the column of i to k instead. -/
def stepm (m : List (List Int)) (n : Nat) (a : List Int) : Mt := fun i k => if i < n ∧ k < n then (if En m k (nth a i).toNat = 1000000000 then none else some (En m k (nth a i).toNat - En m i (nth a i).toNat)) else none
theorem stepm_some {a : List Int} {i k : Nat} {x : Int} (h : stepm m n a i k = some x) : i < n ∧ k < n ∧ En m k (nth a i).toNat ≠ 1000000000 ∧ x = En m k (nth a i).toNat - En m i (nth a i).toNat := by
  unfold stepm at h
  split at h
  · rename_i h1
    split at h
    · cases h
    · rename_i h2
      exact ⟨h1.1, h1.2, h2, by simpa using h.symm⟩
  · cases h
theorem chain {a : List Int} {v0 : Nat} (h0 : v0 < n) : ∀ (l : List Nat) (w : Nat) (b : List Int) (x y : Int), w < n → b.length = n → Inj b → (∀ z ∈ b, 0 ≤ z ∧ z < (n : Int)) → nth b v0 = nth a w →
    (∀ p, p < n → p ≠ v0 → En m p (nth b p).toNat ≠ 1000000000) → l.Nodup → v0 ∉ l → (∀ v ∈ l, v < n ∧ nth b v = nth a v) →
    wk (stepm m n a) w l = some x → stepm m n a (las w l) v0 = some y →
    ∃ b', b'.length = n ∧ Inj b' ∧ (∀ z ∈ b', 0 ≤ z ∧ z < (n : Int)) ∧ (∀ p, p < n → En m p (nth b' p).toNat ≠ 1000000000) ∧
      lin m b' 0 = lin m b 0 + x + y + En m w (nth a w).toNat - En m v0 (nth a w).toNat
  | [], w, b, x, y, hw, hl, hi, hv, hb, hf, _, _, _, h1, h2 => by
    obtain ⟨_, _, k1, k2⟩ := stepm_some g hn h2
    simp only [wk, Option.some.injEq] at h1
    simp only [las] at k1 k2
    refine ⟨b, hl, hi, hv, fun p hp => ?_, by omega⟩
    by_cases e : p = v0
    · rw [e, hb]; exact k1
    · exact hf p hp e
  | u :: l, w, b, x, y, hw, hl, hi, hv, hb, hf, hd, hn0, hl2, h1, h2 => by
    simp only [wk] at h1
    obtain ⟨e, x', h3, h4, h5⟩ := padd_some h1
    obtain ⟨_, _, k1, k2⟩ := stepm_some g hn h3
    have hu := hl2 u List.mem_cons_self
    have hne : v0 ≠ u := fun e => hn0 (by rw [e]; exact List.mem_cons_self)
    have hub : u < b.length := by omega
    have h0b : v0 < b.length := by omega
    have hdu := List.nodup_cons.1 hd
    obtain ⟨b', g1, g2, g3, g4, g5⟩ := chain h0 l u (sw b u v0) x' y hu.1 (by rw [sw_len]; exact hl) (sw_inj hub h0b hi) (fun z hz => hv z (sw_in hub h0b z hz))
      (by rw [nth_sw hub h0b]; unfold tau; rw [if_pos rfl]; exact hu.2)
      (fun p hp hp0 => by
        rw [nth_sw hub h0b]
        unfold tau
        rw [if_neg hp0]
        by_cases e : p = u
        · rw [if_pos e, e, hb]; exact k1
        · rw [if_neg e]; exact hf p hp hp0)
      hdu.2 (fun h => hn0 (List.mem_cons_of_mem _ h))
      (fun v hv' => by
        have hvv := hl2 v (List.mem_cons_of_mem _ hv')
        refine ⟨hvv.1, ?_⟩
        rw [nth_sw hub h0b]
        unfold tau
        rw [if_neg (fun e => hn0 (by rw [← e]; exact List.mem_cons_of_mem _ hv')), if_neg (fun e => hdu.1 (by rw [← e]; exact hv'))]
        exact hvv.2)
      h4 h2
    refine ⟨b', g1, g2, g3, g4, ?_⟩
    rw [g5, lin_sw m hub h0b hne, hb, hu.2]
    omega
/-- Where a is best, no circuit of exchanges costs less than 0. -/
theorem exch {a : List Int} (ha : a ∈ comps n n []) (hc : cst m a ≠ 1000000000) (hbest : ∀ x ∈ comps n n [], cst m a ≤ cst m x) (i : Nat) (l : List Nat) (x : Int) (hi : i < n) (hd : (l ++ [i]).Nodup) (hv : ∀ v ∈ l, v < n)
    (hw : wk (stepm m n a) i (l ++ [i]) = some x) : 0 ≤ x := by
  have h6 := g.chi
  obtain ⟨k1, k2⟩ := comps_ok ha
  rw [wk_append] at hw
  simp only [wk] at hw
  obtain ⟨x1, w, h1, h2, h3⟩ := padd_some hw
  obtain ⟨y, z, h4, h5, h6'⟩ := padd_some h2
  have h5 : (0 : Int) = z := by simpa using h5
  have hfin := lin_inf m a 0 0 hc
  simp only [Nat.zero_add] at hfin
  have hnd := List.nodup_append.1 hd
  obtain ⟨b, g1, g2, g3, g4, g5⟩ := chain g hn hi l i a x1 y hi k1 (nd_inj (comps_nd ha List.nodup_nil)) k2 rfl (fun p hp _ => hfin p (by omega)) hnd.1
    (fun h => hnd.2.2 i h i (by simp) rfl) (fun v h => ⟨hv v h, rfl⟩) h1 h4
  have hb : b ∈ comps n n [] := by
    have := comps_in (n := n) b [] g3 (inj_nd g2)
    rw [g1] at this
    exact this
  have e1 := pcost_lin g hn a 0 0 (by omega) k2 (.inr ⟨by simp, by simp⟩) (by omega) (by simpa using hfin)
  have e2 := pcost_lin g hn b 0 0 (by omega) g3 (.inr ⟨by simp, by simp⟩) (by omega) (fun p hp => by simpa using g4 p (by omega))
  have := hbest b hb
  have e1 : cst m a = 0 + lin m a 0 := e1
  have e2 : cst m b = 0 + lin m b 0 := e2
  omega
end
end Go.Proofs.Ytnnhbkhlipekeaa
