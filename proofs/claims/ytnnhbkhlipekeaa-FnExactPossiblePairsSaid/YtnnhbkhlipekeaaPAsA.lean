/- Plain laws: all possible assignments, the best ones, the best that a condition allows. -/
import Derived.Test.YtnnhbkhlipekeaaAsnM
import Derived.Test.YtnnhbkhlipekeaaAsrM
import Derived.Test.YtnnhbkhlipekeaaAssM
import Derived.Test.YtnnhbkhlipekeaaAsqM
import Derived.Test.YtnnhbkhlipekeaaPCost
namespace Go.Proofs.Ytnnhbkhlipekeaa
set_option linter.unusedVariables false
set_option linter.unusedSimpArgs false
set_option linter.unusedSectionVars false

/-! ### Costs -/
theorem plus_inf (x : Int) : plus 1000000000 x = 1000000000 := by unfold plus; simp
theorem plus_inf' (x : Int) : plus x 1000000000 = 1000000000 := by unfold plus; simp
theorem pcost_inf (m : List (List Int)) : ∀ (q : List Int) (i : Nat), pcost m q i 1000000000 = 1000000000
  | [], i => rfl
  | k :: q, i => by rw [pcost, plus_inf]; exact pcost_inf m q (i + 1)
abbrev cst (m : List (List Int)) (a : List Int) : Int := pcost m a 0 0
section
variable {m : List (List Int)} {n : Nat} (g : Good m n) (hn : m.length = n)
include g hn
theorem asCost_l1_eq : ∀ (q : List Int) (i : Nat) (p : Int), i + q.length ≤ n → (∀ x ∈ q, 0 ≤ x ∧ x < (n : Int)) → Bp i p → pcost m q i p ≠ 1000000000 → spec_asCost_l1 m q i p = some (pcost m q i p)
  | [], i, p, _, _, _, _ => rfl
  | k :: q, i, p, hl, hv, hp, h => by
    have h6 := g.chi
    simp only [List.length_cons] at hl
    have sh : Shape m n n := ⟨hn, g.row⟩
    have hk := hv k List.mem_cons_self
    obtain ⟨h1, h2, h3⟩ := Bp_step g hn (i := i) (k := k.toNat) (by omega) (by omega) hp
    have e1 : idx (nthM m i) k = some (En m i k.toNat) := by
      have := idx_nth (l := nthM m i) (j := k.toNat) (by rw [sh.nth_len (by omega)]; omega)
      rwa [show ((k.toNat : Nat) : Int) = k by omega] at this
    rw [pcost] at h ⊢
    have hpf : p ≠ 1000000000 := fun e => h (by rw [e, plus_inf]; exact pcost_inf m q _)
    have hef : En m i k.toNat ≠ 1000000000 := fun e => h (by rw [e, plus_inf']; exact pcost_inf m q _)
    have e2 : plus p (En m i k.toNat) = p + En m i k.toNat := by unfold plus; rw [if_neg (by omega)]
    rw [spec_asCost_l1, sh.idx (by omega)]
    simp only [bs, e1]
    rw [ck_in (by omega) (by omega)]
    simp only [bs]
    rw [← e2]
    exact asCost_l1_eq q (i + 1) _ (by omega) (fun x hx => hv x (List.mem_cons_of_mem _ hx)) h1 h
theorem asCost_eq {a : List Int} (ha : a.length ≤ n) (hv : ∀ x ∈ a, 0 ≤ x ∧ x < (n : Int)) (h : cst m a ≠ 1000000000) : spec_asCost_m m a = some (cst m a) := by
  unfold spec_asCost_m
  rw [asCost_l1_eq g hn a 0 0 (by omega) hv (.inr ⟨by simp, by simp⟩) h]
  rfl

/-! ### All possible ones -/
def poss (m : List (List Int)) (n r : Nat) (l : List Int) (p : Int) : List (List Int) := (comps n r l).filter fun a => !decide (pcost m (a.drop l.length) l.length p = 1000000000)
omit g hn in
theorem poss_succ (m : List (List Int)) (n r : Nat) (l : List Int) (p : Int) (hp : p ≠ 1000000000) :
    poss m n (r + 1) l p = (List.range' 0 n).flatMap fun (k : Nat) => if En m l.length k = 1000000000 ∨ l.contains (k : Int) = true then [] else poss m n r (l ++ [(k : Int)]) (plus p (En m l.length k)) := by
  unfold poss
  rw [comps, List.filter_flatMap]
  congr 1
  funext k
  have key : ∀ a ∈ comps n r (l ++ [(k : Int)]), pcost m (a.drop l.length) l.length p = pcost m (a.drop (l ++ [(k : Int)]).length) (l ++ [(k : Int)]).length (plus p (En m l.length k)) := by
    intro a ha
    obtain ⟨t, rfl, _, _⟩ := comps_mem ha
    rw [List.drop_left]
    simp only [List.append_assoc, List.singleton_append, List.length_append, List.length_singleton]
    rw [List.drop_left, pcost]
    simp
  by_cases hc : l.contains (k : Int) = true
  · rw [if_pos hc, if_pos (.inr hc)]; rfl
  · rw [if_neg hc]
    by_cases he : En m l.length k = 1000000000
    · rw [if_pos (.inl he)]
      refine List.filter_eq_nil_iff.2 fun a ha => ?_
      rw [key a ha, he, plus_inf', pcost_inf]
      simp
    · rw [if_neg (by simp only [not_or]; exact ⟨he, hc⟩)]
      refine List.filter_congr fun a ha => ?_
      rw [key a ha]
theorem poss_len {r : Nat} (l : List Int) (p : Int) : (poss m n r l p).length ≤ 6 ^ r := Nat.le_trans (List.length_filter_le _ _) (comps_len g.chi r l)
theorem asAll_l1_eq {r : Nat} {l : List Int} {p : Int} {rec : List (List Int) → List Int → Option (List (List Int))} (hl : l.length + (r + 1) = n) (hp : Bp l.length p) (hpf : p ≠ 1000000000)
    (hrec : ∀ k : Nat, k < n → En m l.length k ≠ 1000000000 → l.contains (k : Int) = false → rec m (l ++ [(k : Int)]) = some (poss m n r (l ++ [(k : Int)]) (plus p (En m l.length k)))) :
    ∀ (q : List Int) (j : Nat) (out : List (List Int)), q = (nthM m l.length).drop j → out.length ≤ j * 46656 →
      spec_asAll_l1 m l rec q j out = some (out ++ (List.range' j q.length).flatMap fun (k : Nat) => if En m l.length k = 1000000000 ∨ l.contains (k : Int) = true then [] else poss m n r (l ++ [(k : Int)]) (plus p (En m l.length k))) := by
  have h6 := g.chi
  have sh : Shape m n n := ⟨hn, g.row⟩
  have hrl : (nthM m l.length).length = n := sh.nth_len (by omega)
  intro q
  induction q with
  | nil => intro j out _ _; simp [spec_asAll_l1]
  | cons x q ih =>
    intro j out hq ho
    obtain ⟨h1, h2, h3⟩ := dropS hq
    have hjn : j < n := by omega
    rw [spec_asAll_l1, List.length_cons, List.range'_succ, List.flatMap_cons]
    have ex : x = En m l.length j := h2
    rw [ex]
    by_cases he : En m l.length j = 1000000000
    · rw [show (En m l.length j != 1000000000) = false by simp [he]]
      simp only [cF, bs]
      rw [if_pos (.inl he), List.nil_append]
      exact ih (j + 1) out h3 (Nat.le_trans ho (Nat.mul_le_mul_right _ (Nat.le_succ j)))
    · rw [show (En m l.length j != 1000000000) = true by simp [he], l1Has_eq]
      simp only [cT, bs]
      cases hc : l.contains (j : Int) with
      | true =>
        simp only [Bool.not_true, cF]
        rw [if_pos (.inr trivial), List.nil_append]
        exact ih (j + 1) out h3 (Nat.le_trans ho (Nat.mul_le_mul_right _ (Nat.le_succ j)))
      | false =>
        simp only [Bool.not_false, cT]
        rw [if_neg (by simp [he]), l1Own_eq (by omega)]
        simp only [bs]
        rw [app_lt (by omega)]
        simp only [bs]
        rw [hrec j hjn he hc]
        simp only [bs]
        have h7 := poss_len g hn (r := r) (l ++ [(j : Int)]) (plus p (En m l.length j))
        have h8 : 6 ^ r ≤ 6 ^ 6 := Nat.pow_le_pow_right (by omega) (by omega)
        have h9 : (6 : Nat) ^ 6 = 46656 := by decide
        have e3 : appS out (poss m n r (l ++ [(j : Int)]) (plus p (En m l.length j))) = some (out ++ poss m n r (l ++ [(j : Int)]) (plus p (En m l.length j))) := by
          unfold appS; rw [decide_eq_true (by omega)]; rfl
        rw [e3]
        simp only [bs]
        rw [ih (j + 1) _ h3 (by rw [List.length_append, Nat.succ_mul]; omega), List.append_assoc]
theorem asAll_eq : ∀ (r k : Nat) (l : List Int) (p : Int), l.length + r = n → r < k → Bp l.length p → p ≠ 1000000000 → spec_asAll_r k m l = some (poss m n r l p) := by
  have h6 := g.chi
  have sh : Shape m n n := ⟨hn, g.row⟩
  intro r
  induction r with
  | zero =>
    intro k l p hl hk hp hpf
    obtain ⟨k, rfl⟩ : ∃ k', k = k' + 1 := ⟨k - 1, by omega⟩
    rw [spec_asAll_r, spec_asAll_b, show ((l.length : Int) == (m.length : Int)) = true by simp; omega]
    simp only [cT]
    unfold poss
    rw [comps]
    simp [pcost, hpf]
  | succ r ih =>
    intro k l p hl hk hp hpf
    obtain ⟨k, rfl⟩ : ∃ k', k = k' + 1 := ⟨k - 1, by omega⟩
    rw [spec_asAll_r, spec_asAll_b, show ((l.length : Int) == (m.length : Int)) = false by simp; omega]
    simp only [cF]
    rw [sh.idx (show l.length < n by omega)]
    simp only [bs]
    rw [asAll_l1_eq g hn hl hp hpf (fun j hj he hc => ih k (l ++ [(j : Int)]) _ (by simp; omega) (by omega) (by simpa using (Bp_step g hn (show l.length < n by omega) hj hp).1) (by unfold plus; have := (num_iff _).1 (En_num g (i := l.length) (k := j) (by omega) hj); have := hp.le (by omega); unfold Bp at hp; rw [if_neg (by omega)]; omega))
      (nthM m l.length) 0 [] rfl (by simp)]
    have hlen : (nthM m l.length).length = n := sh.nth_len (by omega)
    rw [hlen, ← poss_succ m n r l p hpf]
    rfl
/-- All possible assignments. -/
def fea (m : List (List Int)) (n : Nat) : List (List Int) := (comps n n []).filter fun a => !decide (cst m a = 1000000000)
theorem asAll_start : spec_asAll_m m [] = some (fea m n) := by
  have h6 := g.chi
  exact asAll_eq g hn n 64 [] 0 (by simp) (by omega) (.inr ⟨by simp, by simp⟩) (by omega)
end
theorem fea_mem {m : List (List Int)} {n : Nat} {a : List Int} : a ∈ fea m n ↔ a ∈ comps n n [] ∧ cst m a ≠ 1000000000 := by
  unfold fea; rw [List.mem_filter]; simp
theorem comps_ok {n : Nat} {a : List Int} (h : a ∈ comps n n []) : a.length = n ∧ ∀ x ∈ a, 0 ≤ x ∧ x < (n : Int) := by
  obtain ⟨t, e, h1, h2⟩ := comps_mem h
  have e : a = t := e
  subst e
  exact ⟨h1, h2⟩
section
variable {m : List (List Int)} {n : Nat} (g : Good m n) (hn : m.length = n)
include g hn
theorem cst_le {a : List Int} (h : a ∈ comps n n []) : cst m a ≤ 1000000000 ∧ -6000000 ≤ cst m a ∧ (cst m a ≠ 1000000000 → cst m a ≤ 6000000) := by
  have h6 := g.chi
  obtain ⟨h1, h2⟩ := comps_ok h
  have this : Bp (0 + a.length) (cst m a) := pcost_Bp g hn a 0 0 (by omega) h2 (.inr ⟨by simp, by simp⟩)
  have h3 := this.le (by omega)
  refine ⟨h3.1, h3.2, fun h4 => ?_⟩
  unfold Bp at this
  omega
end
def gB (m : List (List Int)) (s : List (List Int) × Int) (a : List Int) : List (List Int) × Int :=
  let t := if s.1.length = 0 ∨ cst m a < s.2 then (([] : List (List Int)), cst m a) else s
  if cst m a = t.2 then (t.1 ++ [a], t.2) else t
/-- Where the search for all best ones stands. -/
def JB (m : List (List Int)) (pre : List (List Int)) (s : List (List Int) × Int) : Prop :=
  (pre = [] ∧ s = ([], 0)) ∨ (s.1 ≠ [] ∧ s.1 = pre.filter (fun a => decide (cst m a = s.2)) ∧ ∀ x ∈ pre, s.2 ≤ cst m x)
theorem JB_step {m : List (List Int)} {pre : List (List Int)} {s : List (List Int) × Int} {a : List Int} (h : JB m pre s) : JB m (pre ++ [a]) (gB m s a) := by
  obtain ⟨o, c⟩ := s
  unfold gB
  simp only []
  by_cases hc : o.length = 0 ∨ cst m a < c
  · rw [if_pos hc]
    simp only [if_true]
    right
    have hall : ∀ x ∈ pre, cst m a < cst m x := by
      intro x hx
      rcases h with ⟨h1, _⟩ | ⟨h1, h2, h3⟩
      · rw [h1] at hx; cases hx
      · have hne : ¬ o.length = 0 := fun e => h1 (List.eq_nil_of_length_eq_zero e)
        have := hc.resolve_left hne
        have := h3 x hx
        simp only [] at this
        omega
    refine ⟨by simp, ?_, fun x hx => ?_⟩
    · rw [List.filter_append]
      have : pre.filter (fun x => decide (cst m x = cst m a)) = [] := by
        refine List.filter_eq_nil_iff.2 fun x hx => ?_
        have := hall x hx
        simp; omega
      rw [this]
      simp
    · rcases List.mem_append.1 hx with e | e
      · have := hall x e; simp only []; omega
      · simp at e; subst e; simp
  · rw [if_neg hc]
    rcases h with ⟨h1, h2⟩ | ⟨h1, h2, h3⟩
    · have := congrArg (fun x : List (List Int) × Int => x.1) h2
      simp only [] at this
      exact absurd (.inl (by rw [this]; rfl)) hc
    · simp only [] at h1 h2 h3
      right
      have hca : c ≤ cst m a := by omega
      by_cases he : cst m a = c
      · rw [if_pos he]
        refine ⟨by simp, ?_, fun x hx => ?_⟩
        · rw [List.filter_append, ← h2]
          simp [he]
        · rcases List.mem_append.1 hx with e | e
          · exact h3 x e
          · simp at e; subst e; simp only []; omega
      · rw [if_neg he]
        refine ⟨h1, ?_, fun x hx => ?_⟩
        · rw [List.filter_append, ← h2]
          simp [he]
        · rcases List.mem_append.1 hx with e | e
          · exact h3 x e
          · simp at e; subst e; simp only []; omega
theorem JB_fold {m : List (List Int)} : ∀ (L pre : List (List Int)) (s : List (List Int) × Int), JB m pre s → JB m (pre ++ L) (L.foldl (gB m) s)
  | [], pre, s, h => by simpa using h
  | a :: L, pre, s, h => by
    have := JB_fold L (pre ++ [a]) (gB m s a) (JB_step h)
    rw [List.append_assoc] at this
    exact this
section
variable {m : List (List Int)} {n : Nat} (g : Good m n) (hn : m.length = n)
include g hn
theorem asBest_l1_eq (q : List (List Int)) : ∀ (j : Nat) (o : List (List Int)) (c : Int), (∀ a ∈ q, a ∈ fea m n) → o.length + q.length < 1000000 → spec_asBest_l1 m q j o c = some (q.foldl (gB m) (o, c)) := by
  induction q with
  | nil => intro j o c _ _; rfl
  | cons a q ih =>
    intro j o c hq hl
    simp only [List.length_cons] at hl
    have ha := fea_mem.1 (hq a List.mem_cons_self)
    have hq' := fun y hy => hq y (List.mem_cons_of_mem _ hy)
    obtain ⟨h1, h2⟩ := comps_ok ha.1
    rw [spec_asBest_l1, asCost_eq g hn (by omega) h2 ha.2, List.foldl_cons]
    simp only [bs]
    have e1 : (cond ((o.length : Int) == 0) (some true) (some (decide (cst m a < c))) : Option Bool) = some (decide (o.length = 0 ∨ cst m a < c)) := by
      by_cases h0 : o.length = 0
      · rw [show ((o.length : Int) == 0) = true by rw [h0]; rfl]
        simp [h0]
      · rw [beq_eq_false_iff_ne.2 (show (o.length : Int) ≠ 0 by omega)]
        simp [h0]
    rw [e1]
    simp only [bs]
    unfold gB
    simp only []
    by_cases hc : o.length = 0 ∨ cst m a < c
    · rw [decide_eq_true hc, if_pos hc]
      simp only [cT, bs]
      rw [show (cst m a == cst m a) = true by simp, app_lt (by simp)]
      simp only [cT, bs, if_true]
      exact ih (j + 1) _ _ hq' (by simp; omega)
    · rw [decide_eq_false hc, if_neg hc]
      simp only [cF, bs]
      by_cases he : cst m a = c
      · rw [show (cst m a == c) = true by simp [he], app_lt (by omega), if_pos he]
        simp only [cT, bs]
        exact ih (j + 1) _ _ hq' (by simp; omega)
      · rw [show (cst m a == c) = false by simp [he], if_neg he]
        simp only [cF]
        exact ih (j + 1) _ _ hq' (by omega)
theorem fea_len : (fea m n).length ≤ 46656 := by
  have h6 := g.chi
  have h7 := comps_len h6 n []
  have h8 : 6 ^ n ≤ 6 ^ 6 := Nat.pow_le_pow_right (by omega) h6
  have h9 : (6 : Nat) ^ 6 = 46656 := by decide
  have := List.length_filter_le (fun a => !decide (cst m a = 1000000000)) (comps n n [])
  unfold fea
  omega
theorem asBest_eq : spec_asBest_m m = some ((fea m n).foldl (gB m) ([], 0)) := by
  have := fea_len g hn
  unfold spec_asBest_m
  rw [asAll_start g hn]
  simp only [bs]
  rw [asBest_l1_eq g hn _ 0 [] 0 (fun a h => h) (by simp; omega)]
  rfl
/-- All best ones and their cost, when there is a possible one. -/
theorem asBest_spec (h : fea m n ≠ []) : ∃ c o, spec_asBest_m m = some (o, c) ∧ o ≠ [] ∧ o = (fea m n).filter (fun a => decide (cst m a = c)) ∧ (∀ x ∈ fea m n, c ≤ cst m x) ∧ -6000000 ≤ c ∧ c ≤ 6000000 := by
  have J : JB m (fea m n) ((fea m n).foldl (gB m) ([], 0)) := JB_fold (fea m n) [] ([], 0) (.inl ⟨rfl, rfl⟩)
  rw [asBest_eq g hn]
  generalize (fea m n).foldl (gB m) ([], 0) = s at J
  rcases J with ⟨h1, _⟩ | ⟨h1, h2, h3⟩
  · exact absurd h1 h
  · refine ⟨s.2, s.1, rfl, h1, h2, h3, ?_⟩
    obtain ⟨a, ha⟩ := List.exists_mem_of_ne_nil _ h1
    rw [h2, List.mem_filter] at ha
    have hb := fea_mem.1 ha.1
    have := cst_le g hn hb.1
    have e := of_decide_eq_true ha.2
    have := this.2.2 hb.2
    omega
end

/-! ### The best that a condition allows -/
def bO (m : List (List Int)) (al : List Int → Bool) (s : List Int × Int) (a : List Int) : List Int × Int := if cst m a < s.2 ∧ al a = true then (a, cst m a) else s
def JO (m : List (List Int)) (al : List Int → Bool) (pre : List (List Int)) (s : List Int × Int) : Prop :=
  (s = ([], 1000000000) ∧ ∀ x ∈ pre, al x = true → 1000000000 ≤ cst m x) ∨ (s.1 ∈ pre ∧ al s.1 = true ∧ cst m s.1 = s.2 ∧ s.2 < 1000000000 ∧ pre.find? (fun x => al x && decide (cst m x = s.2)) = some s.1 ∧ ∀ x ∈ pre, al x = true → s.2 ≤ cst m x)
theorem JO_step {m : List (List Int)} {al : List Int → Bool} {pre : List (List Int)} {s : List Int × Int} {a : List Int} (h : JO m al pre s) : JO m al (pre ++ [a]) (bO m al s a) := by
  obtain ⟨f, c⟩ := s
  unfold bO
  by_cases hc : cst m a < c ∧ al a = true
  · rw [if_pos hc]
    right
    have hc9 : c ≤ 1000000000 := by
      rcases h with ⟨h1, _⟩ | ⟨_, _, _, h4, _⟩
      · have := congrArg (fun x : List Int × Int => x.2) h1
        simp only [] at this; omega
      · simp only [] at h4; omega
    have hge : ∀ x ∈ pre, al x = true → c ≤ cst m x := by
      intro x hx hax
      rcases h with ⟨h1, h2⟩ | ⟨_, _, _, _, _, h6⟩
      · have := congrArg (fun x : List Int × Int => x.2) h1
        simp only [] at this
        have := h2 x hx hax; omega
      · exact h6 x hx hax
    refine ⟨by simp, hc.2, rfl, by simp only []; omega, ?_, fun x hx hax => ?_⟩
    · rw [List.find?_append]
      have : pre.find? (fun x => al x && decide (cst m x = cst m a)) = none := by
        refine List.find?_eq_none.2 fun x hx => ?_
        by_cases hax : al x = true
        · have := hge x hx hax
          simp [hax]; omega
        · simp [hax]
      simp only []
      rw [this]
      simp [hc.2]
    · rcases List.mem_append.1 hx with e | e
      · have := hge x e hax; simp only []; omega
      · simp at e; subst e; simp
  · rw [if_neg hc]
    rcases h with ⟨h1, h2⟩ | ⟨h1, h2, h3, h4, h5, h6⟩
    · left
      refine ⟨h1, fun x hx hax => ?_⟩
      rcases List.mem_append.1 hx with e | e
      · exact h2 x e hax
      · simp at e; subst e
        have := congrArg (fun x : List Int × Int => x.2) h1
        simp only [] at this
        have : ¬ cst m x < c := fun h => hc ⟨h, hax⟩
        omega
    · right
      refine ⟨List.mem_append_left _ h1, h2, h3, h4, by rw [List.find?_append, h5]; rfl, fun x hx hax => ?_⟩
      rcases List.mem_append.1 hx with e | e
      · exact h6 x e hax
      · simp at e; subst e
        have : ¬ cst m x < c := fun h => hc ⟨h, hax⟩
        simp only []; omega
theorem JO_fold {m : List (List Int)} {al : List Int → Bool} : ∀ (L pre : List (List Int)) (s : List Int × Int), JO m al pre s → JO m al (pre ++ L) (L.foldl (bO m al) s)
  | [], pre, s, h => by simpa using h
  | a :: L, pre, s, h => by
    have := JO_fold L (pre ++ [a]) (bO m al s a) (JO_step h)
    rw [List.append_assoc] at this
    exact this
theorem JO_all (m : List (List Int)) (al : List Int → Bool) (L : List (List Int)) : JO m al L (L.foldl (bO m al) ([], 1000000000)) := by
  have := JO_fold L [] ([], 1000000000) (show JO m al [] ([], 1000000000) from .inl ⟨rfl, fun x h => by cases h⟩)
  exact this

def fv_any (m : List (List Int)) (l : List Int) (s : List Int × Int) : Option (List Int × Int) := (impl_bestOf_1_any_m l m s.2 s.1).bind fun y => some (y.2, y.1)
theorem any_permL (n : Int) (m : List (List Int)) (rec : List Int → Int → List Bool → List (List Int) → Int → List Int → Option (List Int × List Bool × Int × List Int)) (rec' : List Int → List Bool → List Int × Int → Option (List Int × List Bool × List Int × Int))
    (h : ∀ l u f c, rec l n u m c f = (rec' l u (f, c)).bind fun y => some (y.1, y.2.1, y.2.2.2, y.2.2.1)) : ∀ q j l u f c, impl_permutations_1_any_l1 n m rec q j l u f c = permL n rec' q j l u (f, c) := by
  intro q
  induction q with
  | zero => intro j l u f c; rfl
  | succ q ih =>
    intro j l u f c
    rw [impl_permutations_1_any_l1, permL]
    simp only [ih, h, Option.bind_assoc, bs]
theorem any_permR (n : Int) (m : List (List Int)) : ∀ k l u f c, impl_permutations_1_any_r k l n u m c f = (permR (fv_any m) n k l u (f, c)).bind fun y => some (y.1, y.2.1, y.2.2.2, y.2.2.1) := by
  intro k
  induction k with
  | zero => intro l u f c; rfl
  | succ k ih =>
    intro l u f c
    rw [impl_permutations_1_any_r, permR, impl_permutations_1_any_b, permB, any_permL n m _ _ ih]
    cases ((l.length : Int) == n)
    · simp only [cF, Option.bind_assoc]
    · simp only [cT, fv_any, Option.bind_assoc, bs]
section
variable {m : List (List Int)} {n : Nat} (g : Good m n) (hn : m.length = n)
include g hn
theorem bestOf_any_eq (al : List Int → Bool) (hal : ∀ a ∈ comps n n [], impl_anyAssignment_m a = some (al a)) :
    impl_bestOf_any_m m = some (((comps n n []).foldl (bO m al) ([], 1000000000)).2, ((comps n n []).foldl (bO m al) ([], 1000000000)).1, decide ((((comps n n []).foldl (bO m al) ([], 1000000000)).1.length : Int) > 0)) := by
  have h6 := g.chi
  have hlo := g.clo
  have key := (foldV_some (f := fv_any m) (g := bO m al) (I := fun _ _ => True) (L := comps n n []) (s := (([], 1000000000) : List Int × Int)) (i := 0) trivial (fun a ha j s _ _ _ => by
    refine ⟨?_, trivial⟩
    obtain ⟨t, e, h4, h5⟩ := comps_mem ha
    have e : a = t := e
    subst e
    have hc := costOf_eq g hn (a := a) (by omega) h5
    have hl := hal a ha
    unfold fv_any impl_bestOf_1_any_m bO
    rw [hc, hl]
    simp only [bs]
    by_cases c1 : pcost m a 0 0 < s.2
    · rw [decide_eq_true c1]
      simp only [cT, bs]
      cases hq : al a with
      | true =>
        simp only [cT]
        rw [Clone_eq (by omega)]
        simp only [bs]
        rw [guardO_t (decide_eq_true (by omega)), if_pos (by simp [c1])]
        rfl
      | false =>
        simp only [cF, bs]
        rw [if_neg (by simp)]
    · rw [decide_eq_false c1, if_neg (fun h => c1 h.1)]
      simp only [cF, bs])).1
  unfold impl_bestOf_any_m impl_permutations_any_m
  rw [hn, guardO_t (by simp; omega)]
  simp only [bs]
  unfold impl_permutations_1_any_m
  rw [any_permR, show ((n : Int)).toNat = n by omega, permR_start _ (by omega) (by omega), key]
  rfl
end

def fv_regret (m : List (List Int)) (ii kk : Int) (l : List Int) (s : List Int × Int) : Option (List Int × Int) := (impl_bestOf_1_regret_m l m s.2 s.1 ii kk).bind fun y => some (y.2, y.1)
theorem regret_permL (n : Int) (m : List (List Int)) (ii kk : Int) (rec : List Int → Int → List Bool → List (List Int) → Int → List Int → Int → Int → Option (List Int × List Bool × Int × List Int)) (rec' : List Int → List Bool → List Int × Int → Option (List Int × List Bool × List Int × Int))
    (h : ∀ l u f c, rec l n u m c f ii kk = (rec' l u (f, c)).bind fun y => some (y.1, y.2.1, y.2.2.2, y.2.2.1)) : ∀ q j l u f c, impl_permutations_1_regret_l1 n m ii kk rec q j l u f c = permL n rec' q j l u (f, c) := by
  intro q
  induction q with
  | zero => intro j l u f c; rfl
  | succ q ih =>
    intro j l u f c
    rw [impl_permutations_1_regret_l1, permL]
    simp only [ih, h, Option.bind_assoc, bs]
theorem regret_permR (n : Int) (m : List (List Int)) (ii kk : Int) : ∀ k l u f c, impl_permutations_1_regret_r k l n u m c f ii kk = (permR (fv_regret m ii kk) n k l u (f, c)).bind fun y => some (y.1, y.2.1, y.2.2.2, y.2.2.1) := by
  intro k
  induction k with
  | zero => intro l u f c; rfl
  | succ k ih =>
    intro l u f c
    rw [impl_permutations_1_regret_r, permR, impl_permutations_1_regret_b, permB, regret_permL n m ii kk _ _ ih]
    cases ((l.length : Int) == n)
    · simp only [cF, Option.bind_assoc]
    · simp only [cT, fv_regret, Option.bind_assoc, bs]
section
variable {m : List (List Int)} {n : Nat} (g : Good m n) (hn : m.length = n)
include g hn
theorem bestOf_regret_eq (ii kk : Int) (al : List Int → Bool) (hal : ∀ a ∈ comps n n [], impl_RegretOf_1_m a ii kk = some (al a)) :
    impl_bestOf_regret_m m ii kk = some (((comps n n []).foldl (bO m al) ([], 1000000000)).2, ((comps n n []).foldl (bO m al) ([], 1000000000)).1, decide ((((comps n n []).foldl (bO m al) ([], 1000000000)).1.length : Int) > 0)) := by
  have h6 := g.chi
  have hlo := g.clo
  have key := (foldV_some (f := fv_regret m ii kk) (g := bO m al) (I := fun _ _ => True) (L := comps n n []) (s := (([], 1000000000) : List Int × Int)) (i := 0) trivial (fun a ha j s _ _ _ => by
    refine ⟨?_, trivial⟩
    obtain ⟨t, e, h4, h5⟩ := comps_mem ha
    have e : a = t := e
    subst e
    have hc := costOf_eq g hn (a := a) (by omega) h5
    have hl := hal a ha
    unfold fv_regret impl_bestOf_1_regret_m bO
    rw [hc, hl]
    simp only [bs]
    by_cases c1 : pcost m a 0 0 < s.2
    · rw [decide_eq_true c1]
      simp only [cT, bs]
      cases hq : al a with
      | true =>
        simp only [cT]
        rw [Clone_eq (by omega)]
        simp only [bs]
        rw [guardO_t (decide_eq_true (by omega)), if_pos (by simp [c1])]
        rfl
      | false =>
        simp only [cF, bs]
        rw [if_neg (by simp)]
    · rw [decide_eq_false c1, if_neg (fun h => c1 h.1)]
      simp only [cF, bs])).1
  unfold impl_bestOf_regret_m impl_permutations_regret_m
  rw [hn, guardO_t (by simp; omega)]
  simp only [bs]
  unfold impl_permutations_1_regret_m
  rw [regret_permR, show ((n : Int)).toNat = n by omega, permR_start _ (by omega) (by omega), key]
  rfl
end

def fv_second (m : List (List Int)) (b0 : Int) (b1 : List Int) (l : List Int) (s : List Int × Int) : Option (List Int × Int) := (impl_bestOf_1_second_m l m s.2 s.1 b0 b1).bind fun y => some (y.2, y.1)
theorem second_permL (n : Int) (m : List (List Int)) (b0 : Int) (b1 : List Int) (rec : List Int → Int → List Bool → List (List Int) → Int → List Int → Int → List Int → Option (List Int × List Bool × Int × List Int)) (rec' : List Int → List Bool → List Int × Int → Option (List Int × List Bool × List Int × Int))
    (h : ∀ l u f c, rec l n u m c f b0 b1 = (rec' l u (f, c)).bind fun y => some (y.1, y.2.1, y.2.2.2, y.2.2.1)) : ∀ q j l u f c, impl_permutations_1_second_l1 n m b0 b1 rec q j l u f c = permL n rec' q j l u (f, c) := by
  intro q
  induction q with
  | zero => intro j l u f c; rfl
  | succ q ih =>
    intro j l u f c
    rw [impl_permutations_1_second_l1, permL]
    simp only [ih, h, Option.bind_assoc, bs]
theorem second_permR (n : Int) (m : List (List Int)) (b0 : Int) (b1 : List Int) : ∀ k l u f c, impl_permutations_1_second_r k l n u m c f b0 b1 = (permR (fv_second m b0 b1) n k l u (f, c)).bind fun y => some (y.1, y.2.1, y.2.2.2, y.2.2.1) := by
  intro k
  induction k with
  | zero => intro l u f c; rfl
  | succ k ih =>
    intro l u f c
    rw [impl_permutations_1_second_r, permR, impl_permutations_1_second_b, permB, second_permL n m b0 b1 _ _ ih]
    cases ((l.length : Int) == n)
    · simp only [cF, Option.bind_assoc]
    · simp only [cT, fv_second, Option.bind_assoc, bs]
section
variable {m : List (List Int)} {n : Nat} (g : Good m n) (hn : m.length = n)
include g hn
theorem bestOf_second_eq (b0 : Int) (b1 : List Int) (al : List Int → Bool) (hal : ∀ a ∈ comps n n [], impl_SecondBest_1_m a b0 b1 = some (al a)) :
    impl_bestOf_second_m m b0 b1 = some (((comps n n []).foldl (bO m al) ([], 1000000000)).2, ((comps n n []).foldl (bO m al) ([], 1000000000)).1, decide ((((comps n n []).foldl (bO m al) ([], 1000000000)).1.length : Int) > 0)) := by
  have h6 := g.chi
  have hlo := g.clo
  have key := (foldV_some (f := fv_second m b0 b1) (g := bO m al) (I := fun _ _ => True) (L := comps n n []) (s := (([], 1000000000) : List Int × Int)) (i := 0) trivial (fun a ha j s _ _ _ => by
    refine ⟨?_, trivial⟩
    obtain ⟨t, e, h4, h5⟩ := comps_mem ha
    have e : a = t := e
    subst e
    have hc := costOf_eq g hn (a := a) (by omega) h5
    have hl := hal a ha
    unfold fv_second impl_bestOf_1_second_m bO
    rw [hc, hl]
    simp only [bs]
    by_cases c1 : pcost m a 0 0 < s.2
    · rw [decide_eq_true c1]
      simp only [cT, bs]
      cases hq : al a with
      | true =>
        simp only [cT]
        rw [Clone_eq (by omega)]
        simp only [bs]
        rw [guardO_t (decide_eq_true (by omega)), if_pos (by simp [c1])]
        rfl
      | false =>
        simp only [cF, bs]
        rw [if_neg (by simp)]
    · rw [decide_eq_false c1, if_neg (fun h => c1 h.1)]
      simp only [cF, bs])).1
  unfold impl_bestOf_second_m impl_permutations_second_m
  rw [hn, guardO_t (by simp; omega)]
  simp only [bs]
  unfold impl_permutations_1_second_m
  rw [second_permR, show ((n : Int)).toNat = n by omega, permR_start _ (by omega) (by omega), key]
  rfl
end
end Go.Proofs.Ytnnhbkhlipekeaa
