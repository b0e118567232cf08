/- Plain laws: is a graph strongly connected. -/
import Derived.Test.YtjhaealoneennaaEigM
import Derived.Test.YtjhaealoneennaaPPut
import Derived.Test.YtjhaealoneennaaPFwC
import Derived.Test.YtjhaealoneennaaPWk
namespace Go.Proofs.Ytjhaealoneennaa
set_option linter.unusedVariables false
set_option linter.unusedSimpArgs false
set_option linter.unusedSectionVars false

/-! ### Arcs that cost nothing -/
def zr (m : List (List Int)) (n : Nat) : Mt := fun i k => if i < n ∧ k < n then (if En m i k = 1000000000 then none else some 0) else none
theorem zr_some {m : List (List Int)} {n i k : Nat} {x : Int} (h : zr m n i k = some x) : i < n ∧ k < n ∧ En m i k ≠ 1000000000 ∧ x = 0 := by
  unfold zr at h
  split at h
  · rename_i h1
    split at h
    · cases h
    · rename_i h2
      exact ⟨h1.1, h1.2, h2, by simpa using h.symm⟩
  · cases h
theorem zr_wk {m : List (List Int)} {n : Nat} : ∀ (l : List Nat) (i : Nat) (x : Int), wk (zr m n) i l = some x → x = 0
  | [], i, x, h => by simp [wk] at h; omega
  | k :: l, i, x, h => by
    rw [wk] at h
    obtain ⟨y, z, h1, h2, h3⟩ := padd_some h
    have := (zr_some h1).2.2.2
    have := zr_wk l k z h2
    omega
theorem zr_settled (m : List (List Int)) (n : Nat) : (∀ i k, i < n → k < n → cs n (zr m n) (n + 1) i k = cs n (zr m n) n i k) ∧ Closed_ n (cs n (zr m n) n) ∧ ∀ i, i < n → cs n (zr m n) n i i = some 0 :=
  settled (n := n) (m := zr m n) (fun i k h => by unfold zr; rw [if_neg h]) (fun i l x _ _ _ hw => by have := zr_wk _ _ _ hw; omega)
/-- k lies on a way from i. -/
def Rch (m : List (List Int)) (n i k : Nat) : Prop := ∃ l, las i l = k ∧ wk (zr m n) i l = some 0 ∧ ∀ v ∈ l, v < n
theorem rch_cs {m : List (List Int)} {n i k : Nat} (hi : i < n) (hk : k < n) : cs n (zr m n) n i k ≠ none ↔ Rch m n i k := by
  obtain ⟨s1, s2, s3⟩ := zr_settled m n
  constructor
  · intro h
    cases hc : cs n (zr m n) n i k with
    | none => exact absurd hc h
    | some x =>
      obtain ⟨l, h1, h2, h3, _⟩ := cs_wk n i k x hk hc
      have := zr_wk l i x h2
      exact ⟨l, h1, by rw [h2, this], h3⟩
  · rintro ⟨l, h1, h2, h3⟩ hn
    have hm : ∀ i k, i < n → k < n → ple (cs n (zr m n) n i k) (zr m n i k) := fun i k hi hk => by
      have := cs_st (n := n) (m := zr m n) n i k i hi
      rw [s1 i k hi hk, s3 i hi, zero_padd] at this
      exact this
    have := closed_wk s2 (fun i hi => by rw [s3 i hi]; exact ple_refl _) hm l i hi h3
    rw [h1, h2, hn] at this
    exact this
theorem rch_step {m : List (List Int)} {n i j k : Nat} (h : Rch m n i j) (hj : j < n) (hk : k < n) (ha : En m j k ≠ 1000000000) : Rch m n i k := by
  obtain ⟨l, h1, h2, h3⟩ := h
  have hz : zr m n j k = some 0 := by unfold zr; rw [if_pos ⟨hj, hk⟩, if_neg ha]
  refine ⟨l ++ [k], by rw [las_append]; rfl, ?_, fun v hv => ?_⟩
  · rw [wk_append, h1, h2]; simp [wk, hz, padd]
  · rcases List.mem_append.1 hv with h | h
    · exact h3 v h
    · simp at h; omega
theorem rch_in {m : List (List Int)} {n : Nat} {S : List Int} (hS : ∀ j k, j < n → k < n → (j : Int) ∈ S → En m j k ≠ 1000000000 → (k : Int) ∈ S) : ∀ (l : List Nat) (i : Nat) (x : Int), (i : Int) ∈ S → wk (zr m n) i l = some x → (las i l : Int) ∈ S
  | [], i, x, hi, _ => hi
  | k :: l, i, x, hi, h => by
    rw [wk] at h
    obtain ⟨y, z, h1, h2, _⟩ := padd_some h
    obtain ⟨a1, a2, a3, _⟩ := zr_some h1
    exact rch_in hS l k z (hS i k a1 a2 hi a3) h2

/-! ### The specification's search -/
theorem rise_le_n {n : Nat} {l : List Int} (hr : Rise l) (hv : ∀ x ∈ l, 0 ≤ x ∧ x < (n : Int)) : l.length ≤ n := by
  have := nodup_len n (l.map Int.toNat) (by
    unfold List.Nodup
    rw [List.pairwise_map]
    refine List.Pairwise.imp_of_mem (fun {a b} ha hb h e => ?_) hr
    have := hv a ha; have := hv b hb
    omega) (fun v hv' => by
    obtain ⟨x, hx, rfl⟩ := List.mem_map.1 hv'
    have := hv x hx
    omega)
  simpa using this
theorem sub_len : ∀ (l l' : List Int), l.Nodup → (∀ x ∈ l, x ∈ l') → l.length ≤ l'.length
  | [], _, _, _ => by simp
  | x :: l, l', hd, hs => by
    obtain ⟨h1, h2⟩ := List.nodup_cons.1 hd
    have hx := hs x List.mem_cons_self
    have h3 := sub_len l (l'.erase x) h2 (fun y hy => (List.mem_erase_of_ne (fun e => h1 (by rw [← e]; exact hy))).2 (hs y (List.mem_cons_of_mem _ hy)))
    rw [List.length_erase_of_mem hx] at h3
    have := List.length_pos_of_mem hx
    simp only [List.length_cons]
    omega
structure Srch (m : List (List Int)) (n s : Nat) (o S : List Int) : Prop where
  rise : Rise S
  rng : ∀ x ∈ S, 0 ≤ x ∧ x < (n : Int)
  sub : ∀ x ∈ o, x ∈ S
  rch : ∀ k : Nat, (k : Int) ∈ S → Rch m n s k
section
variable {m : List (List Int)} {n : Nat} (g : Good m n) (hn : m.length = n)
include g hn
theorem reach_l2 {s v : Nat} (hv : v < n) (hrv : Rch m n s v) (q : List Int) : ∀ j o S, q = (nthM m v).drop j → j + q.length = n → Srch m n s o S → o.length ≤ 100 + j →
    ∃ o' S', spec_mnReach_l2 q j o S = some (o', S') ∧ Srch m n s o' S' ∧ (∀ x ∈ S, x ∈ S') ∧ (∀ x ∈ o, x ∈ o') ∧ o'.length + S.length = o.length + S'.length ∧ (∀ x ∈ S', x ∈ S ∨ x ∈ o') ∧ ∀ k, j ≤ k → k < n → En m v k ≠ 1000000000 → (k : Int) ∈ S' := by
  have h6 := g.chi
  have sh : Shape m n n := ⟨hn, g.row⟩
  induction q with
  | nil =>
    intro j o S _ hj hS _
    simp only [List.length_nil] at hj
    exact ⟨o, S, rfl, hS, fun x h => h, fun x h => h, rfl, fun x h => .inl h, fun k h1 h2 => by omega⟩
  | cons x q ih =>
    intro j o S hq hj hS ho
    simp only [List.length_cons] at hj
    have hjl : j < (nthM m v).length := by rw [sh.nth_len hv]; omega
    rw [drop_cons hjl] at hq
    have hx : x = En m v j := by injection hq with h; rw [h]; simp [En, nth, hjl]
    have hq : q = (nthM m v).drop (j + 1) := by injection hq
    have hSl := rise_le_n hS.rise hS.rng
    rw [spec_mnReach_l2, hx]
    have skip : (En m v j = 1000000000 ∨ (j : Int) ∈ S) → ∃ o' S', spec_mnReach_l2 q (j + 1) o S = some (o', S') ∧ Srch m n s o' S' ∧ (∀ x ∈ S, x ∈ S') ∧ (∀ x ∈ o, x ∈ o') ∧ o'.length + S.length = o.length + S'.length ∧ (∀ x ∈ S', x ∈ S ∨ x ∈ o') ∧ ∀ k, j ≤ k → k < n → En m v k ≠ 1000000000 → (k : Int) ∈ S' := fun hs => by
      obtain ⟨o', S', k1, k2, k3, k4, k5, k6, k7⟩ := ih (j + 1) o S hq (by omega) hS (by omega)
      refine ⟨o', S', k1, k2, k3, k4, k5, k6, fun k h1 h2 h3 => ?_⟩
      by_cases e : k = j
      · subst e
        rcases hs with h | h
        · exact absurd h h3
        · exact k3 _ h
      · exact k7 k (by omega) h2 h3
    by_cases e1 : En m v j = 1000000000
    · rw [show (En m v j != 1000000000) = false by simpa using e1]
      simp only [cF, bs]
      exact skip (.inl e1)
    · rw [show (En m v j != 1000000000) = true by simpa using e1, l1Has_eq]
      simp only [cT, bs]
      by_cases e2 : (j : Int) ∈ S
      · rw [show S.contains (j : Int) = true by simpa using e2]
        simp only [Bool.not_true, cF]
        exact skip (.inr e2)
      · rw [show S.contains (j : Int) = false by simpa using e2]
        simp only [Bool.not_false, cT]
        obtain ⟨S1, p1, p2, p3, p4⟩ := l1Put_eq (j : Int) (show S.length < 1000000 by omega) hS.rise
        rw [p1]
        simp only [bs]
        rw [app_lt (by omega)]
        simp only [bs]
        have hS1 : Srch m n s (o ++ [(j : Int)]) S1 := ⟨p2, fun x hx => by
            rcases (p3 x).1 hx with h | h
            · exact hS.rng x h
            · omega, fun x hx => by
            rcases List.mem_append.1 hx with h | h
            · exact (p3 x).2 (.inl (hS.sub x h))
            · simp at h; exact (p3 x).2 (.inr h), fun k hk => by
            rcases (p3 _).1 hk with h | h
            · exact hS.rch k h
            · have : k = j := by omega
              subst this
              exact rch_step hrv hv (by omega) e1⟩
        have hlen : S1.length = S.length + 1 := by
          refine Nat.le_antisymm p4 ?_
          have hnd : ((j : Int) :: S).Nodup := List.nodup_cons.2 ⟨e2, List.Pairwise.imp (fun h e => by omega) hS.rise⟩
          have hsub : ∀ x ∈ (j : Int) :: S, x ∈ S1 := fun x hx => by
            rcases List.mem_cons.1 hx with h | h
            · exact (p3 x).2 (.inr h)
            · exact (p3 x).2 (.inl h)
          have := sub_len _ _ hnd hsub
          simpa using this
        obtain ⟨o', S', k1, k2, k3, k4, k5, k6, k7⟩ := ih (j + 1) (o ++ [(j : Int)]) S1 hq (by omega) hS1 (by simp; omega)
        refine ⟨o', S', k1, k2, fun x hx => k3 x ((p3 x).2 (.inl hx)), fun x hx => k4 x (List.mem_append_left _ hx), by simp at k5; omega, fun x hx => ?_, fun k h1 h2 h3 => ?_⟩
        · rcases k6 x hx with h | h
          · rcases (p3 x).1 h with h | h
            · exact .inl h
            · exact .inr (k4 x (by rw [h]; simp))
          · exact .inr h
        · by_cases e : k = j
          · subst e; exact k3 _ ((p3 _).2 (.inr rfl))
          · exact k7 k (by omega) h2 h3
theorem reach_l1 {s : Nat} : ∀ (q fuel : Nat) (o S : List Int), o.length + (n - S.length) = q → q < fuel → q ≤ 50 → Srch m n s o S → (∀ j k, j < n → k < n → (j : Int) ∈ S → (j : Int) ∉ o → En m j k ≠ 1000000000 → (k : Int) ∈ S) →
    ∃ S', spec_mnReach_l1 m fuel o S = some S' ∧ Srch m n s [] S' ∧ (∀ x ∈ S, x ∈ S') ∧ ∀ j k, j < n → k < n → (j : Int) ∈ S' → En m j k ≠ 1000000000 → (k : Int) ∈ S' := by
  have h6 := g.chi
  have sh : Shape m n n := ⟨hn, g.row⟩
  intro q
  induction q with
  | zero =>
    intro fuel o S hq hf _ hS hcl
    obtain ⟨fuel, rfl⟩ : ∃ k', fuel = k' + 1 := ⟨fuel - 1, by omega⟩
    have : o = [] := List.length_eq_zero_iff.1 (by omega)
    subst this
    exact ⟨S, rfl, hS, fun x h => h, fun j k h1 h2 h3 h4 => hcl j k h1 h2 h3 (by simp) h4⟩
  | succ q ih =>
    intro fuel o S hq hf ho hS hcl
    obtain ⟨fuel, rfl⟩ : ∃ k', fuel = k' + 1 := ⟨fuel - 1, by omega⟩
    cases o with
    | nil => exact ⟨S, rfl, hS, fun x h => h, fun j k h1 h2 h3 h4 => hcl j k h1 h2 h3 (by simp) h4⟩
    | cons v o =>
      have hvS := hS.sub v List.mem_cons_self
      have hv := hS.rng v hvS
      obtain ⟨v, rfl⟩ := Int.eq_ofNat_of_zero_le hv.1
      have hvn : v < n := by omega
      rw [spec_mnReach_l1, decide_eq_true (by simp)]
      simp only [cT]
      rw [show idx ((v : Int) :: o) 0 = some (v : Int) by rfl, show cutL ((v : Int) :: o) 1 = some o by unfold cutL; rw [decide_eq_true (by simp; omega)]; rfl]
      simp only [bs]
      rw [sh.idx hvn]
      simp only [bs]
      have hS0 : Srch m n s o S := ⟨hS.rise, hS.rng, fun x hx => hS.sub x (List.mem_cons_of_mem _ hx), hS.rch⟩
      simp only [List.length_cons] at hq ho
      obtain ⟨o', S', k1, k2, k3, k4, k5, k6, k7⟩ := reach_l2 g hn hvn (hS.rch v hvS) (nthM m v) 0 o S rfl (by rw [sh.nth_len hvn]; omega) hS0 (by omega)
      rw [k1]
      simp only [bs]
      have hSl := rise_le_n k2.rise k2.rng
      have hSl0 := rise_le_n hS.rise hS.rng
      have hcl' : ∀ j k, j < n → k < n → (j : Int) ∈ S' → (j : Int) ∉ o' → En m j k ≠ 1000000000 → (k : Int) ∈ S' := fun j k h1 h2 h3 h4 h5 => by
        by_cases e : j = v
        · subst e; exact k7 k (by omega) h2 h5
        · rcases k6 _ h3 with h | h
          · refine k3 _ (hcl j k h1 h2 h (fun hm => ?_) h5)
            rcases List.mem_cons.1 hm with c | c
            · omega
            · exact h4 (k4 _ c)
          · exact absurd h h4
      obtain ⟨S2, e1, e2, e3, e4⟩ := ih fuel o' S' (by omega) (by omega) (by omega) k2 hcl'
      exact ⟨S2, e1, e2, fun x hx => e3 x (k3 x hx), e4⟩
theorem reach_eq {s : Nat} (hs : s < n) : ∃ S, spec_mnReach_m m (s : Int) = some S ∧ (S.length < n ↔ ∃ k, k < n ∧ ¬ Rch m n s k) := by
  have h6 := g.chi
  obtain ⟨S, k1, k2, k3, k4⟩ := reach_l1 g hn (s := s) (1 + (n - 1)) 4000000 [(s : Int)] [(s : Int)] (by simp) (by omega) (by omega) ⟨by simp, fun x hx => by simp at hx; omega, fun x hx => hx, fun k hk => by
    simp at hk
    have : k = s := by omega
    subst this
    exact ⟨[], rfl, rfl, fun v hv => by cases hv⟩⟩ (fun j k _ _ h1 h2 => absurd h1 h2)
  refine ⟨S, by unfold spec_mnReach_m; rw [k1]; rfl, fun h => ?_, fun ⟨k, hk, hr⟩ => ?_⟩
  · refine Classical.byContradiction fun hno => ?_
    have hall : ∀ k : Nat, k < n → (k : Int) ∈ S := fun k hk => by
      have : Rch m n s k := Classical.byContradiction fun hr => hno ⟨k, hk, hr⟩
      obtain ⟨l, h1, h2, _⟩ := this
      have := rch_in k4 l s 0 (k3 _ (by simp)) h2
      rwa [h1] at this
    have := sub_len ((List.range n).map fun k : Nat => (k : Int)) S (by
      unfold List.Nodup
      rw [List.pairwise_map]
      exact List.Pairwise.imp (fun h e => by omega) List.pairwise_lt_range) (fun x hx => by
      obtain ⟨k, hk, rfl⟩ := List.mem_map.1 hx
      exact hall k (List.mem_range.1 hk))
    simp at this
    omega
  · have hnot : (k : Int) ∉ S := fun hm => hr (k2.rch k hm)
    have := rise_le_n (n := n) (l := S) k2.rise k2.rng
    refine Nat.lt_of_le_of_ne this fun e => ?_
    have hnd : ((k : Int) :: S).Nodup := List.nodup_cons.2 ⟨hnot, List.Pairwise.imp (fun h e => by omega) k2.rise⟩
    have := sub_len ((k : Int) :: S) ((List.range n).map fun k : Nat => (k : Int)) hnd (fun x hx => by
      refine List.mem_map.2 ⟨x.toNat, List.mem_range.2 ?_, ?_⟩
      · rcases List.mem_cons.1 hx with h | h
        · omega
        · have := k2.rng x h; omega
      · rcases List.mem_cons.1 hx with h | h
        · omega
        · have := k2.rng x h; omega)
    simp at this
    omega
theorem connected_l1 (q : List (List Int)) : ∀ j, j + q.length = n → ((∀ i k, j ≤ i → i < n → k < n → Rch m n i k) ∧ spec_mnConnected_l1 m q j = some (Sum.inr ())) ∨ ((∃ i k, i < n ∧ k < n ∧ ¬ Rch m n i k) ∧ spec_mnConnected_l1 m q j = some (Sum.inl false)) := by
  induction q with
  | nil =>
    intro j hj
    simp only [List.length_nil] at hj
    exact .inl ⟨fun i k h1 h2 => by omega, rfl⟩
  | cons x q ih =>
    intro j hj
    simp only [List.length_cons] at hj
    obtain ⟨S, h1, h2⟩ := reach_eq g hn (s := j) (by omega)
    rw [spec_mnConnected_l1, h1, hn]
    simp only [bs]
    by_cases e : S.length < n
    · rw [decide_eq_true (by omega)]
      obtain ⟨k, hk, hr⟩ := h2.1 e
      exact .inr ⟨⟨j, k, by omega, hk, hr⟩, rfl⟩
    · rw [decide_eq_false (by omega)]
      simp only [cF]
      rcases ih (j + 1) (by omega) with ⟨h3, h4⟩ | ⟨h3, h4⟩
      · refine .inl ⟨fun i k h5 h6 h7 => ?_, h4⟩
        by_cases ei : i = j
        · subst ei
          exact Classical.byContradiction fun hr => e (h2.2 ⟨k, h7, hr⟩)
        · exact h3 i k (by omega) h6 h7
      · exact .inr ⟨h3, h4⟩
theorem strong_l2 {i : Nat} (hi : i < n) (q : List Int) : ∀ k d, q = (nthM m i).drop k → k + q.length = n → Shape d n n →
    ∃ d', impl_isStrong_l2 i q k d = some d' ∧ Shape d' n n ∧ ∀ a b, a < n → b < n → En d' a b = if a = i ∧ k ≤ b ∧ En m i b ≠ 1000000000 then 0 else En d a b := by
  have sh : Shape m n n := ⟨hn, g.row⟩
  induction q with
  | nil =>
    intro k d _ hk hd
    simp only [List.length_nil] at hk
    exact ⟨d, rfl, hd, fun a b _ hb => by rw [if_neg (by omega)]⟩
  | cons x q ih =>
    intro k d hq hk hd
    simp only [List.length_cons] at hk
    have hkl : k < (nthM m i).length := by rw [sh.nth_len hi]; omega
    rw [drop_cons hkl] at hq
    have hx : x = En m i k := by injection hq with h; rw [h]; simp [En, nth, hkl]
    have hq : q = (nthM m i).drop (k + 1) := by injection hq
    have hkn : k < n := by omega
    rw [impl_isStrong_l2, hx]
    by_cases e : En m i k = 1000000000
    · rw [show (En m i k != 1000000000) = false by simpa using e]
      simp only [cF]
      obtain ⟨d', h1, h2, h3⟩ := ih (k + 1) d hq (by omega) hd
      refine ⟨d', h1, h2, fun a b ha hb => ?_⟩
      rw [h3 a b ha hb]
      by_cases c : a = i ∧ k + 1 ≤ b ∧ En m i b ≠ 1000000000
      · rw [if_pos c, if_pos ⟨c.1, by omega, c.2.2⟩]
      · rw [if_neg c, if_neg (fun h => c ⟨h.1, by
          by_cases eb : b = k
          · subst eb; exact absurd e h.2.2
          · omega, h.2.2⟩)]
    · rw [show (En m i k != 1000000000) = true by simpa using e, hd.idx hi]
      simp only [cT, bs]
      rw [En_idx hd hi hkn]
      simp only [bs]
      have hrl := hd.nth_len hi
      rw [upd_nat (by omega)]
      simp only [bs, Int.toNat_natCast]
      obtain ⟨d', h1, h2, h3⟩ := ih (k + 1) (d.set i ((nthM d i).set k 0)) hq (by omega) (hd.set i (by simpa using hrl))
      refine ⟨d', h1, h2, fun a b ha hb => ?_⟩
      rw [h3 a b ha hb, En_set hd hi hkn]
      by_cases c : a = i ∧ k + 1 ≤ b ∧ En m i b ≠ 1000000000
      · rw [if_pos c, if_pos ⟨c.1, by omega, c.2.2⟩]
      · rw [if_neg c]
        by_cases c2 : a = i ∧ b = k
        · rw [if_pos c2, if_pos ⟨c2.1, by omega, by rw [c2.2]; exact e⟩]
        · rw [if_neg c2, if_neg (fun h => c ⟨h.1, by
            by_cases eb : b = k
            · exact absurd ⟨h.1, eb⟩ c2
            · omega, h.2.2⟩)]
theorem strong_l1 (q : List (List Int)) : ∀ j d, q = m.drop j → j + q.length = n → Shape d n n →
    ∃ d', impl_isStrong_l1 q j d = some d' ∧ Shape d' n n ∧ ∀ a b, a < n → b < n → En d' a b = if j ≤ a ∧ En m a b ≠ 1000000000 then 0 else En d a b := by
  have sh : Shape m n n := ⟨hn, g.row⟩
  induction q with
  | nil =>
    intro j d _ hj hd
    simp only [List.length_nil] at hj
    exact ⟨d, rfl, hd, fun a b ha _ => by rw [if_neg (by omega)]⟩
  | cons x q ih =>
    intro j d hq hj hd
    simp only [List.length_cons] at hj
    have hjm : j < m.length := by omega
    rw [drop_cons hjm] at hq
    have hx : x = nthM m j := by injection hq with h; rw [h]; simp [nthM, hjm]
    have hq : q = m.drop (j + 1) := by injection hq
    obtain ⟨d1, h1, h2, h3⟩ := strong_l2 g hn (i := j) (by omega) (nthM m j) 0 d rfl (by rw [sh.nth_len (by omega)]; omega) hd
    rw [impl_isStrong_l1, hx, h1]
    simp only [bs]
    obtain ⟨d', k1, k2, k3⟩ := ih (j + 1) d1 hq (by omega) h2
    refine ⟨d', k1, k2, fun a b ha hb => ?_⟩
    rw [k3 a b ha hb, h3 a b ha hb]
    by_cases e : En m a b = 1000000000
    · rw [if_neg (fun h => h.2 e), if_neg (fun h => by rw [← h.1] at h; exact h.2.2 e), if_neg (fun h => h.2 e)]
    · by_cases c2 : j + 1 ≤ a
      · rw [if_pos ⟨c2, e⟩, if_pos ⟨by omega, e⟩]
      · by_cases c : a = j
        · subst c
          rw [if_neg (fun h => c2 h.1), if_pos ⟨rfl, by omega, e⟩, if_pos ⟨Nat.le_refl _, e⟩]
        · rw [if_neg (fun h => c2 h.1), if_neg (fun h => c h.1), if_neg (fun h => (by have := h.1; omega))]
end
theorem has_l1 (n : Int) (l : List Int) : ∀ j : Nat, (l.contains n = false ∧ slices_Index_int_int_l1 n l j = some (Sum.inr ())) ∨ (l.contains n = true ∧ ∃ k : Nat, slices_Index_int_int_l1 n l j = some (Sum.inl (k : Int))) := by
  induction l with
  | nil => intro j; exact .inl ⟨rfl, rfl⟩
  | cons x l ih =>
    intro j
    rw [slices_Index_int_int_l1]
    by_cases e : n = x
    · rw [show (n == x) = true by simp [e]]
      exact .inr ⟨by simp [e], j, rfl⟩
    · rw [show (n == x) = false by simp [e]]
      simp only [cF]
      rcases ih (j + 1) with ⟨h1, h2⟩ | ⟨h1, k, h2⟩
      · exact .inl ⟨by rw [List.contains_cons, h1]; simp [e], h2⟩
      · exact .inr ⟨by rw [List.contains_cons, h1]; simp, k, h2⟩
theorem has_eq (l : List Int) (n : Int) : slices_Contains_int_int_m l n = some (l.contains n) := by
  unfold slices_Contains_int_int_m slices_Index_int_int_m
  rcases has_l1 n l 0 with ⟨h1, h2⟩ | ⟨h1, k, h2⟩
  · rw [h1, h2]; rfl
  · rw [h1, h2]
    simp only [bs, Sum.elim_inl]
    rw [decide_eq_true (show (k : Int) ≥ 0 by omega)]
theorem anyInf_l1 (q : List (List Int)) : ∀ j : Nat, (q.any (·.contains 1000000000) = false ∧ slices_IndexFunc_int_int_impl_isStrong_1_l1 q j = some (Sum.inr ())) ∨ (q.any (·.contains 1000000000) = true ∧ ∃ k : Nat, slices_IndexFunc_int_int_impl_isStrong_1_l1 q j = some (Sum.inl (k : Int))) := by
  induction q with
  | nil => intro j; exact .inl ⟨rfl, rfl⟩
  | cons x q ih =>
    intro j
    rw [slices_IndexFunc_int_int_impl_isStrong_1_l1]
    unfold impl_isStrong_1_m
    rw [has_eq]
    simp only [bs]
    cases e : x.contains 1000000000 with
    | true => exact .inr ⟨by rw [List.any_cons, e]; rfl, j, rfl⟩
    | false =>
      simp only [cF]
      rcases ih (j + 1) with ⟨h1, h2⟩ | ⟨h1, k, h2⟩
      · exact .inl ⟨by rw [List.any_cons, e, h1]; rfl, h2⟩
      · exact .inr ⟨by rw [List.any_cons, e, h1]; rfl, k, h2⟩
theorem anyInf_eq (q : List (List Int)) : slices_ContainsFunc_int_int_impl_isStrong_1_m q = some (q.any (·.contains 1000000000)) := by
  unfold slices_ContainsFunc_int_int_impl_isStrong_1_m slices_IndexFunc_int_int_impl_isStrong_1_m
  rcases anyInf_l1 q 0 with ⟨h1, h2⟩ | ⟨h1, k, h2⟩
  · rw [h1, h2]; rfl
  · rw [h1, h2]
    simp only [bs, Sum.elim_inl]
    rw [decide_eq_true (show (k : Int) ≥ 0 by omega)]
section
variable {m : List (List Int)} {n : Nat} (g : Good m n) (hn : m.length = n)
include g hn
/-- Both say whether every vertex lies on a way from every vertex. -/
theorem strong_eq : ∃ b, spec_mnConnected_m m = some b ∧ impl_isStrong_m m = some b ∧ (b = true ↔ ∀ i k, i < n → k < n → Rch m n i k) := by
  have h6 := g.chi
  have sh : Shape m n n := ⟨hn, g.row⟩
  obtain ⟨z, z1, z2, z3⟩ := strong_l1 g hn m 0 m rfl (by omega) sh
  have zz : ∀ a b, a < n → b < n → En z a b = if En m a b = 1000000000 then 1000000000 else 0 := fun a b ha hb => by
    rw [z3 a b ha hb]
    by_cases e : En m a b = 1000000000
    · rw [if_neg (fun h => h.2 e), if_pos e, e]
    · rw [if_pos ⟨by omega, e⟩, if_neg e]
  have hA : A n z = zr m n := by
    funext i k
    unfold A zr
    by_cases h : i < n ∧ k < n
    · rw [if_pos h, if_pos h, zz i k h.1 h.2]
      by_cases e : En m i k = 1000000000
      · rw [if_pos e, if_pos e]; rfl
      · rw [if_neg e, if_neg e]; rfl
    · rw [if_neg h, if_neg h]
  obtain ⟨d, d1, d2, ⟨d0, e1, e2, e3⟩, d3⟩ := wayCosts_gen z2 h6 (fun a b ha hb => by
    rw [zz a b ha hb]
    split
    · left; rfl
    · right; omega)
  rw [hA] at e2 e3
  have st := zr_settled m n
  have hpos := (fw_bf e2 e3).2 st.1
  have hdi : ∀ i k, i < n → k < n → conv (En d i k) = cs n (zr m n) n i k := fun i k hi hk => by
    rw [((fw_bf e2 e3).1 hpos i k hi hk).1, ← A_in hi hk, e1]
  have hw : impl_wayCosts_m z = some (d, true) := by
    rcases d3 with ⟨_, h⟩ | ⟨⟨i, hi, h⟩, _⟩
    · exact h
    · have := hdi i i hi hi
      rw [st.2.2 i hi] at this
      unfold conv at this
      split at this
      · cases this
      · have := Option.some.inj this; omega
  have himp : impl_isStrong_m m = some (!d.any (·.contains 1000000000)) := by
    unfold impl_isStrong_m
    rw [clones_eq (sh.small h6 h6)]
    simp only [bs]
    rw [z1]
    simp only [bs]
    rw [hw]
    simp only [bs]
    rw [anyInf_eq]
    rfl
  have hinf : d.any (·.contains 1000000000) = true ↔ ∃ i k, i < n ∧ k < n ∧ ¬ Rch m n i k := by
    rw [List.any_eq_true]
    constructor
    · rintro ⟨r, hr, hc⟩
      obtain ⟨i, hi, rfl⟩ := List.getElem_of_mem hr
      have hin : i < n := by rw [← d1.len]; exact hi
      have hm : (1000000000 : Int) ∈ d[i] := by simpa using hc
      obtain ⟨k, hk, hv⟩ := List.getElem_of_mem hm
      have hrl : (d[i]).length = n := d1.row _ (List.getElem_mem hi)
      have hkn : k < n := by omega
      refine ⟨i, k, hin, hkn, fun hrch => (rch_cs hin hkn).2 hrch ?_⟩
      have e : En d i k = 1000000000 := by
        have e1 : nthM d i = d[i] := by simp [nthM, hi]
        unfold En
        rw [e1]
        simp [nth, hk, hv]
      rw [← hdi i k hin hkn, e]
      rfl
    · rintro ⟨i, k, hi, hk, hr⟩
      have hin : i < d.length := by rw [d1.len]; exact hi
      have e1 : nthM d i = d[i] := by simp [nthM, hin]
      refine ⟨nthM d i, nthM_mem hin, ?_⟩
      have : cs n (zr m n) n i k = none := Classical.byContradiction fun h => hr ((rch_cs hi hk).1 h)
      rw [← hdi i k hi hk] at this
      have e : En d i k = 1000000000 := by
        unfold conv at this
        split at this
        · assumption
        · cases this
      have hm := nth_mem (l := nthM d i) (j := k) (by rw [d1.nth_len hi]; exact hk)
      have e2 : nth (nthM d i) k = 1000000000 := e
      rw [e2] at hm
      simpa using hm
  have hspec : ∃ b, spec_mnConnected_m m = some b ∧ (b = true ↔ ∀ i k, i < n → k < n → Rch m n i k) := by
    unfold spec_mnConnected_m
    rcases connected_l1 g hn m 0 (by omega) with ⟨h1, h2⟩ | ⟨⟨i, k, h3, h4, h5⟩, h2⟩
    · rw [h2]; exact ⟨true, rfl, fun _ i k hi hk => h1 i k (by omega) hi hk, fun _ => rfl⟩
    · rw [h2]; exact ⟨false, rfl, fun h => (by cases h), fun h => absurd (h i k h3 h4) h5⟩
  obtain ⟨b, b1, b2⟩ := hspec
  refine ⟨b, b1, ?_, b2⟩
  rw [himp]
  congr 1
  cases b with
  | true =>
    have h := b2.1 rfl
    cases hh : d.any (·.contains 1000000000) with
    | false => rfl
    | true =>
      obtain ⟨i, k, h1, h2, h3⟩ := hinf.1 hh
      exact absurd (h i k h1 h2) h3
  | false =>
    cases hh : d.any (·.contains 1000000000) with
    | true => rfl
    | false =>
      have : ∀ i k, i < n → k < n → Rch m n i k := fun i k hi hk => Classical.byContradiction fun hr => by
        have := hinf.2 ⟨i, k, hi, hk, hr⟩
        rw [hh] at this; cases this
      have := b2.2 this
      cases this
end
theorem IsStrong_both (m : List (List Int)) : ∃ r, spec_IsStrong_m m = some r ∧ impl_IsStrong_m m = some r ∧ True := by
  unfold spec_IsStrong_m impl_IsStrong_m
  rw [mxSquare_eq, isSquare_eq]
  cases hs : sqr m with
  | false => exact ⟨_, rfl, rfl, trivial⟩
  | true =>
    obtain ⟨b, h1, h2, _⟩ := strong_eq (sqr_good hs) rfl
    simp only [Bool.not_true, cF, bs]
    rw [h1, h2]
    exact ⟨_, rfl, rfl, trivial⟩
end Go.Proofs.Ytjhaealoneennaa
