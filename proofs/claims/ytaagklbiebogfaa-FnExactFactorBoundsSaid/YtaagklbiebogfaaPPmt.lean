/- Plain laws: the permanent of a matrix, and in how many ways it is reached. -/
import Derived.Test.YtaagklbiebogfaaBestM
import Derived.Test.YtaagklbiebogfaaPermM
import Derived.Test.YtaagklbiebogfaaSngM
import Derived.Test.YtaagklbiebogfaaSgiM
import Derived.Test.YtaagklbiebogfaaPBas
import Derived.Test.YtaagklbiebogfaaPCost
namespace Go.Proofs.Ytaagklbiebogfaa
set_option linter.unusedVariables false
set_option linter.unusedSimpArgs false

/-- The costs of all ways to go on. -/
def pcosts (m : List (List Int)) (n r : Nat) (l : List Int) (p : Int) : List Int := (comps n r l).map fun a => pcost m (a.drop l.length) l.length p
theorem pcosts_succ (m : List (List Int)) (n r : Nat) (l : List Int) (p : Int) :
    pcosts m n (r + 1) l p = (List.range' 0 n).flatMap fun (k : Nat) => if l.contains (k : Int) then [] else pcosts m n r (l ++ [(k : Int)]) (plus p (En m l.length k)) := by
  unfold pcosts
  rw [comps, List.map_flatMap]
  congr 1
  funext k
  split
  · rfl
  · refine List.map_congr_left fun a ha => ?_
    obtain ⟨t, rfl, _, _⟩ := comps_mem ha
    simp only [List.append_assoc, List.singleton_append, List.length_append, List.length_singleton]
    rw [List.drop_left, show l ++ (k : Int) :: t = (l ++ [(k : Int)]) ++ t by simp, show l.length + 1 = (l ++ [(k : Int)]).length by simp, List.drop_left, pcost]
    simp
section
variable {m : List (List Int)} {n : Nat} (g : Good m n) (hn : m.length = n)
include g hn
theorem pcosts_le {r : Nat} {l : List Int} {p : Int} (hl : l.length + r = n) (hp : Bp l.length p) : ∀ x ∈ pcosts m n r l p, x ≤ 1000000000 := by
  intro x hx
  obtain ⟨a, ha, rfl⟩ := List.mem_map.1 hx
  obtain ⟨t, rfl, h2, h3⟩ := comps_mem ha
  rw [List.drop_left]
  exact ((pcost_Bp g hn t l.length p (by omega) h3 hp).le (by have := g.chi; omega)).1
theorem mxBest_l1_eq {r : Nat} {l : List Int} {p : Int} {rec : List (List Int) → Int → List Int → Int → Option (Int × Int)} (hl : l.length + (r + 1) = n) (hp : Bp l.length p)
    (hrec : ∀ j, j < n → l.contains (j : Int) = false → rec m ((l.length + 1 : Nat) : Int) (l ++ [(j : Int)]) (plus p (En m l.length j)) = some (bestF (pcosts m n r (l ++ [(j : Int)]) (plus p (En m l.length j))))) :
    ∀ (q : List Int) (j : Nat) (b c : Int), q = (nthM m l.length).drop j → b ≤ 1000000000 → 0 ≤ c → c ≤ (j : Int) * 46656 →
      spec_mxBest_l1 m (l.length : Int) l p rec q j b c = some (cmb (b, c) (bestF ((List.range' j q.length).flatMap fun (k : Nat) => if l.contains (k : Int) then [] else pcosts m n r (l ++ [(k : Int)]) (plus p (En m l.length k))))) := by
  have sh : Shape m n n := ⟨hn, g.row⟩
  have h6 := g.chi
  have hrl : (nthM m l.length).length = n := sh.nth_len (by omega)
  have hle : ∀ (q j : Nat), j + q ≤ n → ∀ x ∈ (List.range' j q).flatMap (fun (k : Nat) => if l.contains (k : Int) then [] else pcosts m n r (l ++ [(k : Int)]) (plus p (En m l.length k))), x ≤ 1000000000 := by
    intro q j hq x hx
    simp only [List.mem_flatMap, List.mem_range'_1] at hx
    obtain ⟨k, hk, hx⟩ := hx
    split at hx
    · cases hx
    · exact pcosts_le g hn (by simp; omega) (by simpa using (Bp_step g hn (show l.length < n by omega) (show k < n by omega) hp).1) x hx
  intro q
  induction q with
  | nil =>
    intro j b c _ hb _ _
    rw [spec_mxBest_l1]
    simp only [List.length_nil, List.range'_zero, List.flatMap_nil]
    rw [show bestF [] = (1000000000, 0) from rfl, cmb_unit (a := (b, c)) hb]
  | cons x q ih =>
    intro j b c hq hb hc0 hc
    obtain ⟨h1, h2, h3⟩ := dropS hq
    have hjn : j < n := by omega
    have hlq : j + (q.length + 1) ≤ n := by
      have := congrArg List.length hq
      simp at this; omega
    have hl2 := hle q.length (j + 1) (by omega)
    rw [spec_mxBest_l1, l1Has_eq, List.length_cons, List.range'_succ, List.flatMap_cons]
    simp only [bs]
    cases hb' : l.contains (j : Int) with
    | true =>
      simp only [cT, if_true, List.nil_append]
      exact ih (j + 1) b c h3 hb hc0 (by push_cast; omega)
    | false =>
      simp only [cF, Bool.false_eq_true, if_false]
      obtain ⟨k1, k2, k3⟩ := Bp_step g hn (show l.length < n by omega) hjn hp
      have ex : x = En m l.length j := h2
      rw [ck_nat (by omega), l1Own_eq (by omega)]
      simp only [bs]
      rw [app_lt (by omega), ex, nuPlus_eq k2 k3]
      simp only [bs]
      rw [hrec j hjn hb']
      simp only [bs]
      have hF := pcosts_le g hn (r := r) (l := l ++ [(j : Int)]) (p := plus p (En m l.length j)) (by simp; omega) (by simpa using k1)
      generalize hG : pcosts m n r (l ++ [(j : Int)]) (plus p (En m l.length j)) = G at hF ⊢
      have hcnt := bestF_cnt G
      have hGl : (G.length : Int) ≤ 46656 := by
        have h7 : G.length ≤ 6 ^ r := by rw [← hG]; unfold pcosts; rw [List.length_map]; exact comps_len (by omega) _ _
        have h8 : 6 ^ r ≤ 6 ^ 6 := Nat.pow_le_pow_right (by omega) (by omega)
        have h9 : (6 : Nat) ^ 6 = 46656 := by decide
        omega
      have hG1 : (bestF G).1 ≤ 1000000000 := by
        have := best_from G (1000000000, 0) (Int.le_refl _) hF
        have h : bestF G = cmb (1000000000, 0) (bestF G) := this
        rw [h]; exact cmb_le (Int.le_refl _)
      rw [bestF_append hF hl2, ← cmb_assoc]
      generalize bestF G = y at hcnt hG1 ⊢
      have hj' : ((j + 1 : Nat) : Int) * 46656 = (j : Int) * 46656 + 46656 := by push_cast; omega
      by_cases c1 : y.1 < b
      · rw [decide_eq_true c1]
        simp only [cT]
        rw [ih (j + 1) y.1 y.2 h3 hG1 hcnt.1 (by rw [hj']; omega)]
        simp only [cmb, c1, if_true]
      · rw [decide_eq_false c1]
        simp only [cF]
        by_cases c2 : y.1 = b
        · rw [show (y.1 == b) = true by simp [c2]]
          simp only [cT]
          rw [ck_in (by omega) (by omega)]
          simp only [bs]
          rw [ih (j + 1) b (c + y.2) h3 hb (by omega) (by rw [hj']; omega)]
          congr 2
          unfold cmb; simp only [c1, c2, if_false, if_true]
          simp
        · rw [show (y.1 == b) = false by simp [c2]]
          simp only [cF]
          rw [ih (j + 1) b c h3 hb hc0 (by rw [hj']; omega)]
          congr 2
          unfold cmb; simp only [c1, c2, if_false]
theorem mxBest_eq : ∀ (r k : Nat) (l : List Int) (p : Int), l.length + r = n → r < k → Bp l.length p → spec_mxBest_r k m (l.length : Int) l p = some (bestF (pcosts m n r l p)) := by
  have sh : Shape m n n := ⟨hn, g.row⟩
  have h6 := g.chi
  intro r
  induction r with
  | zero =>
    intro k l p hl hk hp
    obtain ⟨k, rfl⟩ : ∃ k', k = k' + 1 := ⟨k - 1, by omega⟩
    rw [spec_mxBest_r, spec_mxBest_b, show ((l.length : Int) == (m.length : Int)) = true by simp; omega]
    simp only [cT]
    rw [pcosts, comps, List.map_singleton, List.drop_length, pcost, bestF_one (hp.le (by omega)).1]
  | succ r ih =>
    intro k l p hl hk hp
    obtain ⟨k, rfl⟩ : ∃ k', k = k' + 1 := ⟨k - 1, by omega⟩
    rw [spec_mxBest_r, spec_mxBest_b, show ((l.length : Int) == (m.length : Int)) = false by simp; omega]
    simp only [cF]
    rw [sh.idx (show l.length < n by omega)]
    simp only [bs]
    rw [mxBest_l1_eq g hn hl hp (fun j hj hb => by
      have := ih k (l ++ [(j : Int)]) (plus p (En m l.length j)) (by simp; omega) (by omega) (by simpa using (Bp_step g hn (show l.length < n by omega) hj hp).1)
      simpa using this) (nthM m l.length) 0 1000000000 0 rfl (Int.le_refl _) (Int.le_refl _) (by simp)]
    simp only [bs]
    have hlen : (nthM m l.length).length = n := sh.nth_len (by omega)
    rw [hlen, ← pcosts_succ, unit_cmb]
    · have h := best_from (pcosts m n (r + 1) l p) (1000000000, 0) (Int.le_refl _) (pcosts_le g hn hl hp)
      have h : bestF (pcosts m n (r + 1) l p) = cmb (1000000000, 0) (bestF (pcosts m n (r + 1) l p)) := h
      rw [h]; exact cmb_le (Int.le_refl _)
end
theorem bind4 {α β γ δ : Type} (o : Option (α × β × γ × δ)) : (o.bind fun s => some (s.1, s.2.1, s.2.2.1, s.2.2.2)) = o := by cases o <;> rfl
theorem permanent_l1_perm (n : Int) (m : List (List Int)) (rec : List Int → Int → List Bool → List (List Int) → Int → Int → Option (List Int × List Bool × Int × Int)) (rec' : List Int → List Bool → Int × Int → Option (List Int × List Bool × Int × Int))
    (h : ∀ l u a b, rec l n u m a b = rec' l u (a, b)) : ∀ q j l u a b, impl_permutations_1_permanent_l1 n m rec q j l u a b = permL n rec' q j l u (a, b) := by
  intro q
  induction q with
  | zero => intro j l u a b; rfl
  | succ q ih =>
    intro j l u a b
    rw [impl_permutations_1_permanent_l1, permL]
    simp only [ih, h, Prod.eta]
theorem permanent_perm (n : Int) (m : List (List Int)) : ∀ k l u a b, impl_permutations_1_permanent_r k l n u m a b = permR (fun l s => impl_permanent_1_m l m s.1 s.2) n k l u (a, b) := by
  intro k
  induction k with
  | zero => intro l u a b; rfl
  | succ k ih =>
    intro l u a b
    rw [impl_permutations_1_permanent_r, permR, impl_permutations_1_permanent_b, permB, permanent_l1_perm n m _ _ ih]
    simp only [bind4]
section
variable {m : List (List Int)} {n : Nat} (g : Good m n) (hn : m.length = n)
include g hn
theorem permanent_eq : impl_permanent_m m = some (bestF (pcosts m n n [] 0)) := by
  have h6 := g.chi
  have hlen : (comps n n []).length ≤ 46656 := by
    have h7 := comps_len (n := n) h6 n []
    have h8 : 6 ^ n ≤ 6 ^ 6 := Nat.pow_le_pow_right (by omega) (by omega)
    have h9 : (6 : Nat) ^ 6 = 46656 := by decide
    omega
  have key := (foldV_some (f := fun l (s : Int × Int) => impl_permanent_1_m l m s.1 s.2) (g := fun s a => cmb s (pcost m a 0 0, 1)) (I := fun i s => 0 ≤ s.2 ∧ s.2 ≤ (i : Int)) (L := comps n n []) (s := (1000000000, 0)) (i := 0) (by simp) (fun a ha j s h1 h2 h3 => by
    obtain ⟨t, e, h4, h5⟩ := comps_mem ha
    have e : a = t := e
    subst e
    refine ⟨?_, by have := cmb_cnt (a := s) (b := (pcost m a 0 0, 1)) (i := (j : Int)) (j := 1) h3 (by simp); push_cast; exact this⟩
    unfold impl_permanent_1_m
    rw [costOf_eq g hn (by omega) h5]
    simp only [bs]
    unfold cmb
    by_cases c1 : pcost m a 0 0 < s.1
    · rw [decide_eq_true c1]
      simp only [cT, bs, c1, if_true]
    · rw [decide_eq_false c1]
      simp only [cF, c1, if_false]
      by_cases c2 : pcost m a 0 0 = s.1
      · rw [show (pcost m a 0 0 == s.1) = true by simp [c2], ck_in (by omega) (by omega)]
        simp only [cT, bs, c2, if_true]
      · rw [show (pcost m a 0 0 == s.1) = false by simp [c2]]
        simp only [cF, bs, c2, if_false])).1
  unfold impl_permanent_m impl_permutations_permanent_m
  rw [guardO_t (by simp; omega)]
  simp only [bs]
  unfold impl_permutations_1_permanent_m
  rw [permanent_perm, hn, show ((n : Int)).toNat = n by omega, permR_start _ (by omega) (by omega), key]
  simp only [bs]
  have : bestF (pcosts m n n [] 0) = (comps n n []).foldl (fun s a => cmb s (pcost m a 0 0, 1)) (1000000000, 0) := by
    unfold bestF pcosts
    rw [List.foldl_map]
    rfl
  rw [this]
theorem mxBest_start : spec_mxBest_m m 0 [] 0 = some (bestF (pcosts m n n [] 0)) := by
  have h6 := g.chi
  have := mxBest_eq g hn n 64 [] 0 (by simp) (by omega) (.inr ⟨by simp, by simp⟩)
  exact this
end
theorem IsSingular_both (m : List (List Int)) : ∃ r, spec_IsSingular_m m = some r ∧ impl_IsSingular_m m = some r ∧ True := by
  unfold spec_IsSingular_m impl_IsSingular_m
  rw [mxSquare_eq, isSquare_eq]
  simp only [bs]
  cases hs : sqr m with
  | false => exact ⟨_, rfl, rfl, trivial⟩
  | true =>
    have g := sqr_good hs
    simp only [Bool.not_true, cF]
    unfold spec_rkSingular_m impl_isRegular_m
    rw [mxBest_start g rfl, permanent_eq g rfl]
    simp only [bs]
    have h0 := bestF_cnt (pcosts m m.length m.length [] 0)
    have h1 := @bestF_zero (pcosts m m.length m.length [] 0)
    generalize bestF (pcosts m m.length m.length [] 0) = y at h0 h1 ⊢
    by_cases c1 : y.1 = 1000000000
    · rw [show (y.1 == 1000000000) = true by simp [c1], show (y.1 != 1000000000) = false by simp [c1]]
      exact ⟨_, rfl, rfl, trivial⟩
    · rw [show (y.1 == 1000000000) = false by simp [c1], show (y.1 != 1000000000) = true by simp [c1]]
      have h2 : y.2 ≠ 0 := fun e => c1 (h1 e)
      simp only [cF, cT, bs]
      by_cases c2 : y.2 = 1
      · rw [c2]
        exact ⟨_, rfl, rfl, trivial⟩
      · rw [show (y.2 == 1) = false by simp [c2], decide_eq_true (show y.2 > 1 by omega)]
        exact ⟨_, rfl, rfl, trivial⟩
end Go.Proofs.Ytaagklbiebogfaa
