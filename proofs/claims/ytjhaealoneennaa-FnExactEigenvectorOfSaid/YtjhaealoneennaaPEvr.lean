/- Plain laws: the eigenvector. -/
import Derived.Test.YtjhaealoneennaaEvoM
import Derived.Test.YtjhaealoneennaaPStg
import Derived.Test.YtjhaealoneennaaPCrit
import Derived.Test.YtjhaealoneennaaPMnw
namespace Go.Proofs.Ytjhaealoneennaa
set_option linter.unusedVariables false
set_option linter.unusedSimpArgs false
set_option linter.unusedSectionVars false

theorem zr_les {m : List (List Int)} {n : Nat} (p : Int) : ∀ (l : List Nat) (i : Nat) (x : Int), wk (zr m n) i l = some x → ∃ y, wk (lesm m n p) i l = some y
  | [], i, x, _ => ⟨0, rfl⟩
  | k :: l, i, x, h => by
    rw [wk] at h
    obtain ⟨y, z, h1, h2, _⟩ := padd_some h
    obtain ⟨a1, a2, a3, _⟩ := zr_some h1
    obtain ⟨w, hw⟩ := zr_les p l k z h2
    refine ⟨En m i k - p + w, ?_⟩
    rw [wk, hw]
    unfold lesm
    rw [if_pos ⟨a1, a2⟩, if_neg a3]
    rfl
def endL (n c : Nat) (q j : Nat) : List Int := (List.range' j q).map fun k => if k = c then 0 else 1000000000
theorem ends_l1 {m : List (List Int)} {L : List Int} {c : Nat} (hL : spec_mnCritical_m m = some L) (h0 : idx L 0 = some (c : Int)) (q : List (List Int)) : ∀ j l, l.length + q.length < 1000000 → spec_EigenvectorOf_l1 m q j l = some (l ++ endL 0 c q.length j) := by
  induction q with
  | nil => intro j l _; simp [spec_EigenvectorOf_l1, endL]
  | cons x q ih =>
    intro j l hl
    simp only [List.length_cons] at hl
    rw [spec_EigenvectorOf_l1, hL]
    simp only [bs]
    rw [h0]
    simp only [bs]
    have e : endL 0 c (q.length + 1) j = (if j = c then 0 else 1000000000) :: endL 0 c q.length (j + 1) := by
      unfold endL; rw [List.range'_succ]; rfl
    rw [List.length_cons, e]
    by_cases h : j = c
    · subst h
      rw [show ((j : Int) == (j : Int)) = true by simp, app_lt (by omega)]
      simp only [cT, bs]
      rw [ih _ _ (by simp; omega)]
      simp
    · rw [show ((j : Int) == (c : Int)) = false by simp; omega]
      simp only [cF]
      rw [app_lt (by omega)]
      simp only [bs]
      rw [ih _ _ (by simp; omega)]
      simp [h]
theorem EigenvectorOf_both (m : List (List Int)) : ∃ r, spec_EigenvectorOf_m m = some r ∧ impl_EigenvectorOf_m m = some r ∧ Small r.1 := by
  unfold spec_EigenvectorOf_m impl_EigenvectorOf_m
  rw [mxSquare_eq, isSquare_eq]
  cases hs : sqr m with
  | false => exact ⟨_, rfl, rfl, by simp [Small]⟩
  | true =>
    have g := sqr_good hs
    have h6 := g.chi
    have hlo := g.clo
    generalize hn : m.length = n at *
    obtain ⟨b, s1, s2, s3⟩ := strong_eq g hn
    simp only [Bool.not_true, cF, bs]
    rw [s1, s2]
    simp only [bs]
    cases b with
    | false => exact ⟨_, rfl, rfl, by simp [Small]⟩
    | true =>
    have s3 := s3.1 rfl
    simp only [Bool.not_true, cF, bs]
    rw [mnLeast_eq g hn, leastMean_fold g hn]
    simp only [bs]
    have J := Jm_all g hn
    obtain ⟨L, l1, l2, l3, l4, l5⟩ := crit_both g hn
    have B := bL_fold g hn (allC m n) [] [] (fun x h => h) (fun x h => by cases h) (.inl ⟨rfl, rfl⟩)
    rw [List.nil_append] at B
    generalize (allC m n).foldl (gM m n) ([], List.replicate n false, 0, 0) = s at J l2 ⊢
    obtain ⟨j1, j2, j3⟩ := J
    rw [← j2] at B l4 ⊢
    rcases j3 with ⟨j3, j4⟩ | ⟨j3, j4, _, _⟩
    · rw [j4]
      exact ⟨_, rfl, rfl, by simp [Small]⟩
    · have hy := (allC_mem j3).2.2.1
      have hsm := mean_sm g hn j3
      obtain ⟨_, B2⟩ := B.resolve_left (fun h => by rw [h.1] at hy; simp at hy)
      rw [show ((s.1.length : Int) == 0) = false by simp; intro e; rw [e] at hy; simp at hy, mnMean_eq g hn j3, decide_eq_true (show 0 < s.1.length by omega)]
      have e1 : s.2.2.1 = (meanP m s.1).1 := by rw [← j4]
      have e2 : s.2.2.2 = (meanP m s.1).2 := by rw [← j4]
      simp only [Bool.not_true, cF, bs]
      rw [e1, e2]
      cases hD : ((meanP m s.1).2 != 1) with
      | true => exact ⟨_, rfl, rfl, by simp [Small]⟩
      | false =>
      have hD : (meanP m s.1).2 = 1 := by simpa using hD
      simp only [cF, bs]
      have hls := (low_spec (n := ccost m s.1) (d := (s.1.length : Int)) (by omega)).2.2.2.2
      have hls : (meanP m s.1).1 * (s.1.length : Int) = ccost m s.1 * (meanP m s.1).2 := hls
      rw [hD, Int.mul_one] at hls
      obtain ⟨hb, hclose, _, hsl⟩ := allC_mem j3
      obtain ⟨_, c1, c2⟩ := ccost_fin g hn hb hclose (by omega)
      have hp : fin (meanP m s.1).1 = true := by
        refine (fin_iff _).2 ⟨?_, ?_⟩
        · refine Int.le_of_mul_le_mul_right (a := (s.1.length : Int)) ?_ (by omega)
          omega
        · refine Int.le_of_mul_le_mul_right (a := (s.1.length : Int)) ?_ (by omega)
          omega
      have hm1 : meanP m s.1 = ((meanP m s.1).1, 1) := by rw [← hD]
      have nc : NC m n (meanP m s.1).1 := fun a ha => by
        have h := B2 a ha
        rw [hm1] at h
        have k : ltF (meanP m a) ((meanP m s.1).1, 1) = decide (ccost m a - (meanP m s.1).1 * a.length < 0) := ltF_int (by have := (allC_mem ha).2.2.1; omega)
        rw [k] at h
        have := of_decide_eq_false h
        omega
      generalize (meanP m s.1).1 = p at hp nc ⊢
      rw [shorter_eq g hn hp]
      simp only [bs]
      rcases wc_less g hn hp with ⟨_, d, d1, d2, d3⟩ | ⟨nn, _⟩
      rotate_left
      · exact absurd nc nn
      rw [d1]
      simp only [bs]
      have hdl := d2.len
      rw [transposed_gen (by omega) (by omega) h6 d2.row]
      simp only [bs]
      rw [l2]
      simp only [bs]
      have hL0 : L ≠ [] := l5 (fun e => by rw [e] at j3; cases j3)
      have hLp := List.length_pos_iff.2 hL0
      obtain ⟨a0, a1, _, a3⟩ := l4 _ (nth_mem hLp)
      have hcr := (allC_mem a1).1.node _ a3
      obtain ⟨c, hc⟩ := Int.eq_ofNat_of_zero_le hcr.1
      have hcn : c < n := by omega
      have hi0 : idx L 0 = some (c : Int) := by rw [idx_nth0 hLp, hc]
      rw [hi0, ends_l1 l1 hi0 m 0 [] (by simp; omega)]
      simp only [bs, List.nil_append, hn]
      have hw0 : ∀ k, k < n → nth (endL 0 c n 0) k = if k = c then 0 else 1000000000 := fun k hk => by simp [nth, endL, hk]
      have hwl : (endL 0 c n 0).length = n := by simp [endL]
      obtain ⟨R, r1, r2, r3, r4⟩ := mnWays_eq g hn hp nc hwl (fun k hk => by rw [hw0 k hk]; split <;> simp)
      rw [r1]
      simp only [bs]
      have st := les_settled g hn hp nc
      have hRc : ∀ i, i < n → conv (nth R i) = cs n (lesm m n p) n i c := fun i hi => by
        rw [r3 i hi]
        refine ple_antisymm ?_ ?_
        · have := tgt_le g hn hp nc hwl (fun k hk => by rw [hw0 k hk]; split <;> simp) (i := i) hcn
          rw [hw0 c hcn, if_pos rfl, show conv 0 = some 0 from rfl, padd_zero] at this
          exact this
        · rcases inf_none_or (fun k => padd (cs n (lesm m n p) n i k) (conv (nth (endL 0 c n 0) k))) (List.range n) with e | ⟨k, hk, e⟩
          · have e : tgt (lesm m n p) n (endL 0 c n 0) i = none := e
            rw [e]; exact ple_none _
          · have hk := List.mem_range.1 hk
            have e : tgt (lesm m n p) n (endL 0 c n 0) i = padd (cs n (lesm m n p) n i k) (conv (nth (endL 0 c n 0) k)) := e
            rw [e, hw0 k hk]
            by_cases h : k = c
            · rw [if_pos h, h, show conv 0 = some 0 from rfl, padd_zero]; exact ple_refl _
            · rw [if_neg h, show conv 1000000000 = none from rfl, padd_none]; exact ple_none _
      have hRd : ∀ i, i < n → nth R i = En d i c := fun i hi => conv_inj (by rw [hRc i hi, d3 i c hi hcn])
      have hfin : ∀ i, i < n → nth R i ≠ 1000000000 := fun i hi e => by
        obtain ⟨l, w1, w2, w3⟩ := s3 i c hi hcn
        obtain ⟨y, hy⟩ := zr_les p l i 0 w2
        have hm : ∀ i k, i < n → k < n → ple (cs n (lesm m n p) n i k) (lesm m n p i k) := fun i k hi hk => by
          have := cs_st (n := n) (m := lesm m n p) n i k i hi
          rw [st.1 i k hi hk, st.2.2 i hi, zero_padd] at this
          exact this
        have := closed_wk st.2.1 (fun i hi => by rw [st.2.2 i hi]; exact ple_refl _) hm l i hi w3
        rw [w1, hy, ← hRc i hi, e] at this
        exact this
      have hcol : idx (turn d n) (c : Int) = some R := by
        have hR : R = colAt d c := by
          apply List.ext_getElem (by simp [colAt]; omega)
          intro i h1 h2
          have hi : i < n := by omega
          have hid : i < d.length := by omega
          have e1 : nth R i = R[i] := by simp [nth, h1]
          rw [← e1, hRd i hi]
          simp [En, nth, nthM, colAt, hid]
        rw [idx_lt (show c < (turn d n).length by simp [turn]; exact hcn), hR]
        simp [turn]
      rw [hcol]
      simp only [bs]
      rw [mnIf_eq, toldList_eq, all_fin (fun x hx => by
        obtain ⟨i, hi, rfl⟩ := List.getElem_of_mem hx
        have := r4 i (by omega)
        have := hfin i (by omega)
        have e : nth R i = R[i] := by simp [nth, hi]
        omega)]
      simp only [bs]
      cases R.all fun n => inR n (-1000000) 1000000
      · exact ⟨_, rfl, rfl, by simp [Small]⟩
      · exact ⟨_, rfl, rfl, by unfold Small; simp only [cT]; omega⟩
end Go.Proofs.Ytjhaealoneennaa
