/- Plain laws: the first best assignment, what a pair costs more, the second best. -/
import Derived.Test.YtnnhbkhlipekeaaPSame
import Derived.Test.YtnnhbkhlipekeaaPWy2
import Derived.Test.YtnnhbkhlipekeaaPAsA
namespace Go.Proofs.Ytnnhbkhlipekeaa
set_option linter.unusedVariables false
set_option linter.unusedSimpArgs false
set_option linter.unusedSectionVars false

theorem comps_nodup (n : Nat) : ∀ (r : Nat) (l : List Int), (comps n r l).Nodup
  | 0, l => by simp [comps]
  | r + 1, l => by
    unfold comps List.Nodup
    rw [List.pairwise_flatMap]
    refine ⟨fun k hk => ?_, ?_⟩
    · split
      · exact List.Pairwise.nil
      · exact comps_nodup n r _
    · refine (List.pairwise_lt_range' (s := 0) (n := n) (step := 1)).imp fun {k1 k2} hk x hx y hy => ?_
      split at hx
      · cases hx
      · split at hy
        · cases hy
        · obtain ⟨t, rfl, _, _⟩ := comps_mem hx
          obtain ⟨u, e, _, _⟩ := comps_mem hy
          intro h
          rw [e, List.append_assoc, List.append_assoc] at h
          have := List.append_cancel_left h
          simp at this
          omega
section
variable {m : List (List Int)} {n : Nat} (g : Good m n) (hn : m.length = n)
include g hn
/-- The best assignment, by the program and by the specification. -/
theorem opt : (fea m n = [] ∧ (comps n n []).foldl (bO m fun _ => true) ([], 1000000000) = ([], 1000000000)) ∨
    ∃ f o c, fea m n ≠ [] ∧ spec_asBest_m m = some (o, c) ∧ (comps n n []).foldl (bO m fun _ => true) ([], 1000000000) = (f, c) ∧ o[0]? = some f ∧ f ∈ comps n n [] ∧ cst m f = c ∧ -6000000 ≤ c ∧ c ≤ 6000000 ∧
      o = (comps n n []).filter (fun a => decide (cst m a = c)) ∧ ∀ x ∈ comps n n [], c ≤ cst m x := by
  have J := JO_all m (fun _ => true) (comps n n [])
  generalize (comps n n []).foldl (bO m fun _ => true) ([], 1000000000) = s at J ⊢
  obtain ⟨f, c⟩ := s
  rcases J with ⟨h1, h2⟩ | ⟨h1, _, h3, h4, h5, h6⟩
  · left
    refine ⟨?_, h1⟩
    refine List.filter_eq_nil_iff.2 fun x hx => ?_
    have a1 := h2 x hx rfl
    have a2 := (cst_le g hn hx).1
    have : cst m x = 1000000000 := by omega
    simp [this]
  · right
    simp only [] at h1 h3 h4 h5 h6
    have hf : f ∈ fea m n := fea_mem.2 ⟨h1, by omega⟩
    have hne : fea m n ≠ [] := fun e => by rw [e] at hf; cases hf
    obtain ⟨c', o, k1, k2, k3, k4, k5, k6⟩ := asBest_spec g hn hne
    have hcc : c' = c := by
      have a1 := k4 f hf
      obtain ⟨a, ha⟩ := List.exists_mem_of_ne_nil _ k2
      rw [k3, List.mem_filter] at ha
      have a2 := h6 a (fea_mem.1 ha.1).1 trivial
      have a3 := of_decide_eq_true ha.2
      omega
    subst hcc
    have ho : o = (comps n n []).filter (fun a => decide (cst m a = c')) := by
      rw [k3]
      unfold fea
      rw [List.filter_filter]
      refine List.filter_congr fun x hx => ?_
      by_cases e : cst m x = c'
      · have : cst m x ≠ 1000000000 := by omega
        simp [e]; omega
      · simp [e]
    refine ⟨f, o, c', hne, k1, rfl, ?_, h1, h3, k5, k6, ho, fun x hx => h6 x hx trivial⟩
    rw [ho, ← List.head?_eq_getElem?, List.head?_filter]
    simpa using h5
theorem asAsked_eq (hs : sqr m = true) : spec_asAsked_m m = some (decide (fea m n ≠ [])) := by
  unfold spec_asAsked_m
  rw [mxSquare_eq, hs, asAll_start g hn]
  simp only [bs, cT]
  by_cases e : fea m n = []
  · rw [e]; rfl
  · have := List.length_pos_iff.2 e
    rw [decide_eq_true (show ((fea m n).length : Int) > 0 by omega), decide_eq_true e]
theorem bestAsked_eq (hs : sqr m = true) : impl_bestAsked_m m = some (((comps n n []).foldl (bO m fun _ => true) ([], 1000000000)).2, ((comps n n []).foldl (bO m fun _ => true) ([], 1000000000)).1, decide ((((comps n n []).foldl (bO m fun _ => true) ([], 1000000000)).1.length : Int) > 0)) := by
  unfold impl_bestAsked_m
  rw [isSquare_eq, hs]
  simp only [bs, Bool.not_true, cF]
  rw [bestOf_any_eq g hn (fun _ => true) (fun a _ => rfl)]
  rfl
end
theorem asAsked_no {m : List (List Int)} (hs : sqr m = false) : spec_asAsked_m m = some false := by
  unfold spec_asAsked_m
  rw [mxSquare_eq, hs]
  rfl
theorem bestAsked_no {m : List (List Int)} (hs : sqr m = false) : impl_bestAsked_m m = some (0, [], false) := by
  unfold impl_bestAsked_m
  rw [isSquare_eq, hs]
  rfl
theorem idx_first {α : Type} {l : List α} {x : α} (h : l[0]? = some x) : idx l 0 = some x := by unfold idx; rw [decide_eq_true (by omega)]; exact h
theorem BestAssignment_both (m : List (List Int)) : ∃ r, spec_BestAssignment_m m = some r ∧ impl_BestAssignment_m m = some r ∧ Small r.1 := by
  unfold spec_BestAssignment_m impl_BestAssignment_m
  cases hs : sqr m with
  | false => rw [asAsked_no hs, bestAsked_no hs]; exact ⟨_, rfl, rfl, by simp [Small]⟩
  | true =>
    have g := sqr_good hs
    have h6 := g.chi
    have hlo := g.clo
    rw [asAsked_eq g rfl hs, bestAsked_eq g rfl hs]
    simp only [bs]
    rcases opt g rfl with ⟨h1, h2⟩ | ⟨f, o, c, h1, h2, h3, h4, h5, h6', h7, h8, h9, h10⟩
    · rw [h1, h2]
      exact ⟨_, rfl, rfl, by simp [Small]⟩
    · have hfl := comps_ok h5
      rw [decide_eq_true h1, h2, h3]
      simp only [Bool.not_true, cF, bs]
      rw [decide_eq_true (show (f.length : Int) > 0 by omega), nuGood_eq, isNumber_eq]
      simp only [Bool.not_true, cF, bs]
      cases num c with
      | false => exact ⟨_, rfl, rfl, by simp [Small]⟩
      | true =>
        simp only [Bool.not_true, cF]
        rw [idx_first h4]
        exact ⟨_, rfl, rfl, by unfold Small; simp only []; omega⟩

/-! ### The least cost of some -/
def gR (m : List (List Int)) (al : List Int → Bool) (s : Bool × Int) (a : List Int) : Bool × Int := if al a = true ∧ (s.1 = false ∨ cst m a < s.2) then (true, cst m a) else s
def JR (m : List (List Int)) (al : List Int → Bool) (pre : List (List Int)) (s : Bool × Int) : Prop :=
  (s.1 = false ∧ ∀ x ∈ pre, al x = false) ∨ (s.1 = true ∧ (∃ x ∈ pre, al x = true ∧ cst m x = s.2) ∧ ∀ x ∈ pre, al x = true → s.2 ≤ cst m x)
theorem JR_step {m : List (List Int)} {al : List Int → Bool} {pre : List (List Int)} {s : Bool × Int} {a : List Int} (h : JR m al pre s) : JR m al (pre ++ [a]) (gR m al s a) := by
  unfold gR
  by_cases hc : al a = true ∧ (s.1 = false ∨ cst m a < s.2)
  · rw [if_pos hc]
    right
    refine ⟨rfl, ⟨a, by simp, hc.1, rfl⟩, fun x hx hax => ?_⟩
    rcases List.mem_append.1 hx with e | e
    · rcases h with ⟨h1, h2⟩ | ⟨h1, _, h3⟩
      · have := h2 x e; rw [hax] at this; cases this
      · have := h3 x e hax
        have := hc.2.resolve_left (by rw [h1]; simp)
        simp only []; omega
    · simp at e; subst e; simp
  · rw [if_neg hc]
    rcases h with ⟨h1, h2⟩ | ⟨h1, ⟨y, hy, hay, hyc⟩, h3⟩
    · left
      refine ⟨h1, fun x hx => ?_⟩
      rcases List.mem_append.1 hx with e | e
      · exact h2 x e
      · simp at e; subst e
        cases hax : al x with
        | false => rfl
        | true => exact absurd ⟨hax, .inl h1⟩ hc
    · right
      refine ⟨h1, ⟨y, List.mem_append_left _ hy, hay, hyc⟩, fun x hx hax => ?_⟩
      rcases List.mem_append.1 hx with e | e
      · exact h3 x e hax
      · simp at e; subst e
        have : ¬ cst m x < s.2 := fun hlt => hc ⟨hax, .inr hlt⟩
        omega
theorem JR_fold {m : List (List Int)} {al : List Int → Bool} : ∀ (L pre : List (List Int)) (s : Bool × Int), JR m al pre s → JR m al (pre ++ L) (L.foldl (gR m al) s)
  | [], pre, s, h => by simpa using h
  | a :: L, pre, s, h => by
    have := JR_fold L (pre ++ [a]) (gR m al s a) (JR_step h)
    rw [List.append_assoc] at this
    exact this
section
variable {m : List (List Int)} {n : Nat} (g : Good m n) (hn : m.length = n)
include g hn
/-- The least cost of the possible ones that a condition allows: by the search over all and by that over the possible ones. -/
theorem some_both (al : List Int → Bool) (x0 : Int) :
    (((comps n n []).foldl (bO m al) ([], 1000000000)).1.length = 0 ∧ ((fea m n).foldl (gR m al) (false, x0)).1 = false) ∨
    (((comps n n []).foldl (bO m al) ([], 1000000000)).1.length ≠ 0 ∧ ((fea m n).foldl (gR m al) (false, x0)).1 = true ∧ ((comps n n []).foldl (bO m al) ([], 1000000000)).2 = ((fea m n).foldl (gR m al) (false, x0)).2 ∧
      ∃ a ∈ fea m n, al a = true ∧ cst m a = ((fea m n).foldl (gR m al) (false, x0)).2) := by
  have J := JO_all m al (comps n n [])
  have R : JR m al (fea m n) ((fea m n).foldl (gR m al) (false, x0)) := JR_fold (fea m n) [] (false, x0) (.inl ⟨rfl, fun x h => by cases h⟩)
  generalize (comps n n []).foldl (bO m al) ([], 1000000000) = s at J ⊢
  generalize (fea m n).foldl (gR m al) (false, x0) = t at R ⊢
  have hlo := g.clo
  rcases J with ⟨h1, h2⟩ | ⟨h1, h2, h3, h4, h5, h6⟩
  · left
    refine ⟨by rw [h1]; rfl, ?_⟩
    rcases R with ⟨k1, _⟩ | ⟨_, ⟨y, hy, hay, _⟩, _⟩
    · exact k1
    · have hy := fea_mem.1 hy
      have a1 := h2 y hy.1 hay
      have a2 := (cst_le g hn hy.1).1
      exact absurd (show cst m y = 1000000000 by omega) hy.2
  · right
    have hf : s.1 ∈ fea m n := fea_mem.2 ⟨h1, by omega⟩
    have hfl := (comps_ok h1).1
    refine ⟨by omega, ?_⟩
    rcases R with ⟨_, k2⟩ | ⟨k1, ⟨y, hy, hay, hyc⟩, k3⟩
    · have := k2 _ hf; rw [h2] at this; cases this
    · refine ⟨k1, ?_, y, hy, hay, hyc⟩
      have a1 := k3 _ hf h2
      have a2 := h6 y (fea_mem.1 hy).1 hay
      omega
theorem Regret_l1_eq {p1 p2 : Int} (h1 : 0 ≤ p1) (h2 : p1 < n) (q : List (List Int)) : ∀ (j : Nat) (b : Bool) (x : Int), (∀ a ∈ q, a ∈ fea m n) → spec_RegretOf_l1 m p1 p2 q j b x = some (q.foldl (gR m fun a => nth a p1.toNat == p2) (b, x)) := by
  have h6 := g.chi
  induction q with
  | nil => intro j b x _; rfl
  | cons a q ih =>
    intro j b x hq
    have ha := fea_mem.1 (hq a List.mem_cons_self)
    have hq' := fun y hy => hq y (List.mem_cons_of_mem _ hy)
    obtain ⟨k1, k2⟩ := comps_ok ha.1
    rw [spec_RegretOf_l1, asCost_eq g hn (by omega) k2 ha.2, idx_int h1 (by omega), List.foldl_cons]
    simp only [bs]
    unfold gR
    cases hal : nth a p1.toNat == p2 with
    | false =>
      simp only [cF, bs]
      have hal' : nth a p1.toNat ≠ p2 := by simpa using hal
      rw [if_neg (by simp [hal'])]
      exact ih (j + 1) b x hq'
    | true =>
      have hal' : nth a p1.toNat = p2 := by simpa using hal
      simp only [cT, bs]
      cases b with
      | false =>
        simp only [Bool.not_false, cT, bs]
        rw [if_pos (by simp [hal'])]
        exact ih (j + 1) true (cst m a) hq'
      | true =>
        simp only [Bool.not_true, cF, bs]
        by_cases hlt : cst m a < x
        · rw [decide_eq_true hlt, if_pos (by simp [hlt, hal'])]
          exact ih (j + 1) true (cst m a) hq'
        · rw [decide_eq_false hlt, if_neg (by simp [hlt, hal'])]
          exact ih (j + 1) true x hq'
theorem Second_l1_eq {f : List Int} {o : List (List Int)} {c : Int} (hf : o[0]? = some f) (hfl : f.length = n) (q : List (List Int)) : ∀ (j : Nat) (b : Bool) (x : Int), (∀ a ∈ q, a ∈ fea m n) →
    spec_SecondBest_l1 m (o, c) q j x b = some ((q.foldl (gR m fun a => !decide (a = f)) (b, x)).2, (q.foldl (gR m fun a => !decide (a = f)) (b, x)).1) := by
  have h6 := g.chi
  induction q with
  | nil => intro j b x _; rfl
  | cons a q ih =>
    intro j b x hq
    have ha := fea_mem.1 (hq a List.mem_cons_self)
    have hq' := fun y hy => hq y (List.mem_cons_of_mem _ hy)
    obtain ⟨k1, k2⟩ := comps_ok ha.1
    rw [spec_SecondBest_l1, idx_first hf, List.foldl_cons]
    simp only [bs]
    rw [l1Same_eq a f]
    simp only [bs]
    unfold gR
    by_cases he : a = f
    · rw [decide_eq_true he]
      simp only [cT, Bool.not_true]
      rw [if_neg (by simp [he])]
      exact ih (j + 1) b x hq'
    · rw [decide_eq_false he]
      simp only [cF, Bool.not_false]
      rw [asCost_eq g hn (by omega) k2 ha.2]
      simp only [bs]
      cases b with
      | false =>
        simp only [Bool.not_false, cT, bs]
        rw [if_pos (by simp [he])]
        exact ih (j + 1) true (cst m a) hq'
      | true =>
        simp only [Bool.not_true, cF, bs]
        by_cases hlt : cst m a < x
        · rw [decide_eq_true hlt, if_pos (by simp [hlt, he])]
          exact ih (j + 1) true (cst m a) hq'
        · rw [decide_eq_false hlt, if_neg (by simp [hlt, he])]
          exact ih (j + 1) true x hq'
end
theorem regret_al (a : List Int) (ii kk : Int) (h0 : 0 ≤ ii) (h1 : ii < a.length) : impl_RegretOf_1_m a ii kk = some (nth a ii.toNat == kk) := by
  unfold impl_RegretOf_1_m
  rw [idx_int h0 h1]
  rfl
theorem second_al (a : List Int) (c : Int) (f : List Int) : impl_SecondBest_1_m a c f = some (!decide (a = f)) := by
  unfold impl_SecondBest_1_m
  rw [Equal_eq]
  rfl
theorem RegretOf_both (m : List (List Int)) (p1 p2 : Int) : ∃ r, spec_RegretOf_m m p1 p2 = some r ∧ impl_RegretOf_m m p1 p2 = some r ∧ True := by
  unfold spec_RegretOf_m impl_RegretOf_m
  rw [isSquare_eq]
  cases hs : sqr m with
  | false => rw [asAsked_no hs]; exact ⟨_, rfl, rfl, trivial⟩
  | true =>
    have g := sqr_good hs
    have h6 := g.chi
    have hlo := g.clo
    rw [asAsked_eq g rfl hs, areVertices_eq m (by omega), ck_in (by omega) (by omega)]
    simp only [bs, Bool.not_true, cF, l1In_eq]
    rw [show ([p1, p2].all (isV m)) = (inR p1 0 ((m.length : Int) - 1) && inR p2 0 ((m.length : Int) - 1)) by simp [isV]]
    by_cases e : fea m m.length = []
    · rw [decide_eq_false (by simpa using e)]
      simp only [Bool.not_false, cT, bs]
      cases h1 : inR p1 0 ((m.length : Int) - 1) with
      | false => exact ⟨_, rfl, rfl, trivial⟩
      | true =>
        cases h2 : inR p2 0 ((m.length : Int) - 1) with
        | false => exact ⟨_, rfl, rfl, trivial⟩
        | true =>
          have v1 := (inR_iff _ _ _).1 h1
          simp only [Bool.and_self, Bool.not_true, cF]
          rw [bestOf_any_eq g rfl (fun _ => true) (fun a _ => rfl), bestOf_regret_eq g rfl p1 p2 _ (fun a ha => regret_al a p1 p2 (by omega) (by rw [(comps_ok ha).1]; omega))]
          rcases opt g rfl with ⟨_, k2⟩ | ⟨f, o, c, k1, _⟩
          · rw [k2]; exact ⟨_, rfl, rfl, trivial⟩
          · exact absurd e k1
    · rw [decide_eq_true (by simpa using e)]
      simp only [Bool.not_true, cF, bs]
      cases h1 : inR p1 0 ((m.length : Int) - 1) with
      | false => exact ⟨_, rfl, rfl, trivial⟩
      | true =>
        cases h2 : inR p2 0 ((m.length : Int) - 1) with
        | false => exact ⟨_, rfl, rfl, trivial⟩
        | true =>
          have v1 := (inR_iff _ _ _).1 h1
          simp only [Bool.and_self, Bool.not_true, cF, bs]
          rw [bestOf_any_eq g rfl (fun _ => true) (fun a _ => rfl), bestOf_regret_eq g rfl p1 p2 _ (fun a ha => regret_al a p1 p2 (by omega) (by rw [(comps_ok ha).1]; omega)), asAll_start g rfl]
          simp only [bs]
          rw [Regret_l1_eq g rfl (by omega) (by omega) _ 0 false 0 (fun a ha => ha)]
          simp only [bs]
          rcases opt g rfl with ⟨k1, _⟩ | ⟨f, o, c, _, k3, k2, _, k5, k6, k7, k8, _⟩
          · exact absurd k1 e
          have hfl := (comps_ok k5).1
          rw [k2, k3]
          simp only [bs]
          rw [decide_eq_true (show (f.length : Int) > 0 by omega)]
          rcases some_both g rfl (fun a => nth a p1.toNat == p2) 0 with ⟨q1, q2⟩ | ⟨q1, q2, q3, a, q4, q5, q6⟩
          · rw [q1, q2]; exact ⟨_, rfl, rfl, trivial⟩
          · rw [q2, q3, decide_eq_true (by omega)]
            have hb := (cst_le g rfl (fea_mem.1 q4).1)
            have hb2 := (fea_mem.1 q4).2
            rw [q6] at hb hb2
            simp only [Bool.not_true, cF, bs]
            rw [ck_in (by omega) (by omega)]
            simp only [bs]
            rw [nuIf_eq, told_eq]
            exact ⟨_, rfl, rfl, trivial⟩
theorem SecondBest_both (m : List (List Int)) : ∃ r, spec_SecondBest_m m = some r ∧ impl_SecondBest_m m = some r ∧ True := by
  unfold spec_SecondBest_m impl_SecondBest_m
  cases hs : sqr m with
  | false => rw [asAsked_no hs, bestAsked_no hs]; exact ⟨_, rfl, rfl, trivial⟩
  | true =>
    have g := sqr_good hs
    have h6 := g.chi
    have hlo := g.clo
    rw [asAsked_eq g rfl hs, bestAsked_eq g rfl hs]
    simp only [bs]
    rcases opt g rfl with ⟨h1, h2⟩ | ⟨f, o, c, h1, h2, h3, h4, h5, h6', h7, h8, h9, h10⟩
    · rw [h1, h2]; exact ⟨_, rfl, rfl, trivial⟩
    have hfl := (comps_ok h5).1
    rw [decide_eq_true h1, h3, h2]
    simp only [Bool.not_true, cF, bs]
    rw [decide_eq_true (show (f.length : Int) > 0 by omega), bestOf_second_eq g rfl c f _ (fun a _ => second_al a c f)]
    simp only [Bool.not_true, cF, bs]
    by_cases ho : o.length > 1
    · rw [decide_eq_true (by omega)]
      simp only [cT]
      have hmem : o[1] ∈ o := List.getElem_mem ho
      have hin : ∀ x ∈ o, x ∈ comps m.length m.length [] ∧ decide (cst m x = c) = true := fun x hx => by rw [h9] at hx; exact List.mem_filter.1 hx
      have hm2 := hin _ hmem
      have hne : o[1] ≠ f := by
        have nd : o.Nodup := by rw [h9]; exact (comps_nodup _ _ _).filter _
        have h40 : o[0] = f := by rw [List.getElem?_eq_getElem (by omega)] at h4; exact Option.some.inj h4
        intro he
        have := (List.pairwise_iff_getElem.1 nd) 0 1 (by omega) ho (by omega)
        exact this (by rw [h40, he])
      have hc := of_decide_eq_true hm2.2
      have J := JO_all m (fun a => !decide (a = f)) (comps m.length m.length [])
      rcases J with ⟨j1, j2⟩ | ⟨j1, j2, j3, j4, j5, j6⟩
      · have := j2 _ hm2.1 (by simp [hne]); omega
      · have a1 := j6 _ hm2.1 (by simp [hne])
        have a2 := h10 _ j1
        have a3 := (comps_ok j1).1
        rw [decide_eq_true (by omega), show ((comps m.length m.length []).foldl (bO m fun a => !decide (a = f)) ([], 1000000000)).2 = c by omega, nuIf_eq, told_eq]
        exact ⟨_, rfl, rfl, trivial⟩
    · rw [decide_eq_false (by omega), asAll_start g rfl]
      simp only [cF, bs]
      rw [Second_l1_eq g rfl h4 hfl _ 0 false c (fun a ha => ha)]
      simp only [bs]
      rcases some_both g rfl (fun a => !decide (a = f)) c with ⟨q1, q2⟩ | ⟨q1, q2, q3, a, q4, q5, q6⟩
      · rw [q1, q2]; exact ⟨_, rfl, rfl, trivial⟩
      · rw [q2, q3, decide_eq_true (by omega), nuIf_eq, told_eq]
        exact ⟨_, rfl, rfl, trivial⟩
end Go.Proofs.Ytnnhbkhlipekeaa
