/- Plain laws: the parts of a matrix of rank one; the part of some rows and columns. -/
import Derived.Test.YtaagklbiebogfaaRk2M
import Derived.Test.YtaagklbiebogfaaPMx2
import Derived.Test.YtaagklbiebogfaaPWy2
namespace Go.Proofs.Ytaagklbiebogfaa
set_option linter.unusedVariables false
set_option linter.unusedSimpArgs false

theorem Parts_l1_eq (c : Nat) (hc : 1 ≤ c) (q : List (List Int)) : ∀ j l, l.length + q.length < 1000000 → (∀ r ∈ q, r.length = c) → spec_RankOneParts_l1 q j l = some (l ++ q.map fun r => nth r 0) := by
  induction q with
  | nil => intro j l _ _; simp [spec_RankOneParts_l1]
  | cons x q ih =>
    intro j l hl hr
    simp only [List.length_cons] at hl
    rw [spec_RankOneParts_l1, idx_nth0 (by have := hr x List.mem_cons_self; omega)]
    simp only [bs]
    rw [app_lt (by omega)]
    simp only [bs]
    rw [ih _ _ (by simp; omega) (fun r h => hr r (List.mem_cons_of_mem _ h))]
    simp
theorem Parts_l2_eq (x : List Int) (h0 : 0 < x.length) (hx : fin (nth x 0) = true) (q : List Int) : ∀ j l, l.length + q.length < 1000000 → (∀ y ∈ q, fin y = true) → spec_RankOneParts_l2 x q j l = some (l ++ q.map fun y => y - nth x 0) := by
  have hx := (fin_iff _).1 hx
  induction q with
  | nil => intro j l _ _; simp [spec_RankOneParts_l2]
  | cons y q ih =>
    intro j l hl hr
    simp only [List.length_cons] at hl
    have hy := (fin_iff _).1 (hr y List.mem_cons_self)
    rw [spec_RankOneParts_l2, idx_nth0 h0]
    simp only [bs]
    rw [ck_in (by omega) (by omega)]
    simp only [bs]
    rw [app_lt (by omega)]
    simp only [bs]
    rw [ih _ _ (by simp; omega) (fun r h => hr r (List.mem_cons_of_mem _ h))]
    simp
theorem isRankOne_fin {m : List (List Int)} {c : Nat} (g : Good m c) (h : spec_rkOne_m m = some true) : ∀ l ∈ m, ∀ x ∈ l, fin x = true := by
  unfold spec_rkOne_m at h
  rw [rkOne_l1_eq g m 0 (fun _ h => h)] at h
  cases hb : m.all fun r => allI (r1 (hd m) r) r 0
  · rw [hb] at h; cases h
  · intro l hl x hx
    have h1 := List.all_eq_true.1 hb l hl
    rw [allI_iff _ (0 : Int)] at h1
    obtain ⟨i, hi, e⟩ := List.mem_iff_getElem.1 hx
    have h2 := h1 i hi
    rw [fin_of_num (g.nums l hl x hx)]
    simp only [r1, Bool.and_eq_true] at h2
    have e2 : l.getD i 0 = x := by simp [hi, e]
    rw [e2] at h2
    exact h2.1
theorem RankOneParts_both (m : List (List Int)) : ∃ r, spec_RankOneParts_m m = some r ∧ impl_RankOneParts_m m = some r ∧ (Small r.1 ∧ Small r.2.1) := by
  unfold spec_RankOneParts_m impl_RankOneParts_m
  rw [mxGood_eq, isMatrix_eq]
  simp only [bs]
  cases hm : mat m
  · exact ⟨([], [], false), rfl, rfl, small_nil, small_nil⟩
  have g := mat_good hm
  obtain ⟨b, h1, h2⟩ := isRankOne_both g
  rw [h1, h2]
  cases b
  · exact ⟨([], [], false), rfl, rfl, small_nil, small_nil⟩
  have hf := isRankOne_fin g h1
  have hlo := g.lo; have := g.hi; have := g.chi; have := g.clo
  have hhm : hd m ∈ m := by cases m with | nil => simp at hlo | cons x m => rw [hd_cons]; exact List.mem_cons_self
  have hf0 := hf _ hhm _ (nth_mem (show 0 < (hd m).length by omega))
  have hf0' := (fin_iff _).1 hf0
  rw [idx_head (by omega)]
  simp only [bs, Bool.not_true, cF]
  rw [Parts_l1_eq _ g.clo m 0 [] (by simp; omega) g.row]
  simp only [bs, List.nil_append]
  rw [Parts_l2_eq (hd m) (by omega) hf0 (hd m) 0 [] (by simp; omega) (hf _ hhm), idx_nth0 (by omega)]
  simp only [bs, List.nil_append]
  rw [ck_in (by omega) (by omega), transposed_eq g]
  simp only [bs]
  have e0 : idx (turn m (hd m).length) 0 = some (colAt m 0) := by
    obtain ⟨c, hc⟩ : ∃ c, (hd m).length = c + 1 := ⟨(hd m).length - 1, by omega⟩
    rw [hc]
    simp [turn, idx, List.range_succ_eq_map]
  rw [e0]
  simp only [bs]
  rw [Clone_eq (by simp [colAt]; omega)]
  simp only [bs]
  rw [shifted_eq (hd m) (by omega) (hf _ hhm) (-nth (hd m) 0) ((fin_iff _).2 (by omega))]
  simp only [bs]
  have e1 : ((hd m).map fun y => -nth (hd m) 0 + y) = (hd m).map fun y => y - nth (hd m) 0 := List.map_congr_left fun y _ => by omega
  rw [e1]
  exact ⟨(colAt m 0, (hd m).map fun y => y - nth (hd m) 0, true), rfl, rfl, by show (colAt m 0).length ≤ 1048576; simp [colAt]; omega, by show ((hd m).map fun y => y - nth (hd m) 0).length ≤ 1048576; simp; omega⟩

/-! ### The part of some rows and columns -/
theorem ris_both (p : List Int) (n : Nat) (hn : n < 1000000) (q : List Int) : ∀ j, q = p.drop j → j + q.length = p.length → (0 < j → (j : Int) - 1 ≤ nth p (j - 1) ∧ nth p (j - 1) ≤ (n : Int) - 1) →
    ∃ b, spec_l1Rising_l1 p 0 ((n : Int) - 1) q j = some (cond b (Sum.inr ()) (Sum.inl false)) ∧ impl_areIndices_l1 p (n : Int) q j = some (cond b (Sum.inr ()) (Sum.inl false)) ∧
      (b = true → ∀ i, j ≤ i → i < p.length → (i : Int) ≤ nth p i ∧ nth p i ≤ (n : Int) - 1) := by
  induction q with
  | nil =>
    intro j _ hj _
    simp only [List.length_nil, Nat.add_zero] at hj
    exact ⟨true, rfl, rfl, fun _ i h1 h2 => by omega⟩
  | cons x q ih =>
    intro j hq hj hpre
    simp only [List.length_cons] at hj
    have hjl : j < p.length := by omega
    rw [drop_cons hjl] at hq
    simp only [List.cons.injEq] at hq
    have hx : x = nth p j := by rw [hq.1]; simp [nth, hjl]
    have kn : ck ((n : Int) - 1) = some ((n : Int) - 1) := ck_in (by omega) (by omega)
    rw [spec_l1Rising_l1, impl_areIndices_l1, kn, l1In_eq]
    simp only [bs, within_eq]
    cases hr : inR x 0 ((n : Int) - 1)
    · exact ⟨false, rfl, rfl, fun h => by cases h⟩
    have hr := (inR_iff _ _ _).1 hr
    simp only [Bool.not_true, cF]
    by_cases h0 : 0 < j
    · have hp := hpre h0
      rw [decide_eq_true (show (j : Int) > 0 by omega)]
      simp only [cT]
      have kj : ck ((j : Int) - 1) = some ((j - 1 : Nat) : Int) := by rw [show ((j : Int) - 1) = ((j - 1 : Nat) : Int) by omega]; exact ck_in (by omega) (by omega)
      rw [kj]
      simp only [bs]
      rw [idx_nth (show j - 1 < p.length by omega)]
      simp only [bs]
      by_cases hge : nth p (j - 1) ≥ x
      · rw [decide_eq_true hge]; exact ⟨false, rfl, rfl, fun h => by cases h⟩
      · rw [decide_eq_false hge]
        simp only [cF]
        obtain ⟨b, h1, h2, h3⟩ := ih (j + 1) hq.2 (by omega) (fun _ => by rw [show j + 1 - 1 = j by omega, ← hx]; omega)
        refine ⟨b, h1, h2, fun hb i hi hil => ?_⟩
        by_cases e : i = j
        · subst e; rw [← hx]; omega
        · exact h3 hb i (by omega) hil
    · have hj0 : j = 0 := by omega
      subst hj0
      simp only [Int.natCast_zero, gt_iff_lt, Int.lt_irrefl, decide_false, cF, bs]
      obtain ⟨b, h1, h2, h3⟩ := ih 1 hq.2 (by omega) (fun _ => by rw [show 1 - 1 = 0 by omega, ← hx]; omega)
      refine ⟨b, h1, h2, fun hb i hi hil => ?_⟩
      by_cases e : i = 0
      · subst e; rw [← hx]; omega
      · exact h3 hb i (by omega) hil
theorem rising_both (p : List Int) (n : Nat) (hn : n < 1000000) : ∃ b, spec_l1Rising_m p 0 ((n : Int) - 1) = some b ∧ impl_areIndices_m p (n : Int) = some (b && !((p.length : Int) == 0)) ∧ (b = true → p.length ≤ n ∧ ∀ x ∈ p, 0 ≤ x ∧ x < n) := by
  unfold spec_l1Rising_m impl_areIndices_m
  obtain ⟨b, h1, h2, h3⟩ := ris_both p n hn p 0 rfl (by omega) (by omega)
  rw [h1, h2]
  cases b
  · exact ⟨false, rfl, rfl, fun h => by cases h⟩
  · refine ⟨true, rfl, ?_, fun _ => ⟨?_, fun x hx => ?_⟩⟩
    · simp only [bs, cT, Sum.elim_inr, Bool.true_and, Option.some.injEq]
      cases p with
      | nil => rfl
      | cons x p =>
        have h1 : decide (((x :: p).length : Int) > 0) = true := decide_eq_true (by simp only [List.length_cons]; omega)
        have h2 : (((x :: p).length : Int) == 0) = false := beq_eq_false_iff_ne.2 (by simp only [List.length_cons]; omega)
        rw [h1, h2]; rfl
    · rcases Nat.eq_zero_or_pos p.length with e | e
      · omega
      · have := h3 rfl (p.length - 1) (by omega) (by omega); omega
    · obtain ⟨i, hi, e⟩ := List.mem_iff_getElem.1 hx
      have := h3 rfl i (by omega) hi
      have e2 : nth p i = x := by simp [nth, hi, e]
      rw [e2] at this
      omega
theorem part_l2 {m : List (List Int)} {c : Nat} (sh : ∀ r ∈ m, r.length = c) (a : Int) (ha : 0 ≤ a ∧ a < m.length) (q : List Int) : ∀ j l, l.length + q.length < 1000000 → (∀ x ∈ q, 0 ≤ x ∧ x < c) →
    ∃ r, spec_rkPart_l2 m a q j l = some r ∧ impl_partOf_l2 m a q j l = some r ∧ r.length = l.length + q.length := by
  induction q with
  | nil => intro j l _ _; exact ⟨l, rfl, rfl, by simp⟩
  | cons x q ih =>
    intro j l hl hq
    simp only [List.length_cons] at hl
    have hx := hq x List.mem_cons_self
    have hr := sh _ (nthM_mem (show a.toNat < m.length by omega))
    rw [spec_rkPart_l2, impl_partOf_l2, idx_intM ha.1 ha.2]
    simp only [bs]
    rw [idx_int hx.1 (by omega)]
    simp only [bs]
    rw [app_lt (by omega)]
    simp only [bs]
    obtain ⟨r, h1, h2, h3⟩ := ih (j + 1) (l ++ [nth (nthM m a.toNat) x.toNat]) (by simp; omega) (fun y hy => hq y (List.mem_cons_of_mem _ hy))
    exact ⟨r, h1, h2, by rw [h3]; simp; omega⟩
theorem part_l1 {m : List (List Int)} {c : Nat} (sh : ∀ r ∈ m, r.length = c) (p : List Int) (hp : p.length < 10000) (hpc : ∀ x ∈ p, 0 ≤ x ∧ x < c) (q : List Int) : ∀ j l, l.length + q.length < 1000000 → (∀ x ∈ q, 0 ≤ x ∧ x < m.length) → (∀ y ∈ l, y.length = p.length) →
    ∃ r, spec_rkPart_l1 m p q j l = some r ∧ impl_partOf_l1 m p q j l = some r ∧ r.length = l.length + q.length ∧ ∀ y ∈ r, y.length = p.length := by
  induction q with
  | nil => intro j l _ _ h; exact ⟨l, rfl, rfl, by simp, h⟩
  | cons x q ih =>
    intro j l hl hq h
    simp only [List.length_cons] at hl
    obtain ⟨y, y1, y2, y3⟩ := part_l2 sh x (hq x List.mem_cons_self) p 0 [] (by simp; omega) hpc
    rw [spec_rkPart_l1, impl_partOf_l1, y1, y2]
    simp only [bs]
    rw [app_lt (by omega)]
    simp only [bs]
    obtain ⟨r, h1, h2, h3, h4⟩ := ih (j + 1) (l ++ [y]) (by simp; omega) (fun z hz => hq z (List.mem_cons_of_mem _ hz)) (fun z hz => by
      rcases List.mem_append.1 hz with e | e
      · exact h z e
      · rw [List.mem_singleton.1 e, y3]; simp)
    exact ⟨r, h1, h2, by rw [h3]; simp; omega, h4⟩
theorem part_both {m : List (List Int)} {c : Nat} (sh : ∀ r ∈ m, r.length = c) (a b : List Int) (ha : a.length ≤ 6) (hb : b.length ≤ 6) (ham : ∀ x ∈ a, 0 ≤ x ∧ x < m.length) (hbc : ∀ x ∈ b, 0 ≤ x ∧ x < c) :
    ∃ r, spec_rkPart_m m a b = some r ∧ impl_partOf_m m a b = some r ∧ r.length = a.length ∧ ∀ y ∈ r, y.length = b.length := by
  unfold spec_rkPart_m impl_partOf_m
  obtain ⟨r, h1, h2, h3, h4⟩ := part_l1 sh b (by omega) hbc a 0 [] (by simp; omega) ham (fun y hy => by cases hy)
  rw [h1, h2]
  exact ⟨r, rfl, rfl, by simpa using h3, h4⟩
theorem PartOf_both (m : List (List Int)) (a b : List Int) : ∃ r, spec_PartOf_m m a b = some r ∧ impl_PartOf_m m a b = some r ∧ SmallM r.1 := by
  unfold spec_PartOf_m impl_PartOf_m
  rw [mxGood_eq, isMatrix_eq]
  simp only [bs]
  cases hm : mat m
  · exact ⟨([], false), rfl, rfl, smallM_nil⟩
  have g := mat_good hm
  have := g.lo; have := g.hi; have := g.chi; have := g.clo
  obtain ⟨x, x1, x2, x3⟩ := rising_both a m.length (by omega)
  obtain ⟨y, y1, y2, y3⟩ := rising_both b (hd m).length (by omega)
  rw [ck_in (by omega) (by omega), idx_head (by omega)]
  simp only [bs]
  rw [ck_in (by omega) (by omega), x2]
  simp only [bs, x1, y1, y2, Bool.not_true, cF]
  cases ea : (a.length : Int) == 0
  case true => exact ⟨([], false), by rfl, by cases x <;> rfl, smallM_nil⟩
  cases x
  case false =>
    refine ⟨([], false), ?_, rfl, smallM_nil⟩
    cases (b.length : Int) == 0 <;> rfl
  cases eb : (b.length : Int) == 0
  case true => exact ⟨([], false), rfl, by cases y <;> rfl, smallM_nil⟩
  cases y
  · exact ⟨([], false), rfl, rfl, smallM_nil⟩
  obtain ⟨xa, xb⟩ := x3 rfl
  obtain ⟨ya, yb⟩ := y3 rfl
  obtain ⟨r, r1, r2, r3, r4⟩ := part_both g.row a b (by omega) (by omega) xb yb
  simp only [Bool.not_true, Bool.not_false, cF, cT, bs, Bool.true_and]
  rw [r1, r2]
  exact ⟨(r, true), rfl, rfl, by show r.length ≤ 1048576; omega, fun l hl => by have := r4 l hl; unfold Small; omega⟩
end Go.Proofs.Ytaagklbiebogfaa
