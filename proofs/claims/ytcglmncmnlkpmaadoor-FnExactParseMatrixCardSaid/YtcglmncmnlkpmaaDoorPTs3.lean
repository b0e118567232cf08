/- Plain law: a matrix is read back from its text alike by the program and the specification. -/
import Derived.Test.YtcglmncmnlkpmaaDoorTxrM
import Derived.Test.YtcglmncmnlkpmaaDoorPTs2
namespace Go.Proofs.YtcglmncmnlkpmaaDoor
set_option linter.unusedVariables false
set_option linter.unusedSimpArgs false

theorem sp_ne (c : UInt8) (s : List UInt8) : splitC c s ≠ [] := by
  cases s with
  | nil => simp [splitC]
  | cons b l =>
    rw [splitC_cons]
    split
    · simp
    · split <;> simp
theorem joinTail_ne (sep : List UInt8) (r : List (List UInt8)) (h : r ≠ []) : Lib.joinTail sep r = sep ++ Lib.join r sep := by
  cases r with
  | nil => exact absurd rfl h
  | cons x r => rw [Lib.join_cons]; simp [Lib.joinTail]
theorem join_split (c : UInt8) : ∀ s : List UInt8, Lib.join (splitC c s) [c] = s
  | [] => by simp [splitC, Lib.join_one]
  | b :: l => by
    have ih := join_split c l
    rw [splitC_cons]
    by_cases h : b = c
    · rw [if_pos h, Lib.join_cons, joinTail_ne _ _ (sp_ne c l), ih]; simp [h]
    · rw [if_neg h]
      cases hs : splitC c l with
      | nil => exact absurd hs (sp_ne c l)
      | cons x t =>
        rw [hs, Lib.join_cons] at ih
        simp only
        rw [Lib.join_cons, List.cons_append, ih]
theorem join_end (sep : List UInt8) (last : List UInt8) : ∀ rows : List (List UInt8), Lib.join (rows ++ [last]) sep = (rows.map (· ++ sep)).flatten ++ last
  | [] => by simp [Lib.join_one]
  | x :: r => by
    rw [List.cons_append, Lib.join_cons, joinTail_ne _ _ (by simp), join_end sep last r]
    simp
theorem sp_none (c : UInt8) : ∀ a : List UInt8, c ∉ a → splitC c a = [a]
  | [], _ => rfl
  | b :: l, h => by
    simp only [List.mem_cons, not_or] at h
    rw [splitC_cons, if_neg (fun e => h.1 e.symm), sp_none c l h.2]
theorem sp_first (c : UInt8) (r : List UInt8) : ∀ a : List UInt8, c ∉ a → splitC c (a ++ c :: r) = a :: splitC c r
  | [], _ => by rw [List.nil_append, splitC_cons, if_pos rfl]
  | b :: l, h => by
    simp only [List.mem_cons, not_or] at h
    rw [List.cons_append, splitC_cons, if_neg (fun e => h.1 e.symm), sp_first c r l h.2]
theorem first_of (c : UInt8) : ∀ s : List UInt8, c ∈ s → ∃ a r, s = a ++ c :: r ∧ c ∉ a
  | b :: l, h => by
    by_cases e : c = b
    · exact ⟨[], l, by simp [e], by simp⟩
    · obtain ⟨a, r, h1, h2⟩ := first_of c l (by simpa [e] using h)
      exact ⟨b :: a, r, by simp [h1], by simp [e, h2]⟩
theorem ix_none (c : UInt8) : ∀ s : List UInt8, c ∉ s → Lib.index s [c] = -1
  | [], _ => rfl
  | b :: l, h => by
    simp only [List.mem_cons, not_or] at h
    unfold Lib.index
    have : ([c].isPrefixOf (b :: l)) = false := by simp [List.isPrefixOf, h.1]
    rw [this, ix_none c l h.2]
    rfl
theorem ix_first (c : UInt8) (r : List UInt8) : ∀ a : List UInt8, c ∉ a → Lib.index (a ++ c :: r) [c] = (a.length : Int)
  | [], _ => by
    rw [List.nil_append]
    unfold Lib.index
    simp [List.isPrefixOf]
  | b :: l, h => by
    simp only [List.mem_cons, not_or] at h
    rw [List.cons_append]
    unfold Lib.index
    have : ([c].isPrefixOf (b :: (l ++ c :: r))) = false := by simp [List.isPrefixOf, h.1]
    rw [this, ix_first c r l h.2]
    have e : (((l.length : Int)) == -1) = false := by simp
    simp [e]
theorem splitK_eq (c : UInt8) : ∀ (k : Nat) (s : List UInt8), s.count c ≤ k → Lib.splitK [c] 0 k s = splitC c s
  | 0, s, h => by
    rw [sp_none c s (List.count_eq_zero.1 (by omega))]
    rfl
  | k + 1, s, h => by
    unfold Lib.splitK
    by_cases hc : c ∈ s
    · obtain ⟨a, r, rfl, ha⟩ := first_of c s hc
      rw [ix_first c r a ha, sp_first c r a ha]
      have e : (((a.length : Int)) == -1) = false := by simp
      have hcnt : r.count c ≤ k := by
        rw [List.count_append, List.count_eq_zero.2 ha, List.count_cons_self] at h
        omega
      have e2 : (a ++ c :: r).drop (a.length + 1) = r := by simp
      simp only [e, Int.toNat_natCast, Nat.add_zero, List.length_cons, List.length_nil, Nat.zero_add, e2, splitK_eq c k r hcnt]
      simp
    · rw [ix_none c s hc, sp_none c s hc]
      rfl
theorem Split_eq (s : List UInt8) (c : UInt8) (h : s.length < 1000000000) : strings_Split_m s [c] = some (splitC c s) := by
  unfold strings_Split_m
  rw [decide_eq_true ⟨h, by simp⟩, Lib.count_one, splitK_eq c _ s (Nat.le_refl _)]
  rfl
theorem sp_len (c : UInt8) : ∀ s : List UInt8, (splitC c s).length ≤ s.length + 1
  | [] => by simp [splitC]
  | b :: l => by
    have ih := sp_len c l
    rw [splitC_cons]
    split
    · simp only [List.length_cons]; omega
    · split
      · simp
      · rename_i e
        rw [e] at ih
        simp only [List.length_cons] at ih ⊢
        omega
theorem sp_mem (c : UInt8) : ∀ (s w : List UInt8), w ∈ splitC c s → w.length ≤ s.length
  | [], w, h => by
    obtain rfl : w = [] := by simpa [splitC] using h
    simp
  | b :: l, w, h => by
    rw [splitC_cons] at h
    split at h
    · rcases List.mem_cons.1 h with rfl | h
      · simp
      · have := sp_mem c l w h
        simp only [List.length_cons]; omega
    · split at h
      · obtain rfl : w = [b] := by simpa using h
        simp
      · rename_i x t e
        rcases List.mem_cons.1 h with rfl | h
        · have := sp_mem c l x (by rw [e]; simp)
          simp only [List.length_cons]; omega
        · have := sp_mem c l w (by rw [e]; simp [h])
          simp only [List.length_cons]; omega
theorem l1Split_l1_eq (p : List UInt8) (c : UInt8) (hp : p.length ≤ 1048576) : ∀ (k i fr : Nat) (l : List (List UInt8)), p.length - i < k → i ≤ p.length → fr ≤ i → c ∉ (p.drop fr).take (i - fr) → l.length + (p.length - i) < 900000000 →
    ∃ (l' : List (List UInt8)) (f' : Nat), spec_l1Split_l1 p (c.toNat : Int) k l (fr : Int) (i : Int) = some (l', (f' : Int)) ∧ f' ≤ p.length ∧ l'.length < 900000001 ∧ l' ++ [p.drop f'] = l ++ splitC c (p.drop fr) := by
  intro k
  induction k with
  | zero => intro i fr l h; omega
  | succ k ih =>
    intro i fr l hk hi hf hc hl
    rw [spec_l1Split_l1]
    have hsplit : p.drop fr = (p.drop fr).take (i - fr) ++ p.drop i := by
      have := (List.take_append_drop (i - fr) (p.drop fr)).symm
      rw [List.drop_drop, show fr + (i - fr) = i by omega] at this
      exact this
    by_cases h : i < p.length
    · rw [decide_eq_true (show (i : Int) < (p.length : Int) by omega)]
      simp only [cT]
      rw [idx_lt h]
      simp only [bs]
      rw [u8_eq, ck_nat (by omega)]
      by_cases hb : p[i] = c
      · rw [decide_eq_true hb]
        simp only [cT]
        rw [cutS_mk (by omega)]
        simp only [bs]
        rw [app_lt (by omega)]
        simp only [bs]
        have e1 : ((p.drop ((fr : Nat) : Int).toNat).take (((i : Nat) : Int).toNat - ((fr : Nat) : Int).toNat)) = (p.drop fr).take (i - fr) := by simp
        rw [e1]
        obtain ⟨l', f', h1, h2, h3, h4⟩ := ih (i + 1) (i + 1) (l ++ [(p.drop fr).take (i - fr)]) (by omega) (by omega) (by omega) (by simp) (by simp only [List.length_append, List.length_cons, List.length_nil]; omega)
        refine ⟨l', f', h1, h2, h3, ?_⟩
        rw [h4]
        have e2 : splitC c (p.drop fr) = (p.drop fr).take (i - fr) :: splitC c (p.drop (i + 1)) := by
          conv => lhs; rw [hsplit, drop_cons h, hb]
          exact sp_first c _ _ hc
        rw [e2]
        simp
      · rw [decide_eq_false hb]
        simp only [cF, bs]
        refine ih (i + 1) fr l (by omega) (by omega) (by omega) ?_ (by omega)
        have e3 : (p.drop fr).take (i + 1 - fr) = (p.drop fr).take (i - fr) ++ [p[i]] := by
          rw [show i + 1 - fr = (i - fr) + 1 by omega, List.take_add_one]
          congr 1
          rw [List.getElem?_drop, show fr + (i - fr) = i by omega, List.getElem?_eq_getElem h]
          rfl
        rw [e3]
        simp only [List.mem_append, List.mem_cons, List.not_mem_nil, or_false, not_or]
        exact ⟨hc, fun e => hb e.symm⟩
    · obtain rfl : i = p.length := by omega
      rw [decide_eq_false (show ¬ ((p.length : Int) < (p.length : Int)) by omega)]
      simp only [cF]
      refine ⟨l, fr, rfl, hf, by omega, ?_⟩
      rw [sp_none c (p.drop fr) (by rw [hsplit]; simpa using hc)]
theorem l1Split_eq (p : List UInt8) (c : UInt8) (hp : p.length ≤ 1048576) : spec_l1Split_m p (c.toNat : Int) = some (splitC c p) := by
  unfold spec_l1Split_m
  obtain ⟨l', f', h1, h2, h3, h4⟩ := l1Split_l1_eq p c hp 4000000 0 0 [] (by omega) (by omega) (by omega) (by simp) (by simp only [List.length_nil]; omega)
  rw [show ((0 : Int)) = ((0 : Nat) : Int) from rfl, h1]
  simp only [bs]
  rw [cutS_mk (by omega)]
  simp only [bs]
  rw [app_lt (by omega)]
  simp only [bs]
  have e1 : ((p.drop ((f' : Nat) : Int).toNat).take (((p.length : Nat) : Int).toNat - ((f' : Nat) : Int).toNat)) = p.drop f' := by
    simp only [Int.toNat_natCast]
    exact List.take_of_length_le (by simp)
  rw [e1, h4]
  simp

/-! Words, rows, the matrix. -/
theorem words_both : ∀ q : List (List UInt8), (∀ x ∈ q, x.length < 1000000000) →
    (∃ ns : List Int, (∀ n ∈ ns, num n = true) ∧ ns.map NT = q ∧ ∀ (j : Nat) (l : List Int), l.length + q.length < 1000000000 → spec_ParseMatrix_l2 q j l = some (Sum.inr (l ++ ns)) ∧ impl_parseNumbers_l1 q l = some (l ++ ns, true)) ∨
    (∀ (j : Nat) (l : List Int), l.length + q.length < 1000000000 → spec_ParseMatrix_l2 q j l = some (Sum.inl ([], false)) ∧ impl_parseNumbers_l1 q l = some ([], false)) := by
  intro q
  induction q with
  | nil => intro _; exact .inl ⟨[], by simp, rfl, fun j l _ => by simp [spec_ParseMatrix_l2, impl_parseNumbers_l1]⟩
  | cons x q ih =>
    intro hq
    obtain ⟨⟨n, b⟩, h1, h2, h3⟩ := number_both x (hq x List.mem_cons_self)
    cases b
    · refine .inr fun j l _ => ?_
      rw [spec_ParseMatrix_l2, impl_parseNumbers_l1, h1, h2]
      exact ⟨rfl, rfl⟩
    · obtain ⟨hn, hx⟩ := h3 rfl
      have step : ∀ (j : Nat) (l : List Int), l.length + (x :: q).length < 1000000000 → spec_ParseMatrix_l2 (x :: q) j l = spec_ParseMatrix_l2 q (j + 1) (l ++ [n]) ∧ impl_parseNumbers_l1 (x :: q) l = impl_parseNumbers_l1 q (l ++ [n]) := fun j l hl => by
        simp only [List.length_cons] at hl
        rw [spec_ParseMatrix_l2, impl_parseNumbers_l1, h1, h2]
        simp only [bs, Bool.not_true, cF, cT]
        rw [app_lt (by omega)]
        exact ⟨rfl, rfl⟩
      rcases ih (fun y hy => hq y (List.mem_cons_of_mem _ hy)) with ⟨ns, hns, hmap, hall⟩ | hall
      · refine .inl ⟨n :: ns, fun m hm => ?_, by simp [hmap, hx], fun j l hl => ?_⟩
        · rcases List.mem_cons.1 hm with rfl | hm
          · exact hn
          · exact hns m hm
        · obtain ⟨s1, s2⟩ := step j l hl
          simp only [List.length_cons] at hl
          obtain ⟨e1, e2⟩ := hall (j + 1) (l ++ [n]) (by simp only [List.length_append, List.length_cons, List.length_nil]; omega)
          rw [s1, s2, e1, e2]
          simp
      · refine .inr fun j l hl => ?_
        obtain ⟨s1, s2⟩ := step j l hl
        simp only [List.length_cons] at hl
        rw [s1, s2]
        exact hall (j + 1) (l ++ [n]) (by simp only [List.length_append, List.length_cons, List.length_nil]; omega)
theorem rows_both : ∀ q : List (List UInt8), (∀ x ∈ q, x.length ≤ 1048576) →
    (∃ m : List (List Int), (∀ r ∈ m, ∀ n ∈ r, num n = true) ∧ m.map RT = q ∧ ∀ (j : Nat) (l : List (List Int)), l.length + q.length < 1000000000 → spec_ParseMatrix_l1 q j l = some (Sum.inr (l ++ m)) ∧ impl_ParseMatrix_l1 q j l = some (Sum.inr (l ++ m))) ∨
    (∀ (j : Nat) (l : List (List Int)), l.length + q.length < 1000000000 → spec_ParseMatrix_l1 q j l = some (Sum.inl ([], false)) ∧ impl_ParseMatrix_l1 q j l = some (Sum.inl ([], false))) := by
  intro q
  induction q with
  | nil => intro _; exact .inl ⟨[], by simp, rfl, fun j l _ => by simp [spec_ParseMatrix_l1, impl_ParseMatrix_l1]⟩
  | cons x q ih =>
    intro hq
    have hx := hq x List.mem_cons_self
    have hlen := sp_len 32 x
    have hS : spec_l1Split_m x 32 = some (splitC 32 x) := l1Split_eq x 32 hx
    have hP : impl_parseNumbers_m x ([32] : List UInt8) = impl_parseNumbers_l1 (splitC 32 x) [] := by
      unfold impl_parseNumbers_m
      rw [decide_eq_true ⟨rfl, by omega⟩]
      rfl
    rcases words_both (splitC 32 x) (fun w hw => by have := sp_mem 32 x w hw; omega) with ⟨ns, hns, hmap, hall⟩ | hall
    · obtain ⟨a1, a2⟩ := hall 0 [] (by simp only [List.length_nil]; omega)
      have hRT : RT ns = x := by unfold RT; rw [hmap, join_split]
      have step : ∀ (j : Nat) (l : List (List Int)), l.length + (x :: q).length < 1000000000 → spec_ParseMatrix_l1 (x :: q) j l = spec_ParseMatrix_l1 q (j + 1) (l ++ [ns]) ∧ impl_ParseMatrix_l1 (x :: q) j l = impl_ParseMatrix_l1 q (j + 1) (l ++ [ns]) := fun j l hl => by
        simp only [List.length_cons] at hl
        rw [spec_ParseMatrix_l1, impl_ParseMatrix_l1, hS, hP, a2]
        simp only [bs]
        rw [a1]
        simp only [bs, Sum.elim_inr, List.nil_append, Bool.not_true, cF]
        rw [app_lt (by omega)]
        exact ⟨rfl, rfl⟩
      rcases ih (fun y hy => hq y (List.mem_cons_of_mem _ hy)) with ⟨m, hm, hmm, hall2⟩ | hall2
      · refine .inl ⟨ns :: m, fun r hr => ?_, by simp [hmm, hRT], fun j l hl => ?_⟩
        · rcases List.mem_cons.1 hr with rfl | hr
          · exact hns
          · exact hm r hr
        · obtain ⟨s1, s2⟩ := step j l hl
          simp only [List.length_cons] at hl
          obtain ⟨e1, e2⟩ := hall2 (j + 1) (l ++ [ns]) (by simp only [List.length_append, List.length_cons, List.length_nil]; omega)
          rw [s1, s2, e1, e2]
          simp
      · refine .inr fun j l hl => ?_
        obtain ⟨s1, s2⟩ := step j l hl
        simp only [List.length_cons] at hl
        rw [s1, s2]
        exact hall2 (j + 1) (l ++ [ns]) (by simp only [List.length_append, List.length_cons, List.length_nil]; omega)
    · obtain ⟨a1, a2⟩ := hall 0 [] (by simp only [List.length_nil]; omega)
      refine .inr fun j l hl => ?_
      rw [spec_ParseMatrix_l1, impl_ParseMatrix_l1, hS, hP, a2]
      simp only [bs]
      rw [a1]
      exact ⟨rfl, rfl⟩
theorem ParseMatrix_both (s : List UInt8) (hs : s.length ≤ 1048576) : ∃ r, spec_ParseMatrix_m s = some r ∧ impl_ParseMatrix_m s = some r ∧ SmallM r.1 := by
  have hS : spec_l1Split_m s 59 = some (splitC 59 s) := l1Split_eq s 59 hs
  have hlen := sp_len 59 s
  have hj := join_split 59 s
  have hmem := sp_mem 59 s
  obtain ⟨rows, last, hP⟩ : ∃ rows last, splitC 59 s = rows ++ [last] := ⟨_, _, (List.dropLast_concat_getLast (sp_ne 59 s)).symm⟩
  rw [hP] at hS hj hmem hlen
  simp only [List.length_append, List.length_cons, List.length_nil] at hlen
  rw [join_end] at hj
  have hparts : impl_parts_m s = some (rows, last == []) := by
    unfold impl_parts_m
    rw [Split_eq s 59 (by omega), hP]
    simp only [bs]
    have e1 : (((rows ++ [last]).length : Int) - 1) = (rows.length : Int) := by simp
    rw [e1, ck_in (by omega) (by omega)]
    simp only [bs]
    rw [show idx (rows ++ [last]) (rows.length : Int) = some last from by rw [idx_nat]; simp]
    simp only [bs]
    rw [show cutO (rows ++ [last]) (rows.length : Int) = some rows from by unfold cutO; rw [decide_eq_true (by simp; omega)]; simp]
    simp only [bs]
  unfold spec_ParseMatrix_m impl_ParseMatrix_m
  rw [hS, hparts]
  simp only [bs]
  have hcut : cutO (rows ++ [last]) (rows.length : Int) = some rows := by unfold cutO; rw [decide_eq_true (by simp; omega)]; simp
  have e1 : (((rows ++ [last]).length : Int) - 1) = (rows.length : Int) := by simp
  have hck : ck (((rows ++ [last]).length : Int) - 1) = some (rows.length : Int) := by rw [e1, ck_in (by omega) (by omega)]
  rcases rows_both rows (fun x hx => by have := hmem x (by simp [hx]); omega) with ⟨m, hm, hmm, hall⟩ | hall
  · obtain ⟨a1, a2⟩ := hall 0 [] (by simp only [List.length_nil]; omega)
    rw [a2]
    simp only [bs, Sum.elim_inr, List.nil_append]
    rw [toldMatrix_eq]
    simp only [bs]
    have hml : m.length = rows.length := by rw [← hmm]; simp
    have hXT : XT m = (rows.map (· ++ [59])).flatten := by unfold XT; rw [← hmm, List.map_map]; rfl
    by_cases h7 : 7 < (rows ++ [last]).length
    · rw [decide_eq_true (show ((rows ++ [last]).length : Int) > 7 by omega)]
      simp only [cT]
      have hmat : mat m = false := by
        rw [← Bool.not_eq_true]
        intro h
        have := (mat_rows h).1
        simp only [List.length_append, List.length_cons, List.length_nil] at h7
        omega
      rw [hmat]
      refine ⟨([], false), rfl, ?_, smallM_nil⟩
      cases (last == ([] : List UInt8)) <;> rfl
    · rw [decide_eq_false (show ¬ ((rows ++ [last]).length : Int) > 7 by omega)]
      simp only [cF]
      rw [hck]
      simp only [bs]
      rw [hcut]
      simp only [bs]
      rw [a1]
      simp only [bs, Sum.elim_inr, List.nil_append]
      rw [mxGood_eq]
      simp only [bs]
      cases hmat : mat m
      · simp only [Bool.not_false, cT, bs]
        refine ⟨([], false), rfl, ?_, smallM_nil⟩
        cases (last == ([] : List UInt8)) <;> rfl
      · simp only [Bool.not_true, cF]
        rw [(texts_eq m hmat).1]
        simp only [bs]
        by_cases hlast : last = []
        · rw [show (XT m != s) = false from by
            rw [← hj, hXT, hlast]; simp, show (last == ([] : List UInt8)) = true by simp [hlast]]
          simp only [cF, cT, Bool.not_true]
          exact ⟨(m, true), rfl, rfl, (mat_good hmat).small⟩
        · rw [show (XT m != s) = true from by
            rw [← hj, hXT]; simpa using hlast, show (last == ([] : List UInt8)) = false by simp [hlast]]
          exact ⟨([], false), rfl, rfl, smallM_nil⟩
  · obtain ⟨a1, a2⟩ := hall 0 [] (by simp only [List.length_nil]; omega)
    rw [a2]
    simp only [bs, Sum.elim_inl]
    refine ⟨([], false), ?_, rfl, smallM_nil⟩
    by_cases h7 : 7 < (rows ++ [last]).length
    · rw [decide_eq_true (show ((rows ++ [last]).length : Int) > 7 by omega)]
      rfl
    · rw [decide_eq_false (show ¬ ((rows ++ [last]).length : Int) > 7 by omega)]
      simp only [cF]
      rw [hck]
      simp only [bs]
      rw [hcut]
      simp only [bs]
      rw [a1]
      rfl
end Go.Proofs.YtcglmncmnlkpmaaDoor
