/- Plain law: a number's text is read back alike by the program and the specification (the two parsers). -/
import Derived.Test.YtcglmncmnlkpmaaDoorPTs1
namespace Go.Proofs.YtcglmncmnlkpmaaDoor
set_option linter.unusedVariables false
set_option linter.unusedSimpArgs false

theorem dig_bound : ∀ (p : List UInt8) (i : Nat) (n : Int), 0 ≤ n → n < 10 ^ i → i + p.length ≤ 10 → (∃ v, dig p n = .inr v ∧ 0 ≤ v ∧ v < 10000000000) ∨ dig p n = .inl (-1)
  | [], i, n, h0, h1, h2 => by
    refine .inl ⟨n, rfl, h0, ?_⟩
    have : (10 : Nat) ^ i ≤ 10 ^ 10 := Nat.pow_le_pow_right (by omega) (by simpa using h2)
    have e : ((10 ^ i : Nat) : Int) = (10 : Int) ^ i := by simp
    omega
  | c :: r, i, n, h0, h1, h2 => by
    rw [dig]
    split
    · exact .inr rfl
    · simp only [List.length_cons] at h2
      exact dig_bound r (i + 1) _ (by omega) (by rw [Int.pow_succ]; omega) (by omega)
theorem rdV_bound (p : List UInt8) : -1 ≤ rdV p ∧ rdV p < 10000000000 := by
  unfold rdV
  split
  · omega
  · rename_i h
    rcases dig_bound p 0 0 (by omega) (by decide) (by omega) with ⟨v, e, h0, h1⟩ | e <;> rw [e] <;> simp only <;> omega
theorem dec_len {n : Nat} (h : n < 10000000) : (Lib.decDigits n).length ≤ 7 := (l1Num_r_eq 6 n (by omega) (by omega) (by simpa using h)).2
theorem rdV_dec {n : Nat} (h : n < 10000000) : rdV (Lib.decDigits n) = n := by
  obtain ⟨b, r, e, h1, h2⟩ := decDigits_head n
  have hl := dec_len h
  unfold rdV
  rw [if_neg, dig_dec]
  intro hc
  rw [e] at hc hl
  simp only [List.length_cons, nthB, List.getElem?_cons_zero, Option.getD_some] at hc hl
  rcases hc with hc | hc | ⟨hc, hc2⟩
  · omega
  · omega
  · by_cases hn : n < 10
    · rw [h2 hn] at hc2; simp at hc2
    · exact h1 (by omega) hc
/-- The end of the specification's parser. -/
theorem tail_eq (w : List UInt8) (c : Int) : ((spec_nuGood_m c).bind fun y17 => ((cond (!y17) (some true) ((spec_nuText_m c).bind fun y22 => some (y22 != w)) : Option Bool)).bind fun b19 => cond b19
        (some ((0 : Int), false))
        (some (c, true))) = some (if num c = true ∧ NT c = w then (c, true) else (0, false)) := by
  rw [nuGood_eq]
  simp only [bs]
  cases h : num c
  · simp only [Bool.not_false, cT, bs]
    rw [if_neg (by simp)]
  · simp only [Bool.not_true, cF]
    rw [(nuText_eq c h).1]
    simp only [bs]
    by_cases e : NT c = w
    · rw [show (NT c != w) = false by simp [e]]
      simp only [cF]
      rw [if_pos (by simp [e])]
    · rw [show (NT c != w) = true by simp [e]]
      simp only [cT]
      rw [if_neg (by simp [e])]
theorem NT_fin {n : Int} (h : num n = true) {w : List UInt8} (e : NT n = w) (hw : w ≠ [105, 110, 102]) : (-1000000 ≤ n ∧ n ≤ 1000000) ∧ Lib.itoa n = w := by
  unfold NT at e
  by_cases h1 : n = 1000000000
  · rw [if_pos h1] at e; exact absurd e.symm hw
  · rw [if_neg h1] at e
    have := (num_iff n).1 h
    exact ⟨by omega, e⟩
theorem nuParse_eq (w : List UInt8) : ∃ c, spec_nuParse_m w = some (if num c = true ∧ NT c = w then (c, true) else (0, false)) ∧ ∀ n, num n = true → NT n = w → c = n := by
  unfold spec_nuParse_m
  by_cases hw : w = [105, 110, 102]
  · refine ⟨1000000000, ?_, fun n h e => ?_⟩
    · rw [show (w != ([105, 110, 102] : List UInt8)) = false by simp [hw]]
      simp only [cF, bs]
      exact tail_eq w _
    · unfold NT at e
      by_cases h1 : n = 1000000000
      · exact h1.symm
      · rw [if_neg h1, hw] at e
        have hr := (num_iff n).1 h
        unfold Lib.itoa at e
        by_cases hn : n < 0
        · rw [if_pos hn] at e; simp at e
        · rw [if_neg hn] at e
          have := decDigits_mem n.toNat 105 (by rw [e]; simp)
          simp at this
  · rw [show (w != ([105, 110, 102] : List UInt8)) = true by simp [hw]]
    simp only [cT]
    rw [nuRead_eq]
    simp only [bs]
    by_cases hl : 1 < w.length
    · rw [decide_eq_true (show (w.length : Int) > 1 by omega)]
      simp only [cT]
      obtain ⟨b, r, rfl⟩ : ∃ b r, w = b :: r := by
        cases w with
        | nil => simp at hl
        | cons b r => exact ⟨b, r, rfl⟩
      rw [show idx (b :: r) 0 = some b from idx_lt (l := b :: r) (i := 0) (by simp)]
      simp only [bs]
      by_cases hb : b = 45
      · subst hb
        rw [show ((((45 : UInt8).toNat : Int)) == 45) = true from rfl]
        simp only [cT]
        rw [cutS_mk (by simp only [List.length_cons]; omega)]
        have e1 : (List.drop (1 : Int).toNat (45 :: r)).take (((45 :: r).length : Int).toNat - (1 : Int).toNat) = r := by simp
        simp only [bs]
        rw [e1, nuRead_eq]
        simp only [bs]
        have hbd := rdV_bound r
        rw [ck_in (by omega) (by omega)]
        simp only [bs]
        refine ⟨-rdV r, tail_eq _ _, fun n h e => ?_⟩
        obtain ⟨h1, h2⟩ := NT_fin h e hw
        unfold Lib.itoa at h2
        by_cases hn : n < 0
        · rw [if_pos hn] at h2
          obtain rfl : Lib.decDigits n.natAbs = r := by simpa using h2
          rw [rdV_dec (by omega)]
          omega
        · rw [if_neg hn] at h2
          have := decDigits_mem n.toNat 45 (by rw [h2]; simp)
          simp at this
      · rw [show (((b.toNat : Int)) == 45) = false by
          have := u8_eq b 45
          rw [decide_eq_false hb] at this
          exact this]
        simp only [cF, bs]
        refine ⟨rdV (b :: r), tail_eq _ _, fun n h e => ?_⟩
        obtain ⟨h1, h2⟩ := NT_fin h e hw
        unfold Lib.itoa at h2
        by_cases hn : n < 0
        · rw [if_pos hn] at h2
          simp at h2
          exact absurd h2.1.symm hb
        · rw [if_neg hn] at h2
          rw [← h2, rdV_dec (by omega)]
          omega
    · rw [decide_eq_false (show ¬ (w.length : Int) > 1 by omega)]
      simp only [cF, bs]
      refine ⟨rdV w, tail_eq _ _, fun n h e => ?_⟩
      obtain ⟨h1, h2⟩ := NT_fin h e hw
      unfold Lib.itoa at h2
      by_cases hn : n < 0
      · rw [if_pos hn] at h2
        obtain ⟨b, r, e', _⟩ := decDigits_head n.natAbs
        rw [← h2, e'] at hl
        simp at hl
      · rw [if_neg hn] at h2
        rw [← h2, rdV_dec (by omega)]
        omega

/-! The program's parser. -/
theorem pu_append : ∀ (a b : List UInt8) (acc m : Nat), Lib.parseUint10 acc a = .ok m → Lib.parseUint10 acc (a ++ b) = Lib.parseUint10 m b
  | [], b, acc, m, h => by cases h; rfl
  | c :: r, b, acc, m, h => by
    rw [Lib.parseUint10] at h
    rw [List.cons_append, Lib.parseUint10]
    split at h
    · rename_i h1
      rw [if_pos h1]
      split at h
      · cases h
      · rename_i h2
        rw [if_neg h2]
        split at h
        · cases h
        · rename_i h3
          rw [if_neg h3]
          exact pu_append r b _ m h
    · cases h
theorem pu_dec : ∀ (n : Nat), n < 10000000 → Lib.parseUint10 0 (Lib.decDigits n) = .ok n := by
  intro n
  induction n using Nat.strongRecOn with
  | ind n ih =>
    intro hn
    by_cases h : n < 10
    · rw [decDigits_lt h, Lib.parseUint10, u8_nat (by omega), if_pos (by omega), if_neg (by omega), if_neg (by omega), Lib.parseUint10]
      congr 1; omega
    · rw [decDigits_ge h, pu_append _ _ _ _ (ih (n / 10) (by omega) (by omega)), Lib.parseUint10, u8_nat (by omega), if_pos (by omega), if_neg (by omega), if_neg (by omega), Lib.parseUint10]
      congr 1; omega
theorem mag_dec (n : Nat) (h : n < 10000000) : Lib.parseMag (Lib.decDigits n) = .ok n := by
  obtain ⟨b, r, e, _⟩ := decDigits_head n
  unfold Lib.parseMag
  rw [if_neg (by rw [e]; simp), pu_dec n h]
theorem atoi_itoa (n : Int) (h : -1000000 ≤ n ∧ n ≤ 1000000) : Lib.atoiAll (Lib.itoa n) = .ok n := by
  unfold Lib.itoa
  by_cases hn : n < 0
  · rw [if_pos hn]
    have hm := mag_dec n.natAbs (by omega)
    unfold Lib.atoiAll
    simp only
    rw [if_pos (by simp), hm]
    simp
    split
    · omega
    · congr 1; omega
  · rw [if_neg hn]
    have hm := mag_dec n.toNat (by omega)
    obtain ⟨b, r, e, _⟩ := decDigits_head n.toNat
    have hb := decDigits_mem n.toNat b (by rw [e]; simp)
    rw [e] at hm ⊢
    unfold Lib.atoiAll
    simp only
    rw [if_neg (by omega), hm]
    simp only
    rw [if_neg (by omega), if_neg (by omega), if_neg (by omega)]
    congr 1; omega
theorem parseNumber_eq (w : List UInt8) (hlen : w.length < 1000000000) : ∃ c, impl_parseNumber_m w = some (if num c = true ∧ NT c = w then (c, true) else (0, false)) ∧ ∀ n, num n = true → NT n = w → c = n := by
  unfold impl_parseNumber_m
  by_cases hw : w = [105, 110, 102]
  · refine ⟨1000000000, ?_, fun n h e => ?_⟩
    · rw [show (w == ([105, 110, 102] : List UInt8)) = true by simp [hw]]
      simp only [cT]
      rw [if_pos ⟨by decide, by rw [hw]; rfl⟩]
    · obtain ⟨c, _, hc⟩ := nuParse_eq w
      rw [← hc n h e, hc 1000000000 (by decide) (by rw [hw]; rfl)]
  · rw [show (w == ([105, 110, 102] : List UInt8)) = false by simp [hw]]
    simp only [cF]
    unfold strconv_Atoi_m
    rw [decide_eq_true hlen]
    simp only [cT, bs]
    generalize hE : endOf (Lib.atoiAll w) (Lib.atoiSat w) = E
    obtain ⟨v, er⟩ := E
    have none' : (∀ n, num n = true → ¬ NT n = w) → ∃ c, some ((0 : Int), false) = some (if num c = true ∧ NT c = w then (c, true) else (0, false)) ∧ ∀ n, num n = true → NT n = w → c = n := fun hno => ⟨0, by rw [if_neg (fun h => hno 0 h.1 h.2)], fun n h e => absurd e (hno n h)⟩
    have key : ∀ n, num n = true → NT n = w → v = n ∧ er = false := fun n h e => by
      obtain ⟨h1, h2⟩ := NT_fin h e hw
      rw [← h2, atoi_itoa n h1] at hE
      cases hE
      exact ⟨rfl, rfl⟩
    simp only
    cases er
    · simp only [cF]
      rw [isFinite_eq]
      simp only [bs]
      cases hf : fin v
      · simp only [Bool.not_false, cT, bs]
        refine none' fun n h e => ?_
        obtain ⟨h1, _⟩ := NT_fin h e hw
        obtain ⟨rfl, _⟩ := key n h e
        rw [← Bool.not_eq_true, fin_iff] at hf
        exact hf h1
      · have hv := (fin_iff v).1 hf
        simp only [Bool.not_true, cF]
        unfold strconv_Itoa_m
        rw [decide_eq_true (show -9223372036854775808 ≤ v ∧ v ≤ 9223372036854775807 by omega)]
        simp only [cT, bs]
        have hnum : num v = true := (num_iff v).2 (.inl hv)
        have hNT : NT v = Lib.itoa v := by unfold NT; rw [if_neg (by omega)]
        by_cases e : Lib.itoa v = w
        · rw [show (Lib.itoa v != w) = false by simp [e]]
          simp only [cF]
          exact ⟨v, by rw [if_pos ⟨hnum, by rw [hNT, e]⟩], fun n h e' => (key n h e').1⟩
        · rw [show (Lib.itoa v != w) = true by simp [e]]
          simp only [cT]
          refine none' fun n h e' => ?_
          obtain ⟨rfl, _⟩ := key n h e'
          exact e (by rw [← hNT, e'])
    · simp only [cT, bs]
      refine none' fun n h e => ?_
      have := (key n h e).2
      cases this
/-- What both answer. -/
theorem number_both (w : List UInt8) (hlen : w.length < 1000000000) : ∃ p : Int × Bool, spec_nuParse_m w = some p ∧ impl_parseNumber_m w = some p ∧ (p.2 = true → num p.1 = true ∧ NT p.1 = w) := by
  obtain ⟨c, h1, h2⟩ := nuParse_eq w
  obtain ⟨c', h3, h4⟩ := parseNumber_eq w hlen
  by_cases h : ∃ n, num n = true ∧ NT n = w
  · obtain ⟨n, hn, e⟩ := h
    obtain rfl := h2 n hn e
    obtain rfl := h4 c hn e
    refine ⟨(c', true), by rw [h1, if_pos ⟨hn, e⟩], by rw [h3, if_pos ⟨hn, e⟩], fun _ => ⟨hn, e⟩⟩
  · refine ⟨(0, false), by rw [h1, if_neg (fun h' => h ⟨c, h'⟩)], by rw [h3, if_neg (fun h' => h ⟨c', h'⟩)], fun h' => by cases h'⟩
end Go.Proofs.YtcglmncmnlkpmaaDoor
