/- Plain law: a number's text is read back alike by the program and the specification. -/
import Derived.Test.YtcglmncmnlkpmaaDoorTxpM
import Derived.Test.YtcglmncmnlkpmaaDoorTxqM
import Derived.Test.YtcglmncmnlkpmaaDoorPTxt
namespace Go.Proofs.YtcglmncmnlkpmaaDoor
set_option linter.unusedVariables false
set_option linter.unusedSimpArgs false

theorem u8_nat {m : Nat} (h : m < 256) : (UInt8.ofNat m).toNat = m := by simp; omega
theorem u8_eq (a b : UInt8) : ((a.toNat : Int) == (b.toNat : Int)) = decide (a = b) := by
  by_cases h : a = b
  · simp [h]
  · have : a.toNat ≠ b.toNat := fun e => h (UInt8.toNat_inj.1 e)
    rw [decide_eq_false h]
    simp
    omega
theorem decDigits_mem : ∀ (n : Nat) (b : UInt8), b ∈ Lib.decDigits n → 48 ≤ b.toNat ∧ b.toNat ≤ 57 := by
  intro n
  induction n using Nat.strongRecOn with
  | ind n ih =>
    intro b hb
    by_cases h : n < 10
    · rw [decDigits_lt h] at hb
      obtain rfl : b = UInt8.ofNat (48 + n) := by simpa using hb
      rw [u8_nat (by omega)]; omega
    · rw [decDigits_ge h] at hb
      rcases List.mem_append.1 hb with hb | hb
      · exact ih (n / 10) (by omega) b hb
      · obtain rfl : b = UInt8.ofNat (48 + n % 10) := by simpa using hb
        rw [u8_nat (by omega)]; omega
theorem decDigits_head : ∀ (n : Nat), ∃ b r, Lib.decDigits n = b :: r ∧ (1 ≤ n → b.toNat ≠ 48) ∧ (n < 10 → r = []) := by
  intro n
  induction n using Nat.strongRecOn with
  | ind n ih =>
    by_cases h : n < 10
    · exact ⟨_, _, decDigits_lt h, fun h1 => by rw [u8_nat (by omega)]; omega, fun _ => rfl⟩
    · obtain ⟨b, r, e, h1, _⟩ := ih (n / 10) (by omega)
      rw [decDigits_ge h, e]
      exact ⟨b, _, rfl, fun _ => h1 (by omega), fun h' => absurd h' h⟩

/-! Reading digits, as the specification does. -/
def dig : List UInt8 → Int → Int ⊕ Int
  | [], n => .inr n
  | c :: r, n => if c.toNat < 48 ∨ 57 < c.toNat then .inl (-1) else dig r (10 * n + ((c.toNat : Int) - 48))
theorem dig_append : ∀ (a b : List UInt8) (n m : Int), dig a n = .inr m → dig (a ++ b) n = dig b m
  | [], b, n, m, h => by cases h; rfl
  | c :: r, b, n, m, h => by
    rw [dig] at h
    rw [List.cons_append, dig]
    split at h
    · cases h
    · rename_i hc
      rw [if_neg hc]
      exact dig_append r b _ m h
theorem dig_dec : ∀ (n : Nat), dig (Lib.decDigits n) 0 = .inr (n : Int) := by
  intro n
  induction n using Nat.strongRecOn with
  | ind n ih =>
    by_cases h : n < 10
    · rw [decDigits_lt h, dig, u8_nat (by omega), if_neg (by omega), dig]
      congr 1; omega
    · rw [decDigits_ge h, dig_append _ _ _ _ (ih (n / 10) (by omega)), dig, u8_nat (by omega), if_neg (by omega), dig]
      congr 1; omega
/-- The byte at a place. -/
def nthB (p : List UInt8) (i : Nat) : UInt8 := p[i]?.getD 0
theorem nuRead_l1_eq (p : List UInt8) (hp : p.length ≤ 10) : ∀ (k i : Nat) (n : Int), p.length - i < k → i ≤ p.length → 0 ≤ n → n < 10 ^ i → spec_nuRead_l1 p k n (i : Int) = some (dig (p.drop i) n) := by
  intro k
  induction k with
  | zero => intro i n h; omega
  | succ k ih =>
    intro i n hk hi h0 h1
    rw [spec_nuRead_l1]
    by_cases h : i < p.length
    · rw [decide_eq_true (show (i : Int) < (p.length : Int) by omega)]
      simp only [cT]
      rw [idx_lt h]
      simp only [bs]
      rw [drop_cons h, dig]
      have hpow : (10 : Int) ^ i ≤ 10000000000 := by
        have : (10 : Nat) ^ i ≤ 10 ^ 10 := Nat.pow_le_pow_right (by omega) (by omega)
        have e : ((10 ^ i : Nat) : Int) = (10 : Int) ^ i := by simp
        omega
      by_cases hc : p[i].toNat < 48 ∨ 57 < p[i].toNat
      · rw [if_pos hc]
        rcases hc with hc | hc
        · rw [decide_eq_true (show ((p[i].toNat : Int) < 48) by omega)]
          simp only [cT, bs]
        · rw [decide_eq_false (show ¬ ((p[i].toNat : Int) < 48) by omega)]
          simp only [cF, bs]
          rw [decide_eq_true (show ((p[i].toNat : Int) > 57) by omega)]
          simp only [cT, bs]
      · rw [if_neg hc, decide_eq_false (show ¬ ((p[i].toNat : Int) < 48) by omega)]
        simp only [cF, bs]
        rw [decide_eq_false (show ¬ ((p[i].toNat : Int) > 57) by omega)]
        simp only [cF, bs]
        rw [ck_in (by omega) (by omega)]
        simp only [bs]
        rw [ckb_mk (by omega)]
        simp only [bs]
        rw [ck_in (by omega) (by omega)]
        simp only [bs]
        rw [ck_in (by omega) (by omega)]
        simp only [bs]
        rw [ck_nat (by omega)]
        simp only [bs]
        rw [ih (i + 1) _ (by omega) (by omega) (by omega) (by rw [Int.pow_succ]; omega)]
    · obtain rfl : i = p.length := by omega
      rw [decide_eq_false (show ¬ ((p.length : Int) < (p.length : Int)) by omega)]
      simp only [cF, List.drop_length, dig]
/-- What nuRead answers. -/
def rdV (p : List UInt8) : Int := if p.length < 1 ∨ 10 < p.length ∨ ((nthB p 0).toNat = 48 ∧ 1 < p.length) then -1 else match dig p 0 with | .inl v => v | .inr v => v
theorem nuRead_eq (p : List UInt8) : spec_nuRead_m p = some (rdV p) := by
  unfold spec_nuRead_m rdV
  rw [l1In_eq]
  simp only [bs]
  by_cases h : 1 ≤ p.length ∧ p.length ≤ 10
  · rw [(inR_iff (p.length : Int) 1 10).2 (by omega)]
    simp only [Bool.not_true, cF, bs]
    rw [show idx p 0 = some (nthB p 0) from by
      have : 0 < p.length := by omega
      have := idx_lt this
      simpa [nthB, show 0 < p.length by omega] using this]
    simp only [bs]
    by_cases hz : (nthB p 0).toNat = 48
    · rw [show (((nthB p 0).toNat : Int) == 48) = true by rw [hz]; rfl]
      simp only [cT, bs]
      by_cases h1 : 1 < p.length
      · rw [decide_eq_true (show (p.length : Int) > 1 by omega), if_pos (by omega)]
        simp only [cT]
      · rw [decide_eq_false (show ¬ (p.length : Int) > 1 by omega), if_neg (by omega)]
        simp only [cF]
        rw [show ((0 : Int)) = ((0 : Nat) : Int) from rfl, nuRead_l1_eq p h.2 4000000 0 ((0 : Nat) : Int) (by omega) (by omega) (by decide) (by decide)]
        simp only [bs, List.drop_zero]
        cases dig p ((0 : Nat) : Int) <;> rfl
    · rw [show (((nthB p 0).toNat : Int) == 48) = false by simp; omega]
      simp only [cF, bs]
      rw [if_neg (by omega)]
      rw [show ((0 : Int)) = ((0 : Nat) : Int) from rfl, nuRead_l1_eq p h.2 4000000 0 ((0 : Nat) : Int) (by omega) (by omega) (by decide) (by decide)]
      simp only [bs, List.drop_zero]
      cases dig p ((0 : Nat) : Int) <;> rfl
  · rw [show inR (p.length : Int) 1 10 = false from by
      rw [← Bool.not_eq_true, inR_iff]; omega]
    simp only [Bool.not_false, cT, bs]
    rw [if_pos (by omega)]
end Go.Proofs.YtcglmncmnlkpmaaDoor
