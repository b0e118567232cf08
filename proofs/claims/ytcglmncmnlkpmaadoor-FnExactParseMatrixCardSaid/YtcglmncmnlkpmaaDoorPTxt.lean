/- Plain law: the text of a matrix: the program joins what the specification concatenates. -/
import Derived.Test.YtcglmncmnlkpmaaDoorTxsM
import Derived.Test.YtcglmncmnlkpmaaDoorTxiM
import Derived.Test.YtcglmncmnlkpmaaDoorPMat
namespace Go.Proofs.YtcglmncmnlkpmaaDoor
set_option linter.unusedVariables false
set_option linter.unusedSimpArgs false

theorem byteOf_nat (n : Nat) : byteOf (48 + (n : Int)) = UInt8.ofNat (48 + n) := by
  unfold byteOf
  have : (48 + (n : Int)).toNat = 48 + n := by omega
  rw [this]
theorem decDigits_lt {n : Nat} (h : n < 10) : Lib.decDigits n = [UInt8.ofNat (48 + n)] := by
  rw [Lib.decDigits]; simp [h]
theorem decDigits_ge {n : Nat} (h : ¬ n < 10) : Lib.decDigits n = Lib.decDigits (n / 10) ++ [UInt8.ofNat (48 + n % 10)] := by
  rw [Lib.decDigits]; simp [h]
theorem l1Num_step {rec : Int → Option (List UInt8)} (n : Nat) (hn : n < 4611686018427387904) (hr : ¬ n < 10 → rec ((n / 10 : Nat) : Int) = some (Lib.decDigits (n / 10)) ∧ (Lib.decDigits (n / 10)).length < 1000) :
    spec_l1Num_b rec (n : Int) = some (Lib.decDigits n) := by
  unfold spec_l1Num_b
  by_cases h : n < 10
  · rw [decide_eq_true (show (n : Int) < 10 by omega)]
    simp only [cT]
    rw [ck_in (by omega) (by omega)]
    simp only [bs]
    rw [ckb_mk (by omega)]
    simp only [bs, List.map_cons, List.map_nil]
    rw [byteOf_nat, decDigits_lt h]
  · obtain ⟨h1, h2⟩ := hr h
    rw [decide_eq_false (show ¬ (n : Int) < 10 by omega)]
    simp only [cF]
    have e1 : quoO (n : Int) 10 = some ((n / 10 : Nat) : Int) := by
      unfold quoO
      have : ((n : Int)).tdiv 10 = ((n / 10 : Nat) : Int) := by rw [Int.tdiv_eq_ediv_of_nonneg (by omega)]; omega
      rw [this, show ((10 : Int) == 0) = false by decide, cF, ck_in (by omega) (by omega)]
    have e2 : remO (n : Int) 10 = some ((n % 10 : Nat) : Int) := by
      unfold remO
      have : ((n : Int)).tmod 10 = ((n % 10 : Nat) : Int) := by rw [Int.tmod_eq_emod_of_nonneg (by omega)]; omega
      rw [this, show ((10 : Int) == 0) = false by decide, cF]
    rw [e1]
    simp only [bs]
    rw [h1]
    simp only [bs]
    rw [e2]
    simp only [bs]
    rw [ck_in (by omega) (by omega)]
    simp only [bs]
    rw [ckb_mk (by omega)]
    simp only [bs, List.map_cons, List.map_nil]
    rw [byteOf_nat, scat_mk (by simp only [List.length_cons, List.length_nil]; omega)]
    simp only [bs]
    rw [decDigits_ge h]
theorem l1Num_r_eq : ∀ (k n : Nat), k ≤ 63 → n < 4611686018427387904 → n < 10 ^ (k + 1) → spec_l1Num_r (k + 1) (n : Int) = some (Lib.decDigits n) ∧ (Lib.decDigits n).length ≤ k + 1 := by
  intro k
  induction k with
  | zero =>
    intro n _ hn h
    have h : n < 10 := by simpa using h
    rw [spec_l1Num_r]
    exact ⟨l1Num_step n hn (fun h' => absurd h h'), by rw [decDigits_lt h]; simp⟩
  | succ k ih =>
    intro n hk hn h
    have h' : n / 10 < 10 ^ (k + 1) := by
      rw [Nat.pow_succ] at h
      omega
    have ih' := ih (n / 10) (by omega) (by omega) h'
    rw [spec_l1Num_r]
    refine ⟨l1Num_step n hn (fun _ => ⟨ih'.1, by omega⟩), ?_⟩
    by_cases hc : n < 10
    · rw [decDigits_lt hc]; simp
    · rw [decDigits_ge hc]
      simp only [List.length_append, List.length_cons, List.length_nil]
      omega
theorem l1Num_eq (n : Nat) (hn : n < 4611686018427387904) : spec_l1Num_m (n : Int) = some (Lib.decDigits n) ∧ (Lib.decDigits n).length ≤ 64 := by
  have h : n < 10 ^ 64 := Nat.lt_of_lt_of_le hn (by decide)
  exact l1Num_r_eq 63 n (by omega) hn h
theorem l1Int_eq (n : Int) (h0 : -1000000000000 ≤ n) (h1 : n ≤ 1000000000000) : spec_l1Int_m n = some (Lib.itoa n) ∧ (Lib.itoa n).length ≤ 65 := by
  unfold spec_l1Int_m Lib.itoa
  by_cases h : n < 0
  · obtain ⟨h2, h3⟩ := l1Num_eq n.natAbs (by omega)
    rw [decide_eq_true h, if_pos h]
    simp only [cT]
    rw [ck_in (by omega) (by omega)]
    simp only [bs]
    rw [show (-n) = (n.natAbs : Int) by omega, h2]
    simp only [bs]
    rw [scat_mk (by simp only [List.length_cons, List.length_nil]; omega)]
    exact ⟨rfl, by simp only [List.length_cons]; omega⟩
  · obtain ⟨h2, h3⟩ := l1Num_eq n.toNat (by omega)
    rw [decide_eq_false h, if_neg h]
    simp only [cF]
    rw [show spec_l1Num_m n = spec_l1Num_m (n.toNat : Int) by rw [show ((n.toNat : Nat) : Int) = n by omega], h2]
    exact ⟨rfl, by omega⟩
/-- The text of a number. -/
def NT (n : Int) : List UInt8 := if n = 1000000000 then [105, 110, 102] else Lib.itoa n
theorem nuText_eq (n : Int) (h : num n = true) : spec_nuText_m n = some (NT n) ∧ (NT n).length ≤ 65 := by
  unfold spec_nuText_m NT
  have hr := (num_iff n).1 h
  by_cases e : n = 1000000000
  · rw [if_pos e, show (n == 1000000000) = true by simp [e]]
    simp
  · obtain ⟨h1, h2⟩ := l1Int_eq n (by omega) (by omega)
    rw [if_neg e, show (n == 1000000000) = false by simp [e], h1]
    exact ⟨rfl, h2⟩
theorem numberText_eq (n : Int) (h : num n = true) : impl_numberText_m n = some (NT n) := by
  unfold impl_numberText_m NT
  have hr := (num_iff n).1 h
  by_cases e : n = 1000000000
  · rw [if_pos e, show (n == 1000000000) = true by simp [e]]
    simp
  · rw [if_neg e, show (n == 1000000000) = false by simp [e]]
    simp only [cF, strconv_Itoa_m]
    rw [decide_eq_true (show -9223372036854775808 ≤ n ∧ n ≤ 9223372036854775807 by omega)]
    rfl
theorem joinTail_len (c : Nat) (sep : List UInt8) : ∀ (r : List (List UInt8)), (∀ x ∈ r, x.length ≤ c) → (Lib.joinTail sep r).length ≤ r.length * (sep.length + c) := by
  intro r
  induction r with
  | nil => intro _; simp [Lib.joinTail]
  | cons x r ih =>
    intro h
    have h1 := ih (fun y hy => h y (List.mem_cons_of_mem _ hy))
    have h2 := h x List.mem_cons_self
    have e : Lib.joinTail sep (x :: r) = sep ++ x ++ Lib.joinTail sep r := by simp [Lib.joinTail]
    rw [e]
    simp only [List.length_append, List.length_cons, Nat.add_mul, Nat.one_mul]
    omega
/-- The text of a row. -/
def RT (l : List Int) : List UInt8 := Lib.join (l.map NT) [32]
theorem RT_nil : RT [] = [] := rfl
theorem RT_cons (x : Int) (l : List Int) : RT (x :: l) = NT x ++ Lib.joinTail [32] (l.map NT) := by unfold RT; rw [List.map_cons, Lib.join_cons]
theorem tail_len (l : List Int) (h : ∀ x ∈ l, num x = true) : (Lib.joinTail [32] (l.map NT)).length ≤ l.length * 66 := by
  have := joinTail_len 65 [32] (l.map NT) (fun y hy => by
    obtain ⟨x, hx, rfl⟩ := List.mem_map.1 hy
    exact (nuText_eq x (h x hx)).2)
  simpa using this
theorem RT_len (l : List Int) (h : ∀ x ∈ l, num x = true) : (RT l).length ≤ l.length * 66 := by
  rcases l with _ | ⟨x, l⟩
  · simp [RT_nil]
  · rw [RT_cons]
    have h1 := tail_len l (fun y hy => h y (List.mem_cons_of_mem _ hy))
    have h2 := (nuText_eq x (h x List.mem_cons_self)).2
    simp only [List.length_append, List.length_cons, Nat.add_mul, Nat.one_mul]
    omega
theorem numbersText_l1_eq : ∀ (q : List Int) (j : Nat) (l : List (List UInt8)), (∀ x ∈ q, num x = true) → l.length + q.length < 1000000000 → impl_numbersText_l1 q j l = some (l ++ q.map NT) := by
  intro q
  induction q with
  | nil => intro j l _ _; simp [impl_numbersText_l1]
  | cons x q ih =>
    intro j l h hl
    simp only [List.length_cons] at hl
    rw [impl_numbersText_l1, numberText_eq x (h x List.mem_cons_self)]
    simp only [bs]
    rw [app_lt (by omega)]
    simp only [bs]
    rw [ih _ _ (fun y hy => h y (List.mem_cons_of_mem _ hy)) (by simp only [List.length_append, List.length_cons, List.length_nil]; omega)]
    simp
theorem numbersText_eq (l : List Int) (h : ∀ x ∈ l, num x = true) (hl : l.length ≤ 6) : impl_numbersText_m l [32] = some (RT l) := by
  unfold impl_numbersText_m
  rw [numbersText_l1_eq l 0 [] h (by simp only [List.length_nil]; omega)]
  simp only [bs, List.nil_append]
  unfold strings_Join_m
  have h1 := RT_len l h
  unfold RT at h1
  rw [decide_eq_true ⟨by rw [List.length_map]; omega, by omega⟩]
  rfl
theorem mxText_l2_tail : ∀ (q : List Int) (j : Nat) (t : List UInt8), 0 < j → (∀ x ∈ q, num x = true) → t.length + q.length * 66 < 100000000 → spec_mxText_l2 q j t = some (t ++ Lib.joinTail [32] (q.map NT)) := by
  intro q
  induction q with
  | nil => intro j t _ _ _; simp [spec_mxText_l2, Lib.joinTail]
  | cons x q ih =>
    intro j t hj h hl
    simp only [List.length_cons, Nat.add_mul, Nat.one_mul] at hl
    obtain ⟨h1, h2⟩ := nuText_eq x (h x List.mem_cons_self)
    rw [spec_mxText_l2, decide_eq_true (show (j : Int) > 0 by omega)]
    simp only [cT]
    rw [scat_mk (by simp only [List.length_cons, List.length_nil]; omega)]
    simp only [bs]
    rw [h1]
    simp only [bs]
    rw [scat_mk (by simp only [List.length_append, List.length_cons, List.length_nil]; omega)]
    simp only [bs]
    rw [ih _ _ (by omega) (fun y hy => h y (List.mem_cons_of_mem _ hy)) (by simp only [List.length_append, List.length_cons, List.length_nil]; omega)]
    simp [Lib.joinTail]
theorem mxText_l2_eq (q : List Int) (t : List UInt8) (h : ∀ x ∈ q, num x = true) (hl : t.length + q.length * 66 < 100000000) : spec_mxText_l2 q 0 t = some (t ++ RT q) := by
  rcases q with _ | ⟨x, q⟩
  · simp [spec_mxText_l2, RT_nil]
  · simp only [List.length_cons, Nat.add_mul, Nat.one_mul] at hl
    obtain ⟨h1, h2⟩ := nuText_eq x (h x List.mem_cons_self)
    rw [spec_mxText_l2, decide_eq_false (show ¬ ((0 : Nat) : Int) > 0 by omega)]
    simp only [cF, bs]
    rw [h1]
    simp only [bs]
    rw [scat_mk (by omega)]
    simp only [bs]
    rw [mxText_l2_tail q _ _ (by omega) (fun y hy => h y (List.mem_cons_of_mem _ hy)) (by simp only [List.length_append]; omega), RT_cons]
    simp
/-- The text of a matrix. -/
def XT (m : List (List Int)) : List UInt8 := (m.map fun r => RT r ++ [59]).flatten
theorem mxText_l1_both : ∀ (q : List (List Int)) (j : Nat) (t : List UInt8), (∀ r ∈ q, (∀ x ∈ r, num x = true) ∧ r.length ≤ 6) → t.length + q.length * 1000 < 10000000 → spec_mxText_l1 q j t = some (t ++ XT q) ∧ impl_matrixText_l1 q j t = some (t ++ XT q) := by
  intro q
  induction q with
  | nil => intro j t _ _; simp [spec_mxText_l1, impl_matrixText_l1, XT]
  | cons r q ih =>
    intro j t h hl
    simp only [List.length_cons, Nat.add_mul, Nat.one_mul] at hl
    obtain ⟨h1, h2⟩ := h r List.mem_cons_self
    have h3 := RT_len r h1
    obtain ⟨i1, i2⟩ := ih (j + 1) (t ++ RT r ++ [59]) (fun y hy => h y (List.mem_cons_of_mem _ hy)) (by simp only [List.length_append, List.length_cons, List.length_nil]; omega)
    have e : t ++ RT r ++ [59] ++ XT q = t ++ XT (r :: q) := by simp [XT]
    rw [e] at i1 i2
    constructor
    · rw [spec_mxText_l1, mxText_l2_eq r t h1 (by omega)]
      simp only [bs]
      rw [scat_mk (by simp only [List.length_append, List.length_cons, List.length_nil]; omega)]
      simp only [bs]
      exact i1
    · rw [impl_matrixText_l1, numbersText_eq r h1 h2]
      simp only [bs]
      rw [scat_mk (by simp only [List.length_cons, List.length_nil]; omega)]
      simp only [bs]
      rw [scat_mk (by simp only [List.length_append, List.length_cons, List.length_nil]; omega)]
      simp only [bs]
      rw [← List.append_assoc]
      exact i2
theorem mat_rows {m : List (List Int)} (h : mat m = true) : m.length ≤ 6 ∧ ∀ r ∈ m, (∀ x ∈ r, num x = true) ∧ r.length ≤ 6 := by
  unfold mat at h
  rw [Bool.and_eq_true, List.all_eq_true] at h
  obtain ⟨h1, h2⟩ := h
  have h1 := (inR_iff _ _ _).1 h1
  refine ⟨by omega, fun r hr => ?_⟩
  have h3 := h2 r hr
  rw [Bool.and_eq_true] at h3
  have h4 := (vec_iff r).1 h3.1
  exact ⟨h4.2, h4.1.2⟩
theorem texts_eq (m : List (List Int)) (h : mat m = true) : spec_mxText_m m = some (XT m) ∧ impl_matrixText_m m = some (XT m) := by
  obtain ⟨h1, h2⟩ := mat_rows h
  obtain ⟨e1, e2⟩ := mxText_l1_both m 0 [] h2 (by simp only [List.length_nil]; omega)
  unfold spec_mxText_m impl_matrixText_m
  rw [e1, e2]
  exact ⟨rfl, rfl⟩
theorem MatrixText_both (m : List (List Int)) : ∃ r, spec_MatrixText_m m = some r ∧ impl_MatrixText_m m = some r ∧ True := by
  unfold spec_MatrixText_m impl_MatrixText_m
  rw [mxGood_eq, isMatrix_eq]
  simp only [bs]
  cases h : mat m
  · exact ⟨_, rfl, rfl, trivial⟩
  · obtain ⟨e1, e2⟩ := texts_eq m h
    simp only [Bool.not_true, cF]
    rw [e1, e2]
    exact ⟨_, rfl, rfl, trivial⟩
end Go.Proofs.YtcglmncmnlkpmaaDoor
