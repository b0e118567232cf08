/- Plain laws on the mirrors of vectors and matrices. No program is named here. -/
import Derived.Test.YtcglmncmnlkpmaaDoorMatM
import Derived.Test.YtcglmncmnlkpmaaDoorPNum
namespace Go.Proofs.YtcglmncmnlkpmaaDoor
set_option linter.unusedVariables false
set_option linter.unusedSimpArgs false

def hd (m : List (List Int)) : List Int := m.headD []
theorem hd_cons (x : List Int) (m : List (List Int)) : hd (x :: m) = x := rfl
theorem nbeq (a b : Nat) : ((a : Int) == (b : Int)) = decide (a = b) := by by_cases h : a = b <;> simp [h]; omega
theorem nbne (a b : Nat) : ((a : Int) != (b : Int)) = !decide (a = b) := by rw [bne, nbeq]
def vec (l : List Int) : Bool := inR l.length 1 6 && l.all num
def mat (m : List (List Int)) : Bool := inR m.length 1 6 && m.all (fun r => vec r && decide (r.length = (hd m).length))
theorem inR_iff (n lo hi : Int) : inR n lo hi = true ↔ lo ≤ n ∧ n ≤ hi := by simp [inR]
theorem isVector_eq (l : List Int) : impl_isVector_m l = some (vec l) := by
  unfold impl_isVector_m vec
  rw [within_eq, areNumbers_eq]
  cases h : inR l.length 1 6 <;> simp [h]
theorem mxVector_l1_eq (l : List Int) : ∀ j, spec_mxVector_l1 l j = some (if l.all num = true then Sum.inr () else Sum.inl false) := by
  induction l with
  | nil => intro j; rfl
  | cons x l ih => intro j; rw [spec_mxVector_l1, nuGood_eq]; cases h : num x <;> simp [ih, h]
theorem mxVector_eq (l : List Int) : spec_mxVector_m l = some (vec l) := by
  unfold spec_mxVector_m vec
  rw [mxVector_l1_eq, l1In_eq]
  cases h : l.all num <;> simp [h]
/-- The first row of a matrix that is not empty. -/
theorem idx_head {m : List (List Int)} (h : 0 < m.length) : idx m 0 = some (hd m) := by
  cases m with
  | nil => simp at h
  | cons x m => rfl
def rowOk (h l : List Int) : Bool := vec l && decide (l.length = h.length)
theorem isMatrix_1_eq (l : List Int) (m : List (List Int)) (h : 0 < m.length) : impl_isMatrix_1_m l m = some (!rowOk (hd m) l) := by
  unfold impl_isMatrix_1_m rowOk
  rw [isVector_eq, idx_head h]
  simp only [bs, nbne]
  cases hv : vec l
  · simp
  · by_cases e : l.length = (hd m).length <;> simp [e]
theorem isMatrix_l1_eq (m : List (List Int)) (h : 0 < m.length) (l : List (List Int)) : ∀ j : Nat, (l.all (rowOk (hd m)) = true ∧ slices_IndexFunc_int_int_impl_isMatrix_1_l1 m l j = some (Sum.inr ())) ∨ (l.all (rowOk (hd m)) = false ∧ ∃ k : Nat, slices_IndexFunc_int_int_impl_isMatrix_1_l1 m l j = some (Sum.inl (k : Int))) := by
  induction l with
  | nil => intro j; exact .inl ⟨rfl, rfl⟩
  | cons x l ih =>
    intro j
    rw [slices_IndexFunc_int_int_impl_isMatrix_1_l1, isMatrix_1_eq _ _ h]
    cases hx : rowOk (hd m) x
    · exact .inr ⟨by rw [List.all_cons, hx]; rfl, j, by simp⟩
    · simp only [bs, Bool.not_true, cond_false, List.all_cons, hx, Bool.true_and]
      exact ih (j + 1)
theorem isMatrix_contains_eq (m : List (List Int)) (h : 0 < m.length) : slices_ContainsFunc_int_int_impl_isMatrix_1_m m m = some (!m.all (rowOk (hd m))) := by
  unfold slices_ContainsFunc_int_int_impl_isMatrix_1_m slices_IndexFunc_int_int_impl_isMatrix_1_m
  rcases isMatrix_l1_eq m h m 0 with ⟨h1, h2⟩ | ⟨h1, k, h2⟩
  · rw [h1, h2]; rfl
  · rw [h1, h2]
    simp only [bs, Sum.elim_inl, Bool.not_false, Option.some.injEq, decide_eq_true_eq]
    omega
theorem mat_all (m : List (List Int)) : mat m = (inR m.length 1 6 && m.all (rowOk (hd m))) := rfl
theorem isMatrix_eq (m : List (List Int)) : impl_isMatrix_m m = some (mat m) := by
  unfold impl_isMatrix_m
  rw [within_eq, mat_all]
  cases h : inR m.length 1 6
  · simp
  · have := (inR_iff _ _ _).1 h
    rw [isMatrix_contains_eq _ (by omega)]
    simp
theorem mxGood_l1_eq (m : List (List Int)) (h : 0 < m.length) (l : List (List Int)) : ∀ j, spec_mxGood_l1 m l j = some (cond (l.all (rowOk (hd m))) (Sum.inr ()) (Sum.inl false)) := by
  induction l with
  | nil => intro j; rfl
  | cons x l ih =>
    intro j
    rw [spec_mxGood_l1, idx_head h, mxVector_eq]
    simp only [bs, ih, List.all_cons, nbne]
    have e : rowOk (hd m) x = (vec x && decide (x.length = (hd m).length)) := rfl
    rw [e]
    cases decide (x.length = (hd m).length) <;> cases vec x <;> rfl
theorem mxGood_eq (m : List (List Int)) : spec_mxGood_m m = some (mat m) := by
  unfold spec_mxGood_m
  rw [l1In_eq, mat_all]
  cases h : inR m.length 1 6
  · simp
  · have := (inR_iff _ _ _).1 h
    have h0 : 0 < m.length := by omega
    rw [idx_head h0, mxGood_l1_eq _ h0]
    simp only [bs, l1In_eq, Bool.not_true, cond_false, Bool.true_and]
    cases h2 : inR (hd m).length 1 6
    · cases m with
      | nil => simp at h0
      | cons x m => rw [hd_cons] at h2; simp [rowOk, vec, h2, hd_cons]
    · cases h3 : m.all (rowOk (hd m)) <;> simp
def sqr (m : List (List Int)) : Bool := mat m && decide (m.length = (hd m).length)
/-- What a good matrix is. -/
structure Good (m : List (List Int)) (c : Nat) : Prop where
  lo : 1 ≤ m.length
  hi : m.length ≤ 6
  clo : 1 ≤ c
  chi : c ≤ 6
  head : (hd m).length = c
  row : ∀ l ∈ m, l.length = c
  nums : ∀ l ∈ m, ∀ x ∈ l, num x = true
theorem mat_good {m : List (List Int)} (h : mat m = true) : Good m (hd m).length := by
  simp only [mat_all, Bool.and_eq_true, inR_iff, List.all_eq_true, rowOk, vec, decide_eq_true_eq] at h
  obtain ⟨⟨h1, h2⟩, h3⟩ := h
  have h0 : 0 < m.length := by omega
  have hh : hd m ∈ m := by cases m with | nil => simp at h0 | cons x m => rw [hd_cons]; exact List.mem_cons_self
  have := (h3 _ hh).1.1
  exact ⟨by omega, by omega, by omega, by omega, rfl, fun l hl => (h3 l hl).2, fun l hl => (h3 l hl).1.2⟩
theorem sqr_good {m : List (List Int)} (h : sqr m = true) : Good m m.length := by
  simp only [sqr, Bool.and_eq_true, decide_eq_true_eq] at h
  have := mat_good h.1
  rw [← h.2] at this
  exact this
theorem num_iff (n : Int) : num n = true ↔ (-1000000 ≤ n ∧ n ≤ 1000000) ∨ n = 1000000000 := by
  simp [num, fin, inR]
theorem Good.small {m : List (List Int)} {c : Nat} (h : Good m c) : SmallM m :=
  ⟨by have := h.hi; unfold Small; omega, fun l hl => by have := h.row l hl; have := h.chi; unfold Small; omega⟩
theorem smallM_nil : SmallM [] := ⟨by simp [Small], fun l hl => by cases hl⟩
theorem Good.get {m : List (List Int)} {c : Nat} (h : Good m c) {i : Nat} (hi : i < m.length) : (m[i]).length = c := h.row _ (List.getElem_mem hi)
theorem toldMatrix_eq (m : List (List Int)) : impl_toldMatrix_m m = some (mat m, mat m) := by
  unfold impl_toldMatrix_m
  rw [isMatrix_eq]
  cases h : mat m <;> simp
theorem num_rng {n : Int} (h : num n = true) : -1000000000 ≤ n ∧ n ≤ 1000000000 := by
  have := (num_iff n).1 h; omega
theorem fin_iff (n : Int) : fin n = true ↔ -1000000 ≤ n ∧ n ≤ 1000000 := by simp [fin, inR]
theorem fin_of_num {n : Int} (h : num n = true) : fin n = !(n == 1000000000) := by
  have h1 := (num_iff n).1 h
  have h2 := fin_iff n
  rw [Bool.eq_iff_iff, h2]
  simp
  omega
theorem ibne (a b : Int) : (a != b) = !decide (a = b) := by by_cases h : a = b <;> simp [h]
theorem vec_iff (l : List Int) : vec l = true ↔ (1 ≤ l.length ∧ l.length ≤ 6) ∧ ∀ x ∈ l, num x = true := by
  unfold vec; rw [Bool.and_eq_true, inR_iff, List.all_eq_true]; constructor <;> rintro ⟨⟨a, b⟩, c⟩ <;> exact ⟨⟨by omega, by omega⟩, c⟩
/-- A vector of numbers without Infinity is a vector of finite numbers. -/
theorem noInf {l : List Int} (h : vec l = true) : l.contains 1000000000 = !l.all fin := by
  have hv := ((vec_iff l).1 h).2
  rw [Bool.eq_iff_iff]
  simp only [List.contains_iff_mem, Bool.not_eq_true', List.all_eq_false]
  constructor
  · intro hm; exact ⟨_, hm, by decide⟩
  · rintro ⟨x, hx, hf⟩
    rw [fin_of_num (hv x hx)] at hf
    simp at hf
    rw [← hf]; exact hx
end Go.Proofs.YtcglmncmnlkpmaaDoor
