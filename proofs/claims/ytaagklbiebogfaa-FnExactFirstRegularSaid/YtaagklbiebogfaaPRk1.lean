/- Plain laws: is the matrix of rank one, and the outer product of two vectors. -/
import Derived.Test.YtaagklbiebogfaaRk1M
import Derived.Test.YtaagklbiebogfaaPMat
namespace Go.Proofs.Ytaagklbiebogfaa
set_option linter.unusedVariables false
set_option linter.unusedSimpArgs false

/-- Entry x of row r at column j is as in a matrix of rank one, whose first row is h. -/
def r1 (h r : List Int) (j : Nat) (x : Int) : Bool := !(x == 1000000000) && decide (x - nth r 0 = nth h j - nth h 0)
def r1' (h r : List Int) (j : Nat) (x : Int) : Bool := !(x == 1000000000) && (!(nth h j == 1000000000) && decide (x - nth r 0 = nth h j - nth h 0))
theorem rkOne_l2_eq {m : List (List Int)} {c : Nat} (g : Good m c) {r : List Int} (hr : r ∈ m) (q : List Int) : ∀ j, j + q.length = c → (∀ x ∈ q, num x = true) → spec_rkOne_l2 m r q j = some (cond (allI (r1 (hd m) r) q j) (Sum.inr ()) (Sum.inl false)) := by
  have := g.lo; have := g.clo
  have hh : (hd m).length = c := g.head
  have hhm : hd m ∈ m := by cases m with | nil => simp at hr | cons x m => rw [hd_cons]; exact List.mem_cons_self
  have hrl := g.row r hr
  induction q with
  | nil => intro j _ _; rfl
  | cons x q ih =>
    intro j hj hn
    simp only [List.length_cons] at hj
    have n1 := num_rng (hn x List.mem_cons_self)
    have n2 := num_rng (g.nums r hr _ (nth_mem (show 0 < r.length by omega)))
    have n3 := num_rng (g.nums _ hhm _ (nth_mem (show j < (hd m).length by omega)))
    have n4 := num_rng (g.nums _ hhm _ (nth_mem (show 0 < (hd m).length by omega)))
    rw [spec_rkOne_l2, idx_head (by omega), idx_nth0 (by omega)]
    simp only [bs]
    rw [idx_nth (by omega), idx_nth0 (by omega), ck_in (by omega) (by omega), allI]
    simp only [bs]
    rw [ck_in (by omega) (by omega)]
    simp only [bs, ibne]
    rw [ih (j + 1) (by omega) (fun y hy => hn y (List.mem_cons_of_mem _ hy))]
    unfold r1
    cases x == 1000000000
    · cases decide (x - nth r 0 = nth (hd m) j - nth (hd m) 0) <;> rfl
    · rfl
theorem isRankOne_l2_eq {m : List (List Int)} {c : Nat} (g : Good m c) {r : List Int} (hr : r ∈ m) (q : List Int) : ∀ j, j + q.length = c → (∀ x ∈ q, num x = true) → impl_isRankOne_l2 m r q j = some (cond (allI (r1' (hd m) r) q j) (Sum.inr ()) (Sum.inl false)) := by
  have := g.lo; have := g.clo
  have hh : (hd m).length = c := g.head
  have hhm : hd m ∈ m := by cases m with | nil => simp at hr | cons x m => rw [hd_cons]; exact List.mem_cons_self
  have hrl := g.row r hr
  induction q with
  | nil => intro j _ _; rfl
  | cons x q ih =>
    intro j hj hn
    simp only [List.length_cons] at hj
    have hx := hn x List.mem_cons_self
    have n1 := num_rng hx
    have n2 := num_rng (g.nums r hr _ (nth_mem (show 0 < r.length by omega)))
    have n3 := num_rng (g.nums _ hhm _ (nth_mem (show j < (hd m).length by omega)))
    have n4 := num_rng (g.nums _ hhm _ (nth_mem (show 0 < (hd m).length by omega)))
    rw [impl_isRankOne_l2, idx_head (by omega), idx_nth0 (by omega), isFinite_eq, fin_of_num hx]
    simp only [bs]
    rw [idx_nth (by omega), idx_nth0 (by omega), ck_in (by omega) (by omega), allI]
    simp only [bs]
    rw [ck_in (by omega) (by omega)]
    simp only [bs, ibne]
    rw [ih (j + 1) (by omega) (fun y hy => hn y (List.mem_cons_of_mem _ hy))]
    unfold r1'
    cases x == 1000000000
    · cases nth (hd m) j == 1000000000
      · cases decide (x - nth r 0 = nth (hd m) j - nth (hd m) 0) <;> rfl
      · rfl
    · rfl
theorem rkOne_l1_eq {m : List (List Int)} {c : Nat} (g : Good m c) (q : List (List Int)) : ∀ j, (∀ x ∈ q, x ∈ m) → spec_rkOne_l1 m q j = some (cond (q.all fun r => allI (r1 (hd m) r) r 0) (Sum.inr ()) (Sum.inl false)) := by
  induction q with
  | nil => intro j _; rfl
  | cons x q ih =>
    intro j h
    have hx := h x List.mem_cons_self
    rw [spec_rkOne_l1, rkOne_l2_eq g hx x 0 (by have := g.row x hx; omega) (g.nums x hx), List.all_cons]
    simp only [bs]
    cases allI (r1 (hd m) x) x 0
    · rfl
    · simp only [cT, Sum.elim_inr, Bool.true_and]
      exact ih _ (fun y hy => h y (List.mem_cons_of_mem _ hy))
theorem isRankOne_l1_eq {m : List (List Int)} {c : Nat} (g : Good m c) (q : List (List Int)) : ∀ j, (∀ x ∈ q, x ∈ m) → impl_isRankOne_l1 m q j = some (cond (q.all fun r => allI (r1' (hd m) r) r 0) (Sum.inr ()) (Sum.inl false)) := by
  induction q with
  | nil => intro j _; rfl
  | cons x q ih =>
    intro j h
    have hx := h x List.mem_cons_self
    rw [impl_isRankOne_l1, isRankOne_l2_eq g hx x 0 (by have := g.row x hx; omega) (g.nums x hx), List.all_cons]
    simp only [bs]
    cases allI (r1' (hd m) x) x 0
    · rfl
    · simp only [cT, Sum.elim_inr, Bool.true_and]
      exact ih _ (fun y hy => h y (List.mem_cons_of_mem _ hy))
theorem r1_same {m : List (List Int)} {c : Nat} (g : Good m c) : (m.all fun r => allI (r1 (hd m) r) r 0) = (m.all fun r => allI (r1' (hd m) r) r 0) := by
  have := g.lo
  have hh : (hd m).length = c := g.head
  have hhm : hd m ∈ m := by cases m with | nil => simp at this | cons x m => rw [hd_cons]; exact List.mem_cons_self
  rw [Bool.eq_iff_iff]
  simp only [List.all_eq_true, allI_iff _ (0 : Int), Nat.zero_add]
  constructor
  · intro h r hr i hi
    have h1 := h r hr i hi
    have h2 := h _ hhm i (by have := g.row r hr; omega)
    simp only [r1, r1', Bool.and_eq_true] at *
    exact ⟨h1.1, h2.1, h1.2⟩
  · intro h r hr i hi
    have h1 := h r hr i hi
    simp only [r1, r1', Bool.and_eq_true] at *
    exact ⟨h1.1, h1.2.2⟩
theorem isRankOne_both {m : List (List Int)} {c : Nat} (g : Good m c) : ∃ b, spec_rkOne_m m = some b ∧ impl_isRankOne_m m = some b := by
  unfold spec_rkOne_m impl_isRankOne_m
  rw [rkOne_l1_eq g m 0 (fun _ h => h), isRankOne_l1_eq g m 0 (fun _ h => h), r1_same g]
  cases m.all fun r => allI (r1' (hd m) r) r 0
  · exact ⟨false, rfl, rfl⟩
  · exact ⟨true, rfl, rfl⟩
/-! ### The outer product -/
theorem shifted_l1_eq (x : Int) (hx : fin x = true) (q : List Int) : ∀ j l, l.length + q.length < 1000000 → (∀ y ∈ q, fin y = true) → impl_shifted_l1 x q j l = some (l ++ q.map (fun y => x + y)) := by
  have hx := (fin_iff x).1 hx
  induction q with
  | nil => intro j l _ _; simp [impl_shifted_l1]
  | cons y q ih =>
    intro j l hl hn
    simp only [List.length_cons] at hl
    have := (fin_iff y).1 (hn y List.mem_cons_self)
    rw [impl_shifted_l1, product_eq (by omega) (by omega)]
    simp only [bs]
    rw [app_lt (by omega)]
    simp only [bs]
    rw [ih _ _ (by simp; omega) (fun z hz => hn z (List.mem_cons_of_mem _ hz))]
    have e : plus y x = x + y := by unfold plus; rw [if_neg (by omega)]; omega
    simp [e]
theorem shifted_eq (b : List Int) (hb : b.length ≤ 6) (hbn : ∀ y ∈ b, fin y = true) (x : Int) (hx : fin x = true) : impl_shifted_m b x = some (b.map (fun y => x + y)) := by
  unfold impl_shifted_m
  rw [guardO_t (by simp; omega)]
  simp only [bs]
  rw [shifted_l1_eq x hx b 0 [] (by simp; omega) hbn]
  rfl
def outer (a b : List Int) : List (List Int) := a.map (fun x => b.map (fun y => x + y))
end Go.Proofs.Ytaagklbiebogfaa
