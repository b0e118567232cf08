/- Plain laws: the cost of a way; is it a system. -/
import Derived.Test.YtaagklbiebogfaaLy1M
import Derived.Test.YtaagklbiebogfaaPMx1
import Derived.Test.YtaagklbiebogfaaPBas
namespace Go.Proofs.Ytaagklbiebogfaa
set_option linter.unusedVariables false
set_option linter.unusedSimpArgs false

/-! ### The cost of a way -/
def isV (m : List (List Int)) (x : Int) : Bool := inR x 0 ((m.length : Int) - 1)
/-- The entry that step i of the way w takes. -/
def stp (m : List (List Int)) (w : List Int) (i : Nat) : Int := nth (nthM m (nth w (i - 1)).toNat) (nth w i).toNat
structure WayOk (m : List (List Int)) (w : List Int) : Prop where
  good : Good m m.length
  len : w.length ≤ 20
  ver : ∀ x ∈ w, 0 ≤ x ∧ x < m.length
theorem WayOk.step {m : List (List Int)} {w : List Int} (h : WayOk m w) {i : Nat} (h1 : 1 ≤ i) (h2 : i < w.length) :
    ck ((i : Int) - 1) = some ((i - 1 : Nat) : Int) ∧ idx w ((i - 1 : Nat) : Int) = some (nth w (i - 1)) ∧ idx m (nth w (i - 1)) = some (nthM m (nth w (i - 1)).toNat) ∧ idx w (i : Int) = some (nth w i) ∧ idx (nthM m (nth w (i - 1)).toNat) (nth w i) = some (stp m w i) ∧ num (stp m w i) = true ∧ ck ((i : Int) + 1) = some ((i + 1 : Nat) : Int) := by
  have v1 := h.ver _ (nth_mem (show i - 1 < w.length by omega))
  have v2 := h.ver _ (nth_mem h2)
  have hm : nthM m (nth w (i - 1)).toNat ∈ m := nthM_mem (by omega)
  have hl := h.good.row _ hm
  have := h.len
  refine ⟨?_, idx_nth (by omega), idx_intM v1.1 v1.2, idx_nth h2, ?_, h.good.nums _ hm _ (nth_mem (by omega)), ck_nat (by omega)⟩
  · rw [show ((i : Int) - 1) = ((i - 1 : Nat) : Int) by omega]; exact ck_in (by omega) (by omega)
  · exact idx_int v2.1 (by omega)
/-! ### Is it a system -/
def noInfIn (m : List (List Int)) (j : Nat) : Bool := m.any fun r => !(nth r j == 1000000000)
theorem lyGood_l2_eq (j : Nat) (q : List (List Int)) : ∀ (k : Nat) (b : Bool), (∀ r ∈ q, j < r.length) → spec_lyGood_l2 j q k b = some (b || noInfIn q j) := by
  induction q with
  | nil => intro k b _; simp [spec_lyGood_l2, noInfIn]
  | cons x q ih =>
    intro k b h
    rw [spec_lyGood_l2, idx_nth (h x List.mem_cons_self)]
    simp only [bs]
    cases b
    · simp only [cF, bs]
      rw [ih _ _ (fun r hr => h r (List.mem_cons_of_mem _ hr))]
      simp [noInfIn]; rfl
    · simp only [cT, bs]
      rw [ih _ _ (fun r hr => h r (List.mem_cons_of_mem _ hr))]
      simp
theorem lyGood_l1_eq (m : List (List Int)) (c : Nat) (hm : ∀ r ∈ m, r.length = c) (q : List Int) : ∀ (j : Nat), j + q.length = c → spec_lyGood_l1 m q j = some (cond (allI (fun i _ => noInfIn m i) q j) (Sum.inr ()) (Sum.inl false)) := by
  induction q with
  | nil => intro j _; rfl
  | cons x q ih =>
    intro j hj
    simp only [List.length_cons] at hj
    rw [spec_lyGood_l1, lyGood_l2_eq j m 0 false (fun r hr => by have := hm r hr; omega), allI, ih (j + 1) (by omega)]
    simp only [bs, Bool.false_or]
    cases noInfIn m j <;> rfl

theorem sumOf_l1_eq (q : List Int) : ∀ (j : Nat) (n : Int), impl_sumOf_l1 q j n = some (q.foldl min n) := by
  induction q with
  | nil => intro j n; rfl
  | cons x q ih => intro j n; rw [impl_sumOf_l1, ih]; rfl
theorem sumOf_eq (l : List Int) : impl_sumOf_m l = some (l.foldl min 1000000000) := by
  unfold impl_sumOf_m; rw [sumOf_l1_eq]; rfl
theorem fold_min (l : List Int) : ∀ n : Int, n ≤ 1000000000 → (l.foldl min n = 1000000000 ↔ n = 1000000000 ∧ ∀ x ∈ l, 1000000000 ≤ x) := by
  induction l with
  | nil => intro n _; simp
  | cons x l ih =>
    intro n hn
    rw [List.foldl_cons, ih _ (by omega)]
    simp only [List.mem_cons, forall_eq_or_imp]
    constructor
    · rintro ⟨h1, h2⟩; exact ⟨by omega, by omega, h2⟩
    · rintro ⟨h1, h2, h3⟩; exact ⟨by omega, h3⟩
def infCol (r : List Int) : Bool := r.foldl min 1000000000 == 1000000000
theorem isSystem_1_eq (l : List Int) : impl_isSystem_1_m l = some (infCol l) := by
  unfold impl_isSystem_1_m; rw [sumOf_eq]; rfl
theorem isSystem_l1_eq (l : List (List Int)) : ∀ j : Nat, (l.any infCol = false ∧ slices_IndexFunc_int_int_impl_isSystem_1_l1 l j = some (Sum.inr ())) ∨ (l.any infCol = true ∧ ∃ k : Nat, slices_IndexFunc_int_int_impl_isSystem_1_l1 l j = some (Sum.inl (k : Int))) := by
  induction l with
  | nil => intro j; exact .inl ⟨rfl, rfl⟩
  | cons x l ih =>
    intro j
    rw [slices_IndexFunc_int_int_impl_isSystem_1_l1, isSystem_1_eq]
    cases hx : infCol x
    · simp only [bs, cF, List.any_cons, hx, Bool.false_or]
      exact ih (j + 1)
    · exact .inr ⟨by rw [List.any_cons, hx]; rfl, j, rfl⟩
theorem isSystem_any (l : List (List Int)) : slices_ContainsFunc_int_int_impl_isSystem_1_m l = some (l.any infCol) := by
  unfold slices_ContainsFunc_int_int_impl_isSystem_1_m slices_IndexFunc_int_int_impl_isSystem_1_m
  rcases isSystem_l1_eq l 0 with ⟨h1, h2⟩ | ⟨h1, k, h2⟩
  · rw [h1, h2]; rfl
  · rw [h1, h2]
    simp only [bs, Sum.elim_inl]
    rw [decide_eq_true (show (k : Int) ≥ 0 by omega)]
theorem infCol_col {m : List (List Int)} {c : Nat} (g : Good m c) {j : Nat} (hj : j < c) : infCol (colAt m j) = !noInfIn m j := by
  rw [Bool.eq_iff_iff]
  unfold infCol noInfIn
  rw [beq_iff_eq, fold_min _ _ (by omega)]
  simp only [Bool.not_eq_true', List.any_eq_false, colAt, List.mem_map, true_and, forall_exists_index, and_imp, forall_apply_eq_imp_iff₂]
  constructor
  · intro h r hr
    have := h r hr
    have n := num_rng (g.nums r hr _ (nth_mem (show j < r.length by have := g.row r hr; omega)))
    have e : nth r j = 1000000000 := by omega
    rw [e]; decide
  · intro h r hr
    have := h r hr
    simp at this
    omega
theorem isSystem_both (m : List (List Int)) (v : List Int) : ∃ b, spec_lyGood_m m v = some b ∧ impl_isSystem_m m v = some b ∧ (b = true → Good m (hd m).length ∧ v.length = m.length ∧ (∀ x ∈ v, fin x = true) ∧ ∀ j, j < (hd m).length → noInfIn m j = true) := by
  unfold spec_lyGood_m impl_isSystem_m
  rw [mxGood_eq, isMatrix_eq, areOnePerVertex_eq]
  simp only [bs, l1All_eq, nbne]
  have e : (v.all fun n => inR n (-1000000) 1000000) = v.all fin := rfl
  rw [e]
  cases hm : mat m
  · exact ⟨false, rfl, rfl, fun h => by cases h⟩
  by_cases hl : v.length = m.length
  case neg => rw [decide_eq_false hl]; exact ⟨false, rfl, rfl, fun h => by cases h⟩
  rw [decide_eq_true hl]
  cases hv : v.all fin
  · exact ⟨false, rfl, rfl, fun h => by cases h⟩
  have g := mat_good hm
  have := g.lo
  rw [idx_head (by omega), transposed_eq g]
  simp only [bs, Bool.not_true, cF, Bool.true_and, isSystem_any]
  rw [lyGood_l1_eq m _ g.row (hd m) 0 (by omega)]
  have key : allI (fun i _ => noInfIn m i) (hd m) 0 = !(turn m (hd m).length).any infCol := by
    rw [Bool.eq_iff_iff, allI_iff _ (0 : Int)]
    simp only [Nat.zero_add, Bool.not_eq_true', List.any_eq_false, turn, List.mem_map, List.mem_range, forall_exists_index, and_imp, forall_apply_eq_imp_iff₂]
    constructor
    · intro h j hj; rw [infCol_col g hj, h j hj]; decide
    · intro h j hj; have := h j hj; rw [infCol_col g hj] at this; simpa using this
  rw [key]
  cases hk : (turn m (hd m).length).any infCol
  · refine ⟨true, rfl, rfl, fun _ => ⟨g, hl, List.all_eq_true.1 hv, fun j hj => ?_⟩⟩
    rw [hk] at key
    have := (allI_iff _ (0 : Int) _ _).1 key j hj
    simpa using this
  · exact ⟨false, rfl, rfl, fun h => by cases h⟩
end Go.Proofs.Ytaagklbiebogfaa
