/- Plain laws: own copies; the sum of two matrices, a matrix on a vector, the shift, the product, the power. -/
import Derived.Test.YtjicdfplhenohaaOwnM
import Derived.Test.YtjicdfplhenohaaMx2M
import Derived.Test.YtjicdfplhenohaaPMx1
import Derived.Test.YtjicdfplhenohaaPRk1
namespace Go.Proofs.Ytjicdfplhenohaa
set_option linter.unusedVariables false
set_option linter.unusedSimpArgs false

/-! ### Own copies -/
theorem appS_nil {l : List Int} (h : l.length < 1000000000) : appS [] l = some l := by unfold appS; rw [decide_eq_true (by simpa using h)]; rfl
theorem l1Own_eq {l : List Int} (h : l.length < 1000000000) : spec_l1Own_m l = some l := by unfold spec_l1Own_m; rw [appS_nil h]; rfl
theorem Clone_eq {l : List Int} (h : l.length < 1000000000) : slices_Clone_int_int_m l = some l := by unfold slices_Clone_int_int_m; rw [appS_nil h]; rfl
theorem mxOwn_l1_eq (q : List (List Int)) : ∀ j l, l.length + q.length < 1000000000 → (∀ r ∈ q, r.length < 1000000000) → spec_mxOwn_l1 q j l = some (l ++ q) := by
  induction q with
  | nil => intro j l _ _; simp [spec_mxOwn_l1]
  | cons x q ih =>
    intro j l hl hr
    simp only [List.length_cons] at hl
    rw [spec_mxOwn_l1, l1Own_eq (hr x List.mem_cons_self)]
    simp only [bs]
    rw [app_lt (by omega)]
    simp only [bs]
    rw [ih _ _ (by simp; omega) (fun r h => hr r (List.mem_cons_of_mem _ h))]
    simp
theorem clones_l1_eq (q : List (List Int)) : ∀ j l, l.length + q.length < 1000000000 → (∀ r ∈ q, r.length < 1000000000) → impl_clones_l1 q j l = some (l ++ q) := by
  induction q with
  | nil => intro j l _ _; simp [impl_clones_l1]
  | cons x q ih =>
    intro j l hl hr
    simp only [List.length_cons] at hl
    rw [impl_clones_l1, Clone_eq (hr x List.mem_cons_self)]
    simp only [bs]
    rw [app_lt (by omega)]
    simp only [bs]
    rw [ih _ _ (by simp; omega) (fun r h => hr r (List.mem_cons_of_mem _ h))]
    simp
theorem mxOwn_eq {m : List (List Int)} (h : SmallM m) : spec_mxOwn_m m = some m := by
  have h1 := h.1; unfold Small at h1
  unfold spec_mxOwn_m
  rw [mxOwn_l1_eq m 0 [] (by simp; omega) (fun r hr => by have := h.2 r hr; unfold Small at this; omega)]
  rfl
theorem clones_eq {m : List (List Int)} (h : SmallM m) : impl_clones_m m = some m := by
  have h1 := h.1; unfold Small at h1
  unfold impl_clones_m
  rw [clones_l1_eq m 0 [] (by simp; omega) (fun r hr => by have := h.2 r hr; unfold Small at this; omega)]
  rfl

/-! ### The shape of a matrix that is written to -/
structure Shape (m : List (List Int)) (r c : Nat) : Prop where
  len : m.length = r
  row : ∀ l ∈ m, l.length = c
theorem Good.shape {m : List (List Int)} {c : Nat} (g : Good m c) : Shape m m.length c := ⟨rfl, g.row⟩
theorem Shape.small {m : List (List Int)} {r c : Nat} (h : Shape m r c) (hr : r ≤ 6) (hc : c ≤ 6) : SmallM m :=
  ⟨by unfold Small; rw [h.len]; omega, fun l hl => by unfold Small; rw [h.row l hl]; omega⟩
theorem Shape.set {m : List (List Int)} {r c : Nat} (h : Shape m r c) (i : Nat) {l : List Int} (hl : l.length = c) : Shape (m.set i l) r c :=
  ⟨by simpa using h.len, fun x hx => by
    rcases List.mem_or_eq_of_mem_set hx with h1 | h1
    · exact h.row x h1
    · rw [h1]; exact hl⟩
theorem Shape.nth_len {m : List (List Int)} {r c : Nat} (h : Shape m r c) {i : Nat} (hi : i < r) : (nthM m i).length = c := h.row _ (nthM_mem (by rw [h.len]; exact hi))
theorem Shape.idx {m : List (List Int)} {r c : Nat} (h : Shape m r c) {i : Nat} (hi : i < r) : idx m (i : Int) = some (nthM m i) := idx_nthM (by rw [h.len]; exact hi)

/-! ### The sum -/
theorem Sum_l2 (i r c : Nat) (hi : i < r) (q : List Int) : ∀ j l, j + q.length = c → Shape l r c → ∃ l', spec_SumOfMatrices_l2 i q j l = some l' ∧ impl_SumOfMatrices_l2 i q j l = some l' ∧ Shape l' r c := by
  induction q with
  | nil => intro j l _ h; exact ⟨l, rfl, rfl, h⟩
  | cons x q ih =>
    intro j l hj h
    simp only [List.length_cons] at hj
    have hn := h.nth_len hi
    rw [spec_SumOfMatrices_l2, impl_SumOfMatrices_l2, h.idx hi]
    simp only [bs]
    rw [idx_nth (by omega)]
    simp only [bs, l1Least_eq]
    rw [upd_nat (by omega)]
    simp only [bs, Int.toNat_natCast]
    exact ih (j + 1) _ (by omega) (h.set i (by simpa using hn))
theorem Sum_l1 (r c : Nat) (q : List (List Int)) : ∀ i l, i + q.length = r → (∀ x ∈ q, x.length = c) → Shape l r c → ∃ l', spec_SumOfMatrices_l1 q i l = some l' ∧ impl_SumOfMatrices_l1 q i l = some l' ∧ Shape l' r c := by
  induction q with
  | nil => intro i l _ _ h; exact ⟨l, rfl, rfl, h⟩
  | cons x q ih =>
    intro i l hi hq h
    simp only [List.length_cons] at hi
    obtain ⟨l', h1, h2, h3⟩ := Sum_l2 i r c (by omega) x 0 l (by have := hq x List.mem_cons_self; omega) h
    rw [spec_SumOfMatrices_l1, impl_SumOfMatrices_l1, h1, h2]
    simp only [bs]
    exact ih (i + 1) l' (by omega) (fun y hy => hq y (List.mem_cons_of_mem _ hy)) h3
theorem SumOfMatrices_both (a b : List (List Int)) : ∃ r, spec_SumOfMatrices_m a b = some r ∧ impl_SumOfMatrices_m a b = some r ∧ SmallM r.1 := by
  unfold spec_SumOfMatrices_m impl_SumOfMatrices_m
  rw [mxGood_eq, mxGood_eq, isMatrix_eq, isMatrix_eq]
  simp only [bs, nbne]
  cases ha : mat a
  · exact ⟨([], false), rfl, rfl, smallM_nil⟩
  cases hb : mat b
  · exact ⟨([], false), rfl, rfl, smallM_nil⟩
  have ga := mat_good ha
  have gb := mat_good hb
  have := ga.lo; have := ga.hi; have := ga.chi; have := gb.lo
  by_cases hl : a.length = b.length
  case neg => rw [decide_eq_false hl]; exact ⟨([], false), rfl, rfl, smallM_nil⟩
  rw [decide_eq_true hl, idx_head (by omega), idx_head (by omega)]
  simp only [bs, Bool.not_true, cF, nbne]
  by_cases hc : (hd a).length = (hd b).length
  case neg => rw [decide_eq_false hc]; exact ⟨([], false), rfl, rfl, smallM_nil⟩
  rw [decide_eq_true hc, mxOwn_eq ga.small, clones_eq ga.small]
  simp only [bs, Bool.not_true, cF]
  obtain ⟨l', h1, h2, h3⟩ := Sum_l1 a.length (hd a).length b 0 a (by omega) (fun x hx => by rw [hc]; exact gb.row x hx) ga.shape
  rw [h1, h2]
  exact ⟨(_, true), rfl, rfl, h3.small (by omega) ga.chi⟩

/-! ### The least of the sums: one entry of a product -/
def dotF (y : List Int) : List Int → Nat → Int → Int
  | [], _, n => n
  | x :: q, j, n => dotF y q (j + 1) (min n (plus x (nth y j)))
theorem plus_num {a b : Int} (ha : num a = true) (hb : num b = true) : plus a b = 1000000000 ∨ (-2000000 ≤ plus a b ∧ plus a b ≤ 2000000 ∧ plus a b = a + b) := by
  have ha := (num_iff a).1 ha
  have hb := (num_iff b).1 hb
  unfold plus
  by_cases h : a = 1000000000 ∨ b = 1000000000
  · rw [if_pos h]; exact .inl rfl
  · rw [if_neg h]; exact .inr ⟨by omega, by omega, rfl⟩
theorem nuPlus_num {a b : Int} (ha : num a = true) (hb : num b = true) : spec_nuPlus_m a b = some (plus a b) := by
  have := num_rng ha; have := num_rng hb
  exact nuPlus_eq (by omega) (by omega)
theorem product_num {a b : Int} (ha : num a = true) (hb : num b = true) : impl_product_m a b = some (plus a b) := nuPlus_num ha hb
theorem mxApply_l2_eq (y : List Int) (hy : ∀ x ∈ y, num x = true) (q : List Int) : ∀ j n, j + q.length = y.length → (∀ x ∈ q, num x = true) → spec_mxApply_l2 y q j n = some (dotF y q j n) := by
  induction q with
  | nil => intro j n _ _; rfl
  | cons x q ih =>
    intro j n hj hq
    simp only [List.length_cons] at hj
    rw [spec_mxApply_l2, idx_nth (by omega)]
    simp only [bs]
    rw [nuPlus_num (hq x List.mem_cons_self) (hy _ (nth_mem (by omega)))]
    simp only [bs, l1Least_eq]
    rw [ih _ _ (by omega) (fun z hz => hq z (List.mem_cons_of_mem _ hz))]
    rfl
theorem dot_l1_eq (y : List Int) (hy : ∀ x ∈ y, num x = true) (q : List Int) : ∀ j n, j + q.length = y.length → (∀ x ∈ q, num x = true) → impl_dot_l1 y q j n = some (dotF y q j n) := by
  induction q with
  | nil => intro j n _ _; rfl
  | cons x q ih =>
    intro j n hj hq
    simp only [List.length_cons] at hj
    rw [impl_dot_l1, idx_nth (by omega)]
    simp only [bs]
    rw [product_num (hq x List.mem_cons_self) (hy _ (nth_mem (by omega)))]
    simp only [bs]
    rw [ih _ _ (by omega) (fun z hz => hq z (List.mem_cons_of_mem _ hz))]
    rfl
def dot (x y : List Int) : Int := dotF y x 0 1000000000
theorem dot_eq {x y : List Int} (hl : x.length = y.length) (hx : ∀ z ∈ x, num z = true) (hy : ∀ z ∈ y, num z = true) : impl_dot_m x y = some (dot x y) := by
  unfold impl_dot_m
  rw [dot_l1_eq y hy x 0 _ (by omega) hx]
  rfl
theorem toldList_eq (l : List Int) : impl_toldList_m l = some (l.all num, l.all num) := by
  unfold impl_toldList_m
  rw [areNumbers_eq]
  cases l.all num <;> rfl
theorem mxApply_l1_eq (y : List Int) (hy : ∀ x ∈ y, num x = true) (q : List (List Int)) : ∀ j l, l.length + q.length < 1000000 → (∀ r ∈ q, r.length = y.length) → (∀ r ∈ q, ∀ x ∈ r, num x = true) →
    spec_mxApply_l1 y q j l = some (cond ((q.map fun r => dot r y).all num) (Sum.inr (l ++ q.map fun r => dot r y)) (Sum.inl ([], false))) := by
  induction q with
  | nil => intro j l _ _ _; simp [spec_mxApply_l1]
  | cons x q ih =>
    intro j l hl hr hq
    simp only [List.length_cons] at hl
    rw [spec_mxApply_l1, mxApply_l2_eq y hy x 0 _ (by have := hr x List.mem_cons_self; omega) (hq x List.mem_cons_self)]
    simp only [bs, nuGood_eq]
    rw [show dotF y x 0 1000000000 = dot x y from rfl, List.map_cons, List.all_cons]
    cases num (dot x y)
    · rfl
    · simp only [Bool.not_true, cF]
      rw [app_lt (by omega)]
      simp only [bs]
      rw [ih _ _ (by simp; omega) (fun r h => hr r (List.mem_cons_of_mem _ h)) (fun r h => hq r (List.mem_cons_of_mem _ h))]
      simp
theorem applied_l1_eq (y : List Int) (hy : ∀ x ∈ y, num x = true) (q : List (List Int)) : ∀ j l, l.length + q.length < 1000000 → (∀ r ∈ q, r.length = y.length) → (∀ r ∈ q, ∀ x ∈ r, num x = true) →
    impl_applied_l1 y q j l = some (l ++ q.map fun r => dot r y) := by
  induction q with
  | nil => intro j l _ _ _; simp [impl_applied_l1]
  | cons x q ih =>
    intro j l hl hr hq
    simp only [List.length_cons] at hl
    rw [impl_applied_l1, dot_eq (hr x List.mem_cons_self) (hq x List.mem_cons_self) hy]
    simp only [bs]
    rw [app_lt (by omega)]
    simp only [bs]
    rw [ih _ _ (by simp; omega) (fun r h => hr r (List.mem_cons_of_mem _ h)) (fun r h => hq r (List.mem_cons_of_mem _ h))]
    simp
theorem mxApply_eq {m : List (List Int)} {c : Nat} (g : Good m c) {y : List Int} (hy : ∀ x ∈ y, num x = true) (hc : y.length = c) :
    spec_mxApply_m m y = some (cond ((m.map fun r => dot r y).all num) (m.map fun r => dot r y, true) ([], false)) := by
  have := g.hi
  unfold spec_mxApply_m
  rw [mxApply_l1_eq y hy m 0 [] (by simp; omega) (fun r h => by rw [hc]; exact g.row r h) g.nums]
  cases (m.map fun r => dot r y).all num <;> rfl
theorem applied_eq {m : List (List Int)} {c : Nat} (g : Good m c) {y : List Int} (hy : ∀ x ∈ y, num x = true) (hc : y.length = c) :
    impl_applied_m m y = some (m.map fun r => dot r y) := by
  have := g.hi
  unfold impl_applied_m
  rw [applied_l1_eq y hy m 0 [] (by simp; omega) (fun r h => by rw [hc]; exact g.row r h) g.nums]
  rfl
theorem small_nil : Small ([] : List Int) := by simp [Small]
theorem ApplyMatrix_both (m : List (List Int)) (v : List Int) : ∃ r, spec_ApplyMatrix_m m v = some r ∧ impl_ApplyMatrix_m m v = some r ∧ Small r.1 := by
  unfold spec_ApplyMatrix_m impl_ApplyMatrix_m
  rw [mxGood_eq, isMatrix_eq, mxVector_eq, isVector_eq]
  simp only [bs]
  cases hm : mat m
  · exact ⟨([], false), rfl, rfl, small_nil⟩
  cases hv : vec v
  · exact ⟨([], false), rfl, rfl, small_nil⟩
  have g := mat_good hm
  have := g.lo; have := g.hi
  have hv := (vec_iff v).1 hv
  rw [idx_head (by omega)]
  simp only [bs, Bool.not_true, cF, nbne]
  by_cases hl : v.length = (hd m).length
  · rw [decide_eq_true hl, decide_eq_true hl.symm, mxApply_eq g hv.2 hl, applied_eq g hv.2 hl]
    simp only [bs, Bool.not_true, cF]
    rw [toldList_eq]
    simp only [bs]
    cases (m.map fun r => dot r v).all num
    · exact ⟨([], false), rfl, rfl, small_nil⟩
    · exact ⟨(_, true), rfl, rfl, by simp [Small]; omega⟩
  · rw [decide_eq_false hl, decide_eq_false (fun h => hl h.symm)]
    exact ⟨([], false), rfl, rfl, small_nil⟩

/-! ### The product -/
def mulM (a b : List (List Int)) (c : Nat) : List (List Int) := a.map fun r => (List.range c).map fun k => dot r (colAt b k)
theorem colAt_len (b : List (List Int)) (k : Nat) : (colAt b k).length = b.length := by simp [colAt]
theorem colAt_num {b : List (List Int)} {c : Nat} (g : Good b c) {k : Nat} (hk : k < c) : ∀ z ∈ colAt b k, num z = true := by
  intro z hz
  simp only [colAt, List.mem_map] at hz
  obtain ⟨r, hr, rfl⟩ := hz
  exact g.nums r hr _ (nth_mem (by have := g.row r hr; omega))
theorem nth_colAt {b : List (List Int)} {j k : Nat} (hj : j < b.length) : nth (colAt b k) j = nth (nthM b j) k := by
  simp [nth, colAt, nthM, hj]
theorem mxMul_l3_eq {b : List (List Int)} {c : Nat} (g : Good b c) {k : Nat} (hk : k < c) (q : List Int) : ∀ j n, j + q.length = b.length → (∀ x ∈ q, num x = true) → spec_mxMul_l3 b k q j n = some (dotF (colAt b k) q j n) := by
  induction q with
  | nil => intro j n _ _; rfl
  | cons x q ih =>
    intro j n hj hq
    simp only [List.length_cons] at hj
    have hr := g.shape.nth_len (i := j) (by omega)
    rw [spec_mxMul_l3, g.shape.idx (by omega)]
    simp only [bs]
    rw [idx_nth (by omega)]
    simp only [bs]
    rw [nuPlus_num (hq x List.mem_cons_self) (g.nums _ (nthM_mem (by omega)) _ (nth_mem (by omega)))]
    simp only [bs, l1Least_eq]
    rw [ih _ _ (by omega) (fun z hz => hq z (List.mem_cons_of_mem _ hz)), dotF, nth_colAt (by omega)]
def mulRow (b : List (List Int)) (r : List Int) (k n : Nat) : List Int := (List.range' k n).map fun k => dot r (colAt b k)
theorem mxMul_l2_eq {b : List (List Int)} {c : Nat} (g : Good b c) (x : List Int) (hx : x.length = b.length) (hxn : ∀ z ∈ x, num z = true) (q : List Int) : ∀ k l, k + q.length = c → l.length + q.length < 1000000 →
    spec_mxMul_l2 b x q k l = some (cond ((mulRow b x k q.length).all num) (Sum.inr (l ++ mulRow b x k q.length)) (Sum.inl ([], false))) := by
  induction q with
  | nil => intro k l _ _; simp [spec_mxMul_l2, mulRow]
  | cons y q ih =>
    intro k l hk hl
    simp only [List.length_cons] at hk hl
    rw [spec_mxMul_l2, mxMul_l3_eq g (by omega) x 0 _ (by omega) hxn]
    simp only [bs, nuGood_eq]
    have e : mulRow b x k (y :: q).length = dot x (colAt b k) :: mulRow b x (k + 1) q.length := by simp [mulRow, List.range'_succ]
    rw [show dotF (colAt b k) x 0 1000000000 = dot x (colAt b k) from rfl, e, List.all_cons]
    cases num (dot x (colAt b k))
    · rfl
    · simp only [Bool.not_true, cF]
      rw [app_lt (by omega)]
      simp only [bs]
      rw [ih _ _ (by omega) (by simp; omega)]
      simp
theorem mxMul_l1_eq {b : List (List Int)} {c : Nat} (g : Good b c) (q : List (List Int)) : ∀ j l, l.length + q.length < 1000000 → (∀ r ∈ q, r.length = b.length) → (∀ r ∈ q, ∀ x ∈ r, num x = true) →
    spec_mxMul_l1 b q j l = some (cond ((mulM q b c).all fun r => r.all num) (Sum.inr (l ++ mulM q b c)) (Sum.inl ([], false))) := by
  have hh : (hd b).length = c := g.head
  have := g.lo; have := g.chi
  induction q with
  | nil => intro j l _ _ _; simp [spec_mxMul_l1, mulM]
  | cons x q ih =>
    intro j l hl hr hq
    simp only [List.length_cons] at hl
    have e0 : mulRow b x 0 c = (List.range c).map fun k => dot x (colAt b k) := by simp [mulRow, List.range_eq_range']
    have e : mulM (x :: q) b c = mulRow b x 0 c :: mulM q b c := by rw [e0]; rfl
    rw [spec_mxMul_l1, idx_head (by omega)]
    simp only [bs]
    rw [mxMul_l2_eq g x (hr x List.mem_cons_self) (hq x List.mem_cons_self) (hd b) 0 [] (by omega) (by simp; omega), e, List.all_cons, hh]
    simp only [bs]
    cases (mulRow b x 0 c).all num
    · rfl
    · simp only [cT, Sum.elim_inr, List.nil_append, Bool.true_and]
      rw [app_lt (by omega)]
      simp only [bs]
      rw [ih _ _ (by simp; omega) (fun r h => hr r (List.mem_cons_of_mem _ h)) (fun r h => hq r (List.mem_cons_of_mem _ h))]
      simp
theorem mxMul_eq {a b : List (List Int)} {c : Nat} (ga : Good a b.length) (g : Good b c) :
    spec_mxMul_m a b = some (cond ((mulM a b c).all fun r => r.all num) (mulM a b c, true) ([], false)) := by
  have := ga.hi
  unfold spec_mxMul_m
  rw [mxMul_l1_eq g a 0 [] (by simp; omega) ga.row ga.nums]
  cases (mulM a b c).all fun r => r.all num <;> rfl
theorem multiplied_l2_eq (x : List Int) (hxn : ∀ z ∈ x, num z = true) (q : List (List Int)) : ∀ j l, l.length + q.length < 1000000 → (∀ r ∈ q, x.length = r.length ∧ ∀ z ∈ r, num z = true) → impl_multiplied_l2 x q j l = some (l ++ q.map (dot x)) := by
  induction q with
  | nil => intro j l _ _; simp [impl_multiplied_l2]
  | cons y q ih =>
    intro j l hl hq
    simp only [List.length_cons] at hl
    rw [impl_multiplied_l2, dot_eq (hq y List.mem_cons_self).1 hxn (hq y List.mem_cons_self).2]
    simp only [bs]
    rw [app_lt (by omega)]
    simp only [bs]
    rw [ih _ _ (by simp; omega) (fun r h => hq r (List.mem_cons_of_mem _ h))]
    simp
theorem multiplied_l1_eq {b : List (List Int)} {c : Nat} (g : Good b c) (q : List (List Int)) : ∀ j l, l.length + q.length < 1000000 → (∀ r ∈ q, r.length = b.length) → (∀ r ∈ q, ∀ x ∈ r, num x = true) →
    impl_multiplied_l1 (turn b c) q j l = some (l ++ mulM q b c) := by
  have := g.chi
  induction q with
  | nil => intro j l _ _ _; simp [impl_multiplied_l1, mulM]
  | cons x q ih =>
    intro j l hl hr hq
    simp only [List.length_cons] at hl
    rw [impl_multiplied_l1, multiplied_l2_eq x (hq x List.mem_cons_self) (turn b c) 0 [] (by simp [turn]; omega) (fun r h => by
      simp only [turn, List.mem_map, List.mem_range] at h
      obtain ⟨k, hk, rfl⟩ := h
      exact ⟨by rw [colAt_len]; exact hr x List.mem_cons_self, colAt_num g hk⟩)]
    simp only [bs, List.nil_append]
    rw [app_lt (by omega)]
    simp only [bs]
    rw [ih _ _ (by simp; omega) (fun r h => hr r (List.mem_cons_of_mem _ h)) (fun r h => hq r (List.mem_cons_of_mem _ h))]
    simp [mulM, turn]
theorem multiplied_eq {a b : List (List Int)} {c : Nat} (ga : Good a b.length) (g : Good b c) : impl_multiplied_m a b = some (mulM a b c) := by
  have := ga.hi
  unfold impl_multiplied_m
  rw [transposed_eq g]
  simp only [bs]
  rw [multiplied_l1_eq g a 0 [] (by simp; omega) ga.row ga.nums]
  rfl
theorem mulM_shape (a b : List (List Int)) (c : Nat) : Shape (mulM a b c) a.length c := ⟨by simp [mulM], fun l hl => by
  simp only [mulM, List.mem_map] at hl
  obtain ⟨r, _, rfl⟩ := hl
  simp⟩
/-- A list of rows of one length is a matrix if all are numbers. -/
theorem Shape.mat_eq {m : List (List Int)} {r c : Nat} (h : Shape m r c) (hr : 1 ≤ r) (hr6 : r ≤ 6) (hc : 1 ≤ c) (hc6 : c ≤ 6) : mat m = m.all fun l => l.all num := by
  have hl := h.len
  have hh : (hd m).length = c := h.row _ (by cases m with | nil => simp at hl; omega | cons x m => rw [hd_cons]; exact List.mem_cons_self)
  rw [mat_all, (inR_iff _ _ _).2 (by omega), Bool.true_and]
  rw [Bool.eq_iff_iff, List.all_eq_true, List.all_eq_true]
  constructor
  · intro h1 l hl
    have := h1 l hl
    simp only [rowOk, vec, Bool.and_eq_true] at this
    exact this.1.2
  · intro h1 l hl
    have h2 := h1 l hl
    have h3 := h.row l hl
    simp only [rowOk, vec, Bool.and_eq_true, decide_eq_true_eq, inR_iff]
    exact ⟨⟨by omega, h2⟩, by omega⟩
theorem MultiplyMatrices_both (a b : List (List Int)) : ∃ r, spec_MultiplyMatrices_m a b = some r ∧ impl_MultiplyMatrices_m a b = some r ∧ SmallM r.1 := by
  unfold spec_MultiplyMatrices_m impl_MultiplyMatrices_m
  rw [mxGood_eq, mxGood_eq, isMatrix_eq, isMatrix_eq]
  simp only [bs]
  cases ha : mat a
  · exact ⟨([], false), rfl, rfl, smallM_nil⟩
  cases hb : mat b
  · exact ⟨([], false), rfl, rfl, smallM_nil⟩
  have ga := mat_good ha
  have gb := mat_good hb
  have := ga.lo; have := ga.hi; have := gb.chi; have := gb.clo
  rw [idx_head (by omega)]
  simp only [bs, Bool.not_true, cF, nbne]
  by_cases hl : (hd a).length = b.length
  case neg => rw [decide_eq_false hl]; exact ⟨([], false), rfl, rfl, smallM_nil⟩
  have ga' : Good a b.length := hl ▸ ga
  rw [decide_eq_true hl, mxMul_eq ga' gb, multiplied_eq ga' gb]
  simp only [bs, Bool.not_true, cF]
  have sh := mulM_shape a b (hd b).length
  have e := sh.mat_eq ga.lo ga.hi gb.clo gb.chi
  rw [toldMatrix_eq, e]
  simp only [bs]
  cases h : (mulM a b (hd b).length).all fun r => r.all num
  · exact ⟨([], false), rfl, rfl, smallM_nil⟩
  · exact ⟨(_, true), rfl, rfl, sh.small ga.hi gb.chi⟩

/-! ### The power -/
theorem Power_l1 {m : List (List Int)} (g : Good m m.length) : ∀ (n k : Nat) (l : List (List Int)) (j : Nat), n < k → k ≤ 4000000 → Good l m.length → l.length = m.length →
    ∃ s, spec_mxPower_l1 m k l n = some s ∧ impl_PowerOfMatrix_l1 m n j l = some s ∧ (∀ r, s = Sum.inr r → Good r m.length ∧ r.length = m.length) ∧ (∀ r, s = Sum.inl r → r = ([], false)) := by
  intro n
  induction n with
  | zero =>
    intro k l j hk hk4 hl hn
    obtain ⟨k, rfl⟩ : ∃ k', k = k' + 1 := ⟨k - 1, by omega⟩
    rw [spec_mxPower_l1, impl_PowerOfMatrix_l1, decide_eq_false (by omega)]
    exact ⟨_, rfl, rfl, (fun r h => by cases h; exact ⟨hl, hn⟩), (fun r h => by cases h)⟩
  | succ n ih =>
    intro k l j hk hk4 hl hn
    obtain ⟨k, rfl⟩ : ∃ k', k = k' + 1 := ⟨k - 1, by omega⟩
    have sh := mulM_shape l m m.length
    rw [hn] at sh
    have e := sh.mat_eq g.lo g.hi g.clo g.chi
    rw [spec_mxPower_l1, impl_PowerOfMatrix_l1, decide_eq_true (by omega), mxMul_eq hl g, multiplied_eq hl g]
    simp only [bs, cT]
    rw [isMatrix_eq, e]
    simp only [bs]
    cases h : (mulM l m m.length).all fun r => r.all num
    · exact ⟨_, rfl, rfl, (fun r h => by cases h), (fun r h => by cases h; rfl)⟩
    · rw [h] at e
      have g2 := mat_good e
      have hc : (hd (mulM l m m.length)).length = m.length := sh.row _ (by
        have := g2.lo
        cases hq : mulM l m m.length with
        | nil => rw [hq] at this; simp at this
        | cons x y => rw [hd_cons]; exact List.mem_cons_self)
      rw [hc] at g2
      have := g.hi
      simp only [Bool.not_true, cF, cT]
      rw [show (((n + 1 : Nat) : Int) - 1) = (n : Int) by omega]
      rw [ck_in (by omega) (by omega)]
      simp only [bs]
      exact ih k (mulM l m m.length) (j + 1) (by omega) (by omega) g2 sh.len
theorem unitM_good (n : Nat) (h0 : 1 ≤ n) (h1 : n ≤ 6) : mat (unitM n) = true ∧ (unitM n).length = n ∧ (hd (unitM n)).length = n := by
  have : n = 1 ∨ n = 2 ∨ n = 3 ∨ n = 4 ∨ n = 5 ∨ n = 6 := by omega
  rcases this with e | e | e | e | e | e <;> subst e <;> decide +kernel
theorem PowerOfMatrix_both (m : List (List Int)) (p : Int) : ∃ r, spec_PowerOfMatrix_m m p = some r ∧ impl_PowerOfMatrix_m m p = some r ∧ SmallM r.1 := by
  unfold spec_PowerOfMatrix_m impl_PowerOfMatrix_m spec_mxPower_m
  rw [mxSquare_eq, isSquare_eq, l1In_eq, within_eq]
  simp only [bs]
  cases hs : sqr m
  · exact ⟨([], false), rfl, rfl, smallM_nil⟩
  cases hp : inR p 0 20
  · exact ⟨([], false), rfl, rfl, smallM_nil⟩
  have g := sqr_good hs
  have hp := (inR_iff _ _ _).1 hp
  have := g.lo; have := g.hi
  obtain ⟨u1, u2, u3⟩ := unit_both m.length ((inR_iff _ _ _).2 (by omega))
  rw [Int.toNat_natCast] at u1 u2
  obtain ⟨v1, v2, v3⟩ := unitM_good m.length g.lo g.hi
  have gu := mat_good v1
  have gu : Good (unitM m.length) m.length := by have := gu; rwa [v3] at this
  rw [u1, u2]
  simp only [bs, Bool.not_true, cF]
  rw [ck_in (by omega) (by omega)]
  simp only [bs]
  obtain ⟨s, s1, s2, s3, s4⟩ := Power_l1 g p.toNat 4000000 (unitM m.length) 0 (by omega) (by omega) gu v2
  rw [show ((p.toNat : Nat) : Int) = p by omega] at s1
  rw [show (p - ((0 : Nat) : Int)).toNat = p.toNat by simp]
  rw [s1, s2]
  cases s with
  | inl r => rw [s4 r rfl]; exact ⟨([], false), rfl, rfl, smallM_nil⟩
  | inr r => exact ⟨(r, true), rfl, rfl, (s3 r rfl).1.small⟩

/-! ### The shift -/
theorem nuMul_num {a b : Int} (ha : num a = true) (hb : num b = true) : spec_nuMul_m a b = some (if num (plus a b) = true then (plus a b, true) else (0, false)) := by
  unfold spec_nuMul_m
  rw [nuPlus_num ha hb]
  simp only [bs, nuIf_eq]
theorem nthM_set {m : List (List Int)} {i : Nat} {l : List Int} (h : i < m.length) : nthM (m.set i l) i = l := by simp [nthM, h]
theorem nthM_set_ne {m : List (List Int)} {i j : Nat} {l : List Int} (h : i ≠ j) : nthM (m.set i l) j = nthM m j := by simp [nthM, h]
theorem Shift_l2_eq (p : Int) (hp : num p = true) (i r c : Nat) (hi : i < r) (q : List Int) : ∀ j l, j + q.length = c → Shape l r c → (∀ x ∈ q, num x = true) →
    spec_ShiftMatrix_l2 p i q j l = some (cond ((q.map fun x => plus x p).all num) (Sum.inr (l.set i ((nthM l i).take j ++ q.map fun x => plus x p))) (Sum.inl ([], false))) := by
  induction q with
  | nil =>
    intro j l hj h _
    simp only [List.length_nil, Nat.add_zero] at hj
    have hn := h.nth_len hi
    have hl := h.len
    have e : l.set i ((nthM l i).take j) = l := by
      rw [List.take_of_length_le (by omega)]
      apply List.ext_getElem (by simp)
      intro k h1 h2
      by_cases hk : i = k
      · subst hk; simp [nthM, h2]
      · simp [hk]
    simp [spec_ShiftMatrix_l2, e]
  | cons x q ih =>
    intro j l hj h hq
    simp only [List.length_cons] at hj
    have hn := h.nth_len hi
    have hl := h.len
    rw [spec_ShiftMatrix_l2, nuMul_num (hq x List.mem_cons_self) hp, h.idx hi, List.map_cons, List.all_cons]
    simp only [bs]
    cases hg : num (plus x p)
    · rfl
    · simp only [if_true, Bool.not_true, cF, Bool.true_and]
      rw [idx_nth (by omega)]
      simp only [bs]
      rw [upd_nat (by omega)]
      simp only [bs, Int.toNat_natCast]
      rw [ih (j + 1) _ (by omega) (h.set i (by simpa using hn)) (fun z hz => hq z (List.mem_cons_of_mem _ hz)), nthM_set (by omega), List.set_set, take_set _ (by omega)]
      simp
theorem Shift_l1_eq (p : Int) (hp : num p = true) (r c : Nat) (q : List (List Int)) : ∀ i l, i + q.length = r → Shape l r c → (∀ x ∈ q, x.length = c) → (∀ x ∈ q, ∀ y ∈ x, num y = true) →
    spec_ShiftMatrix_l1 p q i l = some (cond ((q.map fun x => x.map fun y => plus y p).all fun x => x.all num) (Sum.inr (l.take i ++ q.map fun x => x.map fun y => plus y p)) (Sum.inl ([], false))) := by
  induction q with
  | nil =>
    intro i l hi h _ _
    simp only [List.length_nil, Nat.add_zero] at hi
    simp [spec_ShiftMatrix_l1, List.take_of_length_le (show l.length ≤ i by rw [h.len]; omega)]
  | cons x q ih =>
    intro i l hi h hq hn
    simp only [List.length_cons] at hi
    have hx := hq x List.mem_cons_self
    rw [spec_ShiftMatrix_l1, Shift_l2_eq p hp i r c (by omega) x 0 l (by omega) h (hn x List.mem_cons_self), List.map_cons, List.all_cons]
    simp only [bs]
    cases (x.map fun y => plus y p).all num
    · rfl
    · simp only [cT, Sum.elim_inr, Bool.true_and, List.take_zero, List.nil_append]
      rw [ih (i + 1) _ (by omega) (h.set i (by simpa using hx)) (fun z hz => hq z (List.mem_cons_of_mem _ hz)) (fun z hz => hn z (List.mem_cons_of_mem _ hz)), take_set _ (by rw [h.len]; omega)]
      simp
theorem shifted_num_l1 (p : Int) (hp : num p = true) (q : List Int) : ∀ j l, l.length + q.length < 1000000 → (∀ y ∈ q, num y = true) → impl_shifted_l1 p q j l = some (l ++ q.map fun y => plus y p) := by
  induction q with
  | nil => intro j l _ _; simp [impl_shifted_l1]
  | cons y q ih =>
    intro j l hl hn
    simp only [List.length_cons] at hl
    rw [impl_shifted_l1, product_num (hn y List.mem_cons_self) hp]
    simp only [bs]
    rw [app_lt (by omega)]
    simp only [bs]
    rw [ih _ _ (by simp; omega) (fun z hz => hn z (List.mem_cons_of_mem _ hz))]
    simp
theorem shifted_num (p : Int) (hp : num p = true) {l : List Int} (hl : l.length ≤ 6) (hn : ∀ y ∈ l, num y = true) : impl_shifted_m l p = some (l.map fun y => plus y p) := by
  unfold impl_shifted_m
  rw [guardO_t (by simp; omega)]
  simp only [bs]
  rw [shifted_num_l1 p hp l 0 [] (by simp; omega) hn]
  rfl
theorem Shift_i_l1 (p : Int) (hp : num p = true) (q : List (List Int)) : ∀ j l, l.length + q.length < 1000000 → (∀ x ∈ q, x.length ≤ 6) → (∀ x ∈ q, ∀ y ∈ x, num y = true) →
    impl_ShiftMatrix_l1 p q j l = some (l ++ q.map fun x => x.map fun y => plus y p) := by
  induction q with
  | nil => intro j l _ _ _; simp [impl_ShiftMatrix_l1]
  | cons x q ih =>
    intro j l hl h hn
    simp only [List.length_cons] at hl
    rw [impl_ShiftMatrix_l1, shifted_num p hp (h x List.mem_cons_self) (hn x List.mem_cons_self)]
    simp only [bs]
    rw [app_lt (by omega)]
    simp only [bs]
    rw [ih _ _ (by simp; omega) (fun z hz => h z (List.mem_cons_of_mem _ hz)) (fun z hz => hn z (List.mem_cons_of_mem _ hz))]
    simp
theorem ShiftMatrix_both (m : List (List Int)) (p : Int) : ∃ r, spec_ShiftMatrix_m m p = some r ∧ impl_ShiftMatrix_m m p = some r ∧ SmallM r.1 := by
  unfold spec_ShiftMatrix_m impl_ShiftMatrix_m
  rw [mxGood_eq, isMatrix_eq, nuGood_eq, isFinite_eq]
  simp only [bs]
  cases hm : mat m
  · exact ⟨([], false), rfl, rfl, smallM_nil⟩
  cases hp : num p
  · have hf : fin p = false := by
      cases hf : fin p
      · rfl
      · unfold num at hp; rw [hf] at hp; cases hp
    rw [hf]
    exact ⟨([], false), rfl, rfl, smallM_nil⟩
  rw [fin_of_num hp]
  cases hi : p == 1000000000
  · have g := mat_good hm
    have := g.lo; have := g.hi; have := g.chi
    simp only [Bool.not_true, Bool.not_false, cF, cT, bs]
    rw [mxOwn_eq g.small]
    simp only [bs]
    rw [Shift_l1_eq p hp m.length _ m 0 m (by omega) g.shape g.row g.nums, Shift_i_l1 p hp m 0 [] (by simp; omega) (fun x hx => by have := g.row x hx; omega) g.nums]
    simp only [bs, List.take_zero, List.nil_append]
    have sh : Shape (m.map fun x => x.map fun y => plus y p) m.length (hd m).length := ⟨by simp, fun l hl => by
      obtain ⟨x, hx, rfl⟩ := List.mem_map.1 hl
      simpa using g.row x hx⟩
    rw [toldMatrix_eq, sh.mat_eq g.lo g.hi g.clo g.chi]
    simp only [bs]
    cases (m.map fun x => x.map fun y => plus y p).all fun x => x.all num
    · exact ⟨([], false), rfl, rfl, smallM_nil⟩
    · exact ⟨(_, true), rfl, rfl, sh.small g.hi g.chi⟩
  · exact ⟨([], false), rfl, rfl, smallM_nil⟩
end Go.Proofs.Ytjicdfplhenohaa
