/- Plain laws: the least cost of all ways that end at a vertex; is it an eigenvector. -/
import Derived.Test.YtjhaealoneennaaPotM
import Derived.Test.YtjhaealoneennaaEigM
import Derived.Test.YtjhaealoneennaaPFwD
namespace Go.Proofs.Ytjhaealoneennaa
set_option linter.unusedVariables false
set_option linter.unusedSimpArgs false

theorem ways_diag {m : List (List Int)} (g : Good m m.length) {c : List (List Int)} {ok : Bool} (h : spec_wyCosts_m m = some (c, ok)) : ∀ i, i < m.length → En c i i ≤ 0 := by
  generalize hn : m.length = n at *
  have hhi := g.chi; have hlo := g.clo
  obtain ⟨c1, h1, h2⟩ := after_l1 g hn m 0 0 (unitM n) (after_0 g hn) (by omega)
  rw [hn, Nat.zero_add] at h2
  obtain ⟨c', s1, s2⟩ := after_step g hn h2 (by omega)
  have hsp : spec_wyCosts_m m = some (c1, decide (c1 = c')) := by
    unfold spec_wyCosts_m
    rw [hn, wyStart_eq n hlo hhi]
    simp only [bs]
    rw [h1]
    simp only [bs]
    rw [s1]
    simp only [bs]
    rw [wySame_eq (by rw [h2.sh.len, s2.sh.len])]
    rfl
  rw [hsp] at h
  simp only [Option.some.injEq, Prod.mk.injEq] at h
  rw [← h.1]
  intro i hi
  have := cs_diag (n := n) (m := A n m) n i
  rw [← h2.eq i i hi hi, A_in hi hi] at this
  unfold conv at this
  by_cases e : En c1 i i = 1000000000
  · rw [if_pos e] at this; exact this.elim
  · rw [if_neg e] at this; exact this
theorem transposed_sh {m : List (List Int)} {n : Nat} (h : Shape m n n) (h0 : 1 ≤ n) (h6 : n ≤ 6) : impl_transposed_m m = some (turn m n) := by
  have hl := h.len
  have hh : (hd m).length = n := h.row _ (by cases m with | nil => simp at hl; omega | cons x m => rw [hd_cons]; exact List.mem_cons_self)
  unfold impl_transposed_m
  rw [idx_head (by omega)]
  simp only [bs]
  rw [guardO_t (by simp; omega)]
  simp only [bs]
  have e : List.replicate ((hd m).length : Int).toNat ([] : List Int) = turn [] n := by
    rw [Int.toNat_natCast, hh]
    apply List.ext_getElem
    · simp [turn]
    · intro i h1 h2; simp [turn, colAt]
  rw [e, transposed_l1_eq n m 0 [] h.row (by simp; omega)]
  rfl
def leastIn (l : List Int) : Int := l.foldl min 1000000000
theorem Pot_l2 {c : List (List Int)} {n k : Nat} (ok : Bool) (h : Shape c n n) (hk : k < n) (q : List (List Int)) : ∀ j a, j + q.length = n → spec_PotentialsFor_l2 (c, ok) k q j a = some (((c.drop j).map fun r => nth r k).foldl min a) := by
  have hl := h.len
  induction q with
  | nil => intro j a hj; simp only [List.length_nil, Nat.add_zero] at hj; rw [List.drop_eq_nil_of_le (by omega)]; rfl
  | cons x q ih =>
    intro j a hj
    simp only [List.length_cons] at hj
    have hjn : j < n := by omega
    rw [spec_PotentialsFor_l2, h.idx hjn]
    simp only [bs]
    rw [En_idx h hjn hk]
    simp only [bs, l1Least_eq]
    have e : En c j k = nth (c[j]'(by omega)) k := by simp [En, nthM, show j < c.length by omega]
    rw [ih (j + 1) _ (by omega), drop_cons (show j < c.length by omega), List.map_cons, List.foldl_cons, e]
theorem Pot_l1 {c : List (List Int)} {n : Nat} (ok : Bool) (h : Shape c n n) (hn : n ≤ 6) (p : List (List Int)) (hp : p.length = n) (q : List (List Int)) : ∀ k l, k + q.length = n → l.length = k → spec_PotentialsFor_l1 p (c, ok) q k l = some (l ++ (List.range' k q.length).map fun k => leastIn (colAt c k)) := by
  induction q with
  | nil => intro k l _ _; simp [spec_PotentialsFor_l1]
  | cons x q ih =>
    intro k l hk hl
    simp only [List.length_cons] at hk
    rw [spec_PotentialsFor_l1, Pot_l2 ok h (by omega) p 0 _ (by omega)]
    simp only [bs]
    rw [app_lt (by omega)]
    simp only [bs]
    rw [ih (k + 1) _ (by omega) (by simp; omega)]
    simp [List.range'_succ, leastIn, colAt]
theorem Pot_i_l1 (q : List (List Int)) : ∀ k l, l.length + q.length < 1000000 → impl_PotentialsFor_l1 q k l = some (l ++ q.map leastIn) := by
  induction q with
  | nil => intro k l _; simp [impl_PotentialsFor_l1]
  | cons x q ih =>
    intro k l hl
    simp only [List.length_cons] at hl
    rw [impl_PotentialsFor_l1, sumOf_eq]
    simp only [bs]
    rw [app_lt (by omega)]
    simp only [bs]
    rw [ih _ _ (by simp; omega)]
    simp [leastIn]
theorem fold_le (l : List Int) : ∀ n : Int, l.foldl min n ≤ n ∧ ∀ x ∈ l, l.foldl min n ≤ x := by
  induction l with
  | nil => intro n; exact ⟨Int.le_refl _, fun x h => by cases h⟩
  | cons y l ih =>
    intro n
    obtain ⟨h1, h2⟩ := ih (min n y)
    rw [List.foldl_cons]
    refine ⟨by omega, fun x hx => ?_⟩
    rcases List.mem_cons.1 hx with e | e
    · omega
    · exact h2 x e
theorem PotentialsFor_both (m : List (List Int)) : ∃ r, spec_PotentialsFor_m m = some r ∧ impl_PotentialsFor_m m = some r ∧ Small r.1 := by
  unfold spec_PotentialsFor_m impl_PotentialsFor_m
  rw [mxSquare_eq, isSquare_eq]
  simp only [bs]
  cases hs : sqr m
  · exact ⟨([], false), rfl, rfl, small_nil⟩
  have g := sqr_good hs
  have := g.lo; have := g.hi
  obtain ⟨c, ok, d, h1, h2, h3, h4⟩ := ways_both g
  have hdg := ways_diag g h1
  rw [h1, h2]
  simp only [bs, Bool.not_true, cF]
  cases ok
  · exact ⟨([], false), rfl, rfl, small_nil⟩
  obtain ⟨e, sh⟩ := h3 rfl
  subst e
  simp only [Bool.not_true, cF]
  rw [Pot_l1 true sh g.hi m rfl m 0 [] (by omega) rfl, transposed_sh sh g.lo g.hi]
  simp only [bs]
  rw [Pot_i_l1 _ 0 [] (by simp [turn]; omega)]
  simp only [bs, List.nil_append, l1All_eq, toldList_eq]
  have e1 : (turn c m.length).map leastIn = (List.range' 0 m.length).map fun k => leastIn (colAt c k) := by
    rw [turn, List.map_map, List.range_eq_range']; rfl
  rw [e1]
  have hle : ∀ x ∈ (List.range' 0 m.length).map fun k => leastIn (colAt c k), x ≤ 0 := fun x hx => by
    obtain ⟨k, hk, rfl⟩ := List.mem_map.1 hx
    have hk := List.mem_range'_1.1 hk
    have hmem : En c k k ∈ colAt c k := by
      have hl := sh.len
      have : nthM c k ∈ c := nthM_mem (by omega)
      exact List.mem_map.2 ⟨_, this, rfl⟩
    have := (fold_le (colAt c k) 1000000000).2 _ hmem
    have := hdg k (by omega)
    unfold leastIn
    omega
  generalize hL : ((List.range' 0 m.length).map fun k => leastIn (colAt c k)) = L at hle
  have hlen : L.length = m.length := by rw [← hL]; simp
  have e2 : (L.all fun n => inR n (-1000000) 1000000) = L.all num := by
    rw [Bool.eq_iff_iff, List.all_eq_true, List.all_eq_true]
    constructor
    · intro h x hx
      have := (inR_iff _ _ _).1 (h x hx)
      exact (num_iff x).2 (.inl this)
    · intro h x hx
      have h1 := (num_iff x).1 (h x hx)
      have h2 := hle x hx
      exact (inR_iff _ _ _).2 (by omega)
  rw [e2]
  cases L.all num
  · exact ⟨([], false), rfl, rfl, small_nil⟩
  · exact ⟨(L, true), rfl, rfl, by show L.length ≤ 1048576; omega⟩

/-! ### Eigenvectors -/
theorem Eig_l2 (y : List Int) (hy : ∀ x ∈ y, num x = true) (q : List Int) : ∀ j n, j + q.length = y.length → (∀ x ∈ q, num x = true) → spec_IsEigenvector_l2 y q j n = some (dotF y q j n) := by
  induction q with
  | nil => intro j n _ _; rfl
  | cons x q ih =>
    intro j n hj hq
    simp only [List.length_cons] at hj
    rw [spec_IsEigenvector_l2, idx_nth (by omega)]
    simp only [bs]
    rw [nuPlus_num (hq x List.mem_cons_self) (hy _ (nth_mem (by omega)))]
    simp only [bs, l1Least_eq]
    rw [ih _ _ (by omega) (fun z hz => hq z (List.mem_cons_of_mem _ hz))]
    rfl
theorem Equal_l1_eq (b : List Int) (q : List Int) : ∀ j, j + q.length = b.length → slices_Equal_int_int_l1 b q j = some (cond (decide (q = b.drop j)) (Sum.inr ()) (Sum.inl false)) := by
  induction q with
  | nil => intro j hj; simp only [List.length_nil, Nat.add_zero] at hj; subst hj; simp [slices_Equal_int_int_l1]
  | cons x q ih =>
    intro j hj
    simp only [List.length_cons] at hj
    rw [slices_Equal_int_int_l1, idx_lt (show j < b.length by omega), drop_cons (show j < b.length by omega)]
    simp only [bs, List.cons.injEq]
    by_cases e : x = b[j]
    · rw [ih (j + 1) (by omega)]; simp [e]
    · have h' : (x != b[j]) = true := by simpa using e
      rw [h']; simp [e]
theorem Equal_eq (a b : List Int) : slices_Equal_int_int_m a b = some (decide (a = b)) := by
  unfold slices_Equal_int_int_m
  rw [nbne]
  by_cases h : a.length = b.length
  · rw [decide_eq_true h, Equal_l1_eq b a 0 (by omega)]
    simp only [Bool.not_true, cF, bs, List.drop_zero]
    cases decide (a = b) <;> rfl
  · rw [decide_eq_false h, decide_eq_false (fun e => h (by rw [e]))]; rfl
theorem Eig_l1 (p : Int) (hp : fin p = true) (v : List Int) (hv : ∀ x ∈ v, fin x = true) (q : List (List Int)) : ∀ i, i + q.length = v.length → (∀ r ∈ q, r.length = v.length) → (∀ r ∈ q, ∀ x ∈ r, num x = true) →
    spec_IsEigenvector_l1 p v q i = some (cond (decide (q.map (fun r => dot r v) = (v.drop i).map fun y => plus y p)) (Sum.inr ()) (Sum.inl (false, true))) := by
  have hn : ∀ x ∈ v, num x = true := fun x hx => by unfold num; rw [hv x hx]; rfl
  have hp' := (fin_iff p).1 hp
  induction q with
  | nil => intro i hi _ _; simp only [List.length_nil, Nat.add_zero] at hi; subst hi; simp [spec_IsEigenvector_l1]
  | cons x q ih =>
    intro i hi hr hq
    simp only [List.length_cons] at hi
    have hf := (fin_iff _).1 (hv _ (nth_mem (show i < v.length by omega)))
    rw [spec_IsEigenvector_l1, Eig_l2 v hn x 0 _ (by have := hr x List.mem_cons_self; omega) (hq x List.mem_cons_self), idx_nth (by omega), drop_cons (show i < v.length by omega)]
    simp only [bs]
    rw [ck_in (by omega) (by omega)]
    simp only [bs, List.map_cons, List.cons.injEq]
    have e1 : v[i]'(by omega) = nth v i := by simp [nth, show i < v.length by omega]
    have e2 : plus (v[i]'(by omega)) p = p + nth v i := by rw [e1]; unfold plus; rw [if_neg (by omega)]; omega
    rw [e2, show dotF v x 0 1000000000 = dot x v from rfl]
    by_cases e : dot x v = p + nth v i
    · rw [ih (i + 1) (by omega) (fun r h => hr r (List.mem_cons_of_mem _ h)) (fun r h => hq r (List.mem_cons_of_mem _ h))]; simp [e]
    · have h' : (dot x v != p + nth v i) = true := by simpa using e
      rw [h']; simp [e]
theorem IsEigenvector_both (m : List (List Int)) (p : Int) (v : List Int) : ∃ r, spec_IsEigenvector_m m p v = some r ∧ impl_IsEigenvector_m m p v = some r ∧ True := by
  unfold spec_IsEigenvector_m impl_IsEigenvector_m
  rw [mnVector_eq, isQuestion_eq, poFinite_eq]
  simp only [bs]
  cases hs : sqr m
  · exact ⟨_, rfl, rfl, trivial⟩
  cases hp : fin p
  · refine ⟨(false, false), ?_, rfl, trivial⟩
    cases (decide (v.length = m.length) && v.all fin) <;> rfl
  by_cases hl : v.length = m.length
  · cases hv : v.all fin
    · rw [decide_eq_true hl]; exact ⟨_, rfl, rfl, trivial⟩
    · have g := sqr_good hs
      have := g.hi
      have hv := List.all_eq_true.1 hv
      have hn : ∀ x ∈ v, num x = true := fun x hx => by unfold num; rw [hv x hx]; rfl
      have hpn : num p = true := by unfold num; rw [hp]; rfl
      rw [Eig_l1 p hp v hv m 0 (by omega) (fun r h => by rw [hl]; exact g.row r h) g.nums, decide_eq_true hl, applied_eq g hn hl, shifted_num p hpn (by omega) hn]
      simp only [bs, Bool.not_true, cF, Bool.true_and, Equal_eq, List.drop_zero]
      cases decide (m.map (fun r => dot r v) = v.map fun y => plus y p) <;> exact ⟨_, rfl, rfl, trivial⟩
  · rw [decide_eq_false hl]; exact ⟨_, rfl, rfl, trivial⟩
end Go.Proofs.Ytjhaealoneennaa
