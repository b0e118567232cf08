/- Plain laws: the cheapest way. -/
import Derived.Test.YtjhaealoneennaaChwM
import Derived.Test.YtjhaealoneennaaPFwD
import Derived.Test.YtjhaealoneennaaPWk
namespace Go.Proofs.Ytjhaealoneennaa
set_option linter.unusedVariables false
set_option linter.unusedSimpArgs false
set_option linter.unusedSectionVars false

/-! ### Exact costs -/
def exL (m : List (List Int)) (n c : Nat) : Nat → List Int
  | 0 => (List.range' 0 n).map fun k => if k = c then 0 else 1000000000
  | t + 1 => m.map fun r => dotF (exL m n c t) r 0 1000000000
theorem unitI (n : Nat) (h0 : 1 ≤ n) (h1 : n ≤ 6) : impl_unit_m (n : Int) = some (unitM n) := by
  have : n = 1 ∨ n = 2 ∨ n = 3 ∨ n = 4 ∨ n = 5 ∨ n = 6 := by omega
  rcases this with e | e | e | e | e | e <;> subst e <;> decide +kernel
theorem exL_len {m : List (List Int)} {n c : Nat} (hn : m.length = n) : ∀ t, (exL m n c t).length = n
  | 0 => by simp [exL]
  | t + 1 => by simp [exL, hn]
theorem dotF_wi {y : List Int} {a b lo hi : Int} (hl : lo ≤ 0) (hh : 0 ≤ hi) : ∀ (q : List Int) (j : Nat) (z : Int), j + q.length ≤ y.length → (∀ x ∈ q, wi a b x) → (∀ i, i < y.length → wi lo hi (nth y i)) → wi (a + lo) (b + hi) z → wi (a + lo) (b + hi) (dotF y q j z)
  | [], j, z, _, _, _, h => h
  | x :: q, j, z, hj, hq, hy, h => by
    simp only [List.length_cons] at hj
    refine dotF_wi hl hh q (j + 1) _ (by omega) (fun x hx => hq x (List.mem_cons_of_mem _ hx)) hy ?_
    have := wi_plus (hq x List.mem_cons_self) (hy j (by omega))
    rcases h with h | h <;> rcases this with h2 | h2
    · left; omega
    · by_cases c : z ≤ plus x (nth y j)
      · rw [Int.min_eq_left c]; exact .inl h
      · rw [Int.min_eq_right (by omega)]; exact .inr h2
    · by_cases c : z ≤ plus x (nth y j)
      · rw [Int.min_eq_left c]; exact .inr h
      · rw [Int.min_eq_right (by omega)]; exact .inl h2
    · right; omega
section
variable {m : List (List Int)} {n : Nat} (g : Good m n) (hn : m.length = n)
include g hn
theorem exL_wi (c : Nat) : ∀ (t i : Nat), i < n → wi (-((t : Int) * 1000000)) ((t : Int) * 1000000) (nth (exL m n c t) i)
  | 0, i, hi => by
    have : nth (exL m n c 0) i = if i = c then 0 else 1000000000 := by simp [exL, nth, hi]
    rw [this]
    split
    · right; simp
    · left; rfl
  | t + 1, i, hi => by
    have him : i < m.length := by omega
    have e : nth (exL m n c (t + 1)) i = dotF (exL m n c t) (nthM m i) 0 1000000000 := by
      simp [exL, nth, nthM, him]
    have hr : (nthM m i).length = n := g.row _ (nthM_mem him)
    rw [e]
    have := dotF_wi (y := exL m n c t) (a := -1000000) (b := 1000000) (lo := -((t : Int) * 1000000)) (hi := (t : Int) * 1000000) (by omega) (by omega) (nthM m i) 0 1000000000 (by rw [exL_len hn]; omega)
      (fun x hx => num_wi (g.nums _ (nthM_mem him) x hx)) (fun j hj => exL_wi c t j (by rw [exL_len hn] at hj; exact hj)) (.inl rfl)
    exact this.mono (by push_cast; omega) (by push_cast; omega)
theorem ex_l4 {c t : Nat} (ht : t ≤ 6) {L : List (List Int)} {r : List Int} (hL : idx L (t : Int) = some (exL m n c t)) (hr : r.length = n) (hrn : ∀ x ∈ r, num x = true) (q : List (List Int)) : ∀ j z, j + q.length = n → spec_wyExact_l4 L ((t + 1 : Nat) : Int) r q j z = some (dotF (exL m n c t) (r.drop j) j z) := by
  have h6 := g.chi
  induction q with
  | nil =>
    intro j z hj
    simp only [List.length_nil] at hj
    rw [List.drop_eq_nil_of_le (by omega)]; rfl
  | cons x q ih =>
    intro j z hj
    simp only [List.length_cons] at hj
    have hjr : j < r.length := by omega
    have e : r[j] = nth r j := by simp [nth, hjr]
    have hx := (num_iff _).1 (hrn _ (nth_mem hjr))
    have hb := exL_wi g hn c t j (by omega)
    rw [spec_wyExact_l4, idx_nth hjr, ck_in (by omega) (by omega), show ((t + 1 : Nat) : Int) - 1 = (t : Int) by omega]
    simp only [bs]
    rw [hL]
    simp only [bs]
    rw [idx_nth (show j < (exL m n c t).length by rw [exL_len hn]; omega)]
    simp only [bs]
    unfold wi at hb
    rw [nuPlus_eq (by omega) (by omega)]
    simp only [bs, l1Least_eq]
    rw [ih (j + 1) _ (by omega), drop_cons hjr, dotF, e]
theorem ex_l3 {c t : Nat} (ht : t ≤ 6) {L : List (List Int)} (hL : idx L (t : Int) = some (exL m n c t)) (q : List (List Int)) : ∀ j l, (∀ r ∈ q, r ∈ m) → l.length + q.length < 1000000 → spec_wyExact_l3 m L ((t + 1 : Nat) : Int) q j l = some (l ++ q.map fun r => dotF (exL m n c t) r 0 1000000000) := by
  induction q with
  | nil => intro j l _ _; simp [spec_wyExact_l3]
  | cons x q ih =>
    intro j l hq hl
    simp only [List.length_cons] at hl
    have hx := hq x List.mem_cons_self
    rw [spec_wyExact_l3, ex_l4 g hn ht hL (g.row x hx) (g.nums x hx) m 0 _ (by omega)]
    simp only [bs, List.drop_zero]
    rw [app_lt (by omega)]
    simp only [bs]
    rw [ih _ _ (fun r h => hq r (List.mem_cons_of_mem _ h)) (by simp; omega)]
    simp
def exAll (m : List (List Int)) (n c k : Nat) : List (List Int) := (List.range k).map (exL m n c)
theorem exAll_idx {c k t : Nat} (h : t < k) : idx (exAll m n c k) (t : Int) = some (exL m n c t) := by
  rw [idx_lt (show t < (exAll m n c k).length by simpa [exAll] using h)]
  simp [exAll]
theorem exAll_succ (c k : Nat) : exAll m n c (k + 1) = exAll m n c k ++ [exL m n c k] := by
  simp [exAll, List.range_succ]
theorem ex_l2 (c : Nat) : ∀ (q fuel t : Nat), t + 1 + q = n → q < fuel → spec_wyExact_l2 m fuel (exAll m n c (t + 1)) ((t + 1 : Nat) : Int) = some (exAll m n c n) := by
  have h6 := g.chi
  intro q
  induction q with
  | zero =>
    intro fuel t ht hf
    obtain ⟨fuel, rfl⟩ : ∃ k', fuel = k' + 1 := ⟨fuel - 1, by omega⟩
    rw [spec_wyExact_l2, decide_eq_false (by omega), show t + 1 = n by omega]
    rfl
  | succ q ih =>
    intro fuel t ht hf
    obtain ⟨fuel, rfl⟩ : ∃ k', fuel = k' + 1 := ⟨fuel - 1, by omega⟩
    rw [spec_wyExact_l2, decide_eq_true (by omega), ex_l3 g hn (by omega) (exAll_idx g hn (by omega)) m 0 [] (fun r h => h) (by simp; omega)]
    simp only [cT, bs, List.nil_append]
    rw [app_lt (by simp [exAll]; omega), ck_in (by omega) (by omega)]
    simp only [bs]
    have := ih fuel (t + 1) (by omega) (by omega)
    rw [exAll_succ g hn c (t + 1)] at this
    rw [show ((t + 1 : Nat) : Int) + 1 = ((t + 1 + 1 : Nat) : Int) by omega]
    exact this
theorem ex_l1 (c : Nat) (q : List (List Int)) : ∀ j l, l.length + q.length < 1000000 → spec_wyExact_l1 (c : Int) q j l = some (l ++ (List.range' j q.length).map fun k => if k = c then 0 else 1000000000) := by
  induction q with
  | nil => intro j l _; simp [spec_wyExact_l1]
  | cons x q ih =>
    intro j l hl
    simp only [List.length_cons] at hl
    rw [spec_wyExact_l1, List.length_cons, List.range'_succ, List.map_cons]
    by_cases e : j = c
    · subst e
      rw [show ((j : Int) == (j : Int)) = true by simp]
      simp only [cT]
      rw [app_lt (by omega)]
      simp only [bs]
      rw [ih _ _ (by simp; omega)]
      simp
    · rw [show ((j : Int) == (c : Int)) = false by simp; omega]
      simp only [cF]
      rw [app_lt (by omega)]
      simp only [bs]
      rw [ih _ _ (by simp; omega)]
      simp [e]
theorem wyExact_eq (c : Nat) : spec_wyExact_m m (c : Int) = some (exAll m n c n) := by
  have h6 := g.chi
  have hlo := g.clo
  unfold spec_wyExact_m
  rw [ex_l1 g hn c m 0 [] (by simp; omega), hn]
  simp only [bs, List.nil_append]
  have := ex_l2 g hn c (n - 1) 4000000 0 (by omega) (by omega)
  rw [show exAll m n c (0 + 1) = [(List.range' 0 n).map fun k => if k = c then 0 else 1000000000] by simp [exAll, exL]] at this
  rw [show ((0 + 1 : Nat) : Int) = 1 from rfl] at this
  rw [this]
  rfl
theorem dotW_l1 {c t : Nat} (ht : t ≤ 6) {r : List Int} (hrn : ∀ x ∈ r, num x = true) (q : List Int) : ∀ j z, j + q.length = n → (∀ x ∈ q, num x = true) → impl_dot_l1 (exL m n c t) q j z = some (dotF (exL m n c t) q j z) := by
  induction q with
  | nil => intro j z _ _; rfl
  | cons x q ih =>
    intro j z hj hq
    simp only [List.length_cons] at hj
    have hx := (num_iff _).1 (hq x List.mem_cons_self)
    have hb := exL_wi g hn c t j (by omega)
    unfold wi at hb
    rw [impl_dot_l1, idx_nth (show j < (exL m n c t).length by rw [exL_len hn]; omega)]
    simp only [bs]
    rw [product_eq (by omega) (by omega)]
    simp only [bs]
    rw [ih _ _ (by omega) (fun z hz => hq z (List.mem_cons_of_mem _ hz))]
    rfl
theorem appliedW_l1 {c t : Nat} (ht : t ≤ 6) (q : List (List Int)) : ∀ j l, (∀ r ∈ q, r ∈ m) → l.length + q.length < 1000000 → impl_applied_l1 (exL m n c t) q j l = some (l ++ q.map fun r => dotF (exL m n c t) r 0 1000000000) := by
  induction q with
  | nil => intro j l _ _; simp [impl_applied_l1]
  | cons x q ih =>
    intro j l hq hl
    simp only [List.length_cons] at hl
    have hx := hq x List.mem_cons_self
    rw [impl_applied_l1]
    unfold impl_dot_m
    rw [dotW_l1 g hn ht (g.nums x hx) x 0 _ (by rw [g.row x hx]; omega) (g.nums x hx)]
    simp only [bs]
    rw [app_lt (by omega)]
    simp only [bs]
    rw [ih _ _ (fun r h => hq r (List.mem_cons_of_mem _ h)) (by simp; omega)]
    simp
theorem byStep_l1 (c : Nat) (q : List (List Int)) : ∀ (j t : Nat), t + q.length ≤ 6 → impl_byStep_l1 m q j (exAll m n c (t + 1)) (exL m n c t) = some (exAll m n c (t + q.length + 1)) := by
  have h6 := g.chi
  induction q with
  | nil => intro j t _; rfl
  | cons x q ih =>
    intro j t ht
    simp only [List.length_cons] at ht
    rw [impl_byStep_l1]
    unfold impl_applied_m
    rw [appliedW_l1 g hn (by omega) m 0 [] (fun r h => h) (by simp; omega)]
    simp only [bs, List.nil_append]
    rw [app_lt (by simp [exAll]; omega)]
    simp only [bs]
    have := ih (j + 1) (t + 1) (by omega)
    rw [exAll_succ g hn c (t + 1)] at this
    rw [List.length_cons, show t + (q.length + 1) + 1 = t + 1 + q.length + 1 by omega]
    exact this
theorem byStep_eq {c : Nat} (hc : c < n) : impl_byStep_m m (c : Int) = some (exAll m n c (n + 1)) := by
  have h6 := g.chi
  have hlo := g.clo
  unfold impl_byStep_m
  rw [hn, unitI n (by omega) h6]
  simp only [bs]
  have e : idx (unitM n) (c : Int) = some (exL m n c 0) := by
    rw [idx_lt (show c < (unitM n).length by simpa [unitM] using hc)]
    congr 1
    simp only [unitM, exL, List.getElem_map, List.getElem_range]
    rw [List.range_eq_range']
    exact List.map_congr_left fun k _ => by simp only [eq_comm]
  rw [e]
  simp only [bs]
  have := byStep_l1 g hn c m 0 0 (by omega)
  rw [show exAll m n c (0 + 1) = [exL m n c 0] by simp [exAll], hn, Nat.zero_add] at this
  rw [this]
  rfl
end

/-! ### Least costs and exact costs -/
theorem wk_cs {n : Nat} {S : Mt} : ∀ (l : List Nat) (i : Nat), (∀ v ∈ l, v < n) → i < n → ple (cs n S l.length i (las i l)) (wk S i l) ∧ las i l < n
  | [], i, _, hi => ⟨by simp [cs, startF, wk, las]; exact ple_refl _, hi⟩
  | k :: l, i, hv, hi => by
    have hk := hv k List.mem_cons_self
    obtain ⟨h1, h2⟩ := wk_cs l k (fun v h => hv v (List.mem_cons_of_mem _ h)) hk
    refine ⟨?_, h2⟩
    have h3 := cs_comp (n := n) (m := S) 1 i k (las k l) l.length
    have h4 := cs_st (n := n) (m := S) 0 i k i hi
    have e : cs n S 0 i i = some 0 := by simp [cs, startF]
    rw [e, zero_padd] at h4
    rw [List.length_cons, Nat.add_comm, las, wk]
    exact ple_trans h3 (padd_mono h4 h1)
/-- All is settled. -/
structure Set_ (n : Nat) (S : Mt) : Prop where
  st : ∀ s i k, i < n → k < n → cs n S (n + s) i k = cs n S n i k
theorem set_of {n : Nat} {S : Mt} (hs : ∀ i k, i < n → k < n → cs n S (n + 1) i k = cs n S n i k) : Set_ n S := ⟨by
  intro s
  induction s with
  | zero => intro i k _ _; rfl
  | succ s ih =>
    intro i k hi hk
    refine ple_antisymm (cs_mono i k n (s + 1)) ?_
    show ple _ (cs n S ((n + s) + 1) i k)
    rcases cs_or (n := n) (m := S) (n + s) i k with e | ⟨j, hj, e⟩
    · rw [e, ih i k hi hk]; exact ple_refl _
    · rw [e, ih i j hi hj, ← hs i k hi hk]
      exact cs_st n i k j hj⟩
theorem set_wk {n : Nat} {S : Mt} (h : Set_ n S) (l : List Nat) (i : Nat) (hv : ∀ v ∈ l, v < n) (hi : i < n) : ple (cs n S n i (las i l)) (wk S i l) := by
  obtain ⟨h1, h2⟩ := wk_cs l i hv hi
  refine ple_trans ?_ h1
  by_cases c : l.length ≤ n
  · have := cs_mono (n := n) (m := S) i (las i l) l.length (n - l.length)
    rwa [show l.length + (n - l.length) = n by omega] at this
  · rw [show l.length = n + (l.length - n) by omega, h.st _ i _ hi h2]
    exact ple_refl _
theorem set_pos {n : Nat} {S : Mt} (h : Set_ n S) {i : Nat} (hi : i < n) : ple (some 0) (cs n S n i i) := by
  have h1 := cs_comp (n := n) (m := S) n i i i n
  rw [h.st n i i hi hi] at h1
  cases hc : cs n S n i i with
  | none => trivial
  | some z =>
    rw [hc] at h1
    have h1 : z ≤ z + z := h1
    show (0 : Int) ≤ z
    omega
/-- A least cost is that of a way with fewer than n steps. -/
theorem short_way {n : Nat} {S : Mt} (h : Set_ n S) {i c : Nat} {x : Int} (hi : i < n) (hc : c < n) (hx : cs n S n i c = some x) : ∃ l, las i l = c ∧ wk S i l = some x ∧ (∀ v ∈ l, v < n) ∧ l.length + 1 ≤ n := by
  obtain ⟨l, h1, h2, h3, h4⟩ := cs_wk n i c x hc hx
  by_cases e : l.length + 1 ≤ n
  · exact ⟨l, h1, h2, h3, e⟩
  · have hnd : ¬ (i :: l).Nodup := fun hd => by
      have := nodup_len n (i :: l) hd (fun v hv => by
        rcases List.mem_cons.1 hv with e | e
        · omega
        · exact h3 v e)
      simp only [List.length_cons] at this
      omega
    obtain ⟨p, y, q, s, e⟩ := dup_split _ hnd
    -- the way without the part that comes back
    have key : ∀ (l' : List Nat) (a b : Int), las i l' = c → (∀ v ∈ l', v < n) → l'.length < l.length → wk S i l' = some a → 0 ≤ b → x = a + b → ∃ l, las i l = c ∧ wk S i l = some x ∧ (∀ v ∈ l, v < n) ∧ l.length + 1 ≤ n := fun l' a b k1 k2 k3 k4 k5 k6 => by
      have := set_wk h l' i k2 hi
      rw [k1, hx, k4] at this
      have : x ≤ a := this
      exact ⟨l', k1, by rw [k4]; congr 1; omega, k2, by omega⟩
    have back : ∀ (y : Nat) (q : List Nat) (b : Int), y < n → (∀ v ∈ q, v < n) → wk S y (q ++ [y]) = some b → 0 ≤ b := fun y q b hy hq hw => by
      have := set_wk h (q ++ [y]) y (fun v hv => by
        rcases List.mem_append.1 hv with e | e
        · exact hq v e
        · simp at e; omega) hy
      rw [las_append, hw] at this
      exact ple_trans (set_pos h hy) this
    cases p with
    | nil =>
      simp only [List.nil_append, List.cons.injEq] at e
      obtain ⟨rfl, e⟩ := e
      subst e
      rw [wk_append] at h2
      simp only [wk] at h2
      obtain ⟨a, w, w1, w2, w3⟩ := padd_some h2
      obtain ⟨e2, b, w4, w5, w6⟩ := padd_some w2
      rw [las_append] at h1
      refine key s b (a + e2) h1 (fun v hv => h3 v (by simp [hv])) (by simp; omega) w5 (back i q (a + e2) hi (fun v hv => h3 v (by simp [hv])) ?_) (by omega)
      rw [wk_append, w1]
      simp only [wk, w4, padd, Int.add_zero]
    | cons z p =>
      simp only [List.cons_append, List.cons.injEq] at e
      obtain ⟨rfl, e⟩ := e
      subst e
      rw [wk_append] at h2
      simp only [wk] at h2
      obtain ⟨a, w, w1, w2, w3⟩ := padd_some h2
      obtain ⟨e1, w', w4, w5, w6⟩ := padd_some w2
      rw [wk_append] at w5
      simp only [wk] at w5
      obtain ⟨b, u, u1, u2, u3⟩ := padd_some w5
      obtain ⟨e2, d, u4, u5, u6⟩ := padd_some u2
      have hy : y < n := h3 y (by simp)
      refine key (p ++ y :: s) (a + (e1 + d)) (b + e2) ?_ (fun v hv => h3 v (by
        rcases List.mem_append.1 hv with c | c
        · simp [c]
        · rcases List.mem_cons.1 c with c | c <;> simp [c])) (by simp; omega) ?_ (back y q (b + e2) hy (fun v hv => h3 v (by simp [hv])) ?_) (by omega)
      · rw [las_append] at h1 ⊢
        simp only [las] at h1 ⊢
        rw [las_append] at h1
        simpa [las] using h1
      · rw [wk_append, w1]
        simp only [wk, w4, u5, padd]
      · rw [wk_append, u1]
        simp only [wk, u4, padd, Int.add_zero]
theorem dotF_le (y : List Int) : ∀ (q : List Int) (j : Nat) (z : Int), dotF y q j z ≤ z ∧ ∀ i, i < q.length → dotF y q j z ≤ plus (nth q i) (nth y (j + i))
  | [], j, z => ⟨Int.le_refl _, fun i h => by simp at h⟩
  | x :: q, j, z => by
    obtain ⟨h1, h2⟩ := dotF_le y q (j + 1) (min z (plus x (nth y j)))
    rw [dotF]
    refine ⟨by omega, fun i hi => ?_⟩
    cases i with
    | zero =>
      rw [show nth (x :: q) 0 = x by simp [nth]]
      show _ ≤ plus x (nth y j)
      omega
    | succ i =>
      have := h2 i (by simpa using hi)
      rw [show nth (x :: q) (i + 1) = nth q i by simp [nth], show j + (i + 1) = j + 1 + i by omega]
      exact this
theorem dotF_or (y : List Int) : ∀ (q : List Int) (j : Nat) (z : Int), dotF y q j z = z ∨ ∃ i, i < q.length ∧ dotF y q j z = plus (nth q i) (nth y (j + i))
  | [], j, z => .inl rfl
  | x :: q, j, z => by
    rw [dotF]
    rcases dotF_or y q (j + 1) (min z (plus x (nth y j))) with h | ⟨i, hi, h⟩
    · by_cases c : z ≤ plus x (nth y j)
      · left; rw [h]; omega
      · right
        refine ⟨0, by simp, ?_⟩
        rw [h, show nth (x :: q) 0 = x by simp [nth], Nat.add_zero]; omega
    · right
      refine ⟨i + 1, by simpa using hi, ?_⟩
      rw [h, show nth (x :: q) (i + 1) = nth q i by simp [nth], show j + (i + 1) = j + 1 + i by omega]
theorem ple_of {a b : Int} (h : a ≤ b) (hb : b ≤ 1000000000) : ple (conv a) (conv b) := by
  unfold conv
  by_cases e : b = 1000000000
  · rw [if_pos e]; exact ple_none _
  · rw [if_neg e, if_neg (by omega)]; exact h
section
variable {m : List (List Int)} {n : Nat} (g : Good m n) (hn : m.length = n)
include g hn
theorem exL_at (c t i : Nat) (hi : i < n) : nth (exL m n c (t + 1)) i = dotF (exL m n c t) (nthM m i) 0 1000000000 := by
  have him : i < m.length := by omega
  simp [exL, nth, nthM, him]
theorem ex_term {c t i k : Nat} (ht : t ≤ 6) (hi : i < n) (hk : k < n) : conv (plus (En m i k) (nth (exL m n c t) k)) = padd (A n m i k) (conv (nth (exL m n c t) k)) ∧ plus (En m i k) (nth (exL m n c t) k) ≤ 1000000000 := by
  have h1 := num_wi (En_num g (i := i) (k := k) (by omega) hk)
  have h2 := exL_wi g hn c t k hk
  rw [A_in hi hk]
  refine ⟨conv_plus h1 h2 (by omega) (by omega) (by omega), ?_⟩
  have := wi_plus h1 h2
  unfold wi at this
  omega
theorem ex_up {c : Nat} : ∀ (l : List Nat) (i : Nat), l.length ≤ 7 → i < n → (∀ v ∈ l, v < n) → las i l = c → ple (conv (nth (exL m n c l.length) i)) (wk (A n m) i l)
  | [], i, _, hi, _, h => by
    have h : i = c := h
    subst h
    have : nth (exL m n i 0) i = 0 := by simp [exL, nth, hi]
    rw [List.length_nil, this]
    exact ple_refl _
  | k :: l, i, hl, hi, hv, h => by
    simp only [List.length_cons] at hl
    have hk := hv k List.mem_cons_self
    have ih := ex_up l k (by omega) hk (fun v h => hv v (List.mem_cons_of_mem _ h)) h
    have hrl : (nthM m i).length = n := g.row _ (nthM_mem (by omega))
    have h1 := (dotF_le (exL m n c l.length) (nthM m i) 0 1000000000).2 k (by omega)
    rw [Nat.zero_add] at h1
    obtain ⟨h2, h3⟩ := ex_term g hn (c := c) (t := l.length) (by omega) hi hk
    rw [List.length_cons, exL_at g hn c l.length i hi, wk]
    refine ple_trans (ple_of h1 h3) ?_
    rw [show nth (nthM m i) k = En m i k from rfl, h2]
    exact padd_mono (ple_refl _) ih
theorem ex_low {c : Nat} : ∀ (t i : Nat) (z : Int), t ≤ 7 → i < n → conv (nth (exL m n c t) i) = some z → ∃ l, l.length = t ∧ las i l = c ∧ wk (A n m) i l = some z ∧ ∀ v ∈ l, v < n
  | 0, i, z, _, hi, h => by
    have e : nth (exL m n c 0) i = if i = c then 0 else 1000000000 := by simp [exL, nth, hi]
    rw [e] at h
    by_cases c1 : i = c
    · rw [if_pos c1] at h
      exact ⟨[], rfl, c1, h, fun v h => by cases h⟩
    · rw [if_neg c1] at h; cases h
  | t + 1, i, z, ht, hi, h => by
    rw [exL_at g hn c t i hi] at h
    have hrl : (nthM m i).length = n := g.row _ (nthM_mem (by omega))
    rcases dotF_or (exL m n c t) (nthM m i) 0 1000000000 with e | ⟨k, hk, e⟩
    · rw [e] at h; cases h
    · rw [e, Nat.zero_add] at h
      have hk : k < n := by omega
      rw [show nth (nthM m i) k = En m i k from rfl, (ex_term g hn (c := c) (t := t) (by omega) hi hk).1] at h
      obtain ⟨a, b, h1, h2, h3⟩ := padd_some h
      obtain ⟨l, k1, k2, k3, k4⟩ := ex_low t k b (by omega) hk h2
      refine ⟨k :: l, by simp [k1], k2, ?_, fun v hv => ?_⟩
      · rw [wk, h1, k3]; simp only [padd, h3]
      · rcases List.mem_cons.1 hv with e | e
        · omega
        · exact k4 v e
/-- Some number of steps, below n, reaches the least cost. -/
theorem ex_hit (hs : Set_ n (A n m)) {i c : Nat} {x : Int} (hi : i < n) (hc : c < n) (hx : cs n (A n m) n i c = some x) : ∃ t, t + 1 ≤ n ∧ nth (exL m n c t) i = x := by
  have h6 := g.chi
  obtain ⟨l, h1, h2, h3, h4⟩ := short_way hs hi hc hx
  have up := ex_up g hn l i (by omega) hi h3 h1
  rw [h2] at up
  cases hz : conv (nth (exL m n c l.length) i) with
  | none => rw [hz] at up; exact up.elim
  | some z =>
    rw [hz] at up
    have up : z ≤ x := up
    obtain ⟨l', k1, k2, k3, k4⟩ := ex_low g hn l.length i z (by omega) hi hz
    have := set_wk hs l' i k4 hi
    rw [k2, hx, k3] at this
    have : x ≤ z := this
    refine ⟨l.length, h4, ?_⟩
    unfold conv at hz
    split at hz
    · cases hz
    · have := Option.some.inj hz; omega
end

/-! ### The number of steps -/
theorem elLw {α β γ : Type} (f : α → γ) (g : β → γ) (a : α) : Sum.elim f g (Sum.inl a) = f a := (Sum.elim_inl f g a).trans rfl
section
variable {m : List (List Int)} {n : Nat} (g : Good m n) (hn : m.length = n)
include g hn
omit hn in
theorem ways_set (hn : m.length = n) : ∃ c ok, spec_wyCosts_m m = some (c, ok) ∧ (ok = true → Set_ n (A n m) ∧ After n m n c) := by
  have hhi := g.chi; have hlo := g.clo
  obtain ⟨c, c1, c2⟩ := after_l1 g hn m 0 0 (unitM n) (after_0 g hn) (by omega)
  rw [hn, Nat.zero_add] at c2
  obtain ⟨c', s1, s2⟩ := after_step g hn c2 (by omega)
  refine ⟨c, decide (c = c'), ?_, fun h => ?_⟩
  · unfold spec_wyCosts_m
    rw [hn, wyStart_eq n hlo hhi]
    simp only [bs]
    rw [c1]
    simp only [bs]
    rw [s1]
    simp only [bs]
    rw [wySame_eq (by rw [c2.sh.len, s2.sh.len])]
    rfl
  · have h := of_decide_eq_true h
    exact ⟨set_of fun i k hi hk => by rw [← s2.eq i k hi hk, ← c2.eq i k hi hk, h], c2⟩
theorem exAll_len (c k : Nat) : (exAll m n c k).length = k := by simp [exAll]
theorem exAll_get (c k t : Nat) (h : t < (exAll m n c k).length) : (exAll m n c k)[t] = exL m n c t := by simp [exAll]
theorem steps_find {c : List (List Int)} {ok : Bool} {a b t : Nat} {x : Int} (ha : a < n) (hb : b < n) (hc : After n m n c) (hx : En c a b = x) (ht : t + 1 ≤ n) (hit : nth (exL m n b t) a = x) : ∀ (fuel j : Nat), j ≤ t → t - j < fuel →
    ∃ s, s ≤ t ∧ nth (exL m n b s) a = x ∧ spec_CheapestWay_l1 (a : Int) (b : Int) (c, ok) (exAll m n b n) fuel (j : Int) = some (s : Int) ∧
      slices_IndexFunc_int_int_impl_CheapestWay_1_l1 (a : Int) x ((exAll m n b (n + 1)).drop j) j = some (Sum.inl (s : Int)) := by
  have h6 := g.chi
  intro fuel
  induction fuel with
  | zero => intro j _ h; omega
  | succ fuel ih =>
    intro j hj hf
    have hl : (exL m n b j).length = n := exL_len hn j
    rw [spec_CheapestWay_l1, exAll_idx g hn (show j < n by omega)]
    simp only [bs]
    rw [idx_nth (show a < (exL m n b j).length by omega), hc.sh.idx ha]
    simp only [bs]
    rw [idx_nth (show b < (nthM c a).length by rw [hc.sh.nth_len ha]; exact hb)]
    simp only [bs]
    have hx' : nth (nthM c a) b = x := hx
    rw [hx']
    rw [drop_cons (show j < (exAll m n b (n + 1)).length by rw [exAll_len g hn]; omega), exAll_get g hn, slices_IndexFunc_int_int_impl_CheapestWay_1_l1]
    unfold impl_CheapestWay_1_m
    rw [idx_nth (show a < (exL m n b j).length by omega)]
    simp only [bs]
    by_cases e : nth (exL m n b j) a = x
    · rw [show (nth (exL m n b j) a != x) = false by simp [e], show (nth (exL m n b j) a == x) = true by simp [e]]
      exact ⟨j, hj, e, rfl, rfl⟩
    · rw [show (nth (exL m n b j) a != x) = true by simp [e], show (nth (exL m n b j) a == x) = false by simp [e]]
      have : j ≠ t := fun h => e (by rw [h]; exact hit)
      rw [ck_nat (by omega)]
      simp only [cT, cF, bs]
      exact ih (j + 1) (by omega) (by omega)

/-! ### The walk along -/
/-- A next vertex. -/
def NextV (m : List (List Int)) (n b s at_ : Nat) (left : Int) (k : Nat) : Prop := En m at_ k ≠ 1000000000 ∧ plus (En m at_ k) (nth (exL m n b s) k) = left
omit hn in
theorem idx_En {i k : Nat} (hi : i < m.length) (hk : k < n) : idx (nthM m i) (k : Int) = some (En m i k) := idx_nth (by rw [g.row _ (nthM_mem hi)]; exact hk)
theorem plus_ok {b s at_ k : Nat} (hs : s ≤ 6) (ha : at_ < n) (hk : k < n) : -9223372036854775808 ≤ En m at_ k + nth (exL m n b s) k ∧ En m at_ k + nth (exL m n b s) k ≤ 9223372036854775807 := by
  have h1 := (num_iff _).1 (En_num g (i := at_) (k := k) (by omega) hk)
  have h2 := exL_wi g hn b s k hk
  unfold wi at h2
  omega
theorem next_find {b s at_ k0 : Nat} {left : Int} (hs : s + 1 < n) (ha : at_ < n) (hleft : nth (exL m n b (s + 1)) at_ = left) (hk0 : k0 < n) (h0 : NextV m n b s at_ left k0) : ∀ (fuel j : Nat), j ≤ k0 → k0 - j < fuel →
    ∃ k, j ≤ k ∧ k ≤ k0 ∧ NextV m n b s at_ left k ∧ (∀ i, j ≤ i → i < k → ¬ NextV m n b s at_ left i) ∧ spec_CheapestWay_l3 m (exAll m n b n) ((s + 1 : Nat) : Int) (at_ : Int) fuel (j : Int) = some (k : Int) := by
  have h6 := g.chi
  intro fuel
  induction fuel with
  | zero => intro j _ h; omega
  | succ fuel ih =>
    intro j hj hf
    have hat : at_ < m.length := by omega
    rw [spec_CheapestWay_l3, idx_nthM hat]
    simp only [bs]
    rw [idx_En g hat (show j < n by omega)]
    simp only [bs]
    by_cases e : NextV m n b s at_ left j
    · refine ⟨j, Nat.le_refl _, hj, e, fun i h1 h2 => by omega, ?_⟩
      have := plus_ok g hn (b := b) (s := s) (at_ := at_) (k := j) (by omega) ha (by omega)
      rw [show (En m at_ j == 1000000000) = false by simp [e.1], ck_in (by omega) (by omega), show ((s + 1 : Nat) : Int) - 1 = (s : Int) by omega]
      simp only [cF, bs]
      rw [exAll_idx g hn (show s < n by omega)]
      simp only [bs]
      rw [idx_nth (show j < (exL m n b s).length by rw [exL_len hn]; omega)]
      simp only [bs]
      rw [nuPlus_eq this.1 this.2, exAll_idx g hn (show s + 1 < n by omega)]
      simp only [bs]
      rw [idx_nth (show at_ < (exL m n b (s + 1)).length by rw [exL_len hn]; omega), hleft]
      simp only [bs]
      rw [e.2, show (left != left) = false by simp]
      rfl
    · have hne : j ≠ k0 := fun h => e (h ▸ h0)
      obtain ⟨k, k1, k2, k3, k4, k5⟩ := ih (j + 1) (by omega) (by omega)
      have hle : ∀ i, j ≤ i → i < k → ¬ NextV m n b s at_ left i := fun i h1 h2 => by
        by_cases h : i = j
        · rw [h]; exact e
        · exact k4 i (by omega) h2
      refine ⟨k, by omega, k2, k3, hle, ?_⟩
      rw [show ((j : Int) + 1) = ((j + 1 : Nat) : Int) by omega]
      by_cases hI : En m at_ j = 1000000000
      · rw [show (En m at_ j == 1000000000) = true by simp [hI]]
        simp only [cT, bs]
        rw [ck_in (by omega) (by omega)]
        simp only [bs]
        exact k5
      · have := plus_ok g hn (b := b) (s := s) (at_ := at_) (k := j) (by omega) ha (by omega)
        rw [show (En m at_ j == 1000000000) = false by simp [hI], ck_in (n := ((s + 1 : Nat) : Int) - 1) (by omega) (by omega), show ((s + 1 : Nat) : Int) - 1 = (s : Int) by omega]
        simp only [cF, bs]
        rw [exAll_idx g hn (show s < n by omega)]
        simp only [bs]
        rw [idx_nth (show j < (exL m n b s).length by rw [exL_len hn]; omega)]
        simp only [bs]
        rw [nuPlus_eq this.1 this.2, exAll_idx g hn (show s + 1 < n by omega)]
        simp only [bs]
        rw [idx_nth (show at_ < (exL m n b (s + 1)).length by rw [exL_len hn]; omega), hleft]
        simp only [bs]
        rw [show (plus (En m at_ j) (nth (exL m n b s) j) != left) = true by simp; exact fun h => e ⟨hI, h⟩]
        simp only [cT, bs]
        rw [ck_in (by omega) (by omega)]
        simp only [bs]
        exact k5
omit hn in
theorem next_keep {b s at_ : Nat} {left : Int} (ex : List (List Int)) (q : List (List Int)) : ∀ (j k : Nat), impl_CheapestWay_l2 m ex left ((s + 1 : Nat) : Int) (at_ : Int) q j (k : Int) = some (k : Int) := by
  induction q with
  | nil => intro j k; rfl
  | cons x q ih =>
    intro j k
    rw [impl_CheapestWay_l2, decide_eq_false (show ¬ (k : Int) < 0 by omega)]
    simp only [cF, bs]
    exact ih (j + 1) k
theorem next_impl {b s at_ k : Nat} {left : Int} (hs : s + 1 < n) (ha : at_ < n) (hk : k < n) (h0 : NextV m n b s at_ left k) (q : List (List Int)) : ∀ j, j + q.length = n → j ≤ k → (∀ i, j ≤ i → i < k → ¬ NextV m n b s at_ left i) →
    impl_CheapestWay_l2 m (exAll m n b (n + 1)) left ((s + 1 : Nat) : Int) (at_ : Int) q j (-1) = some (k : Int) := by
  have h6 := g.chi
  induction q with
  | nil => intro j hj hjk _; simp at hj; omega
  | cons x q ih =>
    intro j hj hjk hle
    simp only [List.length_cons] at hj
    have hat : at_ < m.length := by omega
    rw [impl_CheapestWay_l2, decide_eq_true (show (-1 : Int) < 0 by omega), idx_nthM hat]
    simp only [cT, bs]
    rw [idx_En g hat (show j < n by omega)]
    simp only [bs]
    have := plus_ok g hn (b := b) (s := s) (at_ := at_) (k := j) (by omega) ha (by omega)
    by_cases hI : En m at_ j = 1000000000
    · rw [show (En m at_ j != 1000000000) = false by simp [hI]]
      simp only [cF, bs]
      have hne : j ≠ k := fun h => h0.1 (h ▸ hI)
      exact ih (j + 1) (by omega) (by omega) (fun i h1 h2 => hle i (by omega) h2)
    · rw [show (En m at_ j != 1000000000) = true by simp [hI], ck_in (n := ((s + 1 : Nat) : Int) - 1) (by omega) (by omega), show ((s + 1 : Nat) : Int) - 1 = (s : Int) by omega]
      simp only [cT, bs]
      rw [exAll_idx g hn (show s < n + 1 by omega)]
      simp only [bs]
      rw [idx_nth (show j < (exL m n b s).length by rw [exL_len hn]; omega)]
      simp only [bs]
      rw [product_eq this.1 this.2]
      simp only [bs]
      by_cases e : plus (En m at_ j) (nth (exL m n b s) j) = left
      · rw [show (plus (En m at_ j) (nth (exL m n b s) j) == left) = true by simp [e]]
        simp only [cT]
        have : j = k := by
          by_cases h : j = k
          · exact h
          · exact absurd ⟨hI, e⟩ (hle j (Nat.le_refl _) (by omega))
        subst this
        exact next_keep g (b := b) _ q (j + 1) j
      · rw [show (plus (En m at_ j) (nth (exL m n b s) j) == left) = false by simp [e]]
        simp only [cF]
        have hne : j ≠ k := fun h => e (h ▸ h0.2)
        exact ih (j + 1) (by omega) (by omega) (fun i h1 h2 => hle i (by omega) h2)
theorem walk_both {b : Nat} : ∀ (s fuel fuel2 at_ : Nat) (l0 : List Int) (left : Int), s < n → s < fuel → s < fuel2 → at_ < n → l0.length + s < 1000 → nth (exL m n b s) at_ = left → left ≠ 1000000000 →
    ∃ r, spec_CheapestWay_l2 m (exAll m n b n) fuel (l0 ++ [(at_ : Int)]) (s : Int) (at_ : Int) = some r ∧ impl_CheapestWay_l1 m (exAll m n b (n + 1)) fuel2 (l0 ++ [(at_ : Int)]) left (s : Int) = some r ∧ r.length ≤ l0.length + 1 + s := by
  have h6 := g.chi
  intro s
  induction s with
  | zero =>
    intro fuel fuel2 at_ l0 left _ hf hf2 _ _ _ _
    obtain ⟨fuel, rfl⟩ : ∃ k', fuel = k' + 1 := ⟨fuel - 1, by omega⟩
    obtain ⟨fuel2, rfl⟩ : ∃ k', fuel2 = k' + 1 := ⟨fuel2 - 1, by omega⟩
    rw [spec_CheapestWay_l2, impl_CheapestWay_l1, decide_eq_false (by omega)]
    exact ⟨_, rfl, rfl, by simp⟩
  | succ s ih =>
    intro fuel fuel2 at_ l0 left hs hf hf2 hat hl hleft hfin
    obtain ⟨fuel, rfl⟩ : ∃ k', fuel = k' + 1 := ⟨fuel - 1, by omega⟩
    obtain ⟨fuel2, rfl⟩ : ∃ k', fuel2 = k' + 1 := ⟨fuel2 - 1, by omega⟩
    have hatm : at_ < m.length := by omega
    -- there is a next vertex
    have hrow : (nthM m at_).length = n := g.row _ (nthM_mem hatm)
    have hex : ∃ k0, k0 < n ∧ NextV m n b s at_ left k0 := by
      have h := exL_at g hn b s at_ hat
      rcases dotF_or (exL m n b s) (nthM m at_) 0 1000000000 with h1 | ⟨k0, h1, h2⟩
      · rw [h1, hleft] at h; exact absurd h hfin
      · rw [h2, Nat.zero_add, hleft] at h
        refine ⟨k0, by omega, fun hI => hfin ?_, h.symm⟩
        rw [h]
        show plus (En m at_ k0) _ = _
        rw [hI]
        unfold plus
        rw [if_pos (.inl rfl)]
    obtain ⟨k0, hk0, hn0⟩ := hex
    obtain ⟨k, k1, k2, k3, k4, k5⟩ := next_find g hn (b := b) (s := s) hs hat hleft hk0 hn0 4000000 0 (by omega) (by omega)
    have hk : k < n := by omega
    rw [Int.natCast_zero] at k5
    have i1 := next_impl g hn (b := b) (s := s) hs hat hk k3 m 0 (by omega) (by omega) k4
    have hE := (num_iff _).1 (En_num g (i := at_) (k := k) hatm hk)
    have hw := exL_wi g hn b s k hk
    have hEn := k3.1
    have hp := k3.2
    unfold plus at hp
    have hexk : nth (exL m n b s) k ≠ 1000000000 := fun h => by
      rw [if_pos (.inr h)] at hp
      exact hfin hp.symm
    rw [if_neg (by rintro (h | h) <;> contradiction)] at hp
    unfold wi at hw
    rw [spec_CheapestWay_l2, impl_CheapestWay_l1, decide_eq_true (by omega), k5]
    simp only [cT, bs]
    rw [app_lt (by simp; omega), ck_in (n := ((s + 1 : Nat) : Int) - 1) (by omega) (by omega), show ((s + 1 : Nat) : Int) - 1 = (s : Int) by omega]
    simp only [bs]
    have hlast : ck (((l0 ++ [(at_ : Int)]).length : Int) - 1) = some (l0.length : Int) := by
      rw [show ((l0 ++ [(at_ : Int)]).length : Int) - 1 = (l0.length : Int) by simp]
      exact ck_in (by omega) (by omega)
    rw [hlast]
    simp only [bs]
    have hidx : idx (l0 ++ [(at_ : Int)]) (l0.length : Int) = some (at_ : Int) := by rw [idx_nat]; simp
    rw [hidx]
    simp only [bs]
    rw [i1]
    simp only [bs]
    rw [idx_nthM hatm]
    simp only [bs]
    rw [idx_En g hatm hk]
    simp only [bs]
    rw [ck_in (n := left - En m at_ k) (by omega) (by omega), app_lt (by simp; omega)]
    simp only [bs]
    obtain ⟨r, r1, r2, r3⟩ := ih fuel fuel2 k (l0 ++ [(at_ : Int)]) (left - En m at_ k) (by omega) (by omega) (by omega) hk (by simp; omega) (by omega) (by omega)
    exact ⟨r, r1, r2, by simp at r3; omega⟩
end
theorem CheapestWay_both (m : List (List Int)) (p q : Int) : ∃ r, spec_CheapestWay_m m p q = some r ∧ impl_CheapestWay_m m p q = some r ∧ Small r.1 := by
  unfold spec_CheapestWay_m impl_CheapestWay_m
  rw [mxSquare_eq, isSquare_eq]
  simp only [bs]
  cases hs : sqr m
  · exact ⟨([], false), rfl, rfl, small_nil⟩
  have g := sqr_good hs
  have hlo := g.lo; have hhi := g.hi
  rw [ck_in (by omega) (by omega), areVertices_eq m (by omega)]
  simp only [bs, Bool.not_true, cF, l1In_eq]
  have e : [p, q].all (isV m) = (inR p 0 ((m.length : Int) - 1) && inR q 0 ((m.length : Int) - 1)) := by simp [isV]
  rw [e]
  cases hp : inR p 0 ((m.length : Int) - 1)
  · exact ⟨([], false), rfl, rfl, small_nil⟩
  cases hq : inR q 0 ((m.length : Int) - 1)
  · exact ⟨([], false), rfl, rfl, small_nil⟩
  have hp := (inR_iff _ _ _).1 hp
  have hq := (inR_iff _ _ _).1 hq
  obtain ⟨a, rfl⟩ := Int.eq_ofNat_of_zero_le hp.1
  obtain ⟨b, rfl⟩ := Int.eq_ofNat_of_zero_le hq.1
  have ha : a < m.length := by omega
  have hb : b < m.length := by omega
  obtain ⟨c, ok, d, h1, h2, h3, h4⟩ := ways_both g
  obtain ⟨c', ok', h1', h5⟩ := ways_set g rfl
  rw [h1] at h1'
  simp only [Option.some.injEq, Prod.mk.injEq] at h1'
  obtain ⟨rfl, rfl⟩ := h1'
  simp only [Bool.and_self, Bool.not_true, cF, bs]
  rw [h1, h2]
  simp only [bs]
  cases ok
  · exact ⟨([], false), rfl, rfl, small_nil⟩
  obtain ⟨hcd, sh⟩ := h3 rfl
  subst hcd
  obtain ⟨hset, haft⟩ := h5 rfl
  have hrow : (nthM c a).length = m.length := sh.nth_len ha
  simp only [Bool.not_true, cF]
  rw [sh.idx ha]
  simp only [bs]
  rw [idx_nth (show b < (nthM c a).length by omega)]
  simp only [bs]
  by_cases hI : nth (nthM c a) b = 1000000000
  · rw [show (nth (nthM c a) b == 1000000000) = true by simp [hI]]
    exact ⟨([], false), rfl, rfl, small_nil⟩
  rw [show (nth (nthM c a) b == 1000000000) = false by simp [hI]]
  have hx : cs m.length (A m.length m) m.length a b = some (nth (nthM c a) b) := by
    rw [← haft.eq a b ha hb, A_in ha hb]
    unfold conv En
    rw [if_neg hI]
  obtain ⟨t, t1, t2⟩ := ex_hit g rfl hset ha hb hx
  obtain ⟨s, s1, s2, s3, s4⟩ := steps_find g rfl (ok := true) ha hb haft rfl t1 t2 4000000 0 (by omega) (by omega)
  rw [Int.natCast_zero] at s3
  rw [List.drop_zero] at s4
  simp only [cF, bs]
  rw [wyExact_eq g rfl b, byStep_eq g rfl hb]
  simp only [bs]
  rw [s3]
  unfold slices_IndexFunc_int_int_impl_CheapestWay_1_m
  have s4' : slices_IndexFunc_int_int_impl_CheapestWay_1_l1 (a : Int) (nth (nthM c a) b) (exAll m m.length b (m.length + 1)) 0 = some (Sum.inl (s : Int)) := s4
  rw [s4']
  simp only [bs, elLw]
  obtain ⟨r, r1, r2, r3⟩ := walk_both g rfl (b := b) s 4000000 4000000 a [] (nth (nthM c a) b) (by omega) (by omega) (by omega) ha (by simp; omega) s2 hI
  rw [List.nil_append] at r1 r2
  rw [r1, r2]
  exact ⟨(r, true), rfl, rfl, by unfold Small; simp at r3 ⊢; omega⟩
end Go.Proofs.Ytjhaealoneennaa
