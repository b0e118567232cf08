/- Plain laws: a number taken from every arc; circuits below it; the least costs of ways to given ends, relaxed in place. -/
import Derived.Test.YtjhaealoneennaaEigM
import Derived.Test.YtjhaealoneennaaPMean
import Derived.Test.YtjhaealoneennaaPFwC
import Derived.Test.YtjhaealoneennaaPWk
namespace Go.Proofs.Ytjhaealoneennaa
set_option linter.unusedVariables false
set_option linter.unusedSimpArgs false
set_option linter.unusedSectionVars false

/-! ### The matrix less a number on every arc -/
def lesm (m : List (List Int)) (n : Nat) (p : Int) : Mt := fun i k => if i < n ∧ k < n then (if En m i k = 1000000000 then none else some (En m i k - p)) else none
def lesL (m : List (List Int)) (p : Int) : List (List Int) := m.map fun r => r.map fun z => plus z (-p)
theorem nthM_map {m : List (List Int)} {f : List Int → List Int} {i : Nat} (h : i < m.length) : nthM (m.map f) i = f (nthM m i) := by simp [nthM, h]
theorem nth_map {l : List Int} {f : Int → Int} {i : Nat} (h : i < l.length) : nth (l.map f) i = f (nth l i) := by simp [nth, h]
theorem lesm_some {m : List (List Int)} {n : Nat} {p : Int} {i k : Nat} {x : Int} (h : lesm m n p i k = some x) : i < n ∧ k < n ∧ En m i k ≠ 1000000000 ∧ x = En m i k - p := by
  unfold lesm at h
  split at h
  · rename_i h1
    split at h
    · cases h
    · rename_i h2
      exact ⟨h1.1, h1.2, h2, by simpa using h.symm⟩
  · cases h
def ints (l : List Nat) : List Int := l.map fun (x : Nat) => (x : Int)
def NC (m : List (List Int)) (n : Nat) (p : Int) : Prop := ∀ a ∈ allC m n, 0 ≤ ccost m a - p * a.length
theorem nth_left {l t : List Int} {i : Nat} (h : i < l.length) : nth (l ++ t) i = nth l i := by
  unfold nth; rw [List.getD_eq_getElem?_getD, List.getD_eq_getElem?_getD, List.getElem?_append_left h]
theorem nth_mid {l t : List Int} {x : Int} : nth (l ++ x :: t) l.length = x := by unfold nth; simp
theorem circs_in {m : List (List Int)} {n : Nat} : ∀ (t : List Int) (r : Nat) (l : List Int), 0 < l.length → Beg m n (l ++ t) → arc m (lst (l ++ t)) (nth (l ++ t) 0) ≠ 1000000000 → t.length < r → l ++ t ∈ circs m n r l
  | t, 0, l, _, _, _, hr => by omega
  | [], r + 1, l, h0, hb, ha, hr => by
    rw [List.append_nil] at *
    rw [circs, if_neg ha]
    simp
  | x :: t, r + 1, l, h0, hb, ha, hr => by
    have hlen : (l ++ x :: t).length = l.length + (t.length + 1) := by simp
    have e0 : nth (l ++ x :: t) 0 = nth l 0 := nth_left h0
    have ex : nth (l ++ x :: t) l.length = x := nth_mid
    have hx := hb.node x (by simp)
    have hup := hb.up l.length h0 (by omega)
    have har := hb.arcs (l.length - 1) (by omega)
    rw [show l.length - 1 + 1 = l.length by omega, ex, nth_left (by omega)] at har
    rw [ex, e0] at hup
    have h00 := hb.head
    rw [e0] at h00
    obtain ⟨k, hk⟩ := Int.eq_ofNat_of_zero_le hx.1
    subst hk
    have hc : l.contains (k : Int) = false := by
      cases hq : l.contains (k : Int) with
      | false => rfl
      | true =>
        have hm : (k : Int) ∈ l := by simpa using hq
        exact absurd rfl ((List.nodup_append.1 hb.apart).2.2 _ hm (k : Int) (by simp))
    have e : l ++ (k : Int) :: t = (l ++ [(k : Int)]) ++ t := by simp
    have ih := circs_in t r (l ++ [(k : Int)]) (by simp) (by rw [← e]; exact hb) (by rw [← e]; exact ha) (by simp at hr; omega)
    rw [circs, List.mem_append]
    right
    rw [List.mem_flatMap]
    refine ⟨k, List.mem_range'_1.2 ⟨by omega, by omega⟩, ?_⟩
    rw [if_neg (by rw [hc]; simp; exact har), e]
    exact ih
theorem sc_cons (m : List (List Int)) (x : Int) (L : List Int) : ∀ j, sc m (x :: L) (j + 1) = arc m x (nth L 0) + sc m L j
  | 0 => by simp [sc, nth]
  | j + 1 => by
    rw [sc, sc_cons m x L j, sc, show nth (x :: L) (j + 1) = nth L j by simp [nth], show nth (x :: L) (j + 1 + 1) = nth L (j + 1) by simp [nth]]
    omega
theorem wk_sc {m : List (List Int)} {n : Nat} {p : Int} : ∀ (l : List Nat) (i : Nat), i < n → (∀ v ∈ l, v < n) → (∀ j, j < l.length → arc m (nth (ints (i :: l)) j) (nth (ints (i :: l)) (j + 1)) ≠ 1000000000) →
    wk (lesm m n p) i l = some (sc m (ints (i :: l)) l.length - p * l.length)
  | [], i, _, _, _ => by simp [wk, sc]
  | k :: l, i, hi, hv, h => by
    have hk := hv k List.mem_cons_self
    have h0 : En m i k ≠ 1000000000 := by
      have := h 0 (by simp)
      simpa [ints, nth, arc] using this
    have ih := wk_sc (p := p) l k hk (fun v h => hv v (List.mem_cons_of_mem _ h)) (fun j hj => by
      have := h (j + 1) (by simpa using hj)
      simpa [ints, nth] using this)
    have hS : lesm m n p i k = some (En m i k - p) := by unfold lesm; rw [if_pos ⟨hi, hk⟩, if_neg h0]
    rw [wk, hS, ih]
    simp only [padd, Option.some.injEq]
    have e : ints (i :: k :: l) = (i : Int) :: ints (k :: l) := rfl
    rw [e, List.length_cons, sc_cons]
    have e2 : arc m (i : Int) (nth (ints (k :: l)) 0) = En m i k := by simp [ints, nth, arc]
    rw [e2]
    push_cast
    rw [Int.mul_add, Int.mul_one]
    omega
theorem wk_arcs {m : List (List Int)} {n : Nat} {p : Int} : ∀ (l : List Nat) (i : Nat) (x : Int), wk (lesm m n p) i l = some x → ∀ j, j < l.length → arc m (nth (ints (i :: l)) j) (nth (ints (i :: l)) (j + 1)) ≠ 1000000000
  | [], i, x, _, j, hj => by simp at hj
  | k :: l, i, x, h, j, hj => by
    rw [wk] at h
    obtain ⟨y, z, h1, h2, _⟩ := padd_some h
    obtain ⟨_, _, h3, _⟩ := lesm_some h1
    cases j with
    | zero => simpa [ints, nth, arc] using h3
    | succ j =>
      have := wk_arcs l k z h2 j (by simpa using hj)
      simpa [ints, nth] using this
theorem wk_ge {m : List (List Int)} {n : Nat} {p : Int} (g : Good m n) (hn : m.length = n) (hp : fin p = true) : ∀ (l : List Nat) (i : Nat) (x : Int), wk (lesm m n p) i l = some x → -((l.length : Int) * 2000000) ≤ x
  | [], i, x, h => by simp [wk] at h; omega
  | k :: l, i, x, h => by
    rw [wk] at h
    obtain ⟨y, z, h1, h2, h3⟩ := padd_some h
    obtain ⟨hi, hk, _, h5⟩ := lesm_some h1
    have := wk_ge g hn hp l k z h2
    have := (num_iff _).1 (En_num g (i := i) (k := k) (by omega) hk)
    have := (fin_iff p).1 hp
    rw [List.length_cons]; push_cast
    omega
section
variable {m : List (List Int)} {n : Nat} (g : Good m n) (hn : m.length = n) {p : Int} (hp : fin p = true)
include g hn hp
theorem les_hc (nc : NC m n p) (i : Nat) (l : List Nat) (x : Int) (hi : i < n) (hd : (l ++ [i]).Nodup) (hv : ∀ v ∈ l, i < v ∧ v < n) (hw : wk (lesm m n p) i (l ++ [i]) = some x) : 0 ≤ x := by
  have h6 := g.chi
  have harcs := wk_arcs _ _ _ hw
  have hva : ∀ v ∈ l ++ [i], v < n := fun v h => by
    rcases List.mem_append.1 h with h | h
    · exact (hv v h).2
    · simp at h; omega
  have hval := wk_sc (p := p) (l ++ [i]) i hi hva harcs
  rw [hw] at hval
  have hval := Option.some.inj hval
  have hnd := List.nodup_append.1 hd
  have hli : i ∉ l := fun h => hnd.2.2 i h i (by simp) rfl
  have hlen : (ints (i :: l)).length = l.length + 1 := by simp [ints]
  have ea : ints (i :: (l ++ [i])) = ints (i :: l) ++ [(i : Int)] := by simp [ints]
  rw [ea] at harcs hval
  have hb : Beg m n (ints (i :: l)) := ⟨by omega, fun x hx => by
      simp only [ints, List.mem_map] at hx
      obtain ⟨v, hv', rfl⟩ := hx
      have : v < n := by
        rcases List.mem_cons.1 hv' with e | e
        · omega
        · exact (hv v e).2
      omega, fun j hj => by
      have := harcs j (by simp; omega)
      rwa [nth_app_lt (by omega), nth_app_lt hj] at this, fun j h0 hj => by
      obtain ⟨j, rfl⟩ : ∃ j', j = j' + 1 := ⟨j - 1, by omega⟩
      have hj' : j < l.length := by omega
      have e1 : nth (ints (i :: l)) 0 = (i : Int) := by simp [ints, nth]
      have e2 : nth (ints (i :: l)) (j + 1) = ((l[j] : Nat) : Int) := by simp [ints, nth, hj']
      rw [e1, e2]
      have := (hv (l[j]) (List.getElem_mem hj')).1
      omega, by
      have hnn : (i :: l).Nodup := List.nodup_cons.2 ⟨hli, hnd.1⟩
      unfold ints List.Nodup
      rw [List.pairwise_map]
      exact List.Pairwise.imp (fun {a b} h e => h (Int.ofNat_inj.1 e)) hnn⟩
  have h0 : nth (ints (i :: l)) 0 = (i : Int) := by simp [ints, nth]
  have hclose : arc m (lst (ints (i :: l))) (nth (ints (i :: l)) 0) ≠ 1000000000 := by
    have := harcs l.length (by simp)
    rw [nth_app_lt (by omega), show l.length + 1 = (ints (i :: l)).length by omega, nth_app_eq] at this
    unfold lst
    rw [h0, show (ints (i :: l)).length - 1 = l.length by omega]
    exact this
  have hmem : ints (i :: l) ∈ allC m n := by
    have hln : l.length + 1 ≤ n := by
      have := nodup_len n (l ++ [i]) hd hva
      simpa using this
    have := circs_in (m := m) (n := n) (ints l) n [(i : Int)] (by simp) hb hclose (by simp [ints]; omega)
    simp only [allC, List.mem_flatMap]
    exact ⟨i, List.mem_range'_1.2 ⟨by omega, by omega⟩, this⟩
  have hnc := nc _ hmem
  rw [(ccost_fin g hn hb hclose (by
    have := (allC_mem hmem).2.2.2
    omega)).1, hlen] at hnc
  rw [List.length_append, List.length_singleton] at hval
  have e3 := sc_last m (l := ints (i :: l)) (by omega) (i : Int)
  rw [hlen] at e3
  rw [e3, ← h0] at hval
  rw [h0] at hval hnc
  rw [show l.length + 1 - 1 = l.length by omega] at hval hnc
  omega
theorem circ_wk {a : List Int} (ha : a ∈ allC m n) : ∃ i l, i < n ∧ (∀ v ∈ l, v < n) ∧ las i l = i ∧ wk (lesm m n p) i l = some (ccost m a - p * a.length) := by
  have h6 := g.chi
  obtain ⟨hb, hclose, h1, h2⟩ := allC_mem ha
  cases a with
  | nil => simp at h1
  | cons x t =>
    have hx := hb.node x List.mem_cons_self
    have ht : ints (t.map Int.toNat) = t := by
      unfold ints
      rw [List.map_map]
      conv => rhs; rw [← List.map_id t]
      refine List.map_congr_left fun y hy => ?_
      have := hb.node y (List.mem_cons_of_mem _ hy)
      simp; omega
    obtain ⟨i, rfl⟩ := Int.eq_ofNat_of_zero_le hx.1
    have ea : ints (i :: (t.map Int.toNat ++ [i])) = (i : Int) :: t ++ [(i : Int)] := by
      rw [← ht]; simp [ints]
    have hv : ∀ v ∈ t.map Int.toNat ++ [i], v < n := fun v h => by
      rcases List.mem_append.1 h with h | h
      · obtain ⟨y, hy, rfl⟩ := List.mem_map.1 h
        have := hb.node y (List.mem_cons_of_mem _ hy)
        omega
      · simp at h; omega
    refine ⟨i, t.map Int.toNat ++ [i], by omega, hv, by rw [las_append]; rfl, ?_⟩
    rw [wk_sc (t.map Int.toNat ++ [i]) i (by omega) hv (fun j hj => by
      rw [ea]
      simp only [List.length_append, List.length_map, List.length_singleton] at hj
      by_cases e : j = t.length
      · subst e
        have e1 : nth ((i : Int) :: t ++ [(i : Int)]) (t.length + 1) = (i : Int) := nth_app_eq (l := (i : Int) :: t)
        rw [nth_app_lt (by simp), e1]
        have hc := hclose
        unfold lst at hc
        simpa [nth] using hc
      · rw [nth_app_lt (by simp; omega), nth_app_lt (by simp; omega)]
        exact hb.arcs j (by simp; omega)), ea, List.length_append, List.length_map, List.length_singleton]
    have e3 := sc_last m (l := (i : Int) :: t) (by simp) (i : Int)
    rw [List.length_cons] at e3
    rw [e3, (ccost_fin g hn hb hclose (by simp at h2; simp; omega)).1]
    simp [nth]
theorem shorter_l1_eq (q : List (List Int)) : ∀ j l, l.length + q.length < 1000000 → (∀ r ∈ q, r ∈ m) → impl_shorter_l1 p q j l = some (l ++ q.map fun r => r.map fun z => plus z (-p)) := by
  have h6 := g.chi
  have hp' := (fin_iff p).1 hp
  have hnp : num (-p) = true := (num_iff _).2 (by omega)
  induction q with
  | nil => intro j l _ _; simp [impl_shorter_l1]
  | cons x q ih =>
    intro j l hl hq
    simp only [List.length_cons] at hl
    have hx := hq x List.mem_cons_self
    rw [impl_shorter_l1, ck_in (by omega) (by omega)]
    simp only [bs]
    rw [shifted_num (-p) hnp (by rw [g.row x hx]; omega) (g.nums x hx)]
    simp only [bs]
    rw [app_lt (by omega)]
    simp only [bs]
    rw [ih _ _ (by simp; omega) (fun r h => hq r (List.mem_cons_of_mem _ h))]
    simp
theorem shorter_eq : impl_shorter_m m p = some (lesL m p) := by
  have h6 := g.chi
  unfold impl_shorter_m
  rw [shorter_l1_eq g hn hp m 0 [] (by simp; omega) (fun r h => h)]
  rfl
theorem lesL_shape : Shape (lesL m p) n n := ⟨by simp [lesL, hn], fun l hl => by
  simp only [lesL, List.mem_map] at hl
  obtain ⟨r, hr, rfl⟩ := hl
  simpa using g.row r hr⟩
theorem lesL_En {i k : Nat} (hi : i < n) (hk : k < n) : En (lesL m p) i k = if En m i k = 1000000000 then 1000000000 else En m i k - p := by
  have sh : Shape m n n := ⟨hn, g.row⟩
  have hp' := (fin_iff p).1 hp
  unfold En lesL
  rw [nthM_map (by omega), nth_map (by rw [sh.nth_len hi]; exact hk)]
  unfold plus
  by_cases e : nth (nthM m i) k = 1000000000
  · rw [if_pos (.inl e), if_pos e]
  · rw [if_neg (by omega), if_neg e]; omega
theorem lesL_wi : ∀ a b, a < n → b < n → wi (-2000000) 2000000 (En (lesL m p) a b) := fun i k hi hk => by
  rw [lesL_En g hn hp hi hk]
  have := (num_iff _).1 (En_num g (i := i) (k := k) (by omega) hk)
  have hp' := (fin_iff p).1 hp
  split
  · left; rfl
  · right; omega
theorem lesL_A : A n (lesL m p) = lesm m n p := by
  funext i k
  unfold A lesm
  by_cases h : i < n ∧ k < n
  · rw [if_pos h, if_pos h, lesL_En g hn hp h.1 h.2]
    have := (num_iff _).1 (En_num g (i := i) (k := k) (by omega) h.2)
    have hp' := (fin_iff p).1 hp
    split
    · rfl
    · unfold conv; rw [if_neg (by omega)]
  · rw [if_neg h, if_neg h]
theorem les_settled (nc : NC m n p) : (∀ i k, i < n → k < n → cs n (lesm m n p) (n + 1) i k = cs n (lesm m n p) n i k) ∧ Closed_ n (cs n (lesm m n p) n) ∧ ∀ i, i < n → cs n (lesm m n p) n i i = some 0 :=
  settled (n := n) (m := lesm m n p) (fun i k h => by unfold lesm; rw [if_neg h]) (les_hc g hn hp nc)
/-- The program's way costs of the shorter matrix. -/
theorem wc_less : (NC m n p ∧ ∃ d, impl_wayCosts_m (lesL m p) = some (d, true) ∧ Shape d n n ∧ ∀ i k, i < n → k < n → conv (En d i k) = cs n (lesm m n p) n i k) ∨ (¬ NC m n p ∧ impl_wayCosts_m (lesL m p) = some ([], false)) := by
  obtain ⟨d, d1, d2, ⟨d0, e1, e2, e3⟩, d3⟩ := wayCosts_gen (lesL_shape g hn hp) g.chi (lesL_wi g hn hp)
  rw [lesL_A g hn hp] at e2 e3
  have hdi : ∀ i k, i < n → k < n → conv (En d i k) = fwF n n 0 d0 i k := fun i k hi hk => by rw [← A_in hi hk, e1]
  have hzero : ∀ z : Int, ple (some 0) (conv z) → 0 ≤ z := fun z h => by
    unfold conv at h
    split at h
    · omega
    · exact h
  by_cases nc : NC m n p
  · left
    have st := les_settled g hn hp nc
    have hpos := (fw_bf e2 e3).2 st.1
    refine ⟨nc, ?_⟩
    rcases d3 with ⟨_, h2⟩ | ⟨⟨i, hi, h1⟩, _⟩
    · exact ⟨d, h2, d1, fun i k hi hk => by rw [hdi i k hi hk, ((fw_bf e2 e3).1 hpos i k hi hk).1]⟩
    · have := hpos i hi
      rw [← hdi i i hi hi] at this
      have := hzero _ this
      omega
  · right
    refine ⟨nc, ?_⟩
    rcases d3 with ⟨h1, _⟩ | ⟨_, h2⟩
    · refine absurd (fun a ha => ?_) nc
      have hpos : ∀ i, i < n → ple (some 0) (fwF n n 0 d0 i i) := fun i hi => by
        rw [← hdi i i hi hi]
        unfold conv
        split
        · trivial
        · exact h1 i hi
      obtain ⟨c1, c2, c3⟩ := fw_closed e2 hpos
      obtain ⟨i, l, hi, hv, hl, hw⟩ := circ_wk g hn hp ha
      have := closed_wk c1 c2 c3 l i hi hv
      rw [hl, hw] at this
      exact ple_trans (hpos i hi) this
    · exact h2
end

/-! ### Ways to given ends, relaxed in place -/
theorem inf_none_or (f : Nat → Ex) (q : List Nat) : inf f q none = none ∨ ∃ j ∈ q, inf f q none = f j := inf_or f q none
/-- The least cost of a way from i to an end. -/
def tgt (S : Mt) (n : Nat) (w : List Int) (i : Nat) : Ex := inf (fun k => padd (cs n S n i k) (conv (nth w k))) (List.range n) none
theorem conv_none {x : Int} : conv x = none ↔ x = 1000000000 := by
  unfold conv
  by_cases h : x = 1000000000 <;> simp [h]
theorem conv_some {x : Int} (h : x ≠ 1000000000) : conv x = some x := by unfold conv; rw [if_neg h]
theorem conv_some_iff {x z : Int} : conv x = some z ↔ x ≠ 1000000000 ∧ x = z := by
  unfold conv
  by_cases h : x = 1000000000 <;> simp [h]
section
variable {m : List (List Int)} {n : Nat} (g : Good m n) (hn : m.length = n) {p : Int} (hp : fin p = true) (nc : NC m n p) {w : List Int} (hw : w.length = n) (hw0 : ∀ k, k < n → nth w k = 1000000000 ∨ nth w k = 0)
include g hn hp nc hw hw0
theorem tgt_le {i k : Nat} (hk : k < n) : ple (tgt (lesm m n p) n w i) (padd (cs n (lesm m n p) n i k) (conv (nth w k))) :=
  inf_le (fun k => padd (cs n (lesm m n p) n i k) (conv (nth w k))) (List.range n) none k (List.mem_range.2 hk)
theorem cs_le_S {i k : Nat} (hi : i < n) (hk : k < n) : ple (cs n (lesm m n p) n i k) (lesm m n p i k) := by
  obtain ⟨s1, s2, s3⟩ := les_settled g hn hp nc
  have := cs_st (n := n) (m := lesm m n p) n i k i hi
  rw [s1 i k hi hk, s3 i hi, zero_padd] at this
  exact this
theorem tgt_step {i k : Nat} (hi : i < n) (hk : k < n) : ple (tgt (lesm m n p) n w i) (padd (lesm m n p i k) (tgt (lesm m n p) n w k)) := by
  obtain ⟨s1, s2, s3⟩ := les_settled g hn hp nc
  rcases inf_none_or (fun j => padd (cs n (lesm m n p) n k j) (conv (nth w j))) (List.range n) with e | ⟨j, hj, e⟩
  · have e : tgt (lesm m n p) n w k = none := e
    rw [e, padd_none]; exact ple_none _
  · have e : tgt (lesm m n p) n w k = padd (cs n (lesm m n p) n k j) (conv (nth w j)) := e
    have hj := List.mem_range.1 hj
    rw [e, ← padd_assoc]
    exact ple_trans (tgt_le g hn hp nc hw hw0 hj) (padd_mono (ple_trans (s2 i k j hi hk hj) (padd_mono (cs_le_S g hn hp nc hw hw0 hi hk) (ple_refl _))) (ple_refl _))
theorem tgt_start {i : Nat} (hi : i < n) : ple (tgt (lesm m n p) n w i) (conv (nth w i)) := by
  have := tgt_le g hn hp nc hw hw0 (i := i) hi
  rw [(les_settled g hn hp nc).2.2 i hi, zero_padd] at this
  exact this
theorem tgt_at {i : Nat} (hi : i < n) : tgt (lesm m n p) n w i = none ∨ ∃ l, l.length ≤ n ∧ (∀ v ∈ l, v < n) ∧ las i l < n ∧ tgt (lesm m n p) n w i = padd (wk (lesm m n p) i l) (conv (nth w (las i l))) := by
  rcases inf_none_or (fun j => padd (cs n (lesm m n p) n i j) (conv (nth w j))) (List.range n) with e | ⟨j, hj, e⟩
  · exact .inl e
  · have e : tgt (lesm m n p) n w i = padd (cs n (lesm m n p) n i j) (conv (nth w j)) := e
    have hj := List.mem_range.1 hj
    cases hc : cs n (lesm m n p) n i j with
    | none => left; rw [e, hc]; rfl
    | some x =>
      right
      obtain ⟨l, k1, k2, k3, k4⟩ := cs_wk n i j x hj hc
      exact ⟨l, k4, k3, by omega, by rw [e, hc, k1, k2]⟩
theorem tgt_ge {i : Nat} (hi : i < n) {z : Int} (h : tgt (lesm m n p) n w i = some z) : -12000000 ≤ z := by
  have h6 := g.chi
  rcases tgt_at g hn hp nc hw hw0 hi with e | ⟨l, h1, h2, h3, e⟩
  · rw [e] at h; cases h
  · rw [h] at e
    obtain ⟨a, b, ha, hb, hab⟩ := padd_some e.symm
    have := wk_ge g hn hp l i a ha
    have hb := (conv_some_iff.1 hb)
    have := hw0 _ h3
    omega
def fins (R : List Int) (v : Nat) : Bool := decide (nth R v ≠ 1000000000)
structure LowT (m : List (List Int)) (n : Nat) (p : Int) (w R : List Int) : Prop where
  len : R.length = n
  low : ∀ i, i < n → ple (tgt (lesm m n p) n w i) (conv (nth R i))
  hi : ∀ i, i < n → nth R i = 1000000000 ∨ nth R i ≤ 2000000 * (cnt_ (fins R) n : Int)
theorem lowT_bd {R : List Int} (h : LowT m n p w R) {i : Nat} (hi : i < n) : nth R i = 1000000000 ∨ (-12000000 ≤ nth R i ∧ nth R i ≤ 12000000) := by
  have h6 := g.chi
  have h1 := h.hi i hi
  have h2 := cnt_le_n (fins R) n
  have h3 := h.low i hi
  by_cases e : nth R i = 1000000000
  · exact .inl e
  · rw [conv_some e] at h3
    cases ht : tgt (lesm m n p) n w i with
    | none => rw [ht] at h3; exact h3.elim
    | some z =>
      rw [ht] at h3
      have h3 : z ≤ nth R i := h3
      have := tgt_ge g hn hp nc hw hw0 hi ht
      omega
theorem mw_l3 {i : Nat} (hi : i < n) (q : List Int) : ∀ k R, q = (nthM m i).drop k → k + q.length = n → LowT m n p w R →
    ∃ R', spec_mnWays_l3 p i q k R = some R' ∧ LowT m n p w R' ∧ (∀ v, v < n → ple (conv (nth R' v)) (conv (nth R v))) ∧ ∀ v, k ≤ v → v < n → ple (conv (nth R' i)) (padd (lesm m n p i v) (conv (nth R v))) := by
  have sh : Shape m n n := ⟨hn, g.row⟩
  have hp' := (fin_iff p).1 hp
  induction q with
  | nil =>
    intro k R _ hk hL
    simp only [List.length_nil] at hk
    exact ⟨R, rfl, hL, fun v _ => ple_refl _, fun v h1 h2 => by omega⟩
  | cons x q ih =>
    intro k R hq hk hL
    simp only [List.length_cons] at hk
    have hkl : k < (nthM m i).length := by rw [sh.nth_len hi]; omega
    rw [drop_cons hkl] at hq
    have hx : x = En m i k := by injection hq with h; rw [h]; simp [En, nth, hkl]
    have hq : q = (nthM m i).drop (k + 1) := by injection hq
    have hkn : k < n := by omega
    have hen := (num_iff _).1 (En_num g (i := i) (k := k) (by omega) hkn)
    have bk := lowT_bd g hn hp nc hw hw0 hL hkn
    have bi := lowT_bd g hn hp nc hw hw0 hL hi
    have hlen := hL.len
    rw [spec_mnWays_l3, hx, idx_nth (show k < R.length by omega)]
    simp only [bs]
    have skip : (En m i k = 1000000000 ∨ nth R k = 1000000000) → ∃ R', spec_mnWays_l3 p i q (k + 1) R = some R' ∧ LowT m n p w R' ∧ (∀ v, v < n → ple (conv (nth R' v)) (conv (nth R v))) ∧ ∀ v, k ≤ v → v < n → ple (conv (nth R' i)) (padd (lesm m n p i v) (conv (nth R v))) := fun hs => by
      obtain ⟨R', k1, k2, k3, k4⟩ := ih (k + 1) R hq (by omega) hL
      refine ⟨R', k1, k2, k3, fun v h1 h2 => ?_⟩
      by_cases e : v = k
      · subst e
        rcases hs with h | h
        · have : lesm m n p i v = none := by unfold lesm; rw [if_pos ⟨hi, hkn⟩, if_pos h]
          rw [this]; exact ple_none _
        · rw [conv_none.2 h, padd_none]; exact ple_none _
      · exact k4 v (by omega) h2
    by_cases e1 : En m i k = 1000000000
    · rw [show (En m i k != 1000000000) = false by simpa using e1]
      simp only [cF, bs]
      exact skip (.inl e1)
    · rw [show (En m i k != 1000000000) = true by simpa using e1]
      simp only [cT, bs]
      by_cases e2 : nth R k = 1000000000
      · rw [show (nth R k != 1000000000) = false by simpa using e2]
        simp only [cF, bs]
        exact skip (.inr e2)
      · rw [show (nth R k != 1000000000) = true by simpa using e2]
        simp only [cT, bs]
        rw [idx_nth (show i < R.length by omega), ck_in (by omega) (by omega)]
        simp only [bs]
        rw [ck_in (by omega) (by omega)]
        simp only [bs, l1Least_eq]
        rw [upd_nat (by omega)]
        simp only [bs]
        have hS : lesm m n p i k = some (En m i k - p) := by unfold lesm; rw [if_pos ⟨hi, hkn⟩, if_neg e1]
        have hT := tgt_step g hn hp nc hw hw0 hi hkn
        have hval : ple (tgt (lesm m n p) n w i) (some (En m i k - p + nth R k)) := by
          have h2 := hL.low k hkn
          rw [conv_some e2] at h2
          have h3 := padd_mono (ple_refl (lesm m n p i k)) h2
          rw [hS] at h3 hT
          exact ple_trans hT h3
        have hfin : min (nth R i) (En m i k - p + nth R k) ≠ 1000000000 := by omega
        have hmono : ∀ v, v < n → ple (conv (nth (R.set i (min (nth R i) (En m i k - p + nth R k))) v)) (conv (nth R v)) := fun v hv => by
          rw [nth_set (by omega)]
          by_cases e : v = i
          · subst e
            rw [if_pos rfl, conv_some hfin]
            unfold conv
            split
            · trivial
            · show min _ _ ≤ _; omega
          · rw [if_neg e]; exact ple_refl _
        have hcnt : cnt_ (fins R) n ≤ cnt_ (fins (R.set i (min (nth R i) (En m i k - p + nth R k)))) n ∧ (nth R i = 1000000000 → cnt_ (fins R) n < cnt_ (fins (R.set i (min (nth R i) (En m i k - p + nth R k)))) n) := by
          have himp : ∀ v, v < n → fins R v = true → fins (R.set i (min (nth R i) (En m i k - p + nth R k))) v = true := fun v hv h => by
            unfold fins at h ⊢
            rw [nth_set (by omega)]
            have h := of_decide_eq_true h
            refine decide_eq_true ?_
            split
            · exact hfin
            · exact h
          refine ⟨cnt_mono n himp, fun h => cnt_lt n himp ⟨i, hi, ?_, ?_⟩⟩
          · unfold fins; simp [h]
          · unfold fins; rw [nth_set (by omega), if_pos rfl]; exact decide_eq_true hfin
        have hL1 : LowT m n p w (R.set i (min (nth R i) (En m i k - p + nth R k))) := ⟨by simpa using hlen, fun v hv => by
          rw [nth_set (by omega)]
          by_cases e : v = i
          · subst e
            rw [if_pos rfl, conv_some hfin]
            by_cases c : nth R v ≤ En m v k - p + nth R k
            · rw [Int.min_eq_left c]
              have := hL.low v hv
              rwa [conv_some (by omega)] at this
            · rw [Int.min_eq_right (by omega)]
              exact hval
          · rw [if_neg e]; exact hL.low v hv, fun v hv => by
          have hk2 := hL.hi k hkn
          have hv2 := hL.hi v hv
          rw [nth_set (by omega)]
          by_cases e : v = i
          · subst e
            rw [if_pos rfl]
            right
            by_cases c : nth R v = 1000000000
            · have := hcnt.2 c
              omega
            · have := hcnt.1
              omega
          · rw [if_neg e]
            have := hcnt.1
            omega⟩
        obtain ⟨R', k1, k2, k3, k4⟩ := ih (k + 1) _ hq (by omega) hL1
        refine ⟨R', k1, k2, fun v hv => ple_trans (k3 v hv) (hmono v hv), fun v h1 h2 => ?_⟩
        by_cases e : v = k
        · subst e
          have := k3 i hi
          rw [nth_set (by omega), if_pos rfl, conv_some hfin] at this
          refine ple_trans this ?_
          rw [hS, conv_some e2]
          show min _ _ ≤ _
          omega
        · exact ple_trans (k4 v (by omega) h2) (padd_mono (ple_refl _) (hmono v h2))
theorem mw_l2 (q : List (List Int)) : ∀ i R, q = m.drop i → i + q.length = n → LowT m n p w R →
    ∃ R', spec_mnWays_l2 p q i R = some R' ∧ LowT m n p w R' ∧ (∀ v, v < n → ple (conv (nth R' v)) (conv (nth R v))) ∧ ∀ u v, i ≤ u → u < n → v < n → ple (conv (nth R' u)) (padd (lesm m n p u v) (conv (nth R v))) := by
  have sh : Shape m n n := ⟨hn, g.row⟩
  induction q with
  | nil =>
    intro i R _ hi hL
    simp only [List.length_nil] at hi
    exact ⟨R, rfl, hL, fun v _ => ple_refl _, fun u v h1 h2 _ => by omega⟩
  | cons x q ih =>
    intro i R hq hi hL
    simp only [List.length_cons] at hi
    have him : i < m.length := by omega
    rw [drop_cons him] at hq
    have hx : x = nthM m i := by injection hq with h; rw [h]; simp [nthM, him]
    have hq : q = m.drop (i + 1) := by injection hq
    obtain ⟨R1, g1, g2, g3, g4⟩ := mw_l3 g hn hp nc hw hw0 (i := i) (by omega) (nthM m i) 0 R rfl (by rw [sh.nth_len (by omega)]; omega) hL
    rw [spec_mnWays_l2, hx, g1]
    simp only [bs]
    obtain ⟨R', e1, e2, e3, e4⟩ := ih (i + 1) R1 hq (by omega) g2
    refine ⟨R', e1, e2, fun v hv => ple_trans (e3 v hv) (g3 v hv), fun u v h1 h2 h3 => ?_⟩
    by_cases e : u = i
    · subst e
      exact ple_trans (e3 u h2) (g4 v (by omega) h3)
    · exact ple_trans (e4 u v (by omega) h2 h3) (padd_mono (ple_refl _) (g3 v h3))
theorem mw_l1 (q : List (List Int)) : ∀ j t R, LowT m n p w R → (∀ i l, i < n → (∀ v ∈ l, v < n) → l.length ≤ t → ple (conv (nth R i)) (padd (wk (lesm m n p) i l) (conv (nth w (las i l))))) →
    ∃ R', spec_mnWays_l1 m p q j R = some R' ∧ LowT m n p w R' ∧ ∀ i l, i < n → (∀ v ∈ l, v < n) → l.length ≤ t + q.length → ple (conv (nth R' i)) (padd (wk (lesm m n p) i l) (conv (nth w (las i l)))) := by
  induction q with
  | nil => intro j t R hL h; exact ⟨R, rfl, hL, h⟩
  | cons x q ih =>
    intro j t R hL h
    obtain ⟨R1, g1, g2, g3, g4⟩ := mw_l2 g hn hp nc hw hw0 m 0 R rfl (by omega) hL
    rw [spec_mnWays_l1, g1]
    simp only [bs]
    obtain ⟨R', e1, e2, e3⟩ := ih (j + 1) (t + 1) R1 g2 (fun i l hi hv hl => by
      cases l with
      | nil => exact ple_trans (g3 i hi) (h i [] hi hv (by simp))
      | cons k l =>
        have hk := hv k List.mem_cons_self
        rw [wk, las, padd_assoc]
        exact ple_trans (g4 i k (by omega) hi hk) (padd_mono (ple_refl _) (h k l hk (fun v hv' => hv v (List.mem_cons_of_mem _ hv')) (by simp at hl; omega))))
    exact ⟨R', e1, e2, fun i l hi hv hl => e3 i l hi hv (by simp at hl; omega)⟩
/-- In place, round by round: the least costs. -/
theorem mnWays_eq : ∃ R, spec_mnWays_m m p w = some R ∧ R.length = n ∧ (∀ i, i < n → conv (nth R i) = tgt (lesm m n p) n w i) ∧ ∀ i, i < n → nth R i = 1000000000 ∨ (-12000000 ≤ nth R i ∧ nth R i ≤ 12000000) := by
  have h6 := g.chi
  obtain ⟨R, k1, k2, k3⟩ := mw_l1 g hn hp nc hw hw0 m 0 0 w ⟨hw, fun i hi => tgt_start g hn hp nc hw hw0 hi, fun i hi => by
    rcases hw0 i hi with h | h
    · exact .inl h
    · right; rw [h]; omega⟩ (fun i l hi hv hl => by
    have : l = [] := List.length_eq_zero_iff.1 (by omega)
    subst this
    rw [wk, las, zero_padd]
    exact ple_refl _)
  refine ⟨R, ?_, k2.len, fun i hi => ple_antisymm ?_ (k2.low i hi), fun i hi => lowT_bd g hn hp nc hw hw0 k2 hi⟩
  · unfold spec_mnWays_m
    rw [l1Own_eq (by omega)]
    simp only [bs]
    rw [k1]
    rfl
  · rcases tgt_at g hn hp nc hw hw0 hi with e | ⟨l, h1, h2, h3, e⟩
    · rw [e]; exact ple_none _
    · rw [e]
      exact k3 i l hi h2 (by omega)
end

/-! ### Means against a number -/
theorem ple_conv0 {e z : Int} (h : ple (conv e) (some z)) : e ≤ z := by
  unfold conv at h
  split at h
  · exact h.elim
  · exact h
theorem ltF_tr {p q r : Int × Int} (hp : 1 ≤ p.2) (hq : 1 ≤ q.2) (hr : 1 ≤ r.2) (h1 : ltF p q = false) (h2 : ltF q r = false) : ltF p r = false := by
  unfold ltF at *
  have h1 := of_decide_eq_false h1
  have h2 := of_decide_eq_false h2
  refine decide_eq_false fun h3 => ?_
  have a1 : q.1 * p.2 * r.2 ≤ p.1 * q.2 * r.2 := Int.mul_le_mul_of_nonneg_right (by omega) (by omega)
  have a2 : r.1 * q.2 * p.2 ≤ q.1 * r.2 * p.2 := Int.mul_le_mul_of_nonneg_right (by omega) (by omega)
  have a3 : p.1 * r.2 * q.2 < r.1 * p.2 * q.2 := Int.mul_lt_mul_of_pos_right (by omega) (by omega)
  have e1 : p.1 * q.2 * r.2 = p.1 * r.2 * q.2 := by rw [Int.mul_assoc, Int.mul_comm q.2, ← Int.mul_assoc]
  have e2 : q.1 * p.2 * r.2 = q.1 * r.2 * p.2 := by rw [Int.mul_assoc, Int.mul_comm p.2, ← Int.mul_assoc]
  have e3 : r.1 * q.2 * p.2 = r.1 * p.2 * q.2 := by rw [Int.mul_assoc, Int.mul_comm q.2, ← Int.mul_assoc]
  rw [e1, e2] at a1
  rw [e3] at a2
  omega
theorem ltF_int {c d p : Int} (hd : 1 ≤ d) : ltF (low c d) (p, 1) = decide (c - p * d < 0) := by
  obtain ⟨h1, _, _, _, h5⟩ := low_spec (n := c) hd
  unfold ltF
  simp only [Int.mul_one]
  have e : ((low c d).1 - p * (low c d).2) * d = (c - p * d) * (low c d).2 := by
    rw [Int.sub_mul, Int.sub_mul, h5, Int.mul_assoc, Int.mul_assoc, Int.mul_comm d]
  by_cases c1 : c - p * d < 0
  · rw [decide_eq_true c1]
    refine decide_eq_true ?_
    have : (c - p * d) * (low c d).2 < 0 := Int.mul_neg_of_neg_of_pos c1 (by omega)
    rw [← e] at this
    refine Int.lt_of_not_ge fun h => ?_
    have := Int.mul_nonneg h (show 0 ≤ d by omega)
    omega
  · rw [decide_eq_false c1]
    refine decide_eq_false fun h => ?_
    have : ((low c d).1 - p * (low c d).2) * d < 0 := Int.mul_neg_of_neg_of_pos h (by omega)
    rw [e] at this
    have := Int.mul_nonneg (show 0 ≤ c - p * d by omega) (show 0 ≤ (low c d).2 by omega)
    omega
section
variable {m : List (List Int)} {n : Nat} (g : Good m n) (hn : m.length = n)
include g hn
theorem bL_fold : ∀ (L pre : List (List Int)) (b : List Int), (∀ x ∈ L, x ∈ allC m n) → (∀ x ∈ pre, x ∈ allC m n) → ((b = [] ∧ pre = []) ∨ (b ∈ pre ∧ ∀ x ∈ pre, ltF (meanP m x) (meanP m b) = false)) →
    ((L.foldl (bL m) b = [] ∧ pre ++ L = []) ∨ (L.foldl (bL m) b ∈ pre ++ L ∧ ∀ x ∈ pre ++ L, ltF (meanP m x) (meanP m (L.foldl (bL m) b)) = false))
  | [], pre, b, _, _, h => by simpa using h
  | a :: L, pre, b, hL, hpre, h => by
    have ha := hL a List.mem_cons_self
    have hda := (mean_sm g hn ha).2.1
    have := bL_fold L (pre ++ [a]) (bL m b a) (fun x hx => hL x (List.mem_cons_of_mem _ hx)) (fun x hx => by
      rcases List.mem_append.1 hx with e | e
      · exact hpre x e
      · simp at e; rw [e]; exact ha) (by
      right
      unfold bL
      by_cases hc : b.length = 0 ∨ ltF (meanP m a) (meanP m b) = true
      · rw [if_pos hc]
        refine ⟨by simp, fun x hx => ?_⟩
        rcases List.mem_append.1 hx with e | e
        · rcases h with ⟨_, h2⟩ | ⟨h1, h2⟩
          · rw [h2] at e; cases e
          · have hb := (allC_mem (hpre b h1)).2.2.1
            have hlt := hc.resolve_left (by omega)
            cases hq : ltF (meanP m x) (meanP m a) with
            | false => rfl
            | true =>
              have := ltF_trans (mean_sm g hn (hpre x e)).2.1 hda (mean_sm g hn (hpre b h1)).2.1 hq hlt
              rw [h2 x e] at this; cases this
        · simp at e; rw [e]; exact ltF_irrefl _
      · rw [if_neg hc]
        rcases h with ⟨h1, h2⟩ | ⟨h1, h2⟩
        · exact absurd (.inl (by rw [h1]; rfl)) hc
        · refine ⟨List.mem_append_left _ h1, fun x hx => ?_⟩
          rcases List.mem_append.1 hx with e | e
          · exact h2 x e
          · simp at e; rw [e]
            cases hq : ltF (meanP m a) (meanP m b) with
            | false => rfl
            | true => exact absurd (.inr hq) hc)
    rw [List.append_assoc] at this
    exact this
/-- The specification's question: does a circuit have a mean below p. -/
theorem below_eq {p : Int} (hp : fin p = true) : ∃ y b, spec_mnLeast_m m = some y ∧ (b = false ↔ NC m n p) ∧
    (cond (decide ((y.length : Int) > 0)) ((spec_mnMean_m m y).bind fun y16 => (spec_frInt_m p).bind fun y18 => (spec_frCmp_m y16.1 y16.2 y18.1 y18.2).bind fun y20 => some (decide (y20 < 0))) (some false) : Option Bool) = some b := by
  have hp' := (fin_iff p).1 hp
  rw [mnLeast_eq g hn]
  refine ⟨(allC m n).foldl (bL m) [], ?_⟩
  rcases bL_fold g hn (allC m n) [] [] (fun x h => h) (fun x h => by cases h) (.inl ⟨rfl, rfl⟩) with ⟨h1, h2⟩ | ⟨h1, h2⟩
  · rw [h1, decide_eq_false (by simp)]
    rw [List.nil_append] at h2
    have : NC m n p := fun a ha => by rw [h2] at ha; cases ha
    exact ⟨false, rfl, ⟨fun _ => this, fun _ => rfl⟩, rfl⟩
  · rw [List.nil_append] at h1 h2
    generalize (allC m n).foldl (bL m) [] = y at *
    have hy := (allC_mem h1).2.2.1
    have hsm := mean_sm g hn h1
    rw [decide_eq_true (by omega), mnMean_eq g hn h1]
    simp only [cT, bs]
    unfold spec_frInt_m
    simp only [bs]
    obtain ⟨r, k1, k2⟩ := frCmp_eq (p := meanP m y) (q := (p, 1)) hsm.1 ⟨⟨by simp only []; omega, by simp only []; omega⟩, by simp only []; omega, by simp only []; omega⟩
    simp only [] at k1
    rw [k1]
    simp only [bs]
    rw [k2]
    refine ⟨_, trivial, ?_, rfl⟩
    have key : ∀ a ∈ allC m n, ltF (meanP m a) (p, 1) = decide (ccost m a - p * a.length < 0) := fun a ha => ltF_int (by have := (allC_mem ha).2.2.1; omega)
    cases hq : ltF (meanP m y) (p, 1) with
    | true =>
      rw [key y h1] at hq
      have hq := of_decide_eq_true hq
      exact ⟨fun h => (by cases h), fun nc => (by have := nc y h1; omega)⟩
    | false =>
      have : NC m n p := fun a ha => by
        have := ltF_tr (mean_sm g hn ha).2.1 hsm.2.1 (show 1 ≤ ((p, 1) : Int × Int).2 by simp) (h2 a ha) hq
        rw [key a ha] at this
        have := of_decide_eq_false this
        omega
      exact ⟨fun _ => this, fun _ => rfl⟩
end
theorem all_fin {l : List Int} (h : ∀ x ∈ l, x ≤ 100000000) : l.all num = l.all fun n => inR n (-1000000) 1000000 := by
  rw [Bool.eq_iff_iff, List.all_eq_true, List.all_eq_true]
  refine forall_congr' fun x => forall_congr' fun hx => ?_
  have := h x hx
  rw [num_iff, inR_iff]
  omega
theorem mnIf_eq (l : List Int) : spec_mnIf_m l = some (l.all (fun n => inR n (-1000000) 1000000), l.all (fun n => inR n (-1000000) 1000000)) := by
  unfold spec_mnIf_m
  rw [l1All_eq]
  cases l.all (fun n => inR n (-1000000) 1000000) <;> rfl
end Go.Proofs.Ytjhaealoneennaa
