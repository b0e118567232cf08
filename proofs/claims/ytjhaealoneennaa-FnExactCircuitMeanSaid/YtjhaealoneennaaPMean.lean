/- Plain laws: the circuits as the specification lists them, their means, the first circuit with the least one, the nodes of all that have it. -/
import Derived.Test.YtjhaealoneennaaMnbM
import Derived.Test.YtjhaealoneennaaMncM
import Derived.Test.YtjhaealoneennaaMniM
import Derived.Test.YtjhaealoneennaaPCirc
import Derived.Test.YtjhaealoneennaaPFrac
namespace Go.Proofs.Ytjhaealoneennaa
set_option linter.unusedVariables false
set_option linter.unusedSimpArgs false

/-! ### The specification's list of circuits -/
theorem circs_len {m : List (List Int)} {n : Nat} (hn : n ≤ 6) : ∀ (r : Nat) (l : List Int), (circs m n r l).length ≤ 7 ^ r
  | 0, l => by simp [circs]
  | r + 1, l => by
    have h1 := flat_len (B := 7 ^ r) (g := fun (k : Nat) => if arc m (lst l) (k : Int) = 1000000000 ∨ l.contains (k : Int) = true then [] else circs m n r (l ++ [(k : Int)])) (n - ((nth l 0).toNat + 1)) ((nth l 0).toNat + 1) (fun k => by
      split
      · simp
      · exact circs_len hn r _)
    have h2 : (if arc m (lst l) (nth l 0) = 1000000000 then [] else [l]).length ≤ 1 := by split <;> simp
    rw [circs, List.length_append]
    have h3 : (n - ((nth l 0).toNat + 1)) * 7 ^ r ≤ 6 * 7 ^ r := Nat.mul_le_mul_right _ (by omega)
    have h4 : 0 < 7 ^ r := Nat.pow_pos (by omega)
    rw [Nat.pow_succ]
    omega
section
variable {m : List (List Int)} {n : Nat} (g : Good m n) (hn : m.length = n)
include g hn
theorem mnBehind_l1_eq {r : Nat} {l : List Int} {rec : List (List Int) → List Int → Option (List (List Int))} (hb : Beg m n l) (hl : l.length ≤ 6) (hr6 : r ≤ 6)
    (hrec : ∀ (k : Nat), k < n → nth l 0 < (k : Int) → arc m (lst l) (k : Int) ≠ 1000000000 → l.contains (k : Int) = false → rec m (l ++ [(k : Int)]) = some (circs m n r (l ++ [(k : Int)]))) :
    ∀ (q fuel i : Nat) (out : List (List Int)), i + q = n → q < fuel → nth l 0 < (i : Int) → out.length ≤ 1 + i * 117649 →
      spec_mnBehind_l1 m l rec (nthM m (lst l).toNat) fuel out (i : Int) = some (out ++ (List.range' i q).flatMap fun (k : Nat) => if arc m (lst l) (k : Int) = 1000000000 ∨ l.contains (k : Int) = true then [] else circs m n r (l ++ [(k : Int)])) := by
  have h6 := g.chi
  intro q
  induction q with
  | zero =>
    intro fuel i out hi hf _ _
    obtain ⟨fuel, rfl⟩ : ∃ k', fuel = k' + 1 := ⟨fuel - 1, by omega⟩
    rw [spec_mnBehind_l1, decide_eq_false (by omega)]
    simp
  | succ q ih =>
    intro fuel i out hi hf hu ho
    obtain ⟨fuel, rfl⟩ : ∃ k', fuel = k' + 1 := ⟨fuel - 1, by omega⟩
    rw [spec_mnBehind_l1, decide_eq_true (show (i : Int) < (m.length : Int) by omega), List.range'_succ, List.flatMap_cons]
    simp only [cT]
    obtain ⟨e1, e2⟩ := arc_idx g hn hb.last (b := (i : Int)) (by omega)
    have k1 : ck ((i : Int) + 1) = some ((i + 1 : Nat) : Int) := ck_nat (by omega)
    rw [e2]
    simp only [bs]
    by_cases ha : arc m (lst l) (i : Int) = 1000000000
    · rw [show (arc m (lst l) (i : Int) != 1000000000) = false by simp [ha]]
      simp only [cF, bs, k1]
      rw [if_pos (.inl ha), List.nil_append]
      exact ih fuel (i + 1) out (by omega) (by omega) (by omega) (Nat.le_trans ho (Nat.add_le_add_left (Nat.mul_le_mul_right _ (Nat.le_succ i)) 1))
    · rw [show (arc m (lst l) (i : Int) != 1000000000) = true by simp [ha], l1Has_eq]
      simp only [cT, bs]
      cases hc : l.contains (i : Int) with
      | true =>
        simp only [Bool.not_true, cF, k1, bs]
        rw [if_pos (.inr trivial), List.nil_append]
        exact ih fuel (i + 1) out (by omega) (by omega) (by omega) (Nat.le_trans ho (Nat.add_le_add_left (Nat.mul_le_mul_right _ (Nat.le_succ i)) 1))
      | false =>
        simp only [Bool.not_false, cT, k1, bs]
        rw [if_neg (by simp [ha]), l1Own_eq (by omega)]
        simp only [bs]
        rw [app_lt (by omega)]
        simp only [bs]
        rw [hrec i (by omega) hu ha hc]
        simp only [bs]
        have h7 := circs_len (m := m) h6 r (l ++ [(i : Int)])
        have h8 : 7 ^ r ≤ 7 ^ 6 := Nat.pow_le_pow_right (by omega) hr6
        have h9 : (7 : Nat) ^ 6 = 117649 := by decide
        have e3 : appS out (circs m n r (l ++ [(i : Int)])) = some (out ++ circs m n r (l ++ [(i : Int)])) := by unfold appS; rw [decide_eq_true (by omega)]; rfl
        rw [e3]
        simp only [bs, k1]
        rw [ih fuel (i + 1) _ (by omega) (by omega) (by omega) (by rw [List.length_append, Nat.succ_mul]; omega), List.append_assoc]
theorem mnBehind_eq : ∀ (r k : Nat) (l : List Int), Beg m n l → l.length + r ≤ 7 → r ≤ 6 → free n l < r → free n l < k → spec_mnBehind_r k m l = some (circs m n r l) := by
  have h6 := g.chi
  intro r
  induction r with
  | zero => intro k l _ _ _ h; omega
  | succ r ih =>
    intro k l hb hl hr6 hr hk
    obtain ⟨k, rfl⟩ : ∃ k', k = k' + 1 := ⟨k - 1, by omega⟩
    have h0 := hb.pos
    obtain ⟨e1, e2⟩ := arc_idx g hn hb.last hb.head
    have e3 : ck (nth l 0 + 1) = some (((nth l 0).toNat + 1 : Nat) : Int) := by
      have := hb.head
      rw [ck_in (by omega) (by omega)]; congr 1; omega
    rw [spec_mnBehind_r, spec_mnBehind_b, ck_in (by omega) (by omega)]
    simp only [bs]
    rw [show ((l.length : Int) - 1) = ((l.length - 1 : Nat) : Int) by omega, idx_nth (by omega)]
    simp only [bs]
    rw [show nth l (l.length - 1) = lst l from rfl, e1]
    simp only [bs]
    rw [idx_nth0 h0]
    simp only [bs, e2]
    have hloop := fun out ho => mnBehind_l1_eq g hn (r := r) (rec := spec_mnBehind_r k) hb (by omega) (by omega) (fun j hj hu ha hc => ih k _ (hb.add hj ha hu hc) (by simp; omega) (by omega) (by have := free_add hj hc; omega) (by have := free_add hj hc; omega))
      (n - ((nth l 0).toNat + 1)) 4000000 ((nth l 0).toNat + 1) out (by have := hb.head; omega) (by omega) (by have := hb.head; omega) ho
    rw [circs]
    by_cases ha : arc m (lst l) (nth l 0) = 1000000000
    · rw [show (arc m (lst l) (nth l 0) != 1000000000) = false by simp [ha], if_pos ha]
      simp only [cF, bs, e3]
      rw [hloop [] (by simp)]
      rfl
    · rw [show (arc m (lst l) (nth l 0) != 1000000000) = true by simp [ha], if_neg ha, l1Own_eq (by omega)]
      simp only [cT, bs]
      rw [app_lt (by simp)]
      simp only [bs, e3, List.nil_append]
      rw [hloop [l] (by simp <;> omega)]
      rfl
theorem mnCircuits_l1_eq (q : List (List Int)) : ∀ (j : Nat) (out : List (List Int)), j + q.length = n → out.length ≤ j * 117649 → spec_mnCircuits_l1 m q j out = some (out ++ (List.range' j q.length).flatMap fun (i : Nat) => circs m n n [(i : Int)]) := by
  have h6 := g.chi
  induction q with
  | nil => intro j out _ _; simp [spec_mnCircuits_l1]
  | cons x q ih =>
    intro j out hj ho
    simp only [List.length_cons] at hj
    have hf := free_one (n := n) j (by omega)
    have e1 : spec_mnBehind_m m [(j : Int)] = some (circs m n n [(j : Int)]) := mnBehind_eq g hn n 64 _ (Beg.one (by omega)) (by simp; omega) h6 hf (by omega)
    have h7 := circs_len (m := m) h6 n [(j : Int)]
    have h8 : 7 ^ n ≤ 7 ^ 6 := Nat.pow_le_pow_right (by omega) h6
    have h9 : (7 : Nat) ^ 6 = 117649 := by decide
    rw [spec_mnCircuits_l1, e1, List.length_cons, List.range'_succ, List.flatMap_cons]
    simp only [bs]
    have e3 : appS out (circs m n n [(j : Int)]) = some (out ++ circs m n n [(j : Int)]) := by unfold appS; rw [decide_eq_true (by omega)]; rfl
    rw [e3]
    simp only [bs]
    rw [ih (j + 1) _ (by omega) (by rw [List.length_append, Nat.succ_mul]; omega), List.append_assoc]
theorem mnCircuits_eq : spec_mnCircuits_m m = some (allC m n) := by
  unfold spec_mnCircuits_m
  rw [mnCircuits_l1_eq g hn m 0 [] (by omega) (by simp), hn]
  rfl

/-! ### Means -/
theorem mnMean_l1_eq {a : List Int} (hb : Beg m n a) (ha : arc m (lst a) (nth a 0) ≠ 1000000000) (hl : a.length ≤ 6) (q : List Int) : ∀ j, q = a.drop j → j ≤ a.length →
    spec_mnMean_l1 m a q j (if j = a.length then ccost m a else sc m a j) = some (ccost m a) := by
  have h0 := hb.pos
  induction q with
  | nil =>
    intro j hq hj
    have : a.length ≤ j := by
      have := congrArg List.length hq
      simp at this; omega
    rw [if_pos (by omega)]
    rfl
  | cons x q ih =>
    intro j hq hj
    have hjl : j < a.length := by
      have := congrArg List.length hq
      simp at this; omega
    rw [drop_cons hjl] at hq
    simp only [List.cons.injEq] at hq
    have hx : x = nth a j := by simp [nth, hjl, hq.1]
    have ih := ih (j + 1) hq.2 (by omega)
    have hnode := hb.node _ (nth_mem hjl)
    have hs := sc_bd g hn hb j hjl
    rw [if_neg (by omega), spec_mnMean_l1, hx]
    by_cases hlast : j + 1 = a.length
    · obtain ⟨e1, e2⟩ := arc_idx g hn hnode hb.head
      have hf := arc_fin g hn hb.last hb.head ha
      have hjj : nth a j = lst a := by unfold lst; rw [show a.length - 1 = j by omega]
      rw [e1, ck_nat (by omega)]
      simp only [bs]
      have e3 : remO ((j + 1 : Nat) : Int) (a.length : Int) = some 0 := by
        unfold remO
        rw [hlast, beq_eq_false_iff_ne.2 (show (a.length : Int) ≠ 0 by omega)]
        simp
      rw [e3]
      simp only [bs]
      rw [idx_nth0 h0]
      simp only [bs]
      rw [e2, hjj]
      simp only [bs]
      rw [ck_in (by omega) (by omega)]
      simp only [bs]
      rw [if_pos hlast] at ih
      have ec : sc m a j + arc m (lst a) (nth a 0) = ccost m a := by
        rw [(ccost_fin g hn hb ha (by omega)).1, show a.length - 1 = j by omega]
      rw [ec]
      exact ih
    · have hnode2 := hb.node _ (nth_mem (show j + 1 < a.length by omega))
      obtain ⟨e1, e2⟩ := arc_idx g hn hnode hnode2
      have hf := arc_fin g hn hnode hnode2 (hb.arcs j (by omega))
      rw [e1, ck_nat (by omega)]
      simp only [bs]
      have e3 : remO ((j + 1 : Nat) : Int) (a.length : Int) = some ((j + 1 : Nat) : Int) := by
        unfold remO
        rw [beq_eq_false_iff_ne.2 (show (a.length : Int) ≠ 0 by omega)]
        simp only [cF]
        rw [Int.tmod_eq_of_lt (by omega) (by omega)]
      rw [e3]
      simp only [bs]
      rw [idx_nth (by omega)]
      simp only [bs]
      rw [e2]
      simp only [bs]
      rw [ck_in (by omega) (by omega)]
      simp only [bs]
      rw [if_neg hlast] at ih
      exact ih
def meanP (m : List (List Int)) (a : List Int) : Int × Int := low (ccost m a) a.length
theorem mean_sm {a : List Int} (ha : a ∈ allC m n) : SmF (meanP m a) ∧ 1 ≤ (meanP m a).2 ∧ -6000000 ≤ ccost m a ∧ ccost m a ≤ 6000000 ∧ 1 ≤ a.length ∧ a.length ≤ 6 := by
  have h6 := g.chi
  obtain ⟨h1, h2, h3, h4⟩ := allC_mem ha
  obtain ⟨e, c1, c2⟩ := ccost_fin g hn h1 h2 (by omega)
  obtain ⟨a1, a2, a3, a4, _⟩ := low_spec (n := ccost m a) (d := a.length) (by omega)
  refine ⟨⟨?_, ?_, ?_⟩, a1, by omega, by omega, h3, by omega⟩
  · unfold meanP; omega
  · unfold meanP; omega
  · unfold meanP; omega
theorem mnMean_eq {a : List Int} (ha : a ∈ allC m n) : spec_mnMean_m m a = some (meanP m a) := by
  have h6 := g.chi
  obtain ⟨h1, h2, h3, h4⟩ := allC_mem ha
  obtain ⟨_, _, c1, c2, _⟩ := mean_sm g hn ha
  have key := mnMean_l1_eq g hn h1 h2 (by omega) a 0 rfl (by omega)
  rw [if_neg (by omega)] at key
  unfold spec_mnMean_m
  have key : spec_mnMean_l1 m a a 0 0 = some (ccost m a) := key
  rw [key]
  simp only [bs]
  rw [frMake_eq (by omega) (by omega) (by omega) (by omega)]
  rfl
theorem meanOf_eq {a : List Int} (ha : a ∈ allC m n) : impl_meanOf_m m a = some (meanP m a) := by
  have h6 := g.chi
  obtain ⟨h1, h2, h3, h4⟩ := allC_mem ha
  obtain ⟨_, _, c1, c2, _⟩ := mean_sm g hn ha
  unfold impl_meanOf_m
  rw [costOfCircuit_eq g hn h1 (by omega)]
  simp only [bs]
  rw [lowest_eq (by omega) (by omega) (by omega) (by omega)]
  rfl
/-- The first with the least mean so far. -/
def bL (m : List (List Int)) (b x : List Int) : List Int := if b.length = 0 ∨ ltF (meanP m x) (meanP m b) = true then x else b
theorem mnLeast_l1_eq (q : List (List Int)) : ∀ (j : Nat) (b : List Int), (∀ x ∈ q, x ∈ allC m n) → (b.length = 0 ∨ b ∈ allC m n) → spec_mnLeast_l1 m q j b = some (q.foldl (bL m) b) := by
  induction q with
  | nil => intro j b _ _; rfl
  | cons x q ih =>
    intro j b hq hb
    have hx := hq x List.mem_cons_self
    have hq' := fun y hy => hq y (List.mem_cons_of_mem _ hy)
    rw [spec_mnLeast_l1, List.foldl_cons]
    by_cases h0 : b.length = 0
    · rw [show ((b.length : Int) == 0) = true by rw [h0]; rfl]
      simp only [cT, bs]
      rw [ih (j + 1) x hq' (.inr hx), bL, if_pos (.inl h0)]
    · rw [show ((b.length : Int) == 0) = false by simp; intro e; rw [e] at h0; exact h0 rfl]
      simp only [cF]
      have hb := hb.resolve_left h0
      rw [mnMean_eq g hn hx, mnMean_eq g hn hb]
      simp only [bs]
      obtain ⟨r, h1, h2⟩ := frCmp_eq (mean_sm g hn hx).1 (mean_sm g hn hb).1
      rw [h1]
      simp only [bs, h2]
      cases hlt : ltF (meanP m x) (meanP m b) with
      | true => simp only [cT]; rw [ih (j + 1) x hq' (.inr hx), bL, if_pos (.inr hlt)]
      | false => simp only [cF]; rw [ih (j + 1) b hq' (.inr hb), bL, if_neg (by simp [h0, hlt])]
theorem mnLeast_eq : spec_mnLeast_m m = some ((allC m n).foldl (bL m) []) := by
  unfold spec_mnLeast_m
  rw [mnCircuits_eq g hn]
  simp only [bs]
  rw [mnLeast_l1_eq g hn _ 0 [] (fun x h => h) (.inl rfl)]
  rfl
end

/-! ### The program's way -/
def markAll (l : List Bool) (a : List Int) : List Bool := a.foldl (fun l x => l.set x.toNat true) l
theorem markAll_len : ∀ (a : List Int) (l : List Bool), (markAll l a).length = l.length
  | [], l => rfl
  | x :: a, l => by
    have := markAll_len a (l.set x.toNat true)
    unfold markAll at *
    simp only [List.foldl_cons]
    rw [this]; simp
theorem markAll_get : ∀ (a : List Int) (l : List Bool) (i : Nat), i < l.length → (∀ x ∈ a, 0 ≤ x ∧ x < (l.length : Int)) → (markAll l a)[i]? = some (l[i]?.getD false || a.contains (i : Int))
  | [], l, i, hi, _ => by simp [markAll, hi]
  | x :: a, l, i, hi, hv => by
    have hx := hv x List.mem_cons_self
    have := markAll_get a (l.set x.toNat true) i (by simpa using hi) (fun y hy => by simpa using hv y (List.mem_cons_of_mem _ hy))
    have e : markAll l (x :: a) = markAll (l.set x.toNat true) a := rfl
    rw [e, this, List.contains_cons]
    by_cases hc : x.toNat = i
    · have e2 : ((i : Int) == x) = true := by simp; omega
      rw [e2, hc, List.getElem?_set_self hi]
      simp
    · have e2 : ((i : Int) == x) = false := by simp; omega
      rw [e2, List.getElem?_set_ne hc]
      simp
theorem mark_l1_eq (q : List Int) : ∀ (j : Nat) (l : List Bool), (∀ x ∈ q, 0 ≤ x ∧ x < (l.length : Int)) → impl_leastMean_1_l1 q j l = some (markAll l q) := by
  induction q with
  | nil => intro j l _; rfl
  | cons x q ih =>
    intro j l hv
    have hx := hv x List.mem_cons_self
    have e1 : idx l x = some (l[x.toNat]'(by omega)) := by
      unfold idx; rw [decide_eq_true hx.1, List.getElem?_eq_getElem (by omega)]; rfl
    have e2 : upd l x true = some (l.set x.toNat true) := by
      unfold upd; rw [decide_eq_true hx]; rfl
    rw [impl_leastMean_1_l1, e1, e2]
    simp only [bs]
    exact ih (j + 1) _ (fun y hy => by simpa using hv y (List.mem_cons_of_mem _ hy))
abbrev MS := List Int × List Bool × Int × Int
def fM (m : List (List Int)) (l : List Int) (s : MS) : Option MS := (impl_leastMean_1_m l m s.1 s.2.2.1 s.2.2.2 s.2.1).bind fun y => some (y.1, y.2.2.2, y.2.1, y.2.2.1)
def unp (y : List Int × MS) : List Int × List Int × Int × Int × List Bool := (y.1, y.2.1, y.2.2.2.1, y.2.2.2.2, y.2.2.1)
theorem lm_cirL (mm m : List (List Int)) (rec : List Int → List (List Int) → List (List Int) → List Int → Int → Int → List Bool → Option (List Int × List Int × Int × Int × List Bool)) (rec' : List Int → MS → Option (List Int × MS))
    (h : ∀ l a b c d, rec l mm m a c d b = (rec' l (a, b, c, d)).bind fun y => some (unp y)) (x6 : List Int) : ∀ k l a b c d i, impl_circuits_1_leastMean_l1 mm m rec x6 k l a b c d i = cirL mm rec' x6 k l (a, b, c, d) i := by
  intro k
  induction k with
  | zero => intro l a b c d i; rfl
  | succ k ih =>
    intro l a b c d i
    rw [impl_circuits_1_leastMean_l1, cirL]
    simp only [ih, h, Option.bind_assoc, bs]
    rfl
theorem lm_cirR (mm m : List (List Int)) : ∀ k l a b c d, impl_circuits_1_leastMean_r k l mm m a c d b = (cirR (fM m) mm k l (a, b, c, d)).bind fun y => some (unp y) := by
  intro k
  induction k with
  | zero => intro l a b c d; rfl
  | succ k ih =>
    intro l a b c d
    rw [impl_circuits_1_leastMean_r, cirR, impl_circuits_1_leastMean_b, cirB]
    simp only [lm_cirL mm m _ _ ih, Option.bind_assoc, bs]
    rfl
theorem lm_cirA (mm m : List (List Int)) (q : List (List Int)) : ∀ j l a b c d, impl_circuits_leastMean_l1 mm m q j l a b c d = cirA (fM m) mm q j l (a, b, c, d) := by
  induction q with
  | nil => intro j l a b c d; rfl
  | cons x q ih =>
    intro j l a b c d
    rw [impl_circuits_leastMean_l1, cirA]
    unfold impl_circuits_1_leastMean_m
    simp only [lm_cirR, ih, Option.bind_assoc, bs]
    rfl
/-- What the visitor makes of a circuit. -/
def gM (m : List (List Int)) (n : Nat) (s : MS) (a : List Int) : MS :=
  let t : MS := if s.1.length = 0 ∨ ltF (meanP m a) (s.2.2.1, s.2.2.2) = true then (a, List.replicate n false, (meanP m a).1, (meanP m a).2) else s
  if meanP m a = (t.2.2.1, t.2.2.2) then (t.1, markAll t.2.1 a, t.2.2.1, t.2.2.2) else t
section
variable {m : List (List Int)} {n : Nat} (g : Good m n) (hn : m.length = n)
include g hn
theorem fM_eq {a : List Int} (ha : a ∈ allC m n) {s : MS} (h1 : s.2.1.length = n) (h2 : SmF (s.2.2.1, s.2.2.2)) : fM m a s = some (gM m n s a) ∧ (gM m n s a).2.1.length = n ∧ SmF ((gM m n s a).2.2.1, (gM m n s a).2.2.2) := by
  have h6 := g.chi
  obtain ⟨s0, s1, s2, s3⟩ := s
  obtain ⟨hb, _, _, hl⟩ := allC_mem ha
  have hsm := (mean_sm g hn ha).1
  unfold fM impl_leastMean_1_m
  rw [meanOf_eq g hn ha]
  simp only [bs]
  have hg : guardO (decide (0 ≤ (m.length : Int) ∧ (m.length : Int) < 1000000000)) = some () := guardO_t (by simp; omega)
  have hcmp : (cond ((s0.length : Int) == 0) (some true) ((impl_Frac_compare_m (meanP m a).1 (meanP m a).2 s2 s3).bind fun y8 => some (decide (y8 < 0))) : Option Bool) = some (decide (s0.length = 0 ∨ ltF (meanP m a) (s2, s3) = true)) := by
    by_cases h0 : s0.length = 0
    · rw [show ((s0.length : Int) == 0) = true by rw [h0]; rfl]
      simp [h0]
    · rw [show ((s0.length : Int) == 0) = false by simp; intro e; rw [e] at h0; exact h0 rfl]
      obtain ⟨r, h3, h4⟩ := compare_eq hsm h2
      simp only [cF]
      rw [h3]
      simp only [bs, h4]
      simp [h0]
  rw [hcmp]
  simp only [bs]
  -- the second part, whatever the first left
  have part : ∀ t : MS, t.2.1.length = n → ∀ b1 : Bool, (b1 = true ↔ meanP m a = (t.2.2.1, t.2.2.2)) →
      (((cond b1 (((impl_leastMean_1_l1 a 0 t.2.1 : Option (List Bool))).bind fun l => some (t.1, t.2.2.1, t.2.2.2, l)) (some (t.1, t.2.2.1, t.2.2.2, t.2.1)) : Option (List Int × Int × Int × List Bool))).bind fun y => some (y.1, y.2.2.2, y.2.1, y.2.2.1)) =
        some (if meanP m a = (t.2.2.1, t.2.2.2) then (t.1, markAll t.2.1 a, t.2.2.1, t.2.2.2) else t : MS) := by
    intro t ht b1 hb1
    by_cases c : meanP m a = (t.2.2.1, t.2.2.2)
    · rw [hb1.2 c, if_pos c, mark_l1_eq a 0 _ (by rw [ht]; exact hb.node)]
      rfl
    · have : b1 = false := by cases b1 with | false => rfl | true => exact absurd (hb1.1 rfl) c
      rw [this, if_neg c]
      rfl
  have pairs : ∀ p q r s : Int, (p == q && r == s) = true ↔ (p, r) = (q, s) := by intro p q r s; simp
  unfold gM
  simp only []
  by_cases hc : s0.length = 0 ∨ ltF (meanP m a) (s2, s3) = true
  · rw [decide_eq_true hc, if_pos hc]
    simp only [cT]
    rw [Clone_eq (by omega)]
    rw [hn] at hg
    have hself : ((meanP m a).1 == (meanP m a).1 && (meanP m a).2 == (meanP m a).2) = true := by simp
    simp only [bs, hn, hg, hself, cT, if_true]
    rw [show ((n : Int)).toNat = n by omega, mark_l1_eq a 0 _ (by simpa using hb.node)]
    exact ⟨rfl, by simp [markAll_len], hsm⟩
  · rw [decide_eq_false hc, if_neg hc]
    simp only [cF, bs]
    refine ⟨part (s0, s1, s2, s3) h1 _ (pairs _ _ _ _), ?_, ?_⟩
    · split
      · rw [markAll_len]; exact h1
      · exact h1
    · split <;> exact h2
theorem leastMean_fold : impl_leastMean_m m = some (((allC m n).foldl (gM m n) ([], List.replicate n false, 0, 0)).2.2.1, ((allC m n).foldl (gM m n) ([], List.replicate n false, 0, 0)).2.2.2, ((allC m n).foldl (gM m n) ([], List.replicate n false, 0, 0)).1, ((allC m n).foldl (gM m n) ([], List.replicate n false, 0, 0)).2.1, decide (0 < ((allC m n).foldl (gM m n) ([], List.replicate n false, 0, 0)).1.length)) := by
  have h6 := g.chi
  have key := (foldV_some (f := fM m) (g := gM m n) (I := fun _ s => s.2.1.length = n ∧ SmF (s.2.2.1, s.2.2.2)) (L := allC m n) (s := (([], List.replicate n false, 0, 0) : MS)) (i := 0) ⟨by simp, by unfold SmF; simp⟩ (fun a ha j s _ _ h => by
    obtain ⟨h1, h2, h3⟩ := fM_eq g hn ha h.1 h.2
    exact ⟨h1, h2, h3⟩)).1
  unfold impl_leastMean_m impl_circuits_leastMean_m
  rw [hn, guardO_t (by simp; omega)]
  simp only [bs]
  rw [show ((n : Int)).toNat = n by omega, lm_cirA, cirA_eq g hn, key]
  simp only [bs]
  have e : ∀ k : Nat, decide ((k : Int) > 0) = decide (0 < k) := fun k => by
    by_cases h : 0 < k
    · rw [decide_eq_true h, decide_eq_true (by omega)]
    · rw [decide_eq_false h, decide_eq_false (by omega)]
  rw [e]
end
theorem ltF_irrefl (p : Int × Int) : ltF p p = false := by
  unfold ltF; simp
theorem ltF_trans {p q r : Int × Int} (hp : 1 ≤ p.2) (hq : 1 ≤ q.2) (hr : 1 ≤ r.2) (h1 : ltF p q = true) (h2 : ltF q r = true) : ltF p r = true := by
  unfold ltF at *
  have h1 := of_decide_eq_true h1
  have h2 := of_decide_eq_true h2
  refine decide_eq_true ?_
  have a1 : p.1 * q.2 * r.2 < q.1 * p.2 * r.2 := Int.mul_lt_mul_of_pos_right (by omega) (by omega)
  have a2 : q.1 * r.2 * p.2 < r.1 * q.2 * p.2 := Int.mul_lt_mul_of_pos_right (by omega) (by omega)
  have e1 : p.1 * q.2 * r.2 = (p.1 * r.2) * q.2 := by rw [Int.mul_assoc, Int.mul_comm q.2, ← Int.mul_assoc]
  have e2 : q.1 * p.2 * r.2 = q.1 * r.2 * p.2 := by rw [Int.mul_assoc, Int.mul_comm p.2, ← Int.mul_assoc]
  have e3 : r.1 * q.2 * p.2 = (r.1 * p.2) * q.2 := by rw [Int.mul_assoc, Int.mul_comm q.2, ← Int.mul_assoc]
  rw [e1, e2] at a1
  rw [e3] at a2
  have a3 : (p.1 * r.2) * q.2 < (r.1 * p.2) * q.2 := Int.lt_trans a1 a2
  have := Int.lt_of_mul_lt_mul_right a3 (show 0 ≤ q.2 by omega)
  omega
/-- Where the search stands behind some circuits. -/
def Jm (m : List (List Int)) (n : Nat) (pre : List (List Int)) (s : MS) : Prop :=
  s.2.1.length = n ∧ s.1 = pre.foldl (bL m) [] ∧ ((pre = [] ∧ s = ([], List.replicate n false, 0, 0)) ∨
    (s.1 ∈ pre ∧ (s.2.2.1, s.2.2.2) = meanP m s.1 ∧ (∀ y ∈ pre, ltF (meanP m y) (meanP m s.1) = false) ∧ ∀ i, i < n → s.2.1[i]? = some (pre.any fun y => decide (meanP m y = meanP m s.1) && y.contains (i : Int))))
section
variable {m : List (List Int)} {n : Nat} (g : Good m n) (hn : m.length = n)
include g hn
theorem Jm_step {pre : List (List Int)} {s : MS} {a : List Int} (hpre : ∀ y ∈ pre, y ∈ allC m n) (ha : a ∈ allC m n) (h : Jm m n pre s) : Jm m n (pre ++ [a]) (gM m n s a) := by
  obtain ⟨s0, s1, s2, s3⟩ := s
  obtain ⟨h1, h2, h3⟩ := h
  simp only [] at h1 h2 h3
  obtain ⟨hb, _, _, hl⟩ := allC_mem ha
  have hda := (mean_sm g hn ha).2.1
  have hla := (mean_sm g hn ha).2.2.2.2.1
  have hfold : (pre ++ [a]).foldl (bL m) [] = bL m s0 a := by rw [List.foldl_append, ← h2]; rfl
  unfold Jm
  rw [hfold]
  unfold gM bL
  simp only []
  by_cases hc : s0.length = 0 ∨ ltF (meanP m a) (s2, s3) = true
  · -- the new one is the best
    rw [if_pos hc]
    have hbL : s0.length = 0 ∨ ltF (meanP m a) (meanP m s0) = true := by
      rcases h3 with ⟨_, h4⟩ | ⟨_, h4, _⟩
      · have := congrArg (fun x : MS => x.1) h4
        simp only [] at this
        exact .inl (by rw [this]; rfl)
      · rw [← h4]; exact hc
    rw [if_pos hbL, if_pos rfl]
    have hold : ∀ y ∈ pre, meanP m y ≠ meanP m a ∧ ltF (meanP m y) (meanP m a) = false := by
      intro y hy
      rcases h3 with ⟨h5, _⟩ | ⟨h4, h5, h6, _⟩
      · rw [h5] at hy; cases hy
      · have hys := h6 y hy
        have hs0 : 0 < s0.length := (allC_mem (hpre _ h4)).2.2.1
        have hlt := hbL.resolve_left (by omega)
        refine ⟨fun e => (by rw [e, hlt] at hys; cases hys), ?_⟩
        cases hq : ltF (meanP m y) (meanP m a) with
        | false => rfl
        | true =>
          have := ltF_trans (mean_sm g hn (hpre y hy)).2.1 hda (mean_sm g hn (hpre _ h4)).2.1 hq hlt
          rw [hys] at this; cases this
    refine ⟨by simp [markAll_len], rfl, .inr ⟨by simp, rfl, fun y hy => ?_, fun i hi => ?_⟩⟩
    · rcases List.mem_append.1 hy with e | e
      · exact (hold y e).2
      · simp at e; subst e; exact ltF_irrefl _
    · simp only []
      rw [markAll_get a _ i (by simpa using hi) (by simpa using hb.node), List.any_append]
      have : pre.any (fun y => decide (meanP m y = meanP m a) && y.contains (i : Int)) = false := by
        rw [List.any_eq_false]
        intro y hy
        simp [(hold y hy).1]
      rw [this]
      simp [hi]
  · rw [if_neg hc]
    rcases h3 with ⟨h4, h5⟩ | ⟨h4, h5, h6, h7⟩
    · have := congrArg (fun x : MS => x.1) h5
      simp only [] at this
      exact absurd (.inl (by rw [this]; rfl)) hc
    · have hbL : ¬ (s0.length = 0 ∨ ltF (meanP m a) (meanP m s0) = true) := by rw [← h5]; exact hc
      rw [if_neg hbL]
      have hmin : ∀ y ∈ pre ++ [a], ltF (meanP m y) (meanP m s0) = false := by
        intro y hy
        rcases List.mem_append.1 hy with e | e
        · exact h6 y e
        · simp at e; subst e
          cases hq : ltF (meanP m y) (meanP m s0) with
          | false => rfl
          | true => exact absurd (.inr hq) hbL
      by_cases he : meanP m a = (s2, s3)
      · rw [if_pos he]
        refine ⟨by simp [markAll_len, h1], rfl, .inr ⟨List.mem_append_left _ h4, h5, hmin, fun i hi => ?_⟩⟩
        simp only []
        rw [markAll_get a _ i (by omega) (by rw [h1]; exact hb.node), h7 i hi, List.any_append]
        rw [h5] at he
        simp [he]
      · rw [if_neg he]
        refine ⟨h1, rfl, .inr ⟨List.mem_append_left _ h4, h5, hmin, fun i hi => ?_⟩⟩
        simp only []
        rw [h7 i hi, List.any_append]
        rw [h5] at he
        simp [he]
theorem Jm_fold : ∀ (L pre : List (List Int)) (s : MS), (∀ y ∈ pre, y ∈ allC m n) → (∀ y ∈ L, y ∈ allC m n) → Jm m n pre s → Jm m n (pre ++ L) (L.foldl (gM m n) s)
  | [], pre, s, _, _, h => by simpa using h
  | a :: L, pre, s, hp, hL, h => by
    have ha := hL a List.mem_cons_self
    have := Jm_fold L (pre ++ [a]) (gM m n s a) (fun y hy => by
      rcases List.mem_append.1 hy with e | e
      · exact hp y e
      · simp at e; subst e; exact ha) (fun y hy => hL y (List.mem_cons_of_mem _ hy)) (Jm_step g hn hp ha h)
    rw [List.append_assoc] at this
    exact this
theorem Jm_all : Jm m n (allC m n) ((allC m n).foldl (gM m n) ([], List.replicate n false, 0, 0)) := by
  have := Jm_fold g hn (allC m n) [] ([], List.replicate n false, 0, 0) (fun y h => by cases h) (fun y h => h) ⟨by simp, rfl, .inl ⟨rfl, rfl⟩⟩
  exact this
end
theorem LeastMean_both (m : List (List Int)) : ∃ r, spec_LeastMean_m m = some r ∧ impl_LeastMean_m m = some r ∧ True := by
  unfold spec_LeastMean_m impl_LeastMean_m
  rw [mxSquare_eq, isSquare_eq]
  simp only [bs]
  cases hs : sqr m with
  | false => exact ⟨_, rfl, rfl, trivial⟩
  | true =>
    have g := sqr_good hs
    simp only [Bool.not_true, cF]
    rw [mnLeast_eq g rfl, leastMean_fold g rfl]
    have J := Jm_all g rfl
    generalize (allC m m.length).foldl (gM m m.length) ([], List.replicate m.length false, 0, 0) = s at J ⊢
    obtain ⟨h1, h2, h3⟩ := J
    rw [← h2]
    simp only [bs]
    rcases h3 with ⟨h4, h5⟩ | ⟨h4, h5, h6, h7⟩
    · subst h5
      exact ⟨_, rfl, rfl, trivial⟩
    · have hm := allC_mem h4
      rw [show ((s.1.length : Int) == 0) = false by simp; intro e; rw [e] at hm; simp at hm]
      simp only [cF]
      rw [mnMean_eq g rfl h4, decide_eq_true (show 0 < s.1.length by omega)]
      simp only [bs]
      refine ⟨_, rfl, ?_, trivial⟩
      rw [← h5]
theorem LeastCircuit_both (m : List (List Int)) : ∃ r, spec_LeastCircuit_m m = some r ∧ impl_LeastCircuit_m m = some r ∧ Small r.1 := by
  unfold spec_LeastCircuit_m impl_LeastCircuit_m
  rw [mxSquare_eq, isSquare_eq]
  simp only [bs]
  cases hs : sqr m with
  | false => exact ⟨_, rfl, rfl, by simp [Small]⟩
  | true =>
    have g := sqr_good hs
    have h6 := g.chi
    simp only [Bool.not_true, cF]
    rw [mnLeast_eq g rfl, leastMean_fold g rfl]
    have J := Jm_all g rfl
    generalize (allC m m.length).foldl (gM m m.length) ([], List.replicate m.length false, 0, 0) = s at J ⊢
    obtain ⟨h1, h2, h3⟩ := J
    rw [← h2]
    simp only [bs]
    rcases h3 with ⟨h4, h5⟩ | ⟨h4, h5, h6', h7⟩
    · subst h5
      exact ⟨_, rfl, rfl, by simp [Small]⟩
    · have hm := allC_mem h4
      rw [show ((s.1.length : Int) == 0) = false by simp; intro e; rw [e] at hm; simp at hm, decide_eq_true (show 0 < s.1.length by omega)]
      simp only [cF]
      exact ⟨_, rfl, rfl, by unfold Small; simp only []; omega⟩
end Go.Proofs.Ytjhaealoneennaa
