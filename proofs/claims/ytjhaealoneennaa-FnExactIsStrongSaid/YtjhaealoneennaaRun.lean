/- The rules for operations that change memory, and for each form of code. Nothing of a program is named here. -/
import Derived.Test.YtjhaealoneennaaOps
import Derived.Maps.AppendAt
import Derived.ArgAppend
namespace Go.Proofs.Ytjhaealoneennaa
open Go.RowKit
set_option linter.unusedVariables false

/-! ### Rows taken out of a matrix, and put back -/
def setO (out : Nat → Bool) (j : Nat) : Nat → Bool := fun i => cond (Nat.beq i j) true (out i)
theorem setO_same (out : Nat → Bool) (j : Nat) : setO out j j = true := by simp [setO]
theorem setO_other (out : Nat → Bool) {i j : Nat} (h : i ≠ j) : setO out j i = out i := by
  have : Nat.beq i j = false := by
    cases hb : Nat.beq i j
    · rfl
    · exact absurd (Nat.eq_of_beq_eq_true hb) h
  simp [setO, this]
theorem rowsFp_congr {o o' : Nat → Bool} : ∀ {vs : List Value} {k : Nat}, (∀ i, k ≤ i → o i = o' i) → rowsFp o k vs = rowsFp o' k vs
  | [], _, _ => rfl
  | x :: r, k, h => by simp only [rowsFp, h k (Nat.le_refl _)]; rw [rowsFp_congr (fun i hi => h i (by omega))]
theorem rowsFp_take {out : Nat → Bool} : ∀ {vs : List Value} {k j : Nat} {x : Value}, vs[j]? = some x → out (k + j) = false → (rowsFp out k vs).Perm (obl x ++ rowsFp (setO out (k + j)) k vs)
  | y :: r, k, 0, x, hx, ho => by
    simp only [List.getElem?_cons_zero, Option.some.injEq] at hx
    subst hx
    simp only [Nat.add_zero] at ho ⊢
    simp only [rowsFp, ho, cond_false, setO_same, cond_true, List.nil_append]
    rw [rowsFp_congr (o' := setO out k) (fun i hi => (setO_other out (by omega)).symm)]
  | y :: r, k, j + 1, x, hx, ho => by
    simp only [List.getElem?_cons_succ] at hx
    have e : k + 1 + j = k + (j + 1) := by omega
    have := rowsFp_take (out := out) (k := k + 1) (j := j) hx (by rw [e]; exact ho)
    rw [e] at this
    simp only [rowsFp, setO_other out (show k ≠ k + (j + 1) by omega)]
    refine ((List.Perm.refl _).append this).trans ?_
    rw [← List.append_assoc, ← List.append_assoc]
    exact List.perm_append_comm.append (List.Perm.refl _)
theorem rowsFp_set {out : Nat → Bool} : ∀ {vs : List Value} {k j : Nat} (x : Value), out (k + j) = true → rowsFp out k (vs.set j x) = rowsFp out k vs
  | [], _, _, _, _ => rfl
  | y :: r, k, 0, x, ho => by
    simp only [Nat.add_zero] at ho
    simp only [List.set_cons_zero, rowsFp, ho, cond_true]
  | y :: r, k, j + 1, x, ho => by
    simp only [List.set_cons_succ, rowsFp]
    rw [rowsFp_set x (by rw [← ho]; congr 1; omega)]
theorem rowsFp_append {out : Nat → Bool} : ∀ {vs : List Value} {k : Nat} (x : Value), rowsFp out k (vs ++ [x]) = rowsFp out k vs ++ cond (out (k + vs.length)) [] (obl x)
  | [], k, x => by simp [rowsFp]
  | y :: r, k, x => by
    simp only [List.cons_append, rowsFp, List.length_cons]
    rw [rowsFp_append x, List.append_assoc, show k + 1 + r.length = k + (r.length + 1) by omega]

theorem Mem.perm2 {W w : World} {As Bs : List Atom} (h : Mem W w As) (hF : ∀ F, Hpl w As F → ∃ G, F.Perm G ∧ Hpl w Bs G) : Mem W w Bs := by
  obtain ⟨F, h1, h2, h3⟩ := h.hp.ex
  obtain ⟨G, g1, g2⟩ := hF F h1
  exact ⟨h.bel, ⟨G, g2, g1.nodup_iff.1 h2, fun g hg => h3 g (g1.mem_iff.2 hg)⟩⟩

section
variable {W w : World} {As : List Atom} {ts ti : TypeId} {v x : Value} {vs : List Value} {m : List (List Int)} {l : List Int} {out : Nat → Bool} {j : Nat}
theorem Mem.take (h : Mem W w (aMatO ts ti v vs m out :: As)) (ho : out j = false) (hx : vs[j]? = some x) (hl : m[j]? = some l) : Mem W w (aInts ti x l :: aMatO ts ti v vs m (setO out j) :: As) := by
  refine h.perm2 fun F ⟨f, F', e, ⟨h1, h2, h3, h4⟩, h5⟩ => ?_
  have hp := rowsFp_take (out := out) (k := 0) (j := j) hx (by simpa using ho)
  simp only [Nat.zero_add] at hp
  refine ⟨obl x ++ ((obl v ++ rowsFp (setO out j) 0 vs) ++ F'), ?_, ⟨obl x, _, rfl, ⟨rfl, h4 j x l ho hx hl⟩, ⟨_, F', rfl, ⟨rfl, h2, h3, fun i y k hy => h4 i y k ?_⟩, h5⟩⟩⟩
  · rw [e, h1]
    refine List.perm_iff_count.2 fun b => ?_
    have := hp.count_eq b
    simp only [List.count_append] at this ⊢
    omega
  · by_cases e : i = j
    · rw [e, setO_same] at hy; cases hy
    · rw [setO_other out e] at hy; exact hy
theorem Mem.put (h : Mem W w (aInts ti x l :: aMatO ts ti v vs m (setO out j) :: As)) (ho : out j = false) (hx : vs[j]? = some x) : Mem W w (aMatO ts ti v vs (m.set j l) out :: As) := by
  refine h.perm2 fun F ⟨f, F1, e, ⟨h1, h2⟩, ⟨f2, F', e2, ⟨g1, g2, g3, g4⟩, h5⟩⟩ => ?_
  have hp := rowsFp_take (out := out) (k := 0) (j := j) hx (by simpa using ho)
  simp only [Nat.zero_add] at hp
  refine ⟨(obl v ++ rowsFp out 0 vs) ++ F', ?_, ⟨_, F', rfl, ⟨rfl, g2, by simpa using g3, fun i y k hy hv hm => ?_⟩, h5⟩⟩
  · rw [e, e2, h1, g1]
    refine List.perm_iff_count.2 fun b => ?_
    have := hp.count_eq b
    simp only [List.count_append] at this ⊢
    omega
  · by_cases e : i = j
    · subst e
      rw [hx] at hv
      have hlt : i < m.length := by have := (List.getElem?_eq_some_iff.1 hx).1; omega
      rw [List.getElem?_set_self hlt] at hm
      rw [← Option.some.inj hv, ← Option.some.inj hm]
      exact h2
    · rw [List.getElem?_set_ne (fun h => e h.symm)] at hm
      exact g4 i y k (by rw [setO_other out e]; exact hy) hv hm
theorem Mem.dropRow (h : Mem W w (aInts ti x l :: As)) : Mem W w As := h.drop
end

/-! ### Operations on memory -/
theorem cells_one (u : Value) (h : u.oneCell' = true) : u.cells = #[u] := by cases u <;> first | rfl | cases h
theorem run_build0 {P : Program} {t e : TypeId} (ht : SlT P t e) (w : World) : (Instr.buildSlice t 0 #[]).run P w = .ok (.slice (some ⟨w.heap.size, 0, none⟩) 0 0) (w.alloc (.cells #[] e)) := by
  obtain ⟨i, hi, hs⟩ := ht.sz
  simp [Instr.buildSlice, run_underlying ht.ut, sizeOf, typeInfo, hi, Instr.fill, newRow]
  congr 2
  exact Array.ext' (by simp)
theorem arr1 (f : Nat → Value) (u : Value) : ((Array.map f (Array.range 1)).setIfInBounds 0 u) = #[u] := by
  apply Array.ext'
  simp [List.range_succ]
theorem arr2 (f : Nat → Value) (u u' : Value) : ((Array.map f (Array.range 2)).setIfInBounds 0 u).setIfInBounds 1 u' = #[u, u'] := by
  apply Array.ext'
  simp [List.range_succ]
theorem run_build1 {P : Program} {t e : TypeId} {z : Value} {by_ : Nat} (ht : P.underlying t = some (.slice e)) (he : ElT P e z by_) (u : Value) (hu : u.oneCell' = true) (w : World) :
    (Instr.buildSlice t 1 #[(0, u)]).run P w = .ok (.slice (some ⟨w.heap.size, 0, none⟩) 1 1) (w.alloc (.cells #[u] e)) := by
  obtain ⟨i, hi, hz, hs, hb⟩ := he.info
  have h1 := cells_one u hu
  simp [Instr.buildSlice, run_underlying ht, sizeOf, typeInfo, zeroValue, hi, hz, hs, Instr.fill, newRow, h1, arr1]
theorem run_build2 {P : Program} {t e : TypeId} {z : Value} {by_ : Nat} (ht : P.underlying t = some (.slice e)) (he : ElT P e z by_) (u u' : Value) (hu : u.oneCell' = true) (hu' : u'.oneCell' = true) (w : World) :
    (Instr.buildSlice t 2 #[(0, u), (1, u')]).run P w = .ok (.slice (some ⟨w.heap.size, 0, none⟩) 2 2) (w.alloc (.cells #[u, u'] e)) := by
  obtain ⟨i, hi, hz, hs, hb⟩ := he.info
  have h1 := cells_one u hu
  have h2 := cells_one u' hu'
  simp [Instr.buildSlice, run_underlying ht, sizeOf, typeInfo, zeroValue, hi, hz, hs, Instr.fill, newRow, h1, h2, arr2]

theorem own_new (w : World) (e : TypeId) (cs : List Value) (hl : cs.length ≤ maxLen) : OwnR (w.alloc (.cells cs.toArray e)) e (.slice (some ⟨w.heap.size, 0, none⟩) cs.length cs.length) cs := by
  have := World.ownsRow_lit (base := 0) (e := e) (size := 1) w cs.toArray cs.length (Nat.zero_le _) hl (by simp)
  exact OwnR.of this
theorem Mem.newRow {W w : World} {As : List Atom} (h : Mem W w As) (e : TypeId) (cs : List Value) (hl : cs.length ≤ maxLen) :
    Mem W (w.alloc (.cells cs.toArray e)) (aRow e (.slice (some ⟨w.heap.size, 0, none⟩) cs.length cs.length) cs :: As) :=
  h.new_ ((Below.refl _ _).alloc (Nat.le_refl _) _) (f := [w.heap.size]) ⟨rfl, own_new w e cs hl⟩ (by simp) (by simp)
theorem Mem.nilI {W w : World} {As : List Atom} (h : Mem W w As) (e : TypeId) : Mem W w (aInts e (.slice none 0 0) [] :: As) :=
  h.new_ (Below.refl _ _) (f := []) ⟨rfl, OwnR.nil_ _ _⟩ List.nodup_nil (fun g hg => by cases hg)
theorem Mem.nilB {W w : World} {As : List Atom} (h : Mem W w As) (e : TypeId) : Mem W w (aBools e (.slice none 0 0) [] :: As) :=
  h.new_ (Below.refl _ _) (f := []) ⟨rfl, OwnR.nil_ _ _⟩ List.nodup_nil (fun g hg => by cases hg)
theorem Mem.nilM {W w : World} {As : List Atom} (h : Mem W w As) (ts ti : TypeId) : Mem W w (aMat ts ti (.slice none 0 0) [] [] :: As) :=
  h.new_ (Below.refl _ _) (f := []) ⟨rfl, OwnR.nil_ _ _, rfl, fun i x l _ hx _ => by simp at hx⟩ List.nodup_nil (fun g hg => by cases hg)

/-- append where there is room: the same block. -/
theorem append_room {P : Program} {w : World} {t ty e : TypeId} {i : TypeInfo} (ht : P.underlying t = some (.slice e)) (hi : P.info? e = some i) (hs : i.size = 1) {g off sLen sCap : Nat} {cur : Array Value} (hg : w.heap[g]? = some (.cells cur e (0, 0)))
    {a : Addr} {c : Nat} {news : List Value} (hnews : ∀ j u, news[j]? = some u → w.cell? (a.add j) = some u) (h1 : ∀ u ∈ news, u.oneCell' = true) (hroom : sLen + news.length ≤ sCap) (hfit : off + sLen + news.length ≤ cur.size) :
    (Builtin.append_ #[t, t] ty #[.slice (some ⟨g, off, none⟩) sLen sCap, .slice (some a) news.length c]).run P w =
      .ok (.slice (some ⟨g, off, none⟩) (sLen + news.length) sCap) (w.setRow g (cur.toList.take (off + sLen) ++ news ++ cur.toList.drop (off + sLen + news.length)).toArray) := by
  have hf := run_firstCells_some (P := P) w i.size news.length a news.length c news (by rw [hs, Nat.mul_one]) hnews
  rw [hs] at hf
  have hst := run_storeCells_at P g (off + sLen) e news 0 cur w hg (by simpa using hfit) h1
  simp only [Nat.add_zero] at hst
  simp [Builtin.append_, run_underlying ht, sizeOf, typeInfo, hi, Builtin.lenOf, hroom, hf, Addr.add_lit, hs, hst]
/-- An owned row grows at its end. -/
theorem own_app {P : Program} {t ty e : TypeId} {z : Value} {by_ : Nat} (ht : P.underlying t = some (.slice e)) (he : ElT P e z by_) (hz1 : z.oneCell' = true) (hby : by_ ≤ 24) {w : World} {v : Value} {xs us : List Value} (h : OwnR w e v xs)
    (hl : xs.length + us.length ≤ 1000000000) (ad : Addr) (c : Nat) (hnews : ∀ j u', us[j]? = some u' → w.cell? (ad.add j) = some u') (h1 : ∀ u ∈ us, u.oneCell' = true) :
    ∃ v' w', (Builtin.append_ #[t, t] ty #[v, .slice (some ad) us.length c]).run P w = .ok v' w' ∧ OwnR w' e v' (xs ++ us) ∧ w.grownBy w' v.ownBlock ∧ (v'.ownBlock = v.ownBlock ∨ ∀ g, v'.ownBlock = some g → w.heap.size ≤ g) := by
  obtain ⟨i, hi, hz, hs, hb⟩ := he.info
  have hbytes : (xs.length + us.length) * by_ ≤ 140737488355328 := Nat.le_trans (Nat.mul_le_mul_left _ hby) (by omega)
  have hzs : z.cells.size = 1 := by rw [cells_one z hz1]; rfl
  rcases h with ⟨rfl, rfl⟩ | ⟨g, off, cap, cur, rfl, hg, hnc, hcm, hcs, htake⟩
  · obtain ⟨v', w', hr, h2, h3, h4, h5⟩ := run_append_own_at (P := P) w w.heap.size t ty e i z 1 by_ ht hi hz hs hb hzs (by omega) (.slice none 0 0) 0 [] (World.ownsRow_nil _ _ _ _) ad us.length c us (by simp) hnews h1 (by simp only [maxLen]; simp at hl; omega) (by simpa using hbytes) (Nat.le_refl _)
    exact ⟨v', w', hr, OwnR.of h2, h3, .inr fun g hg => (h2.lt g hg).1⟩
  · by_cases hroom : xs.length + us.length ≤ cap
    · refine ⟨_, _, append_room ht hi hs hg hnews h1 hroom (by omega), ?_, ⟨rfl, rfl, rfl, by simp, fun k _ hk => setRow_other w g k _ (fun e => hk (by simp [e, Value.ownBlock]))⟩, .inl rfl⟩
      refine .inr ⟨g, off, cap, _, by rw [List.length_append], setRow_heap w g cur _ e (0, 0) hg, by rw [List.length_append]; exact hroom, hcm, ?_, ?_⟩
      · simp only [List.size_toArray, List.length_append, List.length_take, List.length_drop, Array.length_toList]
        omega
      · have hsz : cur.toList.length = cur.size := by simp
        rw [List.length_append]
        simp only []
        rw [List.append_assoc, List.drop_append_of_le_length (by rw [List.length_take]; omega), List.drop_take]
        rw [show off + xs.length - off = xs.length by omega, htake]
        rw [List.take_append, List.take_of_length_le (by omega), show xs.length + us.length - xs.length = us.length by omega, List.take_append, List.take_of_length_le (by omega), Nat.sub_self, List.take_zero, List.append_nil]
    · obtain ⟨v', w', hr, h2, h3⟩ := run_append_arg_grows (P := P) w t ty e i z 1 by_ ht hi hz hs hb hzs (by omega) ⟨g, off, none⟩ xs.length cap xs (by simp) (fun j u hj => by
        have hjl := (List.getElem?_eq_some_iff.1 hj).1
        rw [addO, own_cell hg htake hjl]; exact hj) ad us.length c us (by simp) hnews (by omega) (by simp only [maxLen]; omega) hbytes
      exact ⟨v', w', hr, OwnR.of h2, ⟨h3.os, h3.tape, h3.output, h3.size, fun k hk _ => h3.block k hk (by simp)⟩, .inr fun g hg => (h2.lt g hg).1⟩
theorem own_grow {P : Program} {t ty e : TypeId} {z : Value} {by_ : Nat} (ht : P.underlying t = some (.slice e)) (he : ElT P e z by_) (hz1 : z.oneCell' = true) (hby : by_ ≤ 24) {w : World} {v : Value} {xs : List Value} (h : OwnR w e v xs) (u : Value) (hu : u.oneCell' = true)
    (hl : xs.length < 1000000000) (ad : Addr) (c : Nat) (hc : w.cell? ad = some u) :
    ∃ v' w', (Builtin.append_ #[t, t] ty #[v, .slice (some ad) 1 c]).run P w = .ok v' w' ∧ OwnR w' e v' (xs ++ [u]) ∧ w.grownBy w' v.ownBlock ∧ (v'.ownBlock = v.ownBlock ∨ ∀ g, v'.ownBlock = some g → w.heap.size ≤ g) := by
  have hnews : ∀ j u', [u][j]? = some u' → w.cell? (ad.add j) = some u' := by
    intro j u' hj
    match j, hj with
    | 0, hj => simp at hj; subst hj; simpa [Addr.add] using hc
  exact own_app (us := [u]) ht he hz1 hby h (by simp; omega) ad c hnews (by simpa using hu)
theorem grown_lt {w w' : World} {e : TypeId} {v' : Value} {xs : List Value} (h : OwnR w' e v' xs) : ∀ g ∈ obl v', g < w'.heap.size := h.lt

theorem Mem.grow {P : Program} {t ty e : TypeId} {z : Value} {by_ : Nat} (ht : P.underlying t = some (.slice e)) (he : ElT P e z by_) (hz1 : z.oneCell' = true) (hby : by_ ≤ 24) {W w : World} {As : List Atom} {v : Value} {xs : List Value} (h : Mem W w (aRow e v xs :: As)) (u : Value) (hu : u.oneCell' = true)
    (hl : xs.length < 1000000000) (ad : Addr) (c : Nat) (hc : w.cell? ad = some u) :
    ∃ v' w', (Builtin.append_ #[t, t] ty #[v, .slice (some ad) 1 c]).run P w = .ok v' w' ∧ Mem W w' (aRow e v' (xs ++ [u]) :: As) := by
  obtain ⟨f, ⟨hf, ho⟩, hlt⟩ := h.get (i := 0) rfl
  obtain ⟨v', w', hr, h2, h3, h5⟩ := own_grow (ty := ty) ht he hz1 hby ho u hu hl ad c hc
  refine ⟨v', w', hr, h.turn h3.os h3.tape h3.output h3.size fun f hs hn => ⟨obl v', ⟨rfl, h2⟩, ?_, fun g hg => ?_, fun k hk hnot => h3.block k hk ?_⟩⟩
  · unfold obl; cases v'.ownBlock <;> simp
  · rw [hs.1]
    have hlt' := h2.lt g hg
    unfold obl at hg ⊢
    rcases h5 with h5 | h5
    · rw [h5] at hg; exact .inl hg
    · exact .inr ⟨h5 g (by simpa using hg), hlt'⟩
  · intro e
    apply hnot
    rw [hs.1]
    unfold obl
    rw [← e]
    simp
theorem Mem.growM {P : Program} {t ty ts ti : TypeId} (ht : P.underlying t = some (.slice ts)) (he : ElT P ts (.slice none 0 0) 24) {W w : World} {As : List Atom} {v x : Value} {vs : List Value} {m m' : List (List Int)} {l : List Int} (h : Mem W w (aMat ts ti v vs m :: aInts ti x l :: As))
    (hx1 : x.oneCell' = true) (ha : app m l = some m') (ad : Addr) (c : Nat) (hc : w.cell? ad = some x) :
    ∃ v' w', (Builtin.append_ #[t, t] ty #[v, .slice (some ad) 1 c]).run P w = .ok v' w' ∧ Mem W w' (aMat ts ti v' (vs ++ [x]) m' :: As) := by
  obtain ⟨rfl, hl⟩ := app_spec ha
  obtain ⟨F, ⟨f, F', e, hs, ⟨f2, F2, e2, hs2, h2⟩⟩, h3, h4⟩ := h.hp.ex
  obtain ⟨h1, ho, hlen, hrows⟩ := hs
  obtain ⟨v', w', hr, g2, g3, g5⟩ := own_grow (ty := ty) ht he rfl (by omega) ho x hx1 (by omega) ad c hc
  have hF : F = obl v ++ (rowsFp (fun _ => false) 0 vs ++ (obl x ++ F2)) := by rw [e, e2, h1, hs2.1]; simp
  subst hF
  obtain ⟨n1, n2, n3⟩ := List.nodup_append.1 h3
  have hdis : ∀ k, k ∈ (rowsFp (fun _ => false) 0 vs ++ (obl x ++ F2)) → w'.heap[k]? = w.heap[k]? := fun k hk => g3.block k (h4 k (List.mem_append_right _ hk)).2 fun e => by
    refine n3 k ?_ k hk rfl
    unfold obl; rw [← e]; simp
  have hnew : ∀ g ∈ obl v', g ∈ obl v ∨ w.heap.size ≤ g := fun g hg => by
    unfold obl at hg ⊢
    rcases g5 with g5 | g5
    · rw [g5] at hg; exact .inl hg
    · exact .inr (g5 g (by simpa using hg))
  refine ⟨v', w', hr, ⟨⟨g3.os.trans h.bel.os, g3.tape.trans h.bel.tape, g3.output.trans h.bel.output, Nat.le_trans h.bel.size g3.size, fun k hk => ?_⟩,
    ⟨(obl v' ++ rowsFp (fun _ => false) 0 (vs ++ [x])) ++ F2, ⟨_, F2, rfl, ⟨rfl, g2, by simp [hlen], ?_⟩, h2.keep fun g hg => hdis g (by simp [hg])⟩, ?_, fun g hg => ?_⟩⟩⟩
  · refine (g3.block k (Nat.lt_of_lt_of_le hk h.bel.size) fun e => ?_).trans (h.bel.block k hk)
    have := (h4 k (List.mem_append_left _ (by unfold obl; rw [← e]; simp))).1
    omega
  · intro i y q _ hy hq
    by_cases hi : i < vs.length
    · rw [List.getElem?_append_left hi] at hy
      rw [List.getElem?_append_left (by omega)] at hq
      exact (hrows i y q rfl hy hq).keep fun g hg => hdis g (List.mem_append_left _ (mem_rowsFp hy rfl g hg))
    · rw [List.getElem?_append_right (by omega)] at hy
      rw [List.getElem?_append_right (by omega)] at hq
      have hi0 : i - vs.length = 0 := by
        have := (List.getElem?_eq_some_iff.1 hy).1
        simp at this
        omega
      rw [hi0] at hy
      rw [show i - m.length = 0 by omega] at hq
      simp at hy hq
      subst hy; subst hq
      exact hs2.2.keep fun g hg => hdis g (by simp [hg])
  · rw [rowsFp_append]
    simp only [cond_false]
    refine List.nodup_append.2 ⟨?_, (List.nodup_append.1 (List.nodup_append.1 n2).2.1).2.1, ?_⟩
    · refine List.nodup_append.2 ⟨by unfold obl; cases v'.ownBlock <;> simp, ?_, fun p hp q hq epq => ?_⟩
      · have := n2
        rw [← List.append_assoc] at this
        exact (List.nodup_append.1 this).1
      · subst epq
        have hin : p ∈ (rowsFp (fun _ => false) 0 vs ++ (obl x ++ F2)) := by
          rcases List.mem_append.1 hq with h | h <;> simp [h]
        rcases hnew p hp with h | h
        · exact n3 p h p hin rfl
        · have := (h4 p (List.mem_append_right _ hin)).2
          omega
    · intro p hp q hq epq
      subst epq
      rcases List.mem_append.1 hp with hp | hp
      · have hin : p ∈ (rowsFp (fun _ => false) 0 vs ++ (obl x ++ F2)) := by simp [hq]
        rcases hnew p hp with h | h
        · exact n3 p h p hin rfl
        · have := (h4 p (List.mem_append_right _ hin)).2
          omega
      · have := n2
        rw [← List.append_assoc] at this
        exact (List.nodup_append.1 this).2.2 p hp p hq rfl
  · have hold : ∀ g, g ∈ obl v ++ (rowsFp (fun _ => false) 0 vs ++ (obl x ++ F2)) → W.heap.size ≤ g ∧ g < w'.heap.size := fun g hg => ⟨(h4 g hg).1, Nat.lt_of_lt_of_le (h4 g hg).2 g3.size⟩
    rw [rowsFp_append] at hg
    simp only [cond_false] at hg
    rcases List.mem_append.1 hg with hg | hg
    · rcases List.mem_append.1 hg with hg | hg
      · have hl' := g2.lt g hg
        rcases hnew g hg with h' | h'
        · exact ⟨(hold g (List.mem_append_left _ h')).1, hl'⟩
        · exact ⟨Nat.le_trans h.bel.size h', hl'⟩
      · refine hold g (List.mem_append_right _ ?_)
        rcases List.mem_append.1 hg with h | h <;> simp [h]
    · exact hold g (List.mem_append_right _ (by simp [hg]))

/-! ### Stores -/
theorem own_store {w : World} {e : TypeId} {v : Value} {xs : List Value} (h : OwnR w e v xs) {i : Int} (h0 : 0 ≤ i) (h1 : i < xs.length) (u : Value) :
    (∃ u', w.cell? (elemAddr v i) = some u') ∧ w.frozen? (elemAddr v i) = false ∧ OwnR (w.setCell (elemAddr v i) u) e v (xs.set i.toNat u) ∧ w.grownBy (w.setCell (elemAddr v i) u) v.ownBlock := by
  rcases h with ⟨hv, hn⟩ | ⟨g, off, cap, cur, hv, hg, hnc, hcm, hcs, htake⟩
  · rw [hn] at h1; simp at h1; omega
  · subst hv
    have hi : i.toNat < xs.length := by omega
    have ea : elemAddr (.slice (some ⟨g, off, none⟩) xs.length cap) i = ⟨g, off + i.toNat, none⟩ := by simp only [elemAddr]; exact addO _ _ _
    rw [ea]
    refine ⟨⟨xs[i.toNat], by rw [own_cell hg htake hi]; exact List.getElem?_eq_getElem hi⟩, frozen_of_row w g _ cur e hg,
      .inr ⟨g, off, cap, cur.setIfInBounds (off + i.toNat) u, by rw [List.length_set], heap_setCell_same w g _ cur e u hg, by rw [List.length_set]; exact hnc, hcm, by simpa using hcs, ?_⟩,
      ⟨rfl, rfl, rfl, by simp, fun k _ hk => heap_setCell_other w ⟨g, _, none⟩ k u (fun e => hk (by simp [e, Value.ownBlock]))⟩⟩
    rw [List.length_set, Array.toList_setIfInBounds]
    conv => rhs; rw [← htake]
    rw [List.drop_set, if_neg (by omega), show off + i.toNat - off = i.toNat by omega, List.take_set, htake]
theorem Mem.store {W w : World} {As : List Atom} {e : TypeId} {v : Value} {xs : List Value} (h : Mem W w (aRow e v xs :: As)) {i : Int} (h0 : 0 ≤ i) (h1 : i < xs.length) (u : Value) : Mem W (w.setCell (elemAddr v i) u) (aRow e v (xs.set i.toNat u) :: As) := by
  obtain ⟨f, ⟨hf, ho⟩, hlt⟩ := h.get (i := 0) rfl
  obtain ⟨_, _, h2, h3⟩ := own_store ho h0 h1 u
  refine h.turn h3.os h3.tape h3.output h3.size fun f hs hn => ⟨f, ⟨hs.1, h2⟩, hn, fun g hg => .inl hg, fun k hk hnot => h3.block k hk fun e => hnot ?_⟩
  rw [hs.1]; unfold obl; rw [← e]; simp
theorem run_storeAt {P : Program} {t : TypeId} {w : World} {p : Addr} {u u' : Value} (hsz : ∃ i, P.info? t = some i ∧ i.size = 1) (hu : u.oneCell' = true) (hc : w.cell? p = some u') (hf : w.frozen? p = false) :
    (Instr.storeAt t (.pointer (some p)) u).run P w = .ok () (w.setCell p u) := by
  obtain ⟨i, hi, hs⟩ := hsz
  have h1 := cells_one u hu
  have h2 : (store p u .plain).run P w = .ok () (w.setCell p u) := by rw [run_store P w p u .plain hu, hc]; simp [hf]
  simp [Instr.storeAt, Instr.sureAddr, storeVar, sizeOf, typeInfo, hi, hs, h1, storeCells, Addr.add, h2]
end Go.Proofs.Ytjhaealoneennaa
