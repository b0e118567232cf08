/- More rules: append of a whole slice, slices cut at their end, structs of numbers. Nothing of a program is named here. -/
import Derived.Test.YtjhaealoneennaaHeld
import Derived.Laws.Cover3
namespace Go.Proofs.Ytjhaealoneennaa
open Go.RowKit
set_option linter.unusedVariables false
set_option linter.unusedSimpArgs false

/-! ### append(s, x...) -/
theorem own_grows {P : Program} {t ty e : TypeId} {z : Value} {by_ : Nat} (ht : P.underlying t = some (.slice e)) (he : ElT P e z by_) (hz1 : z.oneCell' = true) (hby : by_ ≤ 24) {w : World} {v u : Value} {xs us : List Value} (h : OwnR w e v xs)
    (hl : xs.length + us.length < 1000000000) (hu : RdS (fun _ y x => y = x ∧ y.oneCell' = true) w u us) :
    ∃ v' w', (Builtin.append_ #[t, t] ty #[v, u]).run P w = .ok v' w' ∧ OwnR w' e v' (xs ++ us) ∧ w.grownBy w' v.ownBlock ∧ (v'.ownBlock = v.ownBlock ∨ ∀ g, v'.ownBlock = some g → w.heap.size ≤ g) := by
  obtain ⟨A, c, hv, hm, hc⟩ := hu
  by_cases h0 : us.length = 0
  · have hn : us = [] := List.eq_nil_of_length_eq_zero h0
    subst hn
    cases A with
    | some ad =>
      rw [hv]
      exact own_app ht he hz1 hby h (by omega) ad c (by simp) (by simp)
    | none =>
      obtain ⟨i, hi, hz, hs, hb⟩ := he.info
      refine ⟨v, w, ?_, by simpa using h, ⟨rfl, rfl, rfl, Nat.le_refl _, fun _ _ _ => rfl⟩, .inl rfl⟩
      rw [hv]
      rcases h with ⟨rfl, hx⟩ | ⟨g, off, cap, cur, rfl, hg, hnc, hcm, hcs, htake⟩
      · simp [Builtin.append_, run_underlying ht, sizeOf, typeInfo, hi, Builtin.lenOf, Builtin.firstCells, loadCells, loadCellsFrom]
      · simp [Builtin.append_, run_underlying ht, sizeOf, typeInfo, hi, Builtin.lenOf, Builtin.firstCells, loadCells, loadCellsFrom, hnc, storeCells]
  · obtain ⟨ad, ha, hlt, hel⟩ := hc (by omega)
    subst ha
    rw [hv]
    refine own_app ht he hz1 hby h (by omega) ad c (fun j u' hj => ?_) (fun y hy => ?_)
    · obtain ⟨y, h1, h2, _⟩ := hel j u' hj
      rw [h1, h2]
    · obtain ⟨j, hj⟩ := List.getElem?_of_mem hy
      obtain ⟨y', _, h2, h3⟩ := hel j y hj
      rw [← h2]; exact h3
theorem Mem.grows {P : Program} {t ty e : TypeId} {z : Value} {by_ : Nat} (ht : P.underlying t = some (.slice e)) (he : ElT P e z by_) (hz1 : z.oneCell' = true) (hby : by_ ≤ 24) {W w : World} {As : List Atom} {v u : Value} {xs us : List Value} (h : Mem W w (aRow e v xs :: As))
    (hl : xs.length + us.length < 1000000000) (hu : RdS (fun _ y x => y = x ∧ y.oneCell' = true) w u us) :
    ∃ v' w', (Builtin.append_ #[t, t] ty #[v, u]).run P w = .ok v' w' ∧ Mem W w' (aRow e v' (xs ++ us) :: As) := by
  obtain ⟨f, ⟨hf, ho⟩, hlt⟩ := h.get (i := 0) rfl
  obtain ⟨v', w', hr, h2, h3, h5⟩ := own_grows (ty := ty) ht he hz1 hby ho hl hu
  refine ⟨v', w', hr, h.turn h3.os h3.tape h3.output h3.size fun f hs hn => ⟨obl v', ⟨rfl, h2⟩, ?_, fun g hg => ?_, fun k hk hnot => h3.block k hk ?_⟩⟩
  · unfold obl; cases v'.ownBlock <;> simp
  · rw [hs.1]
    have hlt' := h2.lt g hg
    unfold obl at hg ⊢
    rcases h5 with h5 | h5
    · rw [h5] at hg; exact .inl hg
    · exact .inr ⟨h5 g (by simpa using hg), hlt'⟩
  · intro e
    apply hnot
    rw [hs.1]
    unfold obl
    rw [← e]
    simp
theorem RdI.cells {w : World} {v : Value} {l : List Int} (h : RdI w v l) : RdS (fun _ y x => y = x ∧ y.oneCell' = true) w v (l.map (Value.int .i64)) := by
  obtain ⟨A, c, hv, hm, hc⟩ := h
  refine ⟨A, c, by simpa using hv, by simpa using hm, fun h0 => ?_⟩
  obtain ⟨ad, ha, hl, he⟩ := hc (by simpa using h0)
  refine ⟨ad, ha, hl, fun i x hx => ?_⟩
  rw [List.getElem?_map] at hx
  cases hi : l[i]? with
  | none => rw [hi] at hx; cases hx
  | some n =>
    rw [hi] at hx
    simp only [Option.map_some, Option.some.injEq] at hx
    obtain ⟨u, h1, h2⟩ := he i n hi
    refine ⟨u, h1, ?_, ?_⟩
    · rw [show u = _ from h2, hx]
    · rw [show u = _ from h2]; rfl
section
variable {P : Program} {ops : Array Oper} {Q : Exit → Act → World → Prop} {a : Act} {w W : World} {rest : List Oper} {N : Nat} {L : List (Nat × Value)} {As : List Atom}
variable {d : Option Nat} {ty : TypeId} {pos : String} {af : Array Edge} {gd : Option (Nat × Bool)} {t e ts ti : TypeId} {z : Value} {by_ : Nat} {x y s : Operand}
/-- 'append(s, x...)', numbers; s is owned or nil. -/
theorem x_appS {v u : Value} {l l2 l' : List Int} (ht : P.underlying t = some (.slice e)) (he : ElT P e (.int .i64 0) 8) (hs : Fr a N L) (hv : evA L [s, x] = some [v, u]) (hM : Mem W w (aInts e v l :: As)) (hr : RdI w u l2) (ha : appS l l2 = some l') :
    ∃ v' w', (execOp a.eval ⟨d, .call ⟨.builtin .append, #[s, x], #[t, t]⟩, ty, pos, af, gd⟩).run P w = .ok (.value v') w' ∧ Mem W w' (aInts e v' l' :: As) := by
  obtain ⟨rfl, hl⟩ := appS_spec ha
  obtain ⟨v', w', hr', hm⟩ := Mem.grows (ty := ty) ht he rfl (by omega) hM (us := l2.map (Value.int .i64)) (by simpa using hl) hr.cells
  refine ⟨v', w', ?_, by simpa [aInts] using hm⟩
  rw [exec_append (xs := []) hs hv, Sem.run_bind, hr']
  rfl
end
/-- A slice that is nil reads as the empty list. -/
theorem RdS.isnil {α : Type} {R : World → Value → α → Prop} {w : World} {v : Value} {l : List α} (h : RdS R w v l) : (∃ c, v = .slice none 0 c ∧ l = []) ∨ ∃ ad n c, v = .slice (some ad) n c := by
  obtain ⟨A, c, hv, hm, hc⟩ := h
  cases A with
  | some ad => exact .inr ⟨ad, _, c, hv⟩
  | none =>
    refine .inl ⟨c, ?_⟩
    cases l with
    | nil => exact ⟨by simpa using hv, rfl⟩
    | cons x l =>
      obtain ⟨ad, ha, _⟩ := hc (by simp)
      cases ha
theorem Mem.atMv {W w : World} {As : List Atom} (h : Mem W w As) (i : Nat) {ts ti : TypeId} {v x : Value} {vs : List Value} {m : List (List Int)} {out : Nat → Bool} {j : Int} {l : List Int} (hi : As[i]? = some (aMatO ts ti v vs m out))
    (hl : idx m j = some l) (hv : vs[j.toNat]? = some x) : ElemAt w v j x := by
  obtain ⟨u, h1, h2⟩ := h.atM i hi hl
  rw [h1] at hv
  cases hv
  exact h2
theorem wmemg {P : Program} {ops : Array Oper} {Q : Exit → Act → World → Prop} {a : Act} {w : World} {rest : List Oper} {N : Nat} {L : List (Nat × Value)} {d j : Nat} {b b' : Bool} {op : Op} {ty : TypeId} {pos : String} {af : Array Edge} {R : Value → World → Prop} (hs : Fr a N L)
    (hg : gval ops L j = some (.bool b')) (hb : b' = b)
    (h : ∃ v w', (execOp a.eval ⟨some d, op, ty, pos, af, some (j, b)⟩).run P w = .ok (.value v) w' ∧ R v w') (hd : Nat.ble (d + 1) N = true) (k : ∀ a' v w', Fr a' N ((d, v) :: L) → R v w' → wpList P ops Q rest a' w') :
    wpList P ops Q (⟨some d, op, ty, pos, af, some (j, b)⟩ :: rest) a w := by
  obtain ⟨v, w', hr, hR⟩ := h
  refine wpList_step fun K hK => ?_
  rw [wanted_of hs rfl hg, hb]
  simp only [beq_self_eq_true, if_true]
  unfold Oper.wp
  rw [hr]
  exact hK _ _ (k _ _ _ (hs.put (Nat.le_of_ble_eq_true hd) v) hR)
theorem on_nil {P : Program} {ops : Array Oper} {K : Act → World → Prop} {a : Act} {w : World} (h : K a w) : wpList P ops (onN K) [] a w := h
section
variable {P : Program} {d : Option Nat} {ty : TypeId} {pos : String} {af : Array Edge} {gd : Option (Nat × Bool)} {t e : TypeId} {a : Act} {w : World} {N : Nat} {L : List (Nat × Value)} {x y : Operand} {v : Value}
theorem y_nil_eqlT {t' : TypeId} {c : Nat} (ht : P.underlying t = some (.slice e)) (hs : Fr a N L) (hx : evL L x = some (.slice none 0 c)) (hy : evL L y = some (.slice none 0 0)) : Yld P ⟨d, .binOp .eql t x y t', ty, pos, af, gd⟩ a w (.bool true) := by
  have h1 : (eqGuard .eql t x y (.slice none 0 c) (.slice none 0 0)).run P w = .ok () w := rfl
  unfold Yld
  simp [execOp, hs.ev hx, hs.ev hy, h1, binOp, run_equal_slice_nil w t e none 0 c ht]
theorem y_nil_eqlF {t' : TypeId} {ad : Addr} {n c : Nat} (ht : P.underlying t = some (.slice e)) (hs : Fr a N L) (hx : evL L x = some (.slice (some ad) n c)) (hy : evL L y = some (.slice none 0 0)) : Yld P ⟨d, .binOp .eql t x y t', ty, pos, af, gd⟩ a w (.bool false) := by
  have h1 : (eqGuard .eql t x y (.slice (some ad) n c) (.slice none 0 0)).run P w = .ok () w := rfl
  unfold Yld
  simp [execOp, hs.ev hx, hs.ev hy, h1, binOp, run_equal_slice_nil w t e (some ad) n c ht]
end

/-! ### Matrices out of rows, and joined -/
theorem rowsFp_app {out : Nat → Bool} (h : ∀ i, out i = false) : ∀ {vs us : List Value} {k j : Nat}, rowsFp out k (vs ++ us) = rowsFp out k vs ++ rowsFp out j us
  | [], us, k, j => by
    simp only [List.nil_append, rowsFp]
    induction us generalizing k j with
    | nil => rfl
    | cons x r ih => simp only [rowsFp, h, cond_false]; rw [ih]
  | x :: r, us, k, j => by simp only [List.cons_append, rowsFp, h, cond_false, List.append_assoc]; rw [rowsFp_app h (j := j)]
theorem Mem.fuse {W w : World} {As : List Atom} {ts ti : TypeId} {v xv : Value} {l : List Int} (h : Mem W w (aRow ts v [xv] :: aInts ti xv l :: As)) : Mem W w (aMat ts ti v [xv] [l] :: As) := by
  obtain ⟨F, ⟨f, F', e, hs, ⟨f2, F2, e2, hs2, h2⟩⟩, h3, h4⟩ := h.hp.ex
  refine ⟨h.bel, ⟨F, ⟨f ++ f2, F2, by rw [e, e2, List.append_assoc], ⟨?_, hs.2, rfl, ?_⟩, h2⟩, h3, h4⟩⟩
  · rw [hs.1, hs2.1]
    simp [rowsFp]
  · intro i x q _ hx hq
    have hi : i = 0 := by
      have := (List.getElem?_eq_some_iff.1 hx).1
      simp at this; omega
    subst hi
    simp at hx hq
    subst hx; subst hq
    exact hs2.2
theorem RdS.vals {w : World} {v : Value} {vs : List Value} {e : TypeId} (h : OwnR w e v vs) (h1 : ∀ u ∈ vs, u.oneCell' = true) : RdS (fun _ y x => y = x ∧ y.oneCell' = true) w v vs :=
  h.rd rfl fun i u x hu hx => by rw [hu] at hx; cases hx; exact ⟨rfl, h1 u (List.mem_of_getElem? hu)⟩
theorem Mem.growsM {P : Program} {t ty ts ti : TypeId} (ht : P.underlying t = some (.slice ts)) (he : ElT P ts (.slice none 0 0) 24) {W w : World} {As : List Atom} {v u : Value} {vs us : List Value} {m m2 m' : List (List Int)} (h : Mem W w (aMat ts ti v vs m :: aMat ts ti u us m2 :: As))
    (ha : appS m m2 = some m') :
    ∃ v' w', (Builtin.append_ #[t, t] ty #[v, u]).run P w = .ok v' w' ∧ Mem W w' (aMat ts ti v' (vs ++ us) m' :: As) := by
  obtain ⟨rfl, hl⟩ := appS_spec ha
  obtain ⟨F, ⟨f, F', e, hs, ⟨f2, F2, e2, hs2, h2⟩⟩, h3, h4⟩ := h.hp.ex
  obtain ⟨h1, ho, hlen, hrows⟩ := hs
  obtain ⟨h1', ho', hlen', hrows'⟩ := hs2
  have hone : ∀ x ∈ us, x.oneCell' = true := fun x hx => by
    obtain ⟨i, hi⟩ := List.getElem?_of_mem hx
    have hil := (List.getElem?_eq_some_iff.1 hi).1
    exact own_one (hrows' i x m2[i] rfl hi (List.getElem?_eq_getElem (by omega)))
  obtain ⟨v', w', hr, g2, g3, g5⟩ := own_grows (ty := ty) ht he rfl (by omega) ho (by omega) (RdS.vals ho' hone)
  have hF : F = obl v ++ (rowsFp (fun _ => false) 0 vs ++ (obl u ++ (rowsFp (fun _ => false) 0 us ++ F2))) := by rw [e, e2, h1, h1']; simp
  subst hF
  obtain ⟨n1, n2, n3⟩ := List.nodup_append.1 h3
  have hdis : ∀ k, k ∈ (rowsFp (fun _ => false) 0 vs ++ (obl u ++ (rowsFp (fun _ => false) 0 us ++ F2))) → w'.heap[k]? = w.heap[k]? := fun k hk => g3.block k (h4 k (List.mem_append_right _ hk)).2 fun e => by
    refine n3 k ?_ k hk rfl
    unfold obl; rw [← e]; simp
  have hnew : ∀ g ∈ obl v', g ∈ obl v ∨ w.heap.size ≤ g := fun g hg => by
    unfold obl at hg ⊢
    rcases g5 with g5 | g5
    · rw [g5] at hg; exact .inl hg
    · exact .inr (g5 g (by simpa using hg))
  have efp : rowsFp (fun _ => false) 0 (vs ++ us) = rowsFp (fun _ => false) 0 vs ++ rowsFp (fun _ => false) 0 us := rowsFp_app (fun _ => rfl)
  refine ⟨v', w', hr, ⟨⟨g3.os.trans h.bel.os, g3.tape.trans h.bel.tape, g3.output.trans h.bel.output, Nat.le_trans h.bel.size g3.size, fun k hk => ?_⟩,
    ⟨(obl v' ++ rowsFp (fun _ => false) 0 (vs ++ us)) ++ F2, ⟨_, F2, rfl, ⟨rfl, g2, by simp [hlen, hlen'], ?_⟩, h2.keep fun g hg => hdis g (by simp [hg])⟩, ?_, fun g hg => ?_⟩⟩⟩
  · refine (g3.block k (Nat.lt_of_lt_of_le hk h.bel.size) fun e => ?_).trans (h.bel.block k hk)
    have := (h4 k (List.mem_append_left _ (by unfold obl; rw [← e]; simp))).1
    omega
  · intro i y q _ hy hq
    by_cases hi : i < vs.length
    · rw [List.getElem?_append_left hi] at hy
      rw [List.getElem?_append_left (by omega)] at hq
      exact (hrows i y q rfl hy hq).keep fun g hg => hdis g (List.mem_append_left _ (mem_rowsFp hy rfl g hg))
    · rw [List.getElem?_append_right (by omega)] at hy
      rw [List.getElem?_append_right (by omega)] at hq
      rw [show i - m.length = i - vs.length by omega] at hq
      exact (hrows' _ y q rfl hy hq).keep fun g hg => hdis g (by
        have := mem_rowsFp (out := fun _ => false) (k := 0) hy rfl g hg
        simp [this])
  · rw [efp]
    have n4 := (List.nodup_append.1 n2).2.1
    have n5 := (List.nodup_append.1 n4).2.1
    have all : (rowsFp (fun _ => false) 0 vs ++ rowsFp (fun _ => false) 0 us ++ F2).Nodup := by
      rw [List.append_assoc]
      refine List.nodup_append.2 ⟨(List.nodup_append.1 n2).1, n5, fun p hp q hq => (List.nodup_append.1 n2).2.2 p hp q (List.mem_append_right _ hq)⟩
    rw [List.append_assoc]
    refine List.nodup_append.2 ⟨by unfold obl; cases v'.ownBlock <;> simp, all, fun p hp q hq epq => ?_⟩
    subst epq
    have hin : p ∈ (rowsFp (fun _ => false) 0 vs ++ (obl u ++ (rowsFp (fun _ => false) 0 us ++ F2))) := by
      rcases List.mem_append.1 hq with h | h
      · rcases List.mem_append.1 h with h | h <;> simp [h]
      · simp [h]
    rcases hnew p hp with h | h
    · exact n3 p h p hin rfl
    · have := (h4 p (List.mem_append_right _ hin)).2
      omega
  · rcases List.mem_append.1 hg with hg | hg
    · rcases List.mem_append.1 hg with hg | hg
      · have hlt := g2.lt g hg
        rcases hnew g hg with h5 | h5
        · exact ⟨(h4 g (List.mem_append_left _ h5)).1, Nat.lt_of_lt_of_le (h4 g (List.mem_append_left _ h5)).2 g3.size⟩
        · exact ⟨Nat.le_trans h.bel.size h5, hlt⟩
      · rw [efp] at hg
        have hin : g ∈ (rowsFp (fun _ => false) 0 vs ++ (obl u ++ (rowsFp (fun _ => false) 0 us ++ F2))) := by
          rcases List.mem_append.1 hg with h | h <;> simp [h]
        exact ⟨(h4 g (List.mem_append_right _ hin)).1, Nat.lt_of_lt_of_le (h4 g (List.mem_append_right _ hin)).2 g3.size⟩
    · exact ⟨(h4 g (by simp [hg])).1, Nat.lt_of_lt_of_le (h4 g (by simp [hg])).2 g3.size⟩
section
variable {P : Program} {ops : Array Oper} {Q : Exit → Act → World → Prop} {a : Act} {w W : World} {rest : List Oper} {N : Nat} {L : List (Nat × Value)} {As : List Atom}
variable {d : Option Nat} {ty : TypeId} {pos : String} {af : Array Edge} {gd : Option (Nat × Bool)} {t e ts ti : TypeId} {z : Value} {by_ : Nat} {x y s : Operand}
theorem x_new1M {xv : Value} {l : List Int} (ht : P.underlying t = some (.slice ts)) (he : ElT P ts (.slice none 0 0) 24) (hs : Fr a N L) (hx : evL L x = some xv) (hM : Mem W w (aInts ti xv l :: As)) :
    ∃ v w', (execOp a.eval ⟨d, .buildSlice t 1 #[(0, x)], ty, pos, af, gd⟩).run P w = .ok (.value v) w' ∧ Mem W w' (aMat ts ti v [xv] [l] :: As) := by
  refine ⟨_, _, ?_, (hM.newRow ts [xv] (by simp [maxLen])).fuse⟩
  simp [execOp, hs.ev hx, run_build1 ht he xv hM.one]
theorem x_appSM {v u : Value} {vs us : List Value} {l l2 l' : List (List Int)} (ht : P.underlying t = some (.slice ts)) (he : ElT P ts (.slice none 0 0) 24) (hs : Fr a N L) (hv : evA L [s, x] = some [v, u]) (hM : Mem W w (aMat ts ti v vs l :: aMat ts ti u us l2 :: As)) (ha : appS l l2 = some l') :
    ∃ v' w', (execOp a.eval ⟨d, .call ⟨.builtin .append, #[s, x], #[t, t]⟩, ty, pos, af, gd⟩).run P w = .ok (.value v') w' ∧ Mem W w' (aMat ts ti v' (vs ++ us) l' :: As) := by
  obtain ⟨v', w', hr', hm⟩ := Mem.growsM (ty := ty) ht he hM ha
  refine ⟨v', w', ?_, hm⟩
  rw [exec_append (xs := []) hs hv, Sem.run_bind, hr']
  rfl
end

/-! ### l[:n] and l[n:] -/
theorem elem_of {P : Program} {t e : TypeId} (ht : P.underlying t = some (.slice e)) : P.elem t = e := by
  simp [Program.elem, ht]
theorem run_size {P : Program} {e : TypeId} {z : Value} {by_ : Nat} (he : ElT P e z by_) (w : World) : (sizeOf e).run P w = .ok 1 w := by
  obtain ⟨i, hi, hz, hs, hb⟩ := he.info
  simp [sizeOf, typeInfo, hi, hs]
theorem sliced_cut (A : Option Addr) (n c : Nat) : sliced A 0 n c 1 = .slice A n c := by
  unfold sliced
  cases A with
  | none => simp
  | some ad =>
    by_cases h : c = 0
    · simp [h]
    · rw [if_neg h]
      simp only [Option.map_some, Nat.zero_mul, Nat.sub_zero, Value.slice.injEq, Option.some.injEq, and_true, true_and]
      unfold Addr.add
      split <;> simp_all
theorem RdS.cut {P : Program} {t e : TypeId} {z : Value} {by_ : Nat} {α : Type} {R : World → Value → α → Prop} {w0 : World} {v : Value} {l l' : List α} {n : Int} (ht : P.underlying t = some (.slice e)) (he : ElT P e z by_) (h : RdS R w0 v l) (hc : cutO l n = some l') :
    ∃ v', (∀ w, (Instr.sliceAt t v none (some (.int .i64 n)) none).run P w = .ok v' w) ∧ ∀ w, RdS R w v l → RdS R w v' l' := by
  obtain ⟨rfl, h0, h1⟩ := cutO_spec hc
  obtain ⟨A, c, hv, hm, hcc⟩ := h
  refine ⟨.slice A n.toNat c, fun w => ?_, fun w hw => ?_⟩
  · have ht' : P.underlying t = some (.slice (P.elem t)) := by rw [elem_of ht]; exact ht
    rw [hv, run_sliceAt_slice w t _ _ _ _ ht', run_slice_h w t A l.length c ht' .i64 n h0 (by omega), elem_of ht, run_size he]
    simp only [Result.andThen_ok, sliced_cut]
  · obtain ⟨A2, c2, hv2, hm2, hc2⟩ := hw
    rw [hv] at hv2
    simp only [Value.slice.injEq, true_and] at hv2
    obtain ⟨rfl, rfl⟩ := hv2
    refine ⟨A, c, by rw [List.length_take]; congr 1; omega, by rw [List.length_take]; omega, fun hp => ?_⟩
    rw [List.length_take] at hp
    obtain ⟨ad, ha, hl, hel⟩ := hc2 (by omega)
    refine ⟨ad, ha, hl, fun i x hx => hel i x ?_⟩
    have hi := (List.getElem?_eq_some_iff.1 hx).1
    rw [List.length_take] at hi
    rwa [List.getElem?_take_of_lt (by omega)] at hx
theorem add_add' (ad : Addr) (k i : Nat) (h : 0 < k) : (ad.add k).add i = ad.add (k + i) := by
  unfold Addr.add
  by_cases h1 : i = 0
  · subst h1; simp
  · have : ¬ k + i = 0 := by omega
    have : ¬ k = 0 := by omega
    simp [*, Nat.add_assoc]
theorem RdS.cutl {P : Program} {t e : TypeId} {z : Value} {by_ : Nat} {α : Type} {R : World → Value → α → Prop} {w0 : World} {v : Value} {l l' : List α} {n : Int} (ht : P.underlying t = some (.slice e)) (he : ElT P e z by_) (h : RdS R w0 v l) (hc : cutL l n = some l') :
    ∃ v', (∀ w, (Instr.sliceAt t v (some (.int .i64 n)) none none).run P w = .ok v' w) ∧ ∀ w, RdS R w v l → RdS R w v' l' := by
  obtain ⟨rfl, h0, h1⟩ := cutL_spec hc
  obtain ⟨A, c, hv, ⟨hm, hlc⟩, hcc⟩ := h
  refine ⟨sliced A n.toNat l.length c 1, fun w => ?_, fun w hw => ?_⟩
  · have ht' : P.underlying t = some (.slice (P.elem t)) := by rw [elem_of ht]; exact ht
    rw [hv, run_sliceAt_slice w t _ _ _ _ ht', run_slice_l w t A l.length c ht' .i64 n h0 (by omega), elem_of ht, run_size he]
    simp only [Result.andThen_ok]
  · obtain ⟨A2, c2, hv2, hm2, hc2⟩ := hw
    rw [hv] at hv2
    simp only [Value.slice.injEq, true_and] at hv2
    obtain ⟨rfl, rfl⟩ := hv2
    refine ⟨if c = n.toNat then A else A.map (·.add (n.toNat * 1)), c - n.toNat, by rw [List.length_drop]; rfl, ⟨by rw [List.length_drop]; omega, by rw [List.length_drop]; omega⟩, fun hp => ?_⟩
    rw [List.length_drop] at hp
    obtain ⟨ad, ha, hl, hel⟩ := hc2 (by omega)
    subst ha
    have hne : ¬ c = n.toNat := by clear hel hcc hc2 hl; omega
    simp only [hne, if_false, Option.map_some, Nat.mul_one]
    refine ⟨_, rfl, by rw [add_block]; exact hl, fun i x hx => ?_⟩
    rw [List.getElem?_drop] at hx
    by_cases hk : n.toNat = 0
    · rw [hk] at hx ⊢
      have : ad.add 0 = ad := by unfold Addr.add; simp
      rw [this]
      rw [Nat.zero_add] at hx
      exact hel i x hx
    · rw [add_add' ad _ _ (by omega)]
      exact hel _ x hx
section
variable {P : Program} {a : Act} {w W : World} {N : Nat} {L : List (Nat × Value)} {As : List Atom} {d : Option Nat} {ty : TypeId} {pos : String} {af : Array Edge} {gd : Option (Nat × Bool)} {t : TypeId} {x y : Operand} {v v' : Value} {n : Int}
theorem y_cutl (hs : Fr a N L) (hx : evL L x = some v) (hy : evL L y = some (.int .i64 n)) (hr : ∀ w, (Instr.sliceAt t v (some (.int .i64 n)) none none).run P w = .ok v' w) : Yld P ⟨d, .slice t x (some y) none none, ty, pos, af, gd⟩ a w v' := by
  unfold Yld
  have := hr w
  simp [execOp, hs.ev hx, hs.ev hy, this]
theorem y_cut (hs : Fr a N L) (hx : evL L x = some v) (hy : evL L y = some (.int .i64 n)) (hr : ∀ w, (Instr.sliceAt t v none (some (.int .i64 n)) none).run P w = .ok v' w) : Yld P ⟨d, .slice t x none (some y) none, ty, pos, af, gd⟩ a w v' := by
  unfold Yld
  simp [execOp, hs.ev hx, hs.ev hy, hr]
end

/-- An owned slice cut at its end stays owned. -/
theorem OwnR.cut {w : World} {e : TypeId} {v : Value} {xs : List Value} {n : Nat} (h : OwnR w e v xs) (hn : n ≤ xs.length) : ∃ A c, v = .slice A xs.length c ∧ xs.length ≤ c ∧ OwnR w e (.slice A n c) (xs.take n) ∧ obl (.slice A n c) = obl v := by
  rcases h with ⟨hv, h0⟩ | ⟨g, off, cap, cur, hv, hg, hnc, hcm, hcs, htake⟩
  · subst h0
    have : n = 0 := by simpa using hn
    subst this
    exact ⟨none, 0, by rw [hv]; rfl, Nat.le_refl _, OwnR.nil_ _ _, by rw [hv]⟩
  · refine ⟨some ⟨g, off, none⟩, cap, hv, hnc, .inr ⟨g, off, cap, cur, by simp [Nat.min_eq_left hn], hg, by simp; omega, hcm, hcs, ?_⟩, by rw [hv]; rfl⟩
    conv => rhs; rw [← htake]
    rw [List.take_take, List.length_take]
theorem Mem.cutI {P : Program} {t e : TypeId} {z : Value} {by_ : Nat} {W w : World} {As : List Atom} {v : Value} {l l' : List Int} {n : Int} (ht : P.underlying t = some (.slice e)) (he : ElT P e z by_) (h : Mem W w (aInts e v l :: As)) (hc : cutO l n = some l') :
    ∃ v', (∀ w, (Instr.sliceAt t v none (some (.int .i64 n)) none).run P w = .ok v' w) ∧ Mem W w (aInts e v' l' :: As) := by
  obtain ⟨rfl, h0, h1⟩ := cutO_spec hc
  obtain ⟨f, ⟨hf, ho⟩, hlt⟩ := h.get (i := 0) rfl
  obtain ⟨A, c, hv, hlc, ho2, hob⟩ := ho.cut (n := n.toNat) (by simp; omega)
  rw [List.length_map] at hv hlc
  refine ⟨.slice A n.toNat c, fun w => ?_, ?_⟩
  · have ht' : P.underlying t = some (.slice (P.elem t)) := by rw [elem_of ht]; exact ht
    rw [hv, run_sliceAt_slice w t _ _ _ _ ht', run_slice_h w t A l.length c ht' .i64 n h0 (by omega), elem_of ht, run_size he]
    simp only [Result.andThen_ok, sliced_cut]
  · refine h.turn rfl rfl rfl (Nat.le_refl _) fun f hs hn => ⟨f, ⟨by rw [hs.1, hob], by rw [List.map_take]; exact ho2⟩, hn, fun g hg => .inl hg, fun k _ _ => rfl⟩

/-- An owned slice cut at its beginning stays owned. -/
theorem OwnR.cutl {w : World} {e : TypeId} {v : Value} {xs : List Value} {n : Nat} (h : OwnR w e v xs) (hn : n ≤ xs.length) : ∃ A c, v = .slice A xs.length c ∧ xs.length ≤ c ∧ OwnR w e (sliced A n xs.length c 1) (xs.drop n) ∧ obl (sliced A n xs.length c 1) = obl v := by
  rcases h with ⟨hv, h0⟩ | ⟨g, off, cap, cur, hv, hg, hnc, hcm, hcs, htake⟩
  · subst h0
    have : n = 0 := by simpa using hn
    subst this
    exact ⟨none, 0, by rw [hv]; rfl, Nat.le_refl _, OwnR.nil_ _ _, by rw [hv]; rfl⟩
  · refine ⟨some ⟨g, off, none⟩, cap, hv, hnc, ?_⟩
    have e0 : sliced (some ⟨g, off, none⟩) n xs.length cap 1 = .slice (if cap = n then some ⟨g, off, none⟩ else (some (⟨g, off, none⟩ : Addr)).map (·.add (n * 1))) (xs.length - n) (cap - n) := rfl
    rw [e0]
    by_cases hc : cap = n
    · rw [if_pos hc, hv]
      refine ⟨.inr ⟨g, off, 0, cur, by rw [List.length_drop]; congr 1; omega, hg, by rw [List.length_drop]; omega, by omega, by omega, ?_⟩, rfl⟩
      rw [List.length_drop, List.drop_eq_nil_of_le (show xs.length ≤ n by omega), show xs.length - n = 0 by omega, List.take_zero]
    · rw [if_neg hc, hv]
      simp only [Option.map_some, Nat.mul_one, addO]
      refine ⟨.inr ⟨g, off + n, cap - n, cur, by rw [List.length_drop], hg, by rw [List.length_drop]; omega, by omega, by omega, ?_⟩, rfl⟩
      conv => rhs; rw [← htake]
      rw [List.drop_take, List.drop_drop, List.length_drop]
theorem Mem.cutlI {P : Program} {t e : TypeId} {z : Value} {by_ : Nat} {W w : World} {As : List Atom} {v : Value} {l l' : List Int} {n : Int} (ht : P.underlying t = some (.slice e)) (he : ElT P e z by_) (h : Mem W w (aInts e v l :: As)) (hc : cutL l n = some l') :
    ∃ v', (∀ w, (Instr.sliceAt t v (some (.int .i64 n)) none none).run P w = .ok v' w) ∧ Mem W w (aInts e v' l' :: As) := by
  obtain ⟨rfl, h0, h1⟩ := cutL_spec hc
  obtain ⟨f, ⟨hf, ho⟩, hlt⟩ := h.get (i := 0) rfl
  obtain ⟨A, c, hv, hlc, ho2, hob⟩ := ho.cutl (n := n.toNat) (by simp; omega)
  rw [List.length_map] at hv hlc ho2 hob
  refine ⟨sliced A n.toNat l.length c 1, fun w => ?_, ?_⟩
  · have ht' : P.underlying t = some (.slice (P.elem t)) := by rw [elem_of ht]; exact ht
    rw [hv, run_sliceAt_slice w t _ _ _ _ ht', run_slice_l w t A l.length c ht' .i64 n h0 (by omega), elem_of ht, run_size he]
    simp only [Result.andThen_ok]
  · refine h.turn rfl rfl rfl (Nat.le_refl _) fun f hs hn => ⟨f, ⟨by rw [hs.1, hob], by rw [List.map_drop]; exact ho2⟩, hn, fun g hg => .inl hg, fun k _ _ => rfl⟩
/-! ### A new variable -/
section
variable {P : Program} {a : Act} {w W : World} {As : List Atom} {d : Option Nat} {ty : TypeId} {pos : String} {af : Array Edge} {gd : Option (Nat × Bool)} {e : TypeId} {z : Value} {by_ : Nat}
theorem x_alloc (he : ElT P e z by_) (hz : z.oneCell' = true) (hM : Mem W w As) :
    ∃ p w', (execOp a.eval ⟨d, .alloc e, ty, pos, af, gd⟩).run P w = .ok (.value p) w' ∧ ∃ g, p = .pointer (some ⟨g, 0, none⟩) ∧ Mem W w' (aBlk g e [z] :: As) := by
  obtain ⟨i, hi, hz0, hs, hb⟩ := he.info
  refine ⟨.pointer (some ⟨w.heap.size, 0, none⟩), w.alloc (.cells #[z] e), by simp [execOp, Instr.alloc, zeroValue, typeInfo, hi, hz0, newVar, newRow, cells_one z hz], w.heap.size, rfl, ?_⟩
  exact hM.new_ ((Below.refl _ _).alloc (Nat.le_refl _) _) (f := [w.heap.size]) ⟨rfl, by exact heap_alloc_new w _⟩ (by simp) (by simp)
end

theorem x_ret0 {P : Program} {a : Act} {w : World} {N : Nat} {L : List (Nat × Value)} {fn : Func} {R : Ending → World → Prop} (hr : fn.results = #[]) (hs : Fr a N L) (h : R (.returned (.tuple #[])) w) : bodyPost P fn R .ret a w := by
  exact bodyPost_ret (results_none hr _ _ _) hs.dfr h
end Go.Proofs.Ytjhaealoneennaa
