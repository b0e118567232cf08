/- More rules: append of a whole slice, slices cut at their end, structs of numbers. Nothing of a program is named here. -/
import Derived.Test.YtjicdfplhenohaaHeld
import Derived.Laws.Cover3
namespace Go.Proofs.Ytjicdfplhenohaa
open Go.RowKit
set_option linter.unusedVariables false
set_option linter.unusedSimpArgs false

/-! ### append(s, x...) -/
theorem own_grows {P : Program} {t ty e : TypeId} {z : Value} {by_ : Nat} (ht : P.underlying t = some (.slice e)) (he : ElT P e z by_) (hz1 : z.oneCell' = true) (hby : by_ ≤ 24) {w : World} {v u : Value} {xs us : List Value} (h : OwnR w e v xs)
    (hl : xs.length + us.length < 1000000000) (hu : RdS (fun _ y x => y = x ∧ y.oneCell' = true) w u us) :
    ∃ v' w', (Builtin.append_ #[t, t] ty #[v, u]).run P w = .ok v' w' ∧ OwnR w' e v' (xs ++ us) ∧ w.grownBy w' v.ownBlock ∧ (v'.ownBlock = v.ownBlock ∨ v'.ownBlock = some w.heap.size) := by
  obtain ⟨i, hi, hz, hs, hb⟩ := he.info
  have hbytes : (xs.length + us.length) * by_ ≤ 140737488355328 := Nat.le_trans (Nat.mul_le_mul_left _ hby) (by omega)
  obtain ⟨A, c, hv, hm, hc⟩ := hu
  by_cases h0 : us.length = 0
  · have hn : us = [] := List.eq_nil_of_length_eq_zero h0
    subst hn
    cases A with
    | some ad =>
      obtain ⟨v', w', hr, h2, h3, h4, h5⟩ := run_append_own_at (P := P) w 0 t ty e i z 1 by_ ht hi hz hs hb (by rw [cells_one z hz1]; rfl) (by omega) v xs.length xs h ad 0 c [] (by simp) (by simp) (by simp) (by simp only [maxLen]; omega) (by simpa using hbytes) (Nat.zero_le _)
      exact ⟨v', w', by rw [hv]; exact hr, by simpa [OwnR] using h2, h3, h5⟩
    | none =>
      refine ⟨v, w, ?_, by simpa using h, ⟨rfl, rfl, rfl, Nat.le_refl _, fun _ _ _ => rfl⟩, .inl rfl⟩
      rw [hv]
      rcases h.2 with ⟨rfl, hx⟩ | ⟨g, cap, cur, rfl, hbg, hg, hnc, hcm, hcs, htake⟩
      · simp [Builtin.append_, run_underlying ht, sizeOf, typeInfo, hi, Builtin.lenOf, Builtin.firstCells, loadCells, loadCellsFrom]
      · simp [Builtin.append_, run_underlying ht, sizeOf, typeInfo, hi, Builtin.lenOf, Builtin.firstCells, loadCells, loadCellsFrom, hnc, storeCells]
  · obtain ⟨ad, ha, hlt, hel⟩ := hc (by omega)
    subst ha
    have hnews : ∀ j u', us[j]? = some u' → w.cell? (ad.add j) = some u' := fun j u' hj => by
      obtain ⟨y, h1, h2, _⟩ := hel j u' hj
      rw [h1, h2]
    obtain ⟨v', w', hr, h2, h3, h4, h5⟩ := run_append_own_at (P := P) w 0 t ty e i z 1 by_ ht hi hz hs hb (by rw [cells_one z hz1]; rfl) (by omega) v xs.length xs h ad us.length c us (by simp) hnews (fun y hy => by
      obtain ⟨j, hj⟩ := List.getElem?_of_mem hy
      obtain ⟨y', _, h2, h3⟩ := hel j y hj
      rw [← h2]; exact h3) (by simp only [maxLen]; omega) hbytes (Nat.zero_le _)
    exact ⟨v', w', by rw [hv]; exact hr, by simpa [OwnR] using h2, h3, h5⟩
theorem Mem.grows {P : Program} {t ty e : TypeId} {z : Value} {by_ : Nat} (ht : P.underlying t = some (.slice e)) (he : ElT P e z by_) (hz1 : z.oneCell' = true) (hby : by_ ≤ 24) {W w : World} {As : List Atom} {v u : Value} {xs us : List Value} (h : Mem W w (aRow e v xs :: As))
    (hl : xs.length + us.length < 1000000000) (hu : RdS (fun _ y x => y = x ∧ y.oneCell' = true) w u us) :
    ∃ v' w', (Builtin.append_ #[t, t] ty #[v, u]).run P w = .ok v' w' ∧ Mem W w' (aRow e v' (xs ++ us) :: As) := by
  obtain ⟨f, ⟨hf, ho⟩, hlt⟩ := h.get (i := 0) rfl
  obtain ⟨v', w', hr, h2, h3, h5⟩ := own_grows (ty := ty) ht he hz1 hby ho hl hu
  refine ⟨v', w', hr, h.turn h3.os h3.tape h3.output h3.size fun f hs hn => ⟨obl v', ⟨rfl, h2⟩, ?_, fun g hg => ?_, fun k hk hnot => h3.block k hk ?_⟩⟩
  · unfold obl; cases v'.ownBlock <;> simp
  · rw [hs.1]
    have hlt' := h2.lt g hg
    unfold obl at hg ⊢
    rcases h5 with h5 | h5
    · rw [h5] at hg; exact .inl hg
    · rw [h5] at hg
      simp at hg
      exact .inr ⟨by omega, hlt'⟩
  · intro e
    apply hnot
    rw [hs.1]
    unfold obl
    rw [← e]
    simp
theorem RdI.cells {w : World} {v : Value} {l : List Int} (h : RdI w v l) : RdS (fun _ y x => y = x ∧ y.oneCell' = true) w v (l.map (Value.int .i64)) := by
  obtain ⟨A, c, hv, hm, hc⟩ := h
  refine ⟨A, c, by simpa using hv, by simpa using hm, fun h0 => ?_⟩
  obtain ⟨ad, ha, hl, he⟩ := hc (by simpa using h0)
  refine ⟨ad, ha, hl, fun i x hx => ?_⟩
  rw [List.getElem?_map] at hx
  cases hi : l[i]? with
  | none => rw [hi] at hx; cases hx
  | some n =>
    rw [hi] at hx
    simp only [Option.map_some, Option.some.injEq] at hx
    obtain ⟨u, h1, h2⟩ := he i n hi
    refine ⟨u, h1, ?_, ?_⟩
    · rw [show u = _ from h2, hx]
    · rw [show u = _ from h2]; rfl
section
variable {P : Program} {ops : Array Oper} {Q : Exit → Act → World → Prop} {a : Act} {w W : World} {rest : List Oper} {N : Nat} {L : List (Nat × Value)} {As : List Atom}
variable {d : Option Nat} {ty : TypeId} {pos : String} {af : Array Edge} {gd : Option (Nat × Bool)} {t e ts ti : TypeId} {z : Value} {by_ : Nat} {x y s : Operand}
/-- 'append(s, x...)', numbers; s is owned or nil. -/
theorem x_appS {v u : Value} {l l2 l' : List Int} (ht : P.underlying t = some (.slice e)) (he : ElT P e (.int .i64 0) 8) (hs : Fr a N L) (hv : evA L [s, x] = some [v, u]) (hM : Mem W w (aInts e v l :: As)) (hr : RdI w u l2) (ha : appS l l2 = some l') :
    ∃ v' w', (execOp a.eval ⟨d, .call ⟨.builtin .append, #[s, x], #[t, t]⟩, ty, pos, af, gd⟩).run P w = .ok (.value v') w' ∧ Mem W w' (aInts e v' l' :: As) := by
  obtain ⟨rfl, hl⟩ := appS_spec ha
  obtain ⟨v', w', hr', hm⟩ := Mem.grows (ty := ty) ht he rfl (by omega) hM (us := l2.map (Value.int .i64)) (by simpa using hl) hr.cells
  refine ⟨v', w', ?_, by simpa [aInts] using hm⟩
  rw [exec_append (xs := []) hs hv, Sem.run_bind, hr']
  rfl
end
/-- A slice that is nil reads as the empty list. -/
theorem RdS.isnil {α : Type} {R : World → Value → α → Prop} {w : World} {v : Value} {l : List α} (h : RdS R w v l) : (∃ c, v = .slice none 0 c ∧ l = []) ∨ ∃ ad n c, v = .slice (some ad) n c := by
  obtain ⟨A, c, hv, hm, hc⟩ := h
  cases A with
  | some ad => exact .inr ⟨ad, _, c, hv⟩
  | none =>
    refine .inl ⟨c, ?_⟩
    cases l with
    | nil => exact ⟨by simpa using hv, rfl⟩
    | cons x l =>
      obtain ⟨ad, ha, _⟩ := hc (by simp)
      cases ha
theorem Mem.atMv {W w : World} {As : List Atom} (h : Mem W w As) (i : Nat) {ts ti : TypeId} {v x : Value} {vs : List Value} {m : List (List Int)} {out : Nat → Bool} {j : Int} {l : List Int} (hi : As[i]? = some (aMatO ts ti v vs m out))
    (hl : idx m j = some l) (hv : vs[j.toNat]? = some x) : ElemAt w v j x := by
  obtain ⟨u, h1, h2⟩ := h.atM i hi hl
  rw [h1] at hv
  cases hv
  exact h2
theorem wmemg {P : Program} {ops : Array Oper} {Q : Exit → Act → World → Prop} {a : Act} {w : World} {rest : List Oper} {N : Nat} {L : List (Nat × Value)} {d j : Nat} {b b' : Bool} {op : Op} {ty : TypeId} {pos : String} {af : Array Edge} {R : Value → World → Prop} (hs : Fr a N L)
    (hg : gval ops L j = some (.bool b')) (hb : b' = b)
    (h : ∃ v w', (execOp a.eval ⟨some d, op, ty, pos, af, some (j, b)⟩).run P w = .ok (.value v) w' ∧ R v w') (hd : Nat.ble (d + 1) N = true) (k : ∀ a' v w', Fr a' N ((d, v) :: L) → R v w' → wpList P ops Q rest a' w') :
    wpList P ops Q (⟨some d, op, ty, pos, af, some (j, b)⟩ :: rest) a w := by
  obtain ⟨v, w', hr, hR⟩ := h
  refine wpList_step fun K hK => ?_
  rw [wanted_of hs rfl hg, hb]
  simp only [beq_self_eq_true, if_true]
  unfold Oper.wp
  rw [hr]
  exact hK _ _ (k _ _ _ (hs.put (Nat.le_of_ble_eq_true hd) v) hR)
theorem on_nil {P : Program} {ops : Array Oper} {K : Act → World → Prop} {a : Act} {w : World} (h : K a w) : wpList P ops (onN K) [] a w := h
section
variable {P : Program} {d : Option Nat} {ty : TypeId} {pos : String} {af : Array Edge} {gd : Option (Nat × Bool)} {t e : TypeId} {a : Act} {w : World} {N : Nat} {L : List (Nat × Value)} {x y : Operand} {v : Value}
theorem y_nil_eqlT {t' : TypeId} {c : Nat} (ht : P.underlying t = some (.slice e)) (hs : Fr a N L) (hx : evL L x = some (.slice none 0 c)) (hy : evL L y = some (.slice none 0 0)) : Yld P ⟨d, .binOp .eql t x y t', ty, pos, af, gd⟩ a w (.bool true) := by
  have h1 : (eqGuard .eql t x y (.slice none 0 c) (.slice none 0 0)).run P w = .ok () w := rfl
  unfold Yld
  simp [execOp, hs.ev hx, hs.ev hy, h1, binOp, run_equal_slice_nil w t e none 0 c ht]
theorem y_nil_eqlF {t' : TypeId} {ad : Addr} {n c : Nat} (ht : P.underlying t = some (.slice e)) (hs : Fr a N L) (hx : evL L x = some (.slice (some ad) n c)) (hy : evL L y = some (.slice none 0 0)) : Yld P ⟨d, .binOp .eql t x y t', ty, pos, af, gd⟩ a w (.bool false) := by
  have h1 : (eqGuard .eql t x y (.slice (some ad) n c) (.slice none 0 0)).run P w = .ok () w := rfl
  unfold Yld
  simp [execOp, hs.ev hx, hs.ev hy, h1, binOp, run_equal_slice_nil w t e (some ad) n c ht]
end
end Go.Proofs.Ytjicdfplhenohaa
