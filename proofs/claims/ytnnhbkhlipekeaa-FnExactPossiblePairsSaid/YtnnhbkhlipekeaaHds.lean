/- Slices of which the row headers alone are copied: append(append(append(new, l[:k]...), x), l[k:]...), and the matrix that comes of it. Nothing of a program is named here. -/
import Derived.Test.YtnnhbkhlipekeaaStr
namespace Go.Proofs.Ytnnhbkhlipekeaa
open Go.RowKit
set_option linter.unusedVariables false
set_option linter.unusedSimpArgs false

def Vals (_ : World) (y x : Value) : Prop := y = x ∧ y.oneCell' = true
/-- The header cells of u are us, of the rows l. -/
structure HdV (w : World) (u : Value) (us : List Value) (l : List (List Int)) : Prop where
  rd : RdS Vals w u us
  len : us.length = l.length
section
variable {W w : World} {As : List Atom} {ts ti e : TypeId} {v x u : Value} {vs xs us : List Value} {m l l' m' : List (List Int)} {r : List Int} {n : Int}
theorem HdV.below {w' : World} (h : HdV w u us l) (hb : Below w.heap.size w w') : HdV w' u us l := ⟨RdS.below (fun _ _ _ _ h _ => h) h.rd hb, h.len⟩
theorem Mem.hdM (h : Mem W w As) (i : Nat) (hi : As[i]? = some (aMat ts ti v vs m)) : HdV w v vs m := by
  obtain ⟨f, ⟨h1, h2, h3, h4⟩, _⟩ := h.get hi
  exact ⟨RdS.vals h2 fun x hx => by
    obtain ⟨i, hi⟩ := List.getElem?_of_mem hx
    have hil := (List.getElem?_eq_some_iff.1 hi).1
    exact own_one (h4 i x m[i] rfl hi (List.getElem?_eq_getElem (by omega))), h3⟩
theorem Mem.hdH (h : Mem W w As) (i : Nat) (hi : As[i]? = some (aRow ts v xs)) (h1 : ∀ u ∈ xs, u.oneCell' = true) (hl : xs.length = l.length) : HdV w v xs l := by
  obtain ⟨f, ⟨_, h2⟩, _⟩ := h.get hi
  exact ⟨RdS.vals h2 h1, hl⟩
variable {P : Program} {t : TypeId} {z : Value} {by_ : Nat}
theorem HdV.cut {w0 : World} (ht : P.underlying t = some (.slice ts)) (he : ElT P ts z by_) (h : HdV w0 v vs m) (hc : cutO m n = some m') :
    ∃ v', (∀ w, (Instr.sliceAt t v none (some (.int .i64 n)) none).run P w = .ok v' w) ∧ ∀ w, HdV w v vs m → HdV w v' (vs.take n.toNat) m' := by
  obtain ⟨rfl, h0, h1⟩ := cutO_spec hc
  have hc2 : cutO vs n = some (vs.take n.toNat) := by unfold cutO; rw [decide_eq_true ⟨h0, by rw [h.len]; exact h1⟩]; rfl
  obtain ⟨v', k1, k2⟩ := RdS.cut ht he h.rd hc2
  exact ⟨v', k1, fun w hw => ⟨k2 w hw.rd, by rw [List.length_take, List.length_take, hw.len]⟩⟩
theorem HdV.cutl {w0 : World} (ht : P.underlying t = some (.slice ts)) (he : ElT P ts z by_) (h : HdV w0 v vs m) (hc : cutL m n = some m') :
    ∃ v', (∀ w, (Instr.sliceAt t v (some (.int .i64 n)) none none).run P w = .ok v' w) ∧ ∀ w, HdV w v vs m → HdV w v' (vs.drop n.toNat) m' := by
  obtain ⟨rfl, h0, h1⟩ := cutL_spec hc
  have hc2 : cutL vs n = some (vs.drop n.toNat) := by unfold cutL; rw [decide_eq_true ⟨h0, by rw [h.len]; exact h1⟩]; rfl
  obtain ⟨v', k1, k2⟩ := RdS.cutl ht he h.rd hc2
  exact ⟨v', k1, fun w hw => ⟨k2 w hw.rd, by rw [List.length_drop, List.length_drop, hw.len]⟩⟩
/-- A slice of headers that the call made, of the rows l. -/
def aHds (e : TypeId) (v : Value) (xs : List Value) (l : List (List Int)) : Atom :=
  ⟨fun w fp => (aRow e v xs).sat w fp ∧ xs.length = l.length ∧ ∀ u ∈ xs, u.oneCell' = true, fun h hk => ⟨(aRow e v xs).keep h.1 hk, h.2⟩⟩
theorem Mem.hds (h : Mem W w (aRow e v xs :: As)) (hl : xs.length = l.length) (h1 : ∀ u ∈ xs, u.oneCell' = true) : Mem W w (aHds e v xs l :: As) := by
  obtain ⟨F, ⟨f, F', e1, hs, h2⟩, h3, h4⟩ := h.hp.ex
  exact ⟨h.bel, ⟨F, ⟨f, F', e1, ⟨hs, hl, h1⟩, h2⟩, h3, h4⟩⟩
theorem Mem.unhds (h : Mem W w (aHds e v xs l :: As)) : Mem W w (aRow e v xs :: As) ∧ xs.length = l.length ∧ ∀ u ∈ xs, u.oneCell' = true := by
  obtain ⟨F, ⟨f, F', e1, hs, h2⟩, h3, h4⟩ := h.hp.ex
  exact ⟨⟨h.bel, ⟨F, ⟨f, F', e1, hs.1, h2⟩, h3, h4⟩⟩, hs.2⟩
theorem Mem.hdA (h : Mem W w As) (i : Nat) (hi : As[i]? = some (aHds ts v xs l)) : HdV w v xs l := by
  obtain ⟨f, ⟨⟨_, h2⟩, h3, h4⟩, _⟩ := h.get hi
  exact ⟨RdS.vals h2 h4, h3⟩
theorem HdV.one (h : HdV w u us l) : ∀ x ∈ us, x.oneCell' = true := by
  intro y hy
  obtain ⟨i, hi⟩ := List.getElem?_of_mem hy
  obtain ⟨A, c, hv, hm, hc⟩ := h.rd
  have hil := (List.getElem?_eq_some_iff.1 hi).1
  obtain ⟨ad, _, _, he⟩ := hc (by omega)
  obtain ⟨q, _, h1, h2⟩ := he i y hi
  rw [← h1]; exact h2
variable {a : Act} {N : Nat} {L : List (Nat × Value)} {d : Option Nat} {ty : TypeId} {pos : String} {af : Array Edge} {gd : Option (Nat × Bool)} {s y : Operand} {xv : Value}
theorem x_newH0 (ht : SlT P t ts) (hM : Mem W w As) : ∃ v w', (execOp a.eval ⟨d, .buildSlice t 0 #[], ty, pos, af, gd⟩).run P w = .ok (.value v) w' ∧ Mem W w' (aHds ts v [] [] :: As) := by
  refine ⟨_, _, ?_, (hM.newRow ts [] (by simp [maxLen])).hds rfl (fun u h => by cases h)⟩
  simp [execOp, run_build0 ht]
theorem x_newH1 (ht : P.underlying t = some (.slice ts)) (he : ElT P ts z by_) (hs : Fr a N L) (hx : evL L y = some xv) (h1 : xv.oneCell' = true) (r : List Int) (hM : Mem W w As) :
    ∃ v w', (execOp a.eval ⟨d, .buildSlice t 1 #[(0, y)], ty, pos, af, gd⟩).run P w = .ok (.value v) w' ∧ Mem W w' (aHds ts v [xv] [r] :: As) := by
  refine ⟨_, _, ?_, (hM.newRow ts [xv] (by simp [maxLen])).hds rfl (fun u h => by simp at h; rw [h]; exact h1)⟩
  simp [execOp, hs.ev hx, run_build1 ht he xv h1]
theorem x_appH (ht : P.underlying t = some (.slice ts)) (he : ElT P ts (.slice none 0 0) 24) (hs : Fr a N L) (hv : evA L [s, y] = some [v, u]) (hM : Mem W w (aHds ts v xs l :: As)) (hu : HdV w u us m) (ha : appS l m = some l') :
    ∃ v' w', (execOp a.eval ⟨d, .call ⟨.builtin .append, #[s, y], #[t, t]⟩, ty, pos, af, gd⟩).run P w = .ok (.value v') w' ∧ Mem W w' (aHds ts v' (xs ++ us) l' :: As) := by
  obtain ⟨rfl, hl⟩ := appS_spec ha
  obtain ⟨hM, h1, h2⟩ := hM.unhds
  have h3 := hu.len
  obtain ⟨v', w', hr', hm⟩ := Mem.grows (ty := ty) ht he rfl (by omega) hM (us := us) (by omega) hu.rd
  refine ⟨v', w', ?_, hm.hds (by simp [h1, h3]) fun q hq => ?_⟩
  · rw [exec_append (xs := []) hs hv, Sem.run_bind, hr']
    rfl
  · rcases List.mem_append.1 hq with h | h
    · exact h2 q h
    · exact hu.one q h
end
theorem rowsFp_off {vs : List Value} {j k : Nat} : rowsFp (fun _ => false) j vs = rowsFp (fun _ => false) k vs := by
  induction vs generalizing j k with
  | nil => rfl
  | cons x r ih => simp only [rowsFp, cond_false]; rw [ih (j := j + 1) (k := k + 1)]
/-- The rows of the old matrix and the new one under the new headers. -/
theorem Mem.assemble {W w : World} {As : List Atom} {ts ti : TypeId} {v v' xv : Value} {vs : List Value} {m l1 l2 l3 l4 l5 : List (List Int)} {x : List Int} {n : Int} (c1 : cutO m n = some l1) (a1 : appS [] l1 = some l2) (a2 : appS l2 [x] = some l3) (c2 : cutL m n = some l4) (a3 : appS l3 l4 = some l5)
    (h : Mem W w (aHds ts v' ((([] ++ vs.take n.toNat) ++ [xv]) ++ vs.drop n.toNat) l5 :: aMat ts ti v vs m :: aInts ti xv x :: As)) : Mem W w (aMat ts ti v' ((([] ++ vs.take n.toNat) ++ [xv]) ++ vs.drop n.toNat) l5 :: As) := by
  obtain ⟨rfl, h0, h1⟩ := cutO_spec c1
  obtain ⟨rfl, _⟩ := appS_spec a1
  obtain ⟨rfl, _⟩ := appS_spec a2
  obtain ⟨rfl, _, _⟩ := cutL_spec c2
  obtain ⟨rfl, _⟩ := appS_spec a3
  simp only [List.nil_append] at h ⊢
  generalize n.toNat = k at *
  obtain ⟨h, hl, _⟩ := h.unhds
  obtain ⟨F, ⟨f1, F1, e1, hs1, ⟨f2, F2, e2, ⟨g1, g2, g3, g4⟩, ⟨f3, F3, e3, hs3, h5⟩⟩⟩, hnd, hlt⟩ := h.hp.ex
  have esplit : rowsFp (fun _ => false) 0 vs = rowsFp (fun _ => false) 0 (vs.take k) ++ rowsFp (fun _ => false) 0 (vs.drop k) := by
    conv => lhs; rw [← List.take_append_drop k vs]
    exact rowsFp_app (fun _ => rfl)
  have enew : rowsFp (fun _ => false) 0 (vs.take k ++ [xv] ++ vs.drop k) = rowsFp (fun _ => false) 0 (vs.take k) ++ obl xv ++ rowsFp (fun _ => false) 0 (vs.drop k) := by
    rw [rowsFp_app (fun _ => rfl) (j := 0), rowsFp_app (fun _ => rfl) (j := 0)]
    simp [rowsFp]
  have hF : F = obl v' ++ ((obl v ++ rowsFp (fun _ => false) 0 vs) ++ (obl xv ++ F3)) := by rw [e1, e2, e3, hs1.1, g1, hs3.1]
  have hperm : F.Perm (obl v ++ ((obl v' ++ rowsFp (fun _ => false) 0 (vs.take k ++ [xv] ++ vs.drop k)) ++ F3)) := by
    rw [hF, esplit, enew]
    refine List.perm_iff_count.2 fun b => ?_
    simp only [List.count_append]
    omega
  have hnd2 := (List.nodup_append.1 (hperm.nodup_iff.1 hnd)).2.1
  refine ⟨h.bel, ⟨_, ⟨_, F3, rfl, ⟨rfl, hs1.2, by rw [hl], ?_⟩, h5⟩, hnd2, fun g hg => hlt g (hperm.mem_iff.2 (List.mem_append_right _ hg))⟩⟩
  intro i y q _ hy hq
  have hlt1 : (vs.take k).length = (m.take k).length := by rw [List.length_take, List.length_take, g3]
  by_cases c1 : i < (vs.take k).length
  · rw [List.append_assoc, List.getElem?_append_left c1] at hy
    rw [List.append_assoc, List.getElem?_append_left (by omega)] at hq
    have hik : i < k := by rw [List.length_take] at c1; omega
    rw [List.getElem?_take_of_lt hik] at hy hq
    exact g4 i y q rfl hy hq
  · rw [List.append_assoc, List.getElem?_append_right (by omega)] at hy
    rw [List.append_assoc, List.getElem?_append_right (by omega), ← hlt1] at hq
    cases hi : i - (vs.take k).length with
    | zero =>
      rw [hi] at hy hq
      simp at hy hq
      subst hy; subst hq
      exact hs3.2
    | succ j =>
      rw [hi] at hy hq
      simp only [List.singleton_append, List.getElem?_cons_succ, List.getElem?_drop] at hy hq
      exact g4 _ y q rfl hy hq
end Go.Proofs.Ytnnhbkhlipekeaa
