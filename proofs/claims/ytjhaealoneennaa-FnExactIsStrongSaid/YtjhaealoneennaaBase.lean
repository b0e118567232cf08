/- The rules by which the generated walks step through the translated code: frames as lists of known slots, memory as a list of owned objects, one lemma an operation. Nothing of a program is named here. -/
import Derived.WalkKit
import Derived.Deep.Quiet
namespace Go.Proofs.Ytjhaealoneennaa
open Go.RowKit
set_option linter.unusedVariables false

/-! ### Frames -/
def look : List (Nat × Value) → Nat → Option Value
  | [], _ => none
  | p :: r, u => cond (Nat.beq p.1 u) (some p.2) (look r u)

structure Fr (a : Act) (N : Nat) (L : List (Nat × Value)) : Prop where
  dfr : a.defers = []
  size : a.tmps.size = N
  get : ∀ t v, look L t = some v → a.tmps[t]? = some v

theorem Fr.put {a : Act} {N : Nat} {L : List (Nat × Value)} (h : Fr a N L) {d : Nat} (hd : d < N) (v : Value) : Fr (a.put (some d) v) N ((d, v) :: L) := by
  refine ⟨h.dfr, by simpa [Act.put] using h.size, fun t u ht => ?_⟩
  simp only [look] at ht
  by_cases e : d = t
  · subst e
    simp only [Nat.beq_refl, cond_true, Option.some.injEq] at ht
    subst ht
    simp [Act.put, h.size, hd]
  · have : Nat.beq d t = false := by
      cases hb : Nat.beq d t
      · rfl
      · exact absurd (Nat.eq_of_beq_eq_true hb) e
    rw [this] at ht
    simp only [cond_false] at ht
    simp only [Act.put]
    rw [Array.getElem?_setIfInBounds_ne e]
    exact h.get t u ht

theorem look_mem : ∀ {L : List (Nat × Value)} {t : Nat} {v : Value}, look L t = some v → (t, v) ∈ L
  | p :: r, t, v, h => by
    simp only [look] at h
    cases hb : Nat.beq p.1 t
    · rw [hb] at h; exact List.mem_cons_of_mem _ (look_mem h)
    · rw [hb] at h
      simp only [cond_true, Option.some.injEq] at h
      have e := Nat.eq_of_beq_eq_true hb
      have : (t, v) = p := by rw [← e, ← h]
      rw [this]; exact List.mem_cons_self

def allIn (L : List (Nat × Value)) : List (Nat × Value) → Prop
  | [] => True
  | p :: r => look L p.1 = some p.2 ∧ allIn L r
theorem allIn_mem {L : List (Nat × Value)} : ∀ {L' : List (Nat × Value)}, allIn L L' → ∀ p ∈ L', look L p.1 = some p.2
  | p :: r, h, q, hq => by
    cases List.mem_cons.1 hq with
    | inl e => rw [e]; exact h.1
    | inr e => exact allIn_mem h.2 q e
theorem Fr.sub {a : Act} {N : Nat} {L L' : List (Nat × Value)} (h : Fr a N L) (hs : allIn L L') : Fr a N L' :=
  ⟨h.dfr, h.size, fun t v ht => h.get t v (allIn_mem hs (t, v) (look_mem ht))⟩

def evL (L : List (Nat × Value)) : Operand → Option Value
  | .tmp t => look L t
  | .const v => some v
  | .func f => some (.func (.func f) #[] #[])
  | .global g => some (.pointer (some ⟨g, 0, none⟩))
theorem Fr.ev {a : Act} {N : Nat} {L : List (Nat × Value)} (h : Fr a N L) {x : Operand} {v : Value} (he : evL L x = some v) : a.eval x = v := by
  cases x with
  | tmp t => simp only [evL] at he; simp [Act.eval, h.get t v he]
  | const u => simp only [evL, Option.some.injEq] at he; simp [Act.eval, he]
  | global g => simp only [evL, Option.some.injEq] at he; simp [Act.eval, he]
  | func f => simp only [evL, Option.some.injEq] at he; simp [Act.eval, he]

/-! ### One operation that leaves the world alone -/
def Yld (P : Program) (o : Oper) (a : Act) (w : World) (v : Value) : Prop := (execOp a.eval o).run P w = .ok (.value v) w

section
variable {P : Program} {ops : Array Oper} {Q : Exit → Act → World → Prop} {a : Act} {w : World} {rest : List Oper} {N : Nat} {L : List (Nat × Value)}

theorem wl {d : Nat} {op : Op} {ty : TypeId} {pos : String} {af : Array Edge} {v : Value} (hs : Fr a N L)
    (h : Yld P ⟨some d, op, ty, pos, af, none⟩ a w v) (hd : Nat.ble (d + 1) N = true) (k : ∀ a', Fr a' N ((d, v) :: L) → wpList P ops Q rest a' w) :
    wpList P ops Q (⟨some d, op, ty, pos, af, none⟩ :: rest) a w := by
  refine wpList_plain rfl fun K hK => ?_
  unfold Oper.wp
  rw [h]
  exact hK _ _ (k _ (hs.put (Nat.le_of_ble_eq_true hd) v))

/-- A guarded operation: the value that the guard looks at. -/
def gval (ops : Array Oper) (L : List (Nat × Value)) (j : Nat) : Option Value :=
  match ops[j]? with
  | some o => match o.dst with
    | some d => look L d
    | none => none
  | none => none

theorem wanted_of {o : Oper} {j : Nat} {b b' : Bool} (hs : Fr a N L) (hg : o.guard = some (j, b)) (hv : gval ops L j = some (.bool b')) : Region.wanted o (yielded ops a.tmps) = (b' == b) := by
  unfold Region.wanted
  rw [hg]
  simp only []
  unfold gval at hv
  split at hv
  · rename_i o' ho'
    split at hv
    · rename_i d hd
      have := hs.get _ _ hv
      simp [yielded, ho', hd, this]
    · cases hv
  · cases hv

theorem wlg {d j : Nat} {b b' : Bool} {op : Op} {ty : TypeId} {pos : String} {af : Array Edge} {v : Value} (hs : Fr a N L) (hg : gval ops L j = some (.bool b')) (hb : b' = b)
    (h : Yld P ⟨some d, op, ty, pos, af, some (j, b)⟩ a w v) (hd : Nat.ble (d + 1) N = true) (k : ∀ a', Fr a' N ((d, v) :: L) → wpList P ops Q rest a' w) :
    wpList P ops Q (⟨some d, op, ty, pos, af, some (j, b)⟩ :: rest) a w := by
  refine wpList_step fun K hK => ?_
  rw [wanted_of hs rfl hg, hb]
  simp only [beq_self_eq_true, if_true]
  unfold Oper.wp
  rw [h]
  exact hK _ _ (k _ (hs.put (Nat.le_of_ble_eq_true hd) v))

theorem wls {d j : Nat} {b b' : Bool} {op : Op} {ty : TypeId} {pos : String} {af : Array Edge} (hs : Fr a N L) (hg : gval ops L j = some (.bool b')) (hb : b' = !b)
    (hd : Nat.ble (d + 1) N = true) (k : ∀ a', Fr a' N ((d, undef) :: L) → wpList P ops Q rest a' w) :
    wpList P ops Q (⟨some d, op, ty, pos, af, some (j, b)⟩ :: rest) a w := by
  refine wpList_step fun K hK => ?_
  rw [wanted_of hs rfl hg, hb]
  have : ((!b) == b) = false := by cases b <;> rfl
  rw [this]
  simp only [Bool.false_eq_true, if_false]
  exact hK _ _ (k _ (hs.put (Nat.le_of_ble_eq_true hd) _))

theorem wanted_undef {o : Oper} {j : Nat} {b : Bool} (hs : Fr a N L) (hg : o.guard = some (j, b)) (hv : gval ops L j = some undef) : Region.wanted o (yielded ops a.tmps) = false := by
  unfold Region.wanted
  rw [hg]
  simp only []
  unfold gval at hv
  split at hv
  · rename_i o' ho'
    split at hv
    · rename_i d hd
      have := hs.get _ _ hv
      simp [yielded, ho', hd, this, undef]
    · cases hv
  · cases hv
/-- The operation that its guard looks at was itself passed over. -/
theorem wlu {d j : Nat} {b : Bool} {op : Op} {ty : TypeId} {pos : String} {af : Array Edge} (hs : Fr a N L) (hg : gval ops L j = some undef)
    (hd : Nat.ble (d + 1) N = true) (k : ∀ a', Fr a' N ((d, undef) :: L) → wpList P ops Q rest a' w) :
    wpList P ops Q (⟨some d, op, ty, pos, af, some (j, b)⟩ :: rest) a w := by
  refine wpList_step fun K hK => ?_
  rw [wanted_undef hs rfl hg]
  simp only [Bool.false_eq_true, if_false]
  exact hK _ _ (k _ (hs.put (Nat.le_of_ble_eq_true hd) _))
/-- A guarded stretch of n operations, both ways of which end in one frame. -/
theorem wlguard {seg : List Oper} {L' : List (Nat × Value)} (R : World → Prop) (n : Nat) (h : (∀ a' w', Fr a' N L' → R w' → wpList P ops Q (seg.drop n) a' w') → wpList P ops Q seg a w)
    (k : ∀ a' w', Fr a' N L' → R w' → wpList P ops Q (seg.drop n) a' w') : wpList P ops Q seg a w := h k

/-! ### The same, in a region that draws its order -/
section
variable {C : World → Prop} {Qq : Act → Prop}
theorem wq {d : Nat} {op : Op} {ty : TypeId} {pos : String} {af : Array Edge} {v : Value} (hs : Fr a N L)
    (h : ∀ w, C w → Yld P ⟨some d, op, ty, pos, af, none⟩ a w v) (hd : Nat.ble (d + 1) N = true) (k : ∀ a', Fr a' N ((d, v) :: L) → wpQuiet P ops C Qq rest a') :
    wpQuiet P ops C Qq (⟨some d, op, ty, pos, af, none⟩ :: rest) a := by
  refine wpQuiet_step fun K hK => ?_
  simp only [Region.wanted, if_true]
  refine ⟨v, fun w hw => ?_, hK _ (k _ (hs.put (Nat.le_of_ble_eq_true hd) v))⟩
  have := h w hw
  unfold Yld at this
  unfold Oper.quietAt
  rw [this]
  exact ⟨rfl, rfl⟩
theorem wqg {d j : Nat} {b b' : Bool} {op : Op} {ty : TypeId} {pos : String} {af : Array Edge} {v : Value} (hs : Fr a N L) (hg : gval ops L j = some (.bool b')) (hb : b' = b)
    (h : ∀ w, C w → Yld P ⟨some d, op, ty, pos, af, some (j, b)⟩ a w v) (hd : Nat.ble (d + 1) N = true) (k : ∀ a', Fr a' N ((d, v) :: L) → wpQuiet P ops C Qq rest a') :
    wpQuiet P ops C Qq (⟨some d, op, ty, pos, af, some (j, b)⟩ :: rest) a := by
  refine wpQuiet_step fun K hK => ?_
  rw [wanted_of hs rfl hg, hb]
  simp only [beq_self_eq_true, if_true]
  refine ⟨v, fun w hw => ?_, hK _ (k _ (hs.put (Nat.le_of_ble_eq_true hd) v))⟩
  have := h w hw
  unfold Yld at this
  unfold Oper.quietAt
  rw [this]
  exact ⟨rfl, rfl⟩
theorem wqs {d j : Nat} {b b' : Bool} {op : Op} {ty : TypeId} {pos : String} {af : Array Edge} (hs : Fr a N L) (hg : gval ops L j = some (.bool b')) (hb : b' = !b)
    (hd : Nat.ble (d + 1) N = true) (k : ∀ a', Fr a' N ((d, undef) :: L) → wpQuiet P ops C Qq rest a') :
    wpQuiet P ops C Qq (⟨some d, op, ty, pos, af, some (j, b)⟩ :: rest) a := by
  refine wpQuiet_step fun K hK => ?_
  rw [wanted_of hs rfl hg, hb]
  have : ((!b) == b) = false := by cases b <;> rfl
  rw [this]
  simp only [Bool.false_eq_true, if_false]
  exact hK _ (k _ (hs.put (Nat.le_of_ble_eq_true hd) _))
theorem wqu {d j : Nat} {b : Bool} {op : Op} {ty : TypeId} {pos : String} {af : Array Edge} (hs : Fr a N L) (hg : gval ops L j = some undef)
    (hd : Nat.ble (d + 1) N = true) (k : ∀ a', Fr a' N ((d, undef) :: L) → wpQuiet P ops C Qq rest a') :
    wpQuiet P ops C Qq (⟨some d, op, ty, pos, af, some (j, b)⟩ :: rest) a := by
  refine wpQuiet_step fun K hK => ?_
  rw [wanted_undef hs rfl hg]
  simp only [Bool.false_eq_true, if_false]
  exact hK _ (k _ (hs.put (Nat.le_of_ble_eq_true hd) _))
theorem wqguard {seg : List Oper} {L' : List (Nat × Value)} (n : Nat) (h : (∀ a', Fr a' N L' → wpQuiet P ops C Qq (seg.drop n) a') → wpQuiet P ops C Qq seg a)
    (k : ∀ a', Fr a' N L' → wpQuiet P ops C Qq (seg.drop n) a') : wpQuiet P ops C Qq seg a := h k
end
end

/-! ### Calls -/
theorem run_callFunc_go {P : Program} {f : Nat} {fn : Func} (hf : P.funcs[f]? = some fn) (hn : (fn.name == "runtime.NumGoroutine") = false) (hb : fn.body.isNone = false) (args : Array Value) (w : World) :
    (callFunc f args).run P w = .ok (.enter f args) w := by
  unfold callFunc
  rw [Sem.run_bind, run_program, Result.andThen_ok, hf]
  simp only [hn, hb]
  rfl

/-- What the program's table says of function f: that it is there, with a body. -/
def Is (P : Program) (f : Nat) : Prop := ∃ fn, P.funcs[f]? = some fn ∧ (fn.name == "runtime.NumGoroutine") = false ∧ fn.body.isNone = false

/-- The operands' values. -/
def evA (L : List (Nat × Value)) : List Operand → Option (List Value)
  | [] => some []
  | x :: r => match evL L x, evA L r with
    | some v, some l => some (v :: l)
    | _, _ => none
theorem Fr.evA {a : Act} {N : Nat} {L : List (Nat × Value)} (hs : Fr a N L) : ∀ {xs : List Operand} {vs : List Value}, Ytjhaealoneennaa.evA L xs = some vs → xs.map a.eval = vs
  | [], vs, h => by simp only [Ytjhaealoneennaa.evA, Option.some.injEq] at h; simp [h]
  | x :: r, vs, h => by
    simp only [Ytjhaealoneennaa.evA] at h
    split at h
    · rename_i v l h1 h2
      simp only [Option.some.injEq] at h
      rw [← h, List.map_cons, hs.ev h1, Fr.evA hs h2]
    · cases h

section
variable {P : Program} {ops : Array Oper} {Q : Exit → Act → World → Prop} {a : Act} {w : World} {rest : List Oper} {N : Nat} {L : List (Nat × Value)}
theorem exec_call {d : Option Nat} {f : Nat} {xs : List Operand} {ats : Array TypeId} {ty : TypeId} {pos : String} {af : Array Edge} {gd : Option (Nat × Bool)} {vs : List Value} (hi : Is P f)
    (hs : Fr a N L) (he : evA L xs = some vs) (w : World) : (execOp a.eval ⟨d, .call ⟨.value (.func f), xs.toArray, ats⟩, ty, pos, af, gd⟩).run P w = .ok (.enter f vs.toArray) w := by
  obtain ⟨fn, hf, hn, hb⟩ := hi
  rw [execOp_call_go, run_callFunc_go hf hn hb]
  simp [hs.evA he]
/-- A call of a named function. -/
theorem wcall {d f : Nat} {xs : List Operand} {ats : Array TypeId} {ty : TypeId} {pos : String} {af : Array Edge} {vs : List Value} {R : Value → World → Prop} (hi : Is P f) (hs : Fr a N L) (he : evA L xs = some vs) (hd : Nat.ble (d + 1) N = true)
    (h : Calls P f vs.toArray w fun e w' => ∃ v, e = .returned v ∧ R v w') (k : ∀ a' v w', Fr a' N ((d, v) :: L) → R v w' → wpList P ops Q rest a' w') :
    wpList P ops Q (⟨some d, .call ⟨.value (.func f), xs.toArray, ats⟩, ty, pos, af, none⟩ :: rest) a w := by
  refine wpList_plain rfl fun K hK => ?_
  unfold Oper.wp
  rw [exec_call hi hs he]
  simp only [Oper.upon]
  refine h.mono fun e w' ⟨v, he', hr⟩ => ?_
  subst he'
  exact hK _ _ (k _ _ _ (hs.put (Nat.le_of_ble_eq_true hd) v) hr)
theorem wcallg {d f j : Nat} {b b' : Bool} {xs : List Operand} {ats : Array TypeId} {ty : TypeId} {pos : String} {af : Array Edge} {vs : List Value} {R : Value → World → Prop} (hi : Is P f) (hs : Fr a N L) (hg : gval ops L j = some (.bool b')) (hb : b' = b) (he : evA L xs = some vs) (hd : Nat.ble (d + 1) N = true)
    (h : Calls P f vs.toArray w fun e w' => ∃ v, e = .returned v ∧ R v w') (k : ∀ a' v w', Fr a' N ((d, v) :: L) → R v w' → wpList P ops Q rest a' w') :
    wpList P ops Q (⟨some d, .call ⟨.value (.func f), xs.toArray, ats⟩, ty, pos, af, some (j, b)⟩ :: rest) a w := by
  refine wpList_step fun K hK => ?_
  rw [wanted_of hs rfl hg, hb]
  simp only [beq_self_eq_true, if_true]
  unfold Oper.wp
  rw [exec_call hi hs he]
  simp only [Oper.upon]
  refine h.mono fun e w' ⟨v, he', hr⟩ => ?_
  subst he'
  exact hK _ _ (k _ _ _ (hs.put (Nat.le_of_ble_eq_true hd) v) hr)
/-- The call's value is the same in every world of the class, and it leaves a world of the class. -/
theorem qcall {C : World → Prop} {Qq : Act → Prop} {d f : Nat} {xs : List Operand} {ats : Array TypeId} {ty : TypeId} {pos : String} {af : Array Edge} {vs : List Value} {v : Value} (hi : Is P f) (hs : Fr a N L) (he : evA L xs = some vs) (hd : Nat.ble (d + 1) N = true)
    (h : ∀ w, C w → Calls P f vs.toArray w fun e w' => e = .returned v ∧ C w') (k : ∀ a', Fr a' N ((d, v) :: L) → wpQuiet P ops C Qq rest a') :
    wpQuiet P ops C Qq (⟨some d, .call ⟨.value (.func f), xs.toArray, ats⟩, ty, pos, af, none⟩ :: rest) a := by
  refine wpQuiet_step fun K hK => ?_
  simp only [Region.wanted, if_true]
  refine ⟨v, fun w hw => ?_, hK _ (k _ (hs.put (Nat.le_of_ble_eq_true hd) v))⟩
  unfold Oper.quietAt
  rw [exec_call hi hs he]
  exact ⟨rfl, h w hw⟩
theorem qcallg {C : World → Prop} {Qq : Act → Prop} {d f j : Nat} {b b' : Bool} {xs : List Operand} {ats : Array TypeId} {ty : TypeId} {pos : String} {af : Array Edge} {vs : List Value} {v : Value} (hi : Is P f) (hs : Fr a N L) (hg : gval ops L j = some (.bool b')) (hb : b' = b) (he : evA L xs = some vs) (hd : Nat.ble (d + 1) N = true)
    (h : ∀ w, C w → Calls P f vs.toArray w fun e w' => e = .returned v ∧ C w') (k : ∀ a', Fr a' N ((d, v) :: L) → wpQuiet P ops C Qq rest a') :
    wpQuiet P ops C Qq (⟨some d, .call ⟨.value (.func f), xs.toArray, ats⟩, ty, pos, af, some (j, b)⟩ :: rest) a := by
  refine wpQuiet_step fun K hK => ?_
  rw [wanted_of hs rfl hg, hb]
  simp only [beq_self_eq_true, if_true]
  refine ⟨v, fun w hw => ?_, hK _ (k _ (hs.put (Nat.le_of_ble_eq_true hd) v))⟩
  unfold Oper.quietAt
  rw [exec_call hi hs he]
  exact ⟨rfl, h w hw⟩
/-- A call of a function value. -/
theorem exec_callv {d : Option Nat} {f : Nat} {x : Operand} {xs : List Operand} {ats : Array TypeId} {ty : TypeId} {pos : String} {af : Array Edge} {gd : Option (Nat × Bool)} {vs caps : List Value} (hi : Is P f)
    (hs : Fr a N L) (hx : evL L x = some (.func (.func f) #[] caps.toArray)) (he : evA L xs = some vs) (w : World) : (execOp a.eval ⟨d, .call ⟨.value x, xs.toArray, ats⟩, ty, pos, af, gd⟩).run P w = .ok (.enter f (vs ++ caps).toArray) w := by
  obtain ⟨fn, hf, hn, hb⟩ := hi
  have h1 : execOp a.eval ⟨d, .call ⟨.value x, xs.toArray, ats⟩, ty, pos, af, gd⟩ = (do let dd ← Deferred.ofValue (a.eval x) (xs.toArray.map a.eval); invoke dd.target dd.args) := rfl
  rw [h1, hs.ev hx]
  have h2 : (Deferred.ofValue (.func (.func f) #[] caps.toArray) (xs.toArray.map a.eval)) = pure { target := .fn (.func f) caps.toArray, args := #[] ++ xs.toArray.map a.eval } := rfl
  rw [h2]
  have h3 : (#[] ++ xs.toArray.map a.eval) ++ caps.toArray = (vs ++ caps).toArray := by rw [← hs.evA he]; simp
  show (callFunc f ((#[] ++ xs.toArray.map a.eval) ++ caps.toArray)).run P w = _
  rw [h3, run_callFunc_go hf hn hb]
theorem wcallv {d f : Nat} {x : Operand} {xs : List Operand} {ats : Array TypeId} {ty : TypeId} {pos : String} {af : Array Edge} {vs caps : List Value} {R : Value → World → Prop} (hi : Is P f) (hs : Fr a N L) (hx : evL L x = some (.func (.func f) #[] caps.toArray)) (he : evA L xs = some vs) (hd : Nat.ble (d + 1) N = true)
    (h : Calls P f (vs ++ caps).toArray w fun e w' => ∃ v, e = .returned v ∧ R v w') (k : ∀ a' v w', Fr a' N ((d, v) :: L) → R v w' → wpList P ops Q rest a' w') :
    wpList P ops Q (⟨some d, .call ⟨.value x, xs.toArray, ats⟩, ty, pos, af, none⟩ :: rest) a w := by
  refine wpList_plain rfl fun K hK => ?_
  unfold Oper.wp
  rw [exec_callv hi hs hx he]
  simp only [Oper.upon]
  refine h.mono fun e w' ⟨v, he', hr⟩ => ?_
  subst he'
  exact hK _ _ (k _ _ _ (hs.put (Nat.le_of_ble_eq_true hd) v) hr)
/-- The same, of a function without results. -/
theorem wcallv0 {f : Nat} {x : Operand} {xs : List Operand} {ats : Array TypeId} {ty : TypeId} {pos : String} {af : Array Edge} {vs caps : List Value} {R : Value → World → Prop} (hi : Is P f) (hs : Fr a N L) (hx : evL L x = some (.func (.func f) #[] caps.toArray)) (he : evA L xs = some vs)
    (h : Calls P f (vs ++ caps).toArray w fun e w' => ∃ v, e = .returned v ∧ R v w') (k : ∀ v w', R v w' → wpList P ops Q rest a w') :
    wpList P ops Q (⟨none, .call ⟨.value x, xs.toArray, ats⟩, ty, pos, af, none⟩ :: rest) a w := by
  refine wpList_plain rfl fun K hK => ?_
  unfold Oper.wp
  rw [exec_callv hi hs hx he]
  simp only [Oper.upon]
  refine h.mono fun e w' ⟨v, he', hr⟩ => ?_
  subst he'
  exact hK _ _ (k _ _ hr)
theorem wcall0 {f : Nat} {xs : List Operand} {ats : Array TypeId} {ty : TypeId} {pos : String} {af : Array Edge} {vs : List Value} {R : Value → World → Prop} (hi : Is P f) (hs : Fr a N L) (he : evA L xs = some vs)
    (h : Calls P f vs.toArray w fun e w' => ∃ v, e = .returned v ∧ R v w') (k : ∀ v w', R v w' → wpList P ops Q rest a w') :
    wpList P ops Q (⟨none, .call ⟨.value (.func f), xs.toArray, ats⟩, ty, pos, af, none⟩ :: rest) a w := by
  refine wpList_plain rfl fun K hK => ?_
  unfold Oper.wp
  rw [exec_call hi hs he]
  simp only [Oper.upon]
  refine h.mono fun e w' ⟨v, he', hr⟩ => ?_
  subst he'
  exact hK _ _ (k _ _ hr)
end
end Go.Proofs.Ytjhaealoneennaa
