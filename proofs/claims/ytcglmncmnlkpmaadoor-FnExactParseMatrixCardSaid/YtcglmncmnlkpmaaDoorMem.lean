/- The library of rules: Base, Mem. -/
import Derived.WalkKit
import Derived.Deep.Quiet
/- The rules by which the generated walks step through the translated code: frames as lists of known slots, memory as a list of owned objects, one lemma an operation. Nothing of a program is named here. -/
namespace Go.Proofs.YtcglmncmnlkpmaaDoor
open Go.RowKit
set_option linter.unusedVariables false

/-! ### Frames -/
def look : List (Nat × Value) → Nat → Option Value
  | [], _ => none
  | p :: r, u => cond (Nat.beq p.1 u) (some p.2) (look r u)

structure Fr (a : Act) (N : Nat) (L : List (Nat × Value)) : Prop where
  dfr : a.defers = []
  size : a.tmps.size = N
  get : ∀ t v, look L t = some v → a.tmps[t]? = some v

theorem Fr.put {a : Act} {N : Nat} {L : List (Nat × Value)} (h : Fr a N L) {d : Nat} (hd : d < N) (v : Value) : Fr (a.put (some d) v) N ((d, v) :: L) := by
  refine ⟨h.dfr, by simpa [Act.put] using h.size, fun t u ht => ?_⟩
  simp only [look] at ht
  by_cases e : d = t
  · subst e
    simp only [Nat.beq_refl, cond_true, Option.some.injEq] at ht
    subst ht
    simp [Act.put, h.size, hd]
  · have : Nat.beq d t = false := by
      cases hb : Nat.beq d t
      · rfl
      · exact absurd (Nat.eq_of_beq_eq_true hb) e
    rw [this] at ht
    simp only [cond_false] at ht
    simp only [Act.put]
    rw [Array.getElem?_setIfInBounds_ne e]
    exact h.get t u ht

theorem look_mem : ∀ {L : List (Nat × Value)} {t : Nat} {v : Value}, look L t = some v → (t, v) ∈ L
  | p :: r, t, v, h => by
    simp only [look] at h
    cases hb : Nat.beq p.1 t
    · rw [hb] at h; exact List.mem_cons_of_mem _ (look_mem h)
    · rw [hb] at h
      simp only [cond_true, Option.some.injEq] at h
      have e := Nat.eq_of_beq_eq_true hb
      have : (t, v) = p := by rw [← e, ← h]
      rw [this]; exact List.mem_cons_self

def allIn (L : List (Nat × Value)) : List (Nat × Value) → Prop
  | [] => True
  | p :: r => look L p.1 = some p.2 ∧ allIn L r
theorem allIn_mem {L : List (Nat × Value)} : ∀ {L' : List (Nat × Value)}, allIn L L' → ∀ p ∈ L', look L p.1 = some p.2
  | p :: r, h, q, hq => by
    cases List.mem_cons.1 hq with
    | inl e => rw [e]; exact h.1
    | inr e => exact allIn_mem h.2 q e
theorem Fr.sub {a : Act} {N : Nat} {L L' : List (Nat × Value)} (h : Fr a N L) (hs : allIn L L') : Fr a N L' :=
  ⟨h.dfr, h.size, fun t v ht => h.get t v (allIn_mem hs (t, v) (look_mem ht))⟩

def evL (L : List (Nat × Value)) : Operand → Option Value
  | .tmp t => look L t
  | .const v => some v
  | .func f => some (.func (.func f) #[] #[])
  | .global g => some (.pointer (some ⟨g, 0, none⟩))
theorem Fr.ev {a : Act} {N : Nat} {L : List (Nat × Value)} (h : Fr a N L) {x : Operand} {v : Value} (he : evL L x = some v) : a.eval x = v := by
  cases x with
  | tmp t => simp only [evL] at he; simp [Act.eval, h.get t v he]
  | const u => simp only [evL, Option.some.injEq] at he; simp [Act.eval, he]
  | global g => simp only [evL, Option.some.injEq] at he; simp [Act.eval, he]
  | func f => simp only [evL, Option.some.injEq] at he; simp [Act.eval, he]

/-! ### One operation that leaves the world alone -/
def Yld (P : Program) (o : Oper) (a : Act) (w : World) (v : Value) : Prop := (execOp a.eval o).run P w = .ok (.value v) w

section
variable {P : Program} {ops : Array Oper} {Q : Exit → Act → World → Prop} {a : Act} {w : World} {rest : List Oper} {N : Nat} {L : List (Nat × Value)}

theorem wl {d : Nat} {op : Op} {ty : TypeId} {pos : String} {af : Array Edge} {v : Value} (hs : Fr a N L)
    (h : Yld P ⟨some d, op, ty, pos, af, none⟩ a w v) (hd : Nat.ble (d + 1) N = true) (k : ∀ a', Fr a' N ((d, v) :: L) → wpList P ops Q rest a' w) :
    wpList P ops Q (⟨some d, op, ty, pos, af, none⟩ :: rest) a w := by
  refine wpList_plain rfl fun K hK => ?_
  unfold Oper.wp
  rw [h]
  exact hK _ _ (k _ (hs.put (Nat.le_of_ble_eq_true hd) v))

/-- A guarded operation: the value that the guard looks at. -/
def gval (ops : Array Oper) (L : List (Nat × Value)) (j : Nat) : Option Value :=
  match ops[j]? with
  | some o => match o.dst with
    | some d => look L d
    | none => none
  | none => none

theorem wanted_of {o : Oper} {j : Nat} {b b' : Bool} (hs : Fr a N L) (hg : o.guard = some (j, b)) (hv : gval ops L j = some (.bool b')) : Region.wanted o (yielded ops a.tmps) = (b' == b) := by
  unfold Region.wanted
  rw [hg]
  simp only []
  unfold gval at hv
  split at hv
  · rename_i o' ho'
    split at hv
    · rename_i d hd
      have := hs.get _ _ hv
      simp [yielded, ho', hd, this]
    · cases hv
  · cases hv

theorem wlg {d j : Nat} {b b' : Bool} {op : Op} {ty : TypeId} {pos : String} {af : Array Edge} {v : Value} (hs : Fr a N L) (hg : gval ops L j = some (.bool b')) (hb : b' = b)
    (h : Yld P ⟨some d, op, ty, pos, af, some (j, b)⟩ a w v) (hd : Nat.ble (d + 1) N = true) (k : ∀ a', Fr a' N ((d, v) :: L) → wpList P ops Q rest a' w) :
    wpList P ops Q (⟨some d, op, ty, pos, af, some (j, b)⟩ :: rest) a w := by
  refine wpList_step fun K hK => ?_
  rw [wanted_of hs rfl hg, hb]
  simp only [beq_self_eq_true, if_true]
  unfold Oper.wp
  rw [h]
  exact hK _ _ (k _ (hs.put (Nat.le_of_ble_eq_true hd) v))

theorem wls {d j : Nat} {b b' : Bool} {op : Op} {ty : TypeId} {pos : String} {af : Array Edge} (hs : Fr a N L) (hg : gval ops L j = some (.bool b')) (hb : b' = !b)
    (hd : Nat.ble (d + 1) N = true) (k : ∀ a', Fr a' N ((d, undef) :: L) → wpList P ops Q rest a' w) :
    wpList P ops Q (⟨some d, op, ty, pos, af, some (j, b)⟩ :: rest) a w := by
  refine wpList_step fun K hK => ?_
  rw [wanted_of hs rfl hg, hb]
  have : ((!b) == b) = false := by cases b <;> rfl
  rw [this]
  simp only [Bool.false_eq_true, if_false]
  exact hK _ _ (k _ (hs.put (Nat.le_of_ble_eq_true hd) _))

theorem wanted_undef {o : Oper} {j : Nat} {b : Bool} (hs : Fr a N L) (hg : o.guard = some (j, b)) (hv : gval ops L j = some undef) : Region.wanted o (yielded ops a.tmps) = false := by
  unfold Region.wanted
  rw [hg]
  simp only []
  unfold gval at hv
  split at hv
  · rename_i o' ho'
    split at hv
    · rename_i d hd
      have := hs.get _ _ hv
      simp [yielded, ho', hd, this, undef]
    · cases hv
  · cases hv
/-- The operation that its guard looks at was itself passed over. -/
theorem wlu {d j : Nat} {b : Bool} {op : Op} {ty : TypeId} {pos : String} {af : Array Edge} (hs : Fr a N L) (hg : gval ops L j = some undef)
    (hd : Nat.ble (d + 1) N = true) (k : ∀ a', Fr a' N ((d, undef) :: L) → wpList P ops Q rest a' w) :
    wpList P ops Q (⟨some d, op, ty, pos, af, some (j, b)⟩ :: rest) a w := by
  refine wpList_step fun K hK => ?_
  rw [wanted_undef hs rfl hg]
  simp only [Bool.false_eq_true, if_false]
  exact hK _ _ (k _ (hs.put (Nat.le_of_ble_eq_true hd) _))
/-- A guarded stretch of n operations, both ways of which end in one frame. -/
theorem wlguard {seg : List Oper} {L' : List (Nat × Value)} (R : World → Prop) (n : Nat) (h : (∀ a' w', Fr a' N L' → R w' → wpList P ops Q (seg.drop n) a' w') → wpList P ops Q seg a w)
    (k : ∀ a' w', Fr a' N L' → R w' → wpList P ops Q (seg.drop n) a' w') : wpList P ops Q seg a w := h k

/-! ### The same, in a region that draws its order -/
section
variable {C : World → Prop} {Qq : Act → Prop}
theorem wq {d : Nat} {op : Op} {ty : TypeId} {pos : String} {af : Array Edge} {v : Value} (hs : Fr a N L)
    (h : ∀ w, C w → Yld P ⟨some d, op, ty, pos, af, none⟩ a w v) (hd : Nat.ble (d + 1) N = true) (k : ∀ a', Fr a' N ((d, v) :: L) → wpQuiet P ops C Qq rest a') :
    wpQuiet P ops C Qq (⟨some d, op, ty, pos, af, none⟩ :: rest) a := by
  refine wpQuiet_step fun K hK => ?_
  simp only [Region.wanted, if_true]
  refine ⟨v, fun w hw => ?_, hK _ (k _ (hs.put (Nat.le_of_ble_eq_true hd) v))⟩
  have := h w hw
  unfold Yld at this
  unfold Oper.quietAt
  rw [this]
  exact ⟨rfl, rfl⟩
theorem wqg {d j : Nat} {b b' : Bool} {op : Op} {ty : TypeId} {pos : String} {af : Array Edge} {v : Value} (hs : Fr a N L) (hg : gval ops L j = some (.bool b')) (hb : b' = b)
    (h : ∀ w, C w → Yld P ⟨some d, op, ty, pos, af, some (j, b)⟩ a w v) (hd : Nat.ble (d + 1) N = true) (k : ∀ a', Fr a' N ((d, v) :: L) → wpQuiet P ops C Qq rest a') :
    wpQuiet P ops C Qq (⟨some d, op, ty, pos, af, some (j, b)⟩ :: rest) a := by
  refine wpQuiet_step fun K hK => ?_
  rw [wanted_of hs rfl hg, hb]
  simp only [beq_self_eq_true, if_true]
  refine ⟨v, fun w hw => ?_, hK _ (k _ (hs.put (Nat.le_of_ble_eq_true hd) v))⟩
  have := h w hw
  unfold Yld at this
  unfold Oper.quietAt
  rw [this]
  exact ⟨rfl, rfl⟩
theorem wqs {d j : Nat} {b b' : Bool} {op : Op} {ty : TypeId} {pos : String} {af : Array Edge} (hs : Fr a N L) (hg : gval ops L j = some (.bool b')) (hb : b' = !b)
    (hd : Nat.ble (d + 1) N = true) (k : ∀ a', Fr a' N ((d, undef) :: L) → wpQuiet P ops C Qq rest a') :
    wpQuiet P ops C Qq (⟨some d, op, ty, pos, af, some (j, b)⟩ :: rest) a := by
  refine wpQuiet_step fun K hK => ?_
  rw [wanted_of hs rfl hg, hb]
  have : ((!b) == b) = false := by cases b <;> rfl
  rw [this]
  simp only [Bool.false_eq_true, if_false]
  exact hK _ (k _ (hs.put (Nat.le_of_ble_eq_true hd) _))
theorem wqu {d j : Nat} {b : Bool} {op : Op} {ty : TypeId} {pos : String} {af : Array Edge} (hs : Fr a N L) (hg : gval ops L j = some undef)
    (hd : Nat.ble (d + 1) N = true) (k : ∀ a', Fr a' N ((d, undef) :: L) → wpQuiet P ops C Qq rest a') :
    wpQuiet P ops C Qq (⟨some d, op, ty, pos, af, some (j, b)⟩ :: rest) a := by
  refine wpQuiet_step fun K hK => ?_
  rw [wanted_undef hs rfl hg]
  simp only [Bool.false_eq_true, if_false]
  exact hK _ (k _ (hs.put (Nat.le_of_ble_eq_true hd) _))
theorem wqguard {seg : List Oper} {L' : List (Nat × Value)} (n : Nat) (h : (∀ a', Fr a' N L' → wpQuiet P ops C Qq (seg.drop n) a') → wpQuiet P ops C Qq seg a)
    (k : ∀ a', Fr a' N L' → wpQuiet P ops C Qq (seg.drop n) a') : wpQuiet P ops C Qq seg a := h k
end
end

/-! ### Calls -/
theorem run_callFunc_go {P : Program} {f : Nat} {fn : Func} (hf : P.funcs[f]? = some fn) (hn : (fn.name == "runtime.NumGoroutine") = false) (hb : fn.body.isNone = false) (args : Array Value) (w : World) :
    (callFunc f args).run P w = .ok (.enter f args) w := by
  unfold callFunc
  rw [Sem.run_bind, run_program, Result.andThen_ok, hf]
  simp only [hn, hb]
  rfl

/-- What the program's table says of function f: that it is there, with a body. -/
def Is (P : Program) (f : Nat) : Prop := ∃ fn, P.funcs[f]? = some fn ∧ (fn.name == "runtime.NumGoroutine") = false ∧ fn.body.isNone = false

/-- The operands' values. -/
def evA (L : List (Nat × Value)) : List Operand → Option (List Value)
  | [] => some []
  | x :: r => match evL L x, evA L r with
    | some v, some l => some (v :: l)
    | _, _ => none
theorem Fr.evA {a : Act} {N : Nat} {L : List (Nat × Value)} (hs : Fr a N L) : ∀ {xs : List Operand} {vs : List Value}, YtcglmncmnlkpmaaDoor.evA L xs = some vs → xs.map a.eval = vs
  | [], vs, h => by simp only [YtcglmncmnlkpmaaDoor.evA, Option.some.injEq] at h; simp [h]
  | x :: r, vs, h => by
    simp only [YtcglmncmnlkpmaaDoor.evA] at h
    split at h
    · rename_i v l h1 h2
      simp only [Option.some.injEq] at h
      rw [← h, List.map_cons, hs.ev h1, Fr.evA hs h2]
    · cases h

section
variable {P : Program} {ops : Array Oper} {Q : Exit → Act → World → Prop} {a : Act} {w : World} {rest : List Oper} {N : Nat} {L : List (Nat × Value)}
theorem exec_call {d : Option Nat} {f : Nat} {xs : List Operand} {ats : Array TypeId} {ty : TypeId} {pos : String} {af : Array Edge} {gd : Option (Nat × Bool)} {vs : List Value} (hi : Is P f)
    (hs : Fr a N L) (he : evA L xs = some vs) (w : World) : (execOp a.eval ⟨d, .call ⟨.value (.func f), xs.toArray, ats⟩, ty, pos, af, gd⟩).run P w = .ok (.enter f vs.toArray) w := by
  obtain ⟨fn, hf, hn, hb⟩ := hi
  rw [execOp_call_go, run_callFunc_go hf hn hb]
  simp [hs.evA he]
/-- A call of a named function. -/
theorem wcall {d f : Nat} {xs : List Operand} {ats : Array TypeId} {ty : TypeId} {pos : String} {af : Array Edge} {vs : List Value} {R : Value → World → Prop} (hi : Is P f) (hs : Fr a N L) (he : evA L xs = some vs) (hd : Nat.ble (d + 1) N = true)
    (h : Calls P f vs.toArray w fun e w' => ∃ v, e = .returned v ∧ R v w') (k : ∀ a' v w', Fr a' N ((d, v) :: L) → R v w' → wpList P ops Q rest a' w') :
    wpList P ops Q (⟨some d, .call ⟨.value (.func f), xs.toArray, ats⟩, ty, pos, af, none⟩ :: rest) a w := by
  refine wpList_plain rfl fun K hK => ?_
  unfold Oper.wp
  rw [exec_call hi hs he]
  simp only [Oper.upon]
  refine h.mono fun e w' ⟨v, he', hr⟩ => ?_
  subst he'
  exact hK _ _ (k _ _ _ (hs.put (Nat.le_of_ble_eq_true hd) v) hr)
theorem wcallg {d f j : Nat} {b b' : Bool} {xs : List Operand} {ats : Array TypeId} {ty : TypeId} {pos : String} {af : Array Edge} {vs : List Value} {R : Value → World → Prop} (hi : Is P f) (hs : Fr a N L) (hg : gval ops L j = some (.bool b')) (hb : b' = b) (he : evA L xs = some vs) (hd : Nat.ble (d + 1) N = true)
    (h : Calls P f vs.toArray w fun e w' => ∃ v, e = .returned v ∧ R v w') (k : ∀ a' v w', Fr a' N ((d, v) :: L) → R v w' → wpList P ops Q rest a' w') :
    wpList P ops Q (⟨some d, .call ⟨.value (.func f), xs.toArray, ats⟩, ty, pos, af, some (j, b)⟩ :: rest) a w := by
  refine wpList_step fun K hK => ?_
  rw [wanted_of hs rfl hg, hb]
  simp only [beq_self_eq_true, if_true]
  unfold Oper.wp
  rw [exec_call hi hs he]
  simp only [Oper.upon]
  refine h.mono fun e w' ⟨v, he', hr⟩ => ?_
  subst he'
  exact hK _ _ (k _ _ _ (hs.put (Nat.le_of_ble_eq_true hd) v) hr)
/-- The call's value is the same in every world of the class, and it leaves a world of the class. -/
theorem qcall {C : World → Prop} {Qq : Act → Prop} {d f : Nat} {xs : List Operand} {ats : Array TypeId} {ty : TypeId} {pos : String} {af : Array Edge} {vs : List Value} {v : Value} (hi : Is P f) (hs : Fr a N L) (he : evA L xs = some vs) (hd : Nat.ble (d + 1) N = true)
    (h : ∀ w, C w → Calls P f vs.toArray w fun e w' => e = .returned v ∧ C w') (k : ∀ a', Fr a' N ((d, v) :: L) → wpQuiet P ops C Qq rest a') :
    wpQuiet P ops C Qq (⟨some d, .call ⟨.value (.func f), xs.toArray, ats⟩, ty, pos, af, none⟩ :: rest) a := by
  refine wpQuiet_step fun K hK => ?_
  simp only [Region.wanted, if_true]
  refine ⟨v, fun w hw => ?_, hK _ (k _ (hs.put (Nat.le_of_ble_eq_true hd) v))⟩
  unfold Oper.quietAt
  rw [exec_call hi hs he]
  exact ⟨rfl, h w hw⟩
theorem qcallg {C : World → Prop} {Qq : Act → Prop} {d f j : Nat} {b b' : Bool} {xs : List Operand} {ats : Array TypeId} {ty : TypeId} {pos : String} {af : Array Edge} {vs : List Value} {v : Value} (hi : Is P f) (hs : Fr a N L) (hg : gval ops L j = some (.bool b')) (hb : b' = b) (he : evA L xs = some vs) (hd : Nat.ble (d + 1) N = true)
    (h : ∀ w, C w → Calls P f vs.toArray w fun e w' => e = .returned v ∧ C w') (k : ∀ a', Fr a' N ((d, v) :: L) → wpQuiet P ops C Qq rest a') :
    wpQuiet P ops C Qq (⟨some d, .call ⟨.value (.func f), xs.toArray, ats⟩, ty, pos, af, some (j, b)⟩ :: rest) a := by
  refine wpQuiet_step fun K hK => ?_
  rw [wanted_of hs rfl hg, hb]
  simp only [beq_self_eq_true, if_true]
  refine ⟨v, fun w hw => ?_, hK _ (k _ (hs.put (Nat.le_of_ble_eq_true hd) v))⟩
  unfold Oper.quietAt
  rw [exec_call hi hs he]
  exact ⟨rfl, h w hw⟩
/-- A call of a function value. -/
theorem exec_callv {d : Option Nat} {f : Nat} {x : Operand} {xs : List Operand} {ats : Array TypeId} {ty : TypeId} {pos : String} {af : Array Edge} {gd : Option (Nat × Bool)} {vs caps : List Value} (hi : Is P f)
    (hs : Fr a N L) (hx : evL L x = some (.func (.func f) #[] caps.toArray)) (he : evA L xs = some vs) (w : World) : (execOp a.eval ⟨d, .call ⟨.value x, xs.toArray, ats⟩, ty, pos, af, gd⟩).run P w = .ok (.enter f (vs ++ caps).toArray) w := by
  obtain ⟨fn, hf, hn, hb⟩ := hi
  have h1 : execOp a.eval ⟨d, .call ⟨.value x, xs.toArray, ats⟩, ty, pos, af, gd⟩ = (do let dd ← Deferred.ofValue (a.eval x) (xs.toArray.map a.eval); invoke dd.target dd.args) := rfl
  rw [h1, hs.ev hx]
  have h2 : (Deferred.ofValue (.func (.func f) #[] caps.toArray) (xs.toArray.map a.eval)) = pure { target := .fn (.func f) caps.toArray, args := #[] ++ xs.toArray.map a.eval } := rfl
  rw [h2]
  have h3 : (#[] ++ xs.toArray.map a.eval) ++ caps.toArray = (vs ++ caps).toArray := by rw [← hs.evA he]; simp
  show (callFunc f ((#[] ++ xs.toArray.map a.eval) ++ caps.toArray)).run P w = _
  rw [h3, run_callFunc_go hf hn hb]
theorem wcallv {d f : Nat} {x : Operand} {xs : List Operand} {ats : Array TypeId} {ty : TypeId} {pos : String} {af : Array Edge} {vs caps : List Value} {R : Value → World → Prop} (hi : Is P f) (hs : Fr a N L) (hx : evL L x = some (.func (.func f) #[] caps.toArray)) (he : evA L xs = some vs) (hd : Nat.ble (d + 1) N = true)
    (h : Calls P f (vs ++ caps).toArray w fun e w' => ∃ v, e = .returned v ∧ R v w') (k : ∀ a' v w', Fr a' N ((d, v) :: L) → R v w' → wpList P ops Q rest a' w') :
    wpList P ops Q (⟨some d, .call ⟨.value x, xs.toArray, ats⟩, ty, pos, af, none⟩ :: rest) a w := by
  refine wpList_plain rfl fun K hK => ?_
  unfold Oper.wp
  rw [exec_callv hi hs hx he]
  simp only [Oper.upon]
  refine h.mono fun e w' ⟨v, he', hr⟩ => ?_
  subst he'
  exact hK _ _ (k _ _ _ (hs.put (Nat.le_of_ble_eq_true hd) v) hr)
/-- The same, of a function without results. -/
theorem wcallv0 {f : Nat} {x : Operand} {xs : List Operand} {ats : Array TypeId} {ty : TypeId} {pos : String} {af : Array Edge} {vs caps : List Value} {R : Value → World → Prop} (hi : Is P f) (hs : Fr a N L) (hx : evL L x = some (.func (.func f) #[] caps.toArray)) (he : evA L xs = some vs)
    (h : Calls P f (vs ++ caps).toArray w fun e w' => ∃ v, e = .returned v ∧ R v w') (k : ∀ v w', R v w' → wpList P ops Q rest a w') :
    wpList P ops Q (⟨none, .call ⟨.value x, xs.toArray, ats⟩, ty, pos, af, none⟩ :: rest) a w := by
  refine wpList_plain rfl fun K hK => ?_
  unfold Oper.wp
  rw [exec_callv hi hs hx he]
  simp only [Oper.upon]
  refine h.mono fun e w' ⟨v, he', hr⟩ => ?_
  subst he'
  exact hK _ _ (k _ _ hr)
theorem wcall0 {f : Nat} {xs : List Operand} {ats : Array TypeId} {ty : TypeId} {pos : String} {af : Array Edge} {vs : List Value} {R : Value → World → Prop} (hi : Is P f) (hs : Fr a N L) (he : evA L xs = some vs)
    (h : Calls P f vs.toArray w fun e w' => ∃ v, e = .returned v ∧ R v w') (k : ∀ v w', R v w' → wpList P ops Q rest a w') :
    wpList P ops Q (⟨none, .call ⟨.value (.func f), xs.toArray, ats⟩, ty, pos, af, none⟩ :: rest) a w := by
  refine wpList_plain rfl fun K hK => ?_
  unfold Oper.wp
  rw [exec_call hi hs he]
  simp only [Oper.upon]
  refine h.mono fun e w' ⟨v, he', hr⟩ => ?_
  subst he'
  exact hK _ _ (k _ _ hr)
end
end Go.Proofs.YtcglmncmnlkpmaaDoor
/- Slices that read as lists, slices that are owned, and what each memory operation does to them. Nothing of a program is named here. -/
namespace Go.Proofs.YtcglmncmnlkpmaaDoor
open Go.RowKit
set_option linter.unusedVariables false

theorem add_block (ad : Addr) (n : Nat) : (ad.add n).block = ad.block := by unfold Addr.add; split <;> rfl
theorem add_lit (g n : Nat) : (⟨g, 0, none⟩ : Addr).add n = ⟨g, n, none⟩ := by unfold Addr.add; split <;> simp_all

/-! ### Partial operations of the plain programs -/
def idx {α : Type} (l : List α) (i : Int) : Option α := cond (decide (0 ≤ i)) l[i.toNat]? none
def ck (n : Int) : Option Int := cond (decide (-9223372036854775808 ≤ n ∧ n ≤ 9223372036854775807)) (some n) none
def app {α : Type} (l : List α) (x : α) : Option (List α) := cond (decide (l.length < 1000000000)) (some (l ++ [x])) none
def upd {α : Type} (l : List α) (i : Int) (x : α) : Option (List α) := cond (decide (0 ≤ i ∧ i < l.length)) (some (l.set i.toNat x)) none
/-- Division as Go does it. -/
def quoO (m n : Int) : Option Int := cond (n == 0) none (ck (m.tdiv n))
def remO (m n : Int) : Option Int := cond (n == 0) none (some (m.tmod n))
def guardO (b : Bool) : Option Unit := cond b (some ()) none

theorem bindE {α β : Type} {o : Option α} {f : α → Option β} {r : β} (h : o.bind f = some r) : ∃ x, o = some x ∧ f x = some r := by
  cases o with
  | none => cases h
  | some x => exact ⟨x, rfl, h⟩
theorem condT {α : Type} {b : Bool} {x y : α} {r : α} (hb : b = true) (h : cond b x y = r) : x = r := by rw [hb] at h; exact h
theorem condF {α : Type} {b : Bool} {x y : α} {r : α} (hb : b = false) (h : cond b x y = r) : y = r := by rw [hb] at h; exact h
theorem idx_spec {α : Type} {l : List α} {i : Int} {x : α} (h : idx l i = some x) : 0 ≤ i ∧ i < l.length ∧ l[i.toNat]? = some x := by
  unfold idx at h
  cases hb : decide (0 ≤ i) with
  | false => rw [hb] at h; cases h
  | true =>
    rw [hb] at h
    have h0 := of_decide_eq_true hb
    have h1 := (List.getElem?_eq_some_iff.1 h).1
    exact ⟨h0, by omega, h⟩
theorem idx_mk {α : Type} {l : List α} {i : Nat} {x : α} (h : l[i]? = some x) : idx l (i : Int) = some x := by
  unfold idx
  rw [decide_eq_true (by omega)]
  simpa using h
theorem ck_spec {n m : Int} (h : ck n = some m) : m = n ∧ -9223372036854775808 ≤ n ∧ n ≤ 9223372036854775807 := by
  unfold ck at h
  cases hb : decide (-9223372036854775808 ≤ n ∧ n ≤ 9223372036854775807) with
  | false => rw [hb] at h; cases h
  | true =>
    rw [hb] at h
    have h0 := of_decide_eq_true hb
    exact ⟨(Option.some.inj h).symm, h0⟩
theorem ck_mk {n : Int} (h : -9223372036854775808 ≤ n ∧ n ≤ 9223372036854775807) : ck n = some n := by
  unfold ck; rw [decide_eq_true h]; rfl
theorem app_spec {α : Type} {l l' : List α} {x : α} (h : app l x = some l') : l' = l ++ [x] ∧ l.length < 1000000000 := by
  unfold app at h
  cases hb : decide (l.length < 1000000000) with
  | false => rw [hb] at h; cases h
  | true => rw [hb] at h; exact ⟨(Option.some.inj h).symm, of_decide_eq_true hb⟩
theorem app_mk {α : Type} {l : List α} {x : α} (h : l.length < 1000000000) : app l x = some (l ++ [x]) := by
  unfold app; rw [decide_eq_true h]; rfl
theorem upd_spec {α : Type} {l l' : List α} {i : Int} {x : α} (h : upd l i x = some l') : l' = l.set i.toNat x ∧ 0 ≤ i ∧ i < l.length := by
  unfold upd at h
  cases hb : decide (0 ≤ i ∧ i < l.length) with
  | false => rw [hb] at h; cases h
  | true => rw [hb] at h; exact ⟨(Option.some.inj h).symm, of_decide_eq_true hb⟩
theorem upd_mk {α : Type} {l : List α} {i : Nat} {x : α} (h : i < l.length) : upd l (i : Int) x = some (l.set i x) := by
  unfold upd; rw [decide_eq_true (by omega)]; simp

def appS {α : Type} (l l2 : List α) : Option (List α) := cond (decide (l.length + l2.length < 1000000000)) (some (l ++ l2)) none
theorem appS_spec {α : Type} {l l2 l' : List α} (h : appS l l2 = some l') : l' = l ++ l2 ∧ l.length + l2.length < 1000000000 := by
  unfold appS at h
  cases hb : decide (l.length + l2.length < 1000000000) with
  | false => rw [hb] at h; cases h
  | true => rw [hb] at h; exact ⟨(Option.some.inj h).symm, of_decide_eq_true hb⟩
/-- l[:n], n within the length. -/
def cutL {α : Type} (l : List α) (n : Int) : Option (List α) := cond (decide (0 ≤ n ∧ n ≤ l.length)) (some (l.drop n.toNat)) none
theorem cutL_spec {α : Type} {l l' : List α} {n : Int} (h : cutL l n = some l') : l' = l.drop n.toNat ∧ 0 ≤ n ∧ n ≤ l.length := by
  unfold cutL at h
  cases hb : decide (0 ≤ n ∧ n ≤ l.length) with
  | false => rw [hb] at h; cases h
  | true => rw [hb] at h; exact ⟨(Option.some.inj h).symm, of_decide_eq_true hb⟩
def cutO {α : Type} (l : List α) (n : Int) : Option (List α) := cond (decide (0 ≤ n ∧ n ≤ l.length)) (some (l.take n.toNat)) none
theorem cutO_spec {α : Type} {l l' : List α} {n : Int} (h : cutO l n = some l') : l' = l.take n.toNat ∧ 0 ≤ n ∧ n ≤ l.length := by
  unfold cutO at h
  cases hb : decide (0 ≤ n ∧ n ≤ l.length) with
  | false => rw [hb] at h; cases h
  | true => rw [hb] at h; exact ⟨(Option.some.inj h).symm, of_decide_eq_true hb⟩
/-- l[n:] -/
def tailO {α : Type} (l : List α) (n : Int) : Option (List α) := cond (decide (0 ≤ n ∧ n ≤ l.length)) (some (l.drop n.toNat)) none
theorem tailO_spec {α : Type} {l l' : List α} {n : Int} (h : tailO l n = some l') : l' = l.drop n.toNat ∧ 0 ≤ n ∧ n ≤ l.length := by
  unfold tailO at h
  cases hb : decide (0 ≤ n ∧ n ≤ l.length) with
  | false => rw [hb] at h; cases h
  | true => rw [hb] at h; exact ⟨(Option.some.inj h).symm, of_decide_eq_true hb⟩

/-! ### Reading -/
/-- Element i of the slice value v is the cell value u. -/
def ElemAt (w : World) (v : Value) (i : Int) (u : Value) : Prop :=
  ∃ ad n c, v = .slice (some ad) n c ∧ 0 ≤ i ∧ i < n ∧ ad.block < w.heap.size ∧ w.cell? (ad.add i.toNat) = some u
def elemAddr (v : Value) (i : Int) : Addr := match v with
  | .slice (some ad) _ _ => ad.add i.toNat
  | _ => ⟨0, 0, none⟩
theorem ElemAt.below {w w' : World} {v u : Value} {i : Int} (h : ElemAt w v i u) (hb : Below w.heap.size w w') : ElemAt w' v i u := by
  obtain ⟨ad, n, c, hv, h0, h1, hl, hc⟩ := h
  exact ⟨ad, n, c, hv, h0, h1, Nat.lt_of_lt_of_le hl hb.size, (hb.cell (by rw [add_block]; exact hl)).trans hc⟩

def RdS {α : Type} (R : World → Value → α → Prop) (w : World) (v : Value) (l : List α) : Prop :=
  ∃ A c, v = .slice A l.length c ∧ (l.length ≤ maxLen ∧ l.length ≤ c) ∧ (0 < l.length → ∃ ad, A = some ad ∧ ad.block < w.heap.size ∧ ∀ i x, l[i]? = some x → ∃ u, w.cell? (ad.add i) = some u ∧ R w u x)
def isI (_ : World) (u : Value) (x : Int) : Prop := u = .int .i64 x
def isB (_ : World) (u : Value) (x : Bool) : Prop := u = .bool x
def RdI : World → Value → List Int → Prop := RdS isI
def RdB : World → Value → List Bool → Prop := RdS isB
def RdM : World → Value → List (List Int) → Prop := RdS RdI

theorem RdS.below {α : Type} {R : World → Value → α → Prop} (hR : ∀ (w w' : World) u x, R w u x → Below w.heap.size w w' → R w' u x) {w w' : World} {v : Value} {l : List α} (h : RdS R w v l) (hb : Below w.heap.size w w') : RdS R w' v l := by
  obtain ⟨A, c, hv, hm, hc⟩ := h
  refine ⟨A, c, hv, hm, fun h0 => ?_⟩
  obtain ⟨ad, ha, hl, he⟩ := hc h0
  refine ⟨ad, ha, Nat.lt_of_lt_of_le hl hb.size, fun i x hx => ?_⟩
  obtain ⟨u, hu, hr⟩ := he i x hx
  exact ⟨u, (hb.cell (by rw [add_block]; exact hl)).trans hu, hR _ _ _ _ hr hb⟩
theorem RdI.below {w w' : World} {v : Value} {l : List Int} (h : RdI w v l) (hb : Below w.heap.size w w') : RdI w' v l := RdS.below (fun _ _ _ _ h _ => h) h hb
theorem RdB.below {w w' : World} {v : Value} {l : List Bool} (h : RdB w v l) (hb : Below w.heap.size w w') : RdB w' v l := RdS.below (fun _ _ _ _ h _ => h) h hb
theorem RdM.below {w w' : World} {v : Value} {m : List (List Int)} (h : RdM w v m) (hb : Below w.heap.size w w') : RdM w' v m := RdS.below (R := RdI) (fun w w1 u x h1 hb1 => RdI.below h1 hb1) h hb
theorem RdS.nil_ {α : Type} (R : World → Value → α → Prop) (w : World) : RdS R w (.slice none 0 0) [] := ⟨none, 0, rfl, by simp, fun h => absurd h (by simp)⟩
theorem RdI.nil_ (w : World) : RdI w (.slice none 0 0) [] := RdS.nil_ _ _
theorem RdM.nil_ (w : World) : RdM w (.slice none 0 0) [] := RdS.nil_ _ _
theorem RdS.at_ {α : Type} {R : World → Value → α → Prop} {w : World} {v : Value} {l : List α} (h : RdS R w v l) {i : Int} {x : α} (hi : idx l i = some x) : ∃ u, ElemAt w v i u ∧ R w u x := by
  obtain ⟨h0, h1, hx⟩ := idx_spec hi
  obtain ⟨A, c, hv, hm, hc⟩ := h
  obtain ⟨ad, ha, hl, he⟩ := hc (by omega)
  obtain ⟨u, hu, hr⟩ := he _ _ hx
  subst ha
  exact ⟨u, ⟨ad, _, c, hv, h0, h1, hl, hu⟩, hr⟩
theorem RdI.at_ {w : World} {v : Value} {l : List Int} (h : RdI w v l) {i : Int} {x : Int} (hi : idx l i = some x) : ElemAt w v i (.int .i64 x) := by
  obtain ⟨u, he, hu⟩ := RdS.at_ h hi
  rw [show u = _ from hu] at he
  exact he
theorem RdB.at_ {w : World} {v : Value} {l : List Bool} (h : RdB w v l) {i : Int} {x : Bool} (hi : idx l i = some x) : ElemAt w v i (.bool x) := by
  obtain ⟨u, he, hu⟩ := RdS.at_ h hi
  rw [show u = _ from hu] at he
  exact he
theorem RdM.at_ {w : World} {v : Value} {m : List (List Int)} (h : RdM w v m) {i : Int} {x : List Int} (hi : idx m i = some x) : ∃ u, ElemAt w v i u ∧ RdI w u x := RdS.at_ h hi

/-! ### Owned objects: a list of atoms, whose blocks are the call's own and apart from each other -/
structure Atom where
  sat : World → List Nat → Prop
  keep : ∀ {w w' : World} {fp : List Nat}, sat w fp → (∀ g ∈ fp, w'.heap[g]? = w.heap[g]?) → sat w' fp

def obl (v : Value) : List Nat := v.ownBlock.toList
/-- v owns a row that reads xs: a part of a block of its own, up to its capacity. -/
def OwnR (w : World) (e : TypeId) (v : Value) (xs : List Value) : Prop :=
  (v = .slice none 0 0 ∧ xs = []) ∨ ∃ g off cap cur, v = .slice (some ⟨g, off, none⟩) xs.length cap ∧ w.heap[g]? = some (.cells cur e (0, 0)) ∧ xs.length ≤ cap ∧ cap ≤ maxLen ∧ off + cap ≤ cur.size ∧ (cur.toList.drop off).take xs.length = xs
theorem OwnR.nil_ (w : World) (e : TypeId) : OwnR w e (.slice none 0 0) [] := .inl ⟨rfl, rfl⟩
theorem OwnR.of {w : World} {e : TypeId} {v : Value} {n : Nat} {xs : List Value} {base : Nat} (h : w.ownsRow base e 1 v n xs) : OwnR w e v xs := by
  have hn : xs.length = n := by simpa using h.1
  rcases h.2 with ⟨hv, h0⟩ | ⟨g, cap, cur, hv, _, hg, hnc, hcm, hcs, ht⟩
  · exact .inl ⟨hv, List.eq_nil_of_length_eq_zero (by omega)⟩
  · refine .inr ⟨g, 0, cap, cur, by rw [hn]; exact hv, hg, by omega, hcm, by omega, ?_⟩
    rw [List.drop_zero, hn]
    rwa [Nat.mul_one] at ht
theorem OwnR.keep {w w' : World} {e : TypeId} {v : Value} {xs : List Value} (h : OwnR w e v xs) (hk : ∀ g ∈ obl v, w'.heap[g]? = w.heap[g]?) : OwnR w' e v xs := by
  rcases h with h0 | ⟨g, off, cap, cur, rfl, hg, r⟩
  · exact .inl h0
  · exact .inr ⟨g, off, cap, cur, rfl, (hk g (by simp [obl, Value.ownBlock])).trans hg, r⟩
theorem OwnR.lt {w : World} {e : TypeId} {v : Value} {xs : List Value} (h : OwnR w e v xs) : ∀ g ∈ obl v, g < w.heap.size := by
  intro g hg
  rcases h with ⟨rfl, _⟩ | ⟨g', off, cap, cur, rfl, hgg, _⟩
  · simp [obl, Value.ownBlock] at hg
  · simp [obl, Value.ownBlock] at hg
    subst hg
    exact (Array.getElem?_eq_some_iff.1 hgg).1
theorem own_cell {w : World} {g off : Nat} {cur : Array Value} {e : TypeId} {xs : List Value} (hg : w.heap[g]? = some (.cells cur e (0, 0))) (ht : (cur.toList.drop off).take xs.length = xs) {i : Nat} (hi : i < xs.length) : w.cell? ⟨g, off + i, none⟩ = xs[i]? := by
  rw [cell_of_row w g _ cur e (0, 0) hg]
  conv => rhs; rw [← ht]
  rw [List.getElem?_take, if_pos hi, List.getElem?_drop]
  simp
theorem addO (g o n : Nat) : (⟨g, o, none⟩ : Addr).add n = ⟨g, o + n, none⟩ := by unfold Addr.add; split <;> simp_all

def aRow (e : TypeId) (v : Value) (xs : List Value) : Atom :=
  ⟨fun w fp => fp = obl v ∧ OwnR w e v xs, fun ⟨h1, h2⟩ hk => ⟨h1, h2.keep (by rw [← h1]; exact hk)⟩⟩
def aInts (e : TypeId) (v : Value) (l : List Int) : Atom := aRow e v (l.map (Value.int .i64))
def aBools (e : TypeId) (v : Value) (l : List Bool) : Atom := aRow e v (l.map Value.bool)
/-- The rows' blocks, but of those that are left out. -/
def rowsFp (out : Nat → Bool) : Nat → List Value → List Nat
  | _, [] => []
  | k, x :: r => cond (out k) [] (obl x) ++ rowsFp out (k + 1) r
theorem mem_rowsFp {out : Nat → Bool} : ∀ {vs : List Value} {k j : Nat} {x : Value}, vs[j]? = some x → out (k + j) = false → ∀ g ∈ obl x, g ∈ rowsFp out k vs
  | y :: r, k, 0, x, hx, ho, g, hg => by
    simp only [List.getElem?_cons_zero, Option.some.injEq] at hx
    subst hx
    simp only [Nat.add_zero] at ho
    simp only [rowsFp, ho, cond_false]
    exact List.mem_append_left _ hg
  | y :: r, k, j + 1, x, hx, ho, g, hg => by
    simp only [List.getElem?_cons_succ] at hx
    simp only [rowsFp]
    exact List.mem_append_right _ (mem_rowsFp (k := k + 1) hx (by rw [← ho]; congr 1; omega) g hg)
/-- A slice of slices of numbers: its own cells vs, and each row's. 'out': the rows whose numbers are left out (taken into atoms of their own). -/
def MatSat (ts ti : TypeId) (v : Value) (vs : List Value) (m : List (List Int)) (out : Nat → Bool) (w : World) (fp : List Nat) : Prop :=
  fp = obl v ++ rowsFp out 0 vs ∧ OwnR w ts v vs ∧ vs.length = m.length ∧
  ∀ i x l, out i = false → vs[i]? = some x → m[i]? = some l → OwnR w ti x (l.map (Value.int .i64))
def aMatO (ts ti : TypeId) (v : Value) (vs : List Value) (m : List (List Int)) (out : Nat → Bool) : Atom :=
  ⟨MatSat ts ti v vs m out, fun ⟨h1, h2, h3, h4⟩ hk => by
    refine ⟨h1, h2.keep fun g hg => hk g (by rw [h1]; exact List.mem_append_left _ hg), h3, fun i x l ho hx hl => (h4 i x l ho hx hl).keep fun g hg => hk g ?_⟩
    rw [h1]
    exact List.mem_append_right _ (mem_rowsFp hx (by simpa using ho) g hg)⟩
def aMat (ts ti : TypeId) (v : Value) (vs : List Value) (m : List (List Int)) : Atom := aMatO ts ti v vs m (fun _ => false)
/-- One block of the call's own, known whole: a captured variable, a struct behind a pointer. -/
def aBlk (g : Nat) (e : TypeId) (cs : List Value) : Atom :=
  ⟨fun w fp => fp = [g] ∧ w.heap[g]? = some (.cells cs.toArray e (0, 0)), fun ⟨h1, h2⟩ hk => ⟨h1, (hk g (by rw [h1]; simp)).trans h2⟩⟩

def Hpl (w : World) : List Atom → List Nat → Prop
  | [], F => F = []
  | A :: As, F => ∃ f F', F = f ++ F' ∧ A.sat w f ∧ Hpl w As F'
structure Hp (w : World) (B : Nat) (As : List Atom) : Prop where
  ex : ∃ F, Hpl w As F ∧ F.Nodup ∧ ∀ g ∈ F, B ≤ g ∧ g < w.heap.size
structure Mem (W w : World) (As : List Atom) : Prop where
  bel : Below W.heap.size W w
  hp : Hp w W.heap.size As

theorem Hpl.keep {w w' : World} : ∀ {As : List Atom} {F : List Nat}, Hpl w As F → (∀ g ∈ F, w'.heap[g]? = w.heap[g]?) → Hpl w' As F
  | [], F, h, _ => h
  | A :: As, F, ⟨f, F', e, h1, h2⟩, hk => ⟨f, F', e, A.keep h1 (fun g hg => hk g (by rw [e]; exact List.mem_append_left _ hg)), Hpl.keep h2 (fun g hg => hk g (by rw [e]; exact List.mem_append_right _ hg))⟩
theorem Hp.below {w w' : World} {B : Nat} {As : List Atom} (h : Hp w B As) (hb : Below w.heap.size w w') : Hp w' B As := by
  obtain ⟨F, h1, h2, h3⟩ := h.ex
  exact ⟨F, h1.keep (fun g hg => hb.block g (h3 g hg).2), h2, fun g hg => ⟨(h3 g hg).1, Nat.lt_of_lt_of_le (h3 g hg).2 hb.size⟩⟩
theorem Hpl.append {w : World} : ∀ {Xs As : List Atom} {G F : List Nat}, Hpl w Xs G → Hpl w As F → Hpl w (Xs ++ As) (G ++ F)
  | [], As, G, F, h, k => by rw [show G = [] from h]; exact k
  | A :: Xs, As, G, F, ⟨f, F', e, h1, h2⟩, k => ⟨f, F' ++ F, by rw [e, List.append_assoc], h1, Hpl.append h2 k⟩
theorem Hp.join {w w' : World} {B : Nat} {As Xs : List Atom} (h : Hp w B As) (hb : Below w.heap.size w w') (hB : B ≤ w.heap.size) (hx : Hp w' w.heap.size Xs) : Hp w' B (Xs ++ As) := by
  obtain ⟨F, h1, h2, h3⟩ := h.ex
  obtain ⟨G, g1, g2, g3⟩ := hx.ex
  refine ⟨G ++ F, g1.append (h1.keep fun g hg => hb.block g (h3 g hg).2), ?_, fun g hg => ?_⟩
  · refine List.nodup_append.2 ⟨g2, h2, fun a ha b hb' e => ?_⟩
    subst e
    have := (g3 a ha).1
    have := (h3 a hb').2
    omega
  · rcases List.mem_append.1 hg with hg | hg
    · exact ⟨Nat.le_trans hB (g3 g hg).1, (g3 g hg).2⟩
    · exact ⟨(h3 g hg).1, Nat.lt_of_lt_of_le (h3 g hg).2 hb.size⟩
theorem Mem.start (W : World) : Mem W W [] := ⟨Below.refl _ _, ⟨[], rfl, List.nodup_nil, fun g hg => by cases hg⟩⟩
/-- Behind a call: what it leaves of its own comes first. -/
theorem Mem.call {W w w' : World} {As Xs : List Atom} (h : Mem W w As) (hx : Mem w w' Xs) : Mem W w' (Xs ++ As) :=
  ⟨h.bel.trans (hx.bel.mono h.bel.size), h.hp.join hx.bel h.bel.size hx.hp⟩
theorem Mem.alloc {W w : World} {As : List Atom} (h : Mem W w As) (o : Obj) : Mem W (w.alloc o) As :=
  ⟨h.bel.alloc h.bel.size o, h.hp.below ((Below.refl _ _).alloc (Nat.le_refl _) o)⟩
theorem Mem.drew {W w : World} {As : List Atom} (h : Mem W w As) : Mem W { w with drawn := w.drawn + 1 } As :=
  ⟨⟨h.bel.os, h.bel.tape, h.bel.output, h.bel.size, h.bel.block⟩, h.hp.below ⟨rfl, rfl, rfl, Nat.le_refl _, fun _ _ => rfl⟩⟩
theorem Mem.quiet {W w w' : World} {As : List Atom} (h : Mem W w As) (hb : Below w.heap.size w w') : Mem W w' As := ⟨h.bel.trans (hb.mono h.bel.size), h.hp.below hb⟩

/-! ### Taking from the list of atoms -/
theorem Hpl.get {w : World} : ∀ {As : List Atom} {F : List Nat} {i : Nat} {A : Atom}, Hpl w As F → As[i]? = some A → ∃ f, A.sat w f ∧ ∀ g ∈ f, g ∈ F
  | A :: As, F, 0, X, ⟨f, F', e, h1, h2⟩, hi => by
    simp only [List.getElem?_cons_zero, Option.some.injEq] at hi
    subst hi
    exact ⟨f, h1, fun g hg => by rw [e]; exact List.mem_append_left _ hg⟩
  | A :: As, F, i + 1, X, ⟨f, F', e, h1, h2⟩, hi => by
    simp only [List.getElem?_cons_succ] at hi
    obtain ⟨f', h3, h4⟩ := Hpl.get h2 hi
    exact ⟨f', h3, fun g hg => by rw [e]; exact List.mem_append_right _ (h4 g hg)⟩
theorem Mem.get {W w : World} {As : List Atom} {i : Nat} {A : Atom} (h : Mem W w As) (hi : As[i]? = some A) : ∃ f, A.sat w f ∧ ∀ g ∈ f, W.heap.size ≤ g ∧ g < w.heap.size := by
  obtain ⟨F, h1, h2, h3⟩ := h.hp.ex
  obtain ⟨f, h4, h5⟩ := h1.get hi
  exact ⟨f, h4, fun g hg => h3 g (h5 g hg)⟩
theorem Hpl.pick {w : World} : ∀ {As : List Atom} {F : List Nat} (i : Nat) {A : Atom}, Hpl w As F → As[i]? = some A → ∃ f F', F.Perm (f ++ F') ∧ A.sat w f ∧ Hpl w (As.eraseIdx i) F'
  | A :: As, F, 0, X, ⟨f, F', e, h1, h2⟩, hi => by
    simp only [List.getElem?_cons_zero, Option.some.injEq] at hi
    subst hi
    exact ⟨f, F', by rw [e], h1, h2⟩
  | A :: As, F, i + 1, X, ⟨f, F', e, h1, h2⟩, hi => by
    simp only [List.getElem?_cons_succ] at hi
    obtain ⟨f', F'', hp, h3, h4⟩ := Hpl.pick i h2 hi
    refine ⟨f', f ++ F'', ?_, h3, ⟨f, F'', rfl, h1, h4⟩⟩
    rw [e]
    refine ((List.Perm.refl f).append hp).trans ?_
    rw [← List.append_assoc, ← List.append_assoc]
    exact List.perm_append_comm.append (List.Perm.refl _)
/-- Atom i comes to the front. -/
theorem Mem.front {W w : World} {As : List Atom} (i : Nat) {A : Atom} (h : Mem W w As) (hi : As[i]? = some A) : Mem W w (A :: As.eraseIdx i) := by
  obtain ⟨F, h1, h2, h3⟩ := h.hp.ex
  obtain ⟨f, F', hp, h4, h5⟩ := h1.pick i hi
  exact ⟨h.bel, ⟨f ++ F', ⟨f, F', rfl, h4, h5⟩, hp.nodup_iff.1 h2, fun g hg => h3 g (hp.mem_iff.2 hg)⟩⟩
theorem Mem.drop {W w : World} {As : List Atom} {A : Atom} (h : Mem W w (A :: As)) : Mem W w As := by
  obtain ⟨F, ⟨f, F', e, h1, h2⟩, h3, h4⟩ := h.hp.ex
  exact ⟨h.bel, ⟨F', h2, (List.nodup_append.1 (e ▸ h3)).2.1, fun g hg => h4 g (by rw [e]; exact List.mem_append_right _ hg)⟩⟩
theorem Mem.none_ {W w : World} : ∀ {As : List Atom}, Mem W w As → Mem W w []
  | [], h => h
  | _ :: _, h => Mem.none_ h.drop
theorem Mem.only {W w : World} {As : List Atom} {A : Atom} (h : Mem W w As) (i : Nat) (hi : As[i]? = some A) : Mem W w [A] := by
  have h1 := h.front i hi
  obtain ⟨F, ⟨f, F', e, h2, h3⟩, h4, h5⟩ := h1.hp.ex
  exact ⟨h.bel, ⟨f, ⟨f, [], by simp, h2, rfl⟩, (List.nodup_append.1 (e ▸ h4)).1, fun g hg => h5 g (by rw [e]; exact List.mem_append_left _ hg)⟩⟩

/-- The first atom turns: what changes lies in its blocks, or is new. -/
theorem Mem.turn {W w w' : World} {As : List Atom} {A A' : Atom} (h : Mem W w (A :: As)) (hos : w'.os = w.os) (htape : w'.tape = w.tape) (hout : w'.output = w.output) (hsize : w.heap.size ≤ w'.heap.size)
    (hstep : ∀ f, A.sat w f → f.Nodup → ∃ f', A'.sat w' f' ∧ f'.Nodup ∧ (∀ g ∈ f', g ∈ f ∨ (w.heap.size ≤ g ∧ g < w'.heap.size)) ∧ ∀ k, k < w.heap.size → k ∉ f → w'.heap[k]? = w.heap[k]?) : Mem W w' (A' :: As) := by
  obtain ⟨F, ⟨f, F', e, h1, h2⟩, h3, h4⟩ := h.hp.ex
  subst e
  obtain ⟨hn1, hn2, hn3⟩ := List.nodup_append.1 h3
  obtain ⟨f', s1, s2, s3, s4⟩ := hstep f h1 hn1
  have hnot : ∀ g ∈ F', g ∉ f := fun g hg hf => hn3 g hf g hg rfl
  refine ⟨⟨hos.trans h.bel.os, htape.trans h.bel.tape, hout.trans h.bel.output, Nat.le_trans h.bel.size hsize, fun k hk => ?_⟩,
    ⟨f' ++ F', ⟨f', F', rfl, s1, h2.keep fun g hg => s4 g (h4 g (List.mem_append_right _ hg)).2 (hnot g hg)⟩, ?_, fun g hg => ?_⟩⟩
  · refine (s4 k (Nat.lt_of_lt_of_le hk h.bel.size) fun hf => ?_).trans (h.bel.block k hk)
    have := (h4 k (List.mem_append_left _ hf)).1
    omega
  · refine List.nodup_append.2 ⟨s2, hn2, fun a ha b hb hab => ?_⟩
    subst hab
    rcases s3 a ha with h5 | h5
    · exact hnot a hb h5
    · have := (h4 a (List.mem_append_right _ hb)).2
      omega
  · rcases List.mem_append.1 hg with hg | hg
    · rcases s3 g hg with h5 | h5
      · exact ⟨(h4 g (List.mem_append_left _ h5)).1, Nat.lt_of_lt_of_le (h4 g (List.mem_append_left _ h5)).2 hsize⟩
      · exact ⟨Nat.le_trans h.bel.size h5.1, h5.2⟩
    · exact ⟨(h4 g (List.mem_append_right _ hg)).1, Nat.lt_of_lt_of_le (h4 g (List.mem_append_right _ hg)).2 hsize⟩
/-- A new atom, in blocks that were not there. -/
theorem Mem.new_ {W w w' : World} {As : List Atom} {A : Atom} {f : List Nat} (h : Mem W w As) (hb : Below w.heap.size w w') (hs : A.sat w' f) (hn : f.Nodup) (hf : ∀ g ∈ f, w.heap.size ≤ g ∧ g < w'.heap.size) : Mem W w' (A :: As) := by
  have : Mem w w' [A] := ⟨hb, ⟨f, ⟨f, [], by simp, hs, rfl⟩, hn, hf⟩⟩
  exact h.call this

/-! ### What an atom gives to read -/
theorem OwnR.rd {α : Type} {R : World → Value → α → Prop} {w : World} {e : TypeId} {v : Value} {xs : List Value} {l : List α} (h : OwnR w e v xs) (hl : xs.length = l.length)
    (hR : ∀ (i : Nat) u x, xs[i]? = some u → l[i]? = some x → R w u x) : RdS R w v l := by
  rcases h with ⟨hv, hn⟩ | ⟨g, off, cap, cur, hv, hg, hnc, hcm, hcs, htake⟩
  · have hl0 : l = [] := List.eq_nil_of_length_eq_zero (by rw [← hl, hn]; rfl)
    subst hl0
    rw [hv]
    exact RdS.nil_ _ _
  · refine ⟨some ⟨g, off, none⟩, cap, by rw [hv, hl], by omega, fun h0 => ⟨⟨g, off, none⟩, rfl, (Array.getElem?_eq_some_iff.1 hg).1, fun i x hx => ?_⟩⟩
    have hi : i < xs.length := by rw [hl]; exact (List.getElem?_eq_some_iff.1 hx).1
    refine ⟨xs[i], ?_, hR i _ x (List.getElem?_eq_getElem hi) hx⟩
    rw [addO, own_cell hg htake hi]
    exact List.getElem?_eq_getElem hi
theorem OwnR.rdI {w : World} {e : TypeId} {v : Value} {l : List Int} (h : OwnR w e v (l.map (Value.int .i64))) : RdI w v l :=
  h.rd (by simp) fun i u x hu hx => by simp [hx] at hu; exact hu.symm
theorem OwnR.rdB {w : World} {e : TypeId} {v : Value} {l : List Bool} (h : OwnR w e v (l.map Value.bool)) : RdB w v l :=
  h.rd (by simp) fun i u x hu hx => by simp [hx] at hu; exact hu.symm
theorem Mem.rdI {W w : World} {As : List Atom} (h : Mem W w As) (i : Nat) {e : TypeId} {v : Value} {l : List Int} (hi : As[i]? = some (aInts e v l)) : RdI w v l := by
  obtain ⟨f, h1, _⟩ := h.get hi
  exact h1.2.rdI
theorem Mem.rdB {W w : World} {As : List Atom} (h : Mem W w As) (i : Nat) {e : TypeId} {v : Value} {l : List Bool} (hi : As[i]? = some (aBools e v l)) : RdB w v l := by
  obtain ⟨f, h1, _⟩ := h.get hi
  exact h1.2.rdB
theorem MatSat.rd {ts ti : TypeId} {v : Value} {vs : List Value} {m : List (List Int)} {w : World} {fp : List Nat} (h : MatSat ts ti v vs m (fun _ => false) w fp) : RdM w v m := by
  obtain ⟨h1, h2, h3, h4⟩ := h
  exact h2.rd h3 fun i u x hu hx => (h4 i u x rfl hu hx).rdI
theorem Mem.rdM {W w : World} {As : List Atom} (h : Mem W w As) (i : Nat) {ts ti : TypeId} {v : Value} {vs : List Value} {m : List (List Int)} (hi : As[i]? = some (aMat ts ti v vs m)) : RdM w v m := by
  obtain ⟨f, h1, _⟩ := h.get hi
  exact MatSat.rd h1
/-- Row i of an owned matrix. -/
theorem Mem.rdRow {W w : World} {As : List Atom} (h : Mem W w As) (i : Nat) {ts ti : TypeId} {v x : Value} {vs : List Value} {m : List (List Int)} {l : List Int} {out : Nat → Bool} {j : Nat} (hi : As[i]? = some (aMatO ts ti v vs m out))
    (ho : out j = false) (hx : vs[j]? = some x) (hl : m[j]? = some l) : RdI w x l := by
  obtain ⟨f, h1, _⟩ := h.get hi
  exact (h1.2.2.2 j x l ho hx hl).rdI
/-- The cell of row i of an owned matrix. -/
theorem Mem.atM {W w : World} {As : List Atom} (h : Mem W w As) (i : Nat) {ts ti : TypeId} {v : Value} {vs : List Value} {m : List (List Int)} {out : Nat → Bool} {j : Int} {l : List Int} (hi : As[i]? = some (aMatO ts ti v vs m out))
    (hl : idx m j = some l) : ∃ x, vs[j.toNat]? = some x ∧ ElemAt w v j x := by
  obtain ⟨f, ⟨h1, h2, h3, h4⟩, _⟩ := h.get hi
  obtain ⟨j0, j1, hj⟩ := idx_spec hl
  have hlt : j.toNat < vs.length := by omega
  have : RdS (fun _ u (x : Value) => u = x) w v vs := h2.rd rfl fun i u x hu hx => by rw [hu] at hx; exact Option.some.inj hx
  have hx : idx vs j = some vs[j.toNat] := by
    have := idx_mk (l := vs) (i := j.toNat) (List.getElem?_eq_getElem hlt)
    rwa [Int.toNat_of_nonneg j0] at this
  obtain ⟨u, he, hu⟩ := RdS.at_ this hx
  subst hu
  exact ⟨_, List.getElem?_eq_getElem hlt, he⟩
end Go.Proofs.YtcglmncmnlkpmaaDoor
