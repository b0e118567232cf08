/- Regions that draw their order and write: what only reads is taken first; what is left comes up one by one. The kit's laws on orders (Derived.Orders, Derived.OrdersHeld, Derived.Deep.Quiet), with a class of worlds and a condition at once. Nothing of a program is named here. -/
import Derived.Test.YtjhaealoneennaaRule
import Derived.OrdersHeld
namespace Go.Proofs.Ytjhaealoneennaa
open Go.RowKit
set_option linter.unusedVariables false

section
variable {P : Program} {md : Region.Mode} {ops : Array Oper} {Q : Exit → Act → World → Prop} {M : List Nat} {S : World → Prop}

/-- j waits for i, at once or by others. -/
def anc (md : Region.Mode) (ops : Array Oper) (i : Nat) : Nat → Nat → Bool
  | 0, _ => false
  | k + 1, j => match ops[j]? with
    | some o => o.after.any fun e => Region.binds md e && (e.on == i || anc md ops i k e.on)
    | none => false
/-- Some of the operations M need not come ahead of j. -/
def late (md : Region.Mode) (ops : Array Oper) (M : List Nat) (j : Nat) : Bool := M.any fun i => !anc md ops i ops.size j
def Closed (md : Region.Mode) (ops : Array Oper) (listed : Array Bool) : Prop :=
  ∀ j o, ops[j]? = some o → listed.getD j false = true → ∀ e ∈ o.after, Region.binds md e = true → listed.getD e.on false = true
def closedB (md : Region.Mode) (ops : Array Oper) (listed : Array Bool) : Bool :=
  (List.range ops.size).all fun j => match ops[j]? with
    | some o => !listed.getD j false || o.after.all fun e => !Region.binds md e || listed.getD e.on false
    | none => true
theorem closed_spec {listed : Array Bool} (h : closedB md ops listed = true) : Closed md ops listed := by
  intro j o ho hl e he hb
  have h1 := List.all_eq_true.1 h j (List.mem_range.2 (Array.getElem?_eq_some_iff.1 ho).1)
  rw [ho] at h1
  simp only [hl, Bool.not_true, Bool.false_or] at h1
  have h2 := Array.all_eq_true_iff_forall_mem.1 h1 e he
  simpa [hb] using h2
theorem anc_listed {listed : Array Bool} (hc : Closed md ops listed) {i : Nat} : ∀ (k j : Nat), (∀ o, ops[j]? = some o → ∀ e ∈ o.after, Region.binds md e = true → listed.getD e.on false = true) → anc md ops i k j = true → listed.getD i false = true := by
  intro k
  induction k with
  | zero => intro j _ h; cases h
  | succ k ih =>
    intro j hj h
    unfold anc at h
    split at h
    · rename_i o ho
      obtain ⟨q, hq, h2⟩ := Array.any_eq_true.1 h
      have he := Array.getElem_mem hq
      generalize o.after[q] = e at h2 he
      simp only [Bool.and_eq_true, Bool.or_eq_true, beq_iff_eq] at h2
      have hl := hj o ho e he h2.1
      rcases h2.2 with h3 | h3
      · rw [← h3]; exact hl
      · exact ih e.on (fun o' ho' => hc e.on o' ho' hl) h3
    · cases h

def wpOpS (P : Program) (ops : Array Oper) (i : Nat) (K : Act → World → Prop) (a : Act) (w : World) : Prop :=
  match ops[i]? with
  | none => K a w
  | some o => if Region.wanted o (yielded ops a.tmps) then o.wp P a w K (fun _ _ _ => False) else K (a.put o.dst undef) w
theorem upon_to {o : Oper} {a : Act} {w : World} {K K' : Act → World → Prop} {Q' : Exit → Act → World → Prop} (h : ∀ a w, K a w → K' a w) (hh : o.wp P a w K (fun _ _ _ => False)) : o.wp P a w K' Q' := by
  unfold Oper.wp at *
  generalize (execOp a.eval o).run P w = r at *
  cases r with
  | ok n w' =>
    cases n <;> simp only [Oper.upon] at hh ⊢ <;>
      first
        | exact h _ _ hh
        | exact Calls.mono hh (fun e w'' he => by cases e <;> first | exact h _ _ he | exact he.elim | (obtain ⟨_, _, hf⟩ := he; exact hf.elim))
        | exact Rows.mono hh (fun _ _ he => h _ _ he)
  | halt x w' => cases x <;> simp only [Oper.upon] at hh ⊢
theorem wpOpS_mono {i : Nat} {a : Act} {w : World} {K K' : Act → World → Prop} (h : ∀ a w, K a w → K' a w) (hh : wpOpS P ops i K a w) : wpOpS P ops i K' a w := by
  unfold wpOpS at *
  split
  · rename_i ho; simp only [ho] at hh; exact h _ _ hh
  · rename_i o ho
    simp only [ho] at hh
    split
    · rename_i hw; simp only [hw, if_true] at hh; exact upon_to h hh
    · rename_i hw; simp only [hw] at hh; exact h _ _ hh
theorem wpOpS_to {i : Nat} {a : Act} {w : World} {K K' : Act → World → Prop} (h : ∀ a w, K a w → K' a w) (hh : wpOpS P ops i K a w) : wpOp P ops Q i K' a w := by
  unfold wpOpS at hh
  unfold wpOp
  split
  · rename_i ho; simp only [ho] at hh; exact h _ _ hh
  · rename_i o ho
    simp only [ho] at hh
    split
    · rename_i hw; simp only [hw, if_true] at hh; exact .inl (upon_to h hh)
    · rename_i hw; simp only [hw] at hh; exact h _ _ hh

def Ext (w w' : World) : Prop := Below w.heap.size w w'
theorem Ext.refl (w : World) : Ext w w := Below.refl _ _
theorem Ext.trans {w w1 w2 : World} (h : Ext w w1) (h' : Ext w1 w2) : Ext w w2 := Below.trans h (h'.mono h.size)

def wpAnyS (P : Program) (md : Region.Mode) (ops : Array Oper) (Q : Exit → Act → World → Prop) (M : List Nat) (S : World → Prop) : Nat → Array Bool → Act → World → Prop
  | 0, listed, a, w => ∀ w1, Ext w w1 → Region.ready md ops listed = [] ∧ Q .normal a w1
  | fuel + 1, listed, a, w => ∀ w1, Ext w w1 → (Region.ready md ops listed = [] → Q .normal a w1) ∧
    ∀ i ∈ Region.ready md ops listed, wpOpS P ops i (fun a' w' => (late md ops M i = true → S w') ∧ wpAnyS P md ops Q M S fuel (listed.setIfInBounds i true) a' w') a w1
theorem wpAnyS_ext : ∀ {fuel : Nat} {listed : Array Bool} {a : Act} {w w1 : World}, wpAnyS P md ops Q M S fuel listed a w → Ext w w1 → wpAnyS P md ops Q M S fuel listed a w1
  | 0, _, _, _, _, h, he => fun w2 h2 => h w2 (he.trans h2)
  | _ + 1, _, _, _, _, h, he => fun w2 h2 => h w2 (he.trans h2)
theorem wpAny_of_S : ∀ (fuel : Nat) (listed : Array Bool) (a : Act) (w : World), wpAnyS P md ops Q M S fuel listed a w → wpAny P md ops Q fuel listed a w
  | 0, _, _, w, h => h w (Ext.refl w)
  | fuel + 1, _, _, w, h => ⟨(h w (Ext.refl w)).1, fun i hi => wpOpS_to (fun a' w' h' => wpAny_of_S fuel _ a' w' h'.2) ((h w (Ext.refl w)).2 i hi)⟩

/-- In every world that meets S the operation yields v, and leaves what stood there. -/
def YieldsS (P : Program) (ops : Array Oper) (S : World → Prop) (o : Oper) (v : Value) (a : Act) : Prop :=
  (Region.wanted o (yielded ops a.tmps) = true ∧ ∀ w, S w → o.quietAt P a (fun w' => Ext w w') w v) ∨
  (Region.wanted o (yielded ops a.tmps) = false ∧ v = undef)
theorem YieldsS.of_same {o : Oper} {v : Value} {a a' : Act} (hy : YieldsS P ops S o v a) (he : execOp a'.eval o = execOp a.eval o)
    (hw : Region.wanted o (yielded ops a'.tmps) = Region.wanted o (yielded ops a.tmps)) : YieldsS P ops S o v a' := by
  unfold YieldsS Oper.quietAt at *
  rw [he, hw]
  exact hy
theorem YieldsS.wpOpS {i : Nat} {o : Oper} {v : Value} {a : Act} (hi : ops[i]? = some o) (hy : YieldsS P ops S o v a) {K : Act → World → Prop} {w : World} (hS : S w)
    (h : ∀ w', Ext w w' → K (a.put o.dst v) w') : wpOpS P ops i K a w := by
  unfold Ytjhaealoneennaa.wpOpS
  simp only [hi]
  rcases hy with ⟨hw, hv⟩ | ⟨hw, rfl⟩
  · simp only [hw, if_true]
    have h3 := hv w hS
    unfold Oper.quietAt at h3
    unfold Oper.wp
    generalize (execOp a.eval o).run P w = r at *
    cases r with
    | ok n w' =>
      cases n <;> simp only [Oper.quietUpon] at h3 <;> simp only [Oper.upon]
      case value u =>
        obtain ⟨e1, e2⟩ := h3
        rw [e1, e2]
        exact h _ (Ext.refl _)
      case skip =>
        obtain ⟨e1, e2⟩ := h3
        rw [e1, ← e2]
        exact h _ (Ext.refl _)
      case enter f args =>
        obtain ⟨e1, hc⟩ := h3
        rw [e1]
        exact hc.mono fun e w'' ⟨he, hw''⟩ => by subst he; exact h _ hw''
    | halt x w' => simp only [Oper.quietUpon] at h3
  · simp only [hw, Bool.false_eq_true, if_false]; exact h _ (Ext.refl _)
theorem wpOpS_put {j : Nat} {oi oj : Oper} {v : Value} (hj : ops[j]? = some oj) (hap : oi.apart ops oj = true)
    (hsi : ∀ cs b, oi.op ≠ .select cs b) (hsj : ∀ cs b, oj.op ≠ .select cs b) {K : Act → World → Prop} {a : Act} {w : World}
    (hy : YieldsS P ops S oi v a) (h : wpOpS P ops j K (a.put oi.dst v) w) :
    wpOpS P ops j (fun a' w' => YieldsS P ops S oi v a' ∧ K (a'.put oi.dst v) w') a w := by
  obtain ⟨h1, h2, h3⟩ := Oper.apart_spec hap
  have keep : ∀ (a : Act), YieldsS P ops S oi v a → ∀ u, YieldsS P ops S oi v (a.put oj.dst u) := fun a hy u =>
    hy.of_same (execOp_put oi hsi a oj.dst u h3) (wanted_put oi a oj.dst u h3)
  have keepD : ∀ d, YieldsS P ops S oi v { a with defers := d :: a.defers } := fun d => hy.of_same rfl rfl
  unfold wpOpS at *
  simp only [hj] at *
  rw [wanted_put oj a oi.dst v h1] at h
  split
  · rename_i hw
    simp only [hw, if_true] at h
    unfold Oper.wp at *
    rw [execOp_put oj hsj a oi.dst v h1] at h
    generalize (execOp a.eval oj).run P w = r at *
    cases r with
    | ok n w' =>
      cases n <;> simp only [Oper.upon] at h ⊢
      case value u => exact ⟨keep a hy u, by rw [← Act.put_comm a v u h2]; exact h⟩
      case skip => exact ⟨keep a hy _, by rw [← Act.put_comm a v undef h2]; exact h⟩
      case defer d =>
        refine ⟨keep _ (keepD d) _, ?_⟩
        rw [← Act.put_comm _ v undef h2, ← Act.put_defers]
        exact h
      case enter f args =>
        refine Calls.mono h fun e w'' he => ?_
        cases e with
        | returned u => exact ⟨keep a hy u, by rw [← Act.put_comm a v u h2]; exact he⟩
        | panicked c => exact he
        | outgrown => exact he
      case row row args => exact Rows.mono h fun u w'' he => ⟨keep a hy u, by rw [← Act.put_comm a v u h2]; exact he⟩
    | halt x w' => cases x <;> simp only [Oper.upon] at h ⊢
  · rename_i hw
    simp only [hw] at h
    exact ⟨keep a hy _, by rw [← Act.put_comm a v undef h2]; exact h⟩

theorem closed_set {listed : Array Bool} {j : Nat} (hc : Closed md ops listed) (hj : j ∈ Region.ready md ops listed) : Closed md ops (listed.setIfInBounds j true) := by
  obtain ⟨hun, oj, hoj, hall⟩ := mem_ready.1 hj
  intro k o ho hl e he hb
  by_cases hjk : j = k
  · subst hjk
    rw [hoj] at ho
    cases ho
    exact getD_set_true (hall e he hb)
  · rw [getD_set_ne false hjk] at hl
    exact getD_set_true (hc k o ho hl e he hb)
theorem not_late {i j : Nat} {listed : Array Bool} (hc : Closed md ops listed) (hM : i ∈ M) (hi : listed.getD i true = false) (hj : j ∈ Region.ready md ops listed) : late md ops M j = true := by
  unfold late
  refine List.any_eq_true.2 ⟨i, hM, ?_⟩
  cases h : anc md ops i ops.size j
  · rfl
  · obtain ⟨hun, oj, hoj, hall⟩ := mem_ready.1 hj
    have := anc_listed hc ops.size j (fun o ho => by rw [hoj] at ho; cases ho; exact hall) h
    rcases Nat.lt_or_ge i listed.size with h' | h'
    · simp [h'] at hi this; rw [hi] at this; cases this
    · simp [Array.getElem?_eq_none h'] at hi

theorem wpAnyS_first {i : Nat} {oi : Oper} {v : Value} (hi : ops[i]? = some oi) (hM : i ∈ M) (hSC : ∀ w w', S w → Ext w w' → S w') (hsel : ∀ (j : Nat) (o : Oper) cs b, ops[j]? = some o → o.op ≠ .select cs b) :
    ∀ (fuel : Nat) (listed : Array Bool) (a : Act) (w : World), Closed md ops listed →
      (∀ j oj, ops[j]? = some oj → j ≠ i → listed.getD j true = false → (∀ e ∈ oj.after, Region.binds md e = true → e.on ≠ i) → oi.apart ops oj = true) →
      i ∈ Region.ready md ops listed → YieldsS P ops S oi v a → S w →
      wpAnyS P md ops Q M S fuel (listed.setIfInBounds i true) (a.put oi.dst v) w → wpAnyS P md ops Q M S (fuel + 1) listed a w := by
  intro fuel
  induction fuel with
  | zero =>
    intro listed a w _ _ hr hy hS H w1 hw1
    refine ⟨fun h => (by rw [h] at hr; cases hr), fun j hj => ?_⟩
    by_cases hji : j = i
    · subst hji
      exact hy.wpOpS hi (hSC _ _ hS hw1) fun w' h' => ⟨fun _ => hSC _ _ hS (hw1.trans h'), wpAnyS_ext H (hw1.trans h')⟩
    · have := ready_mono hj hji
      rw [(H w1 hw1).1] at this
      cases this
  | succ fuel ih =>
    intro listed a w hc hfree hr hy hS H w1 hw1
    refine ⟨fun h => (by rw [h] at hr; cases hr), fun j hj => ?_⟩
    by_cases hji : j = i
    · subst hji
      exact hy.wpOpS hi (hSC _ _ hS hw1) fun w' h' => ⟨fun _ => hSC _ _ hS (hw1.trans h'), wpAnyS_ext H (hw1.trans h')⟩
    · have h1 := (H w1 hw1).2 j (ready_mono hj hji)
      obtain ⟨hjun, oj, hoj, hall⟩ := mem_ready.1 hj
      have hun : listed.getD i true = false := (mem_ready.1 hr).1
      have hnot : ∀ e ∈ oj.after, Region.binds md e = true → e.on ≠ i := fun e he hb heq => by
        have h1 := hall e he hb
        rw [heq] at h1
        rcases Nat.lt_or_ge i listed.size with h' | h'
        · simp [h'] at hun h1; rw [hun] at h1; cases h1
        · simp [Array.getElem?_eq_none h'] at h1
      have hlate := not_late hc hM hun hj
      have h2 := wpOpS_put hoj (hfree j oj hoj hji hjun hnot) (fun cs b => hsel i oi cs b hi) (fun cs b => hsel j oj cs b hoj) hy h1
      have hfree' : ∀ k ok, ops[k]? = some ok → k ≠ i → (listed.setIfInBounds j true).getD k true = false →
          (∀ e ∈ ok.after, Region.binds md e = true → e.on ≠ i) → oi.apart ops ok = true := fun k ok hk hki hun hno => by
        refine hfree k ok hk hki ?_ hno
        by_cases hjk : j = k
        · subst hjk; exact hjun
        · rw [getD_set_ne true hjk] at hun; exact hun
      refine wpOpS_mono (fun a' w' h3 => ⟨h3.2.1, ih (listed.setIfInBounds j true) a' w' (closed_set hc hj) hfree' (ready_mono hr (Ne.symm hji)) h3.1 (h3.2.1 hlate) ?_⟩) h2
      rw [Array.setIfInBounds_comm _ _ hji]
      exact h3.2.2

/-! ### The moves -/
theorem wc_start {id : Nat} {a : Act} {w : World} {n : Nat} (hm : P.follows .mixedOrders = true) (M : List Nat) (S : World → Prop) (hn : ops.size = n)
    (h : wpAnyS P .any ops Q M S n (Array.replicate n false) a w) : (Code.region id ops true).wp P Q a w := by
  subst hn
  exact wp_region_any hm (wpAny_of_S _ _ _ _ (wpAnyS_ext h ⟨rfl, rfl, rfl, Nat.le_refl _, fun _ _ => rfl⟩))

variable {a : Act} {w : World} {N : Nat} {L : List (Nat × Value)} {fuel : Nat} {listed : Array Bool}
/-- All that is asked of an operation that is taken first, by one reckoning. -/
def takeB (md : Region.Mode) (ops : Array Oper) (M : List Nat) (listed : Array Bool) (i : Nat) : Bool :=
  Region.noSelect ops && Region.free md ops listed i && (Region.ready md ops listed).contains i && closedB md ops listed && M.contains i
theorem wc {d i : Nat} {op : Op} {ty : TypeId} {pos : String} {af : Array Edge} {v : Value} (hi : ops[i]? = some ⟨some d, op, ty, pos, af, none⟩) (hB : takeB md ops M listed i = true)
    (hSC : ∀ w w', S w → Ext w w' → S w') (hS : S w) (hs : Fr a N L)
    (h : ∀ w1, S w1 → Yld P ⟨some d, op, ty, pos, af, none⟩ a w1 v) (hd : Nat.ble (d + 1) N = true) (k : ∀ a', Fr a' N ((d, v) :: L) → wpAnyS P md ops Q M S fuel (listed.setIfInBounds i true) a' w) :
    wpAnyS P md ops Q M S (fuel + 1) listed a w := by
  simp only [takeB, Bool.and_eq_true] at hB
  obtain ⟨⟨⟨⟨h1, h2⟩, h3⟩, h4⟩, h5⟩ := hB
  refine wpAnyS_first hi (by simpa using h5) hSC (Region.noSelect_spec h1) fuel listed a w (closed_spec h4) (Region.free_spec hi h2) (by simpa using h3) (.inl ⟨rfl, fun w1 hw1 => ?_⟩) hS (k _ (hs.put (Nat.le_of_ble_eq_true hd) v))
  have := h w1 hw1
  unfold Yld at this
  unfold Oper.quietAt
  rw [this]
  exact ⟨rfl, rfl⟩
theorem ccall {d f i : Nat} {xs : List Operand} {ats : Array TypeId} {ty : TypeId} {pos : String} {af : Array Edge} {vs : List Value} {v : Value} (hi : ops[i]? = some ⟨some d, .call ⟨.value (.func f), xs.toArray, ats⟩, ty, pos, af, none⟩) (hB : takeB md ops M listed i = true)
    (hSC : ∀ w w', S w → Ext w w' → S w') (hS : S w) (his : Is P f) (hs : Fr a N L) (he : evA L xs = some vs) (hd : Nat.ble (d + 1) N = true)
    (h : ∀ w1, S w1 → Calls P f vs.toArray w1 fun e w' => e = .returned v ∧ Ext w1 w') (k : ∀ a', Fr a' N ((d, v) :: L) → wpAnyS P md ops Q M S fuel (listed.setIfInBounds i true) a' w) :
    wpAnyS P md ops Q M S (fuel + 1) listed a w := by
  simp only [takeB, Bool.and_eq_true] at hB
  obtain ⟨⟨⟨⟨h1, h2⟩, h3⟩, h4⟩, h5⟩ := hB
  refine wpAnyS_first hi (by simpa using h5) hSC (Region.noSelect_spec h1) fuel listed a w (closed_spec h4) (Region.free_spec hi h2) (by simpa using h3) (.inl ⟨rfl, fun w1 hw1 => ?_⟩) hS (k _ (hs.put (Nat.le_of_ble_eq_true hd) v))
  unfold Oper.quietAt
  rw [exec_call his hs he]
  exact ⟨rfl, h w1 hw1⟩
theorem cx_of {P : Program} {f : Nat} {vs : Array Value} {v : Value} {w1 : World} (h : Calls P f vs w1 fun e w' => ∃ u, e = .returned u ∧ u = v ∧ Mem w1 w' []) :
    Calls P f vs w1 fun e w' => e = .returned v ∧ Ext w1 w' := h.mono fun e w' ⟨u, he, hu, hm⟩ => ⟨by rw [he, hu], hm.bel⟩
def onN (K : Act → World → Prop) : Exit → Act → World → Prop
  | .normal, a, w => K a w
  | _, _, _ => False
def oneB (md : Region.Mode) (ops : Array Oper) (M : List Nat) (listed : Array Bool) (i : Nat) : Bool :=
  match Region.ready md ops listed with
  | [k] => Nat.beq k i && !late md ops M i
  | _ => false
theorem upon_on {o : Oper} {a : Act} {w : World} {K : Act → World → Prop} (hh : o.wp P a w (wpList P ops (onN K) []) (onN K)) : o.wp P a w K (fun _ _ _ => False) := by
  unfold Oper.wp at *
  generalize (execOp a.eval o).run P w = r at *
  cases r with
  | ok n w' =>
    cases n <;> simp only [Oper.upon] at hh ⊢ <;>
      first
        | exact hh
        | exact Calls.mono hh (fun e w'' he => by cases e <;> first | exact he | (obtain ⟨_, _, hf⟩ := he; exact hf.elim))
        | exact Rows.mono hh (fun _ _ he => he)
  | halt x w' => cases x <;> simp only [Oper.upon] at hh ⊢ <;> first | exact hh | exact hh.elim
/-- The one operation that may come up; what it leaves is met by none of those taken first. -/
theorem wc_one (i : Nat) {o : Oper} (hi : ops[i]? = some o) (hB : oneB md ops M listed i = true)
    (h : ∀ w1, Ext w w1 → wpList P ops (onN (fun a' w' => wpAnyS P md ops Q M S fuel (listed.setIfInBounds i true) a' w')) [o] a w1) : wpAnyS P md ops Q M S (fuel + 1) listed a w := by
  unfold oneB at hB
  split at hB
  · rename_i k hk
    simp only [Bool.and_eq_true, Bool.not_eq_true'] at hB
    have e := Nat.eq_of_beq_eq_true hB.1
    subst e
    intro w1 hw1
    rw [hk]
    refine ⟨fun h => (by cases h), fun j hj => ?_⟩
    rw [List.mem_singleton] at hj
    subst hj
    have := h w1 hw1
    unfold wpOpS
    simp only [hi]
    unfold wpList at this
    refine wpOpS_late (hB.2) this
  · cases hB
where
  wpOpS_late {o : Oper} {K : Act → World → Prop} {l : Bool} {w1 : World} (hl : l = false) (h : if Region.wanted o (yielded ops a.tmps) then o.wp P a w1 (wpList P ops (onN K) []) (onN K) ∨ (o.asks P a w1 ∧ LetsOut (onN K)) else wpList P ops (onN K) [] (a.put o.dst undef) w1) :
      if Region.wanted o (yielded ops a.tmps) then o.wp P a w1 (fun a' w' => (l = true → S w') ∧ K a' w') (fun _ _ _ => False) else (fun a' w' => (l = true → S w') ∧ K a' w') (a.put o.dst undef) w1 := by
    subst hl
    split
    · rename_i hw
      rw [if_pos hw] at h
      rcases h with h | ⟨_, _, _, hf⟩
      · exact upon_to (fun a' w' hk => ⟨fun h => (by cases h), hk⟩) (upon_on h)
      · exact hf.elim
    · rename_i hw
      rw [if_neg hw] at h
      exact ⟨fun h => (by cases h), h⟩
/-- One that may come ahead of some that were taken first: S stands behind it. -/
theorem wc_oneS (i : Nat) {o : Oper} (hi : ops[i]? = some o) (hB : (Region.ready md ops listed) = [i])
    (h : ∀ w1, Ext w w1 → wpList P ops (onN (fun a' w' => S w' ∧ wpAnyS P md ops Q M S fuel (listed.setIfInBounds i true) a' w')) [o] a w1) : wpAnyS P md ops Q M S (fuel + 1) listed a w := by
  intro w1 hw1
  rw [hB]
  refine ⟨fun h => (by cases h), fun j hj => ?_⟩
  rw [List.mem_singleton] at hj
  subst hj
  have := h w1 hw1
  unfold wpOpS
  simp only [hi]
  unfold wpList at this
  split
  · rename_i hw
    rw [if_pos hw] at this
    rcases this with h | ⟨_, _, _, hf⟩
    · exact upon_to (fun a' w' hk => ⟨fun _ => hk.1, hk.2⟩) (upon_on h)
    · exact hf.elim
  · rename_i hw
    rw [if_neg hw] at this
    exact ⟨fun _ => this.1, this.2⟩
/-- Either of two may come up. -/
theorem wc_two (i j : Nat) {oi oj : Oper} (hi : ops[i]? = some oi) (hj : ops[j]? = some oj) (hB : (Region.ready md ops listed) = [i, j])
    (h : ∀ w1, Ext w w1 → wpList P ops (onN (fun a' w' => S w' ∧ wpAnyS P md ops Q M S fuel (listed.setIfInBounds i true) a' w')) [oi] a w1)
    (h' : ∀ w1, Ext w w1 → wpList P ops (onN (fun a' w' => S w' ∧ wpAnyS P md ops Q M S fuel (listed.setIfInBounds j true) a' w')) [oj] a w1) : wpAnyS P md ops Q M S (fuel + 1) listed a w := by
  intro w1 hw1
  rw [hB]
  refine ⟨fun h => (by cases h), fun k hk => ?_⟩
  have key : ∀ (i : Nat) (o : Oper), ops[i]? = some o → wpList P ops (onN (fun a' w' => S w' ∧ wpAnyS P md ops Q M S fuel (listed.setIfInBounds i true) a' w')) [o] a w1 →
      wpOpS P ops i (fun a' w' => (late md ops M i = true → S w') ∧ wpAnyS P md ops Q M S fuel (listed.setIfInBounds i true) a' w') a w1 := by
    intro i o hi this
    unfold wpOpS
    simp only [hi]
    unfold wpList at this
    split
    · rename_i hw
      rw [if_pos hw] at this
      rcases this with h | ⟨_, _, _, hf⟩
      · exact upon_to (fun a' w' hk => ⟨fun _ => hk.1, hk.2⟩) (upon_on h)
      · exact hf.elim
    · rename_i hw
      rw [if_neg hw] at this
      exact ⟨fun _ => this.1, this.2⟩
  simp only [List.mem_cons, List.not_mem_nil, or_false] at hk
  rcases hk with e | e
  · subst e; exact key _ _ hi (h w1 hw1)
  · subst e; exact key _ _ hj (h' w1 hw1)
/-- Whichever of several comes up. -/
def AllUp (P : Program) (md : Region.Mode) (ops : Array Oper) (Q : Exit → Act → World → Prop) (M : List Nat) (S : World → Prop) (fuel : Nat) (listed : Array Bool) (a : Act) (w : World) : List Nat → Prop
  | [] => True
  | i :: r => (∀ o, ops[i]? = some o → ∀ w1, Ext w w1 → wpList P ops (onN (fun a' w' => S w' ∧ wpAnyS P md ops Q M S fuel (listed.setIfInBounds i true) a' w')) [o] a w1) ∧ AllUp P md ops Q M S fuel listed a w r
theorem allUp_at {i : Nat} {w1 : World} (hw : Ext w w1) : ∀ {l : List Nat}, AllUp P md ops Q M S fuel listed a w l → i ∈ l → ∀ o, ops[i]? = some o → wpList P ops (onN (fun a' w' => S w' ∧ wpAnyS P md ops Q M S fuel (listed.setIfInBounds i true) a' w')) [o] a w1
  | j :: r, h, hi, o, ho => by
    rcases List.mem_cons.1 hi with e | e
    · subst e; exact h.1 o ho w1 hw
    · exact allUp_at hw h.2 e o ho
theorem wc_many (l : List Nat) (hB : (Region.ready md ops listed) = l) (hne : l ≠ []) (h : AllUp P md ops Q M S fuel listed a w l) : wpAnyS P md ops Q M S (fuel + 1) listed a w := by
  intro w1 hw1
  rw [hB]
  refine ⟨fun h => absurd h hne, fun i hi => ?_⟩
  unfold wpOpS
  cases ho : ops[i]? with
  | none =>
    have : i ∈ Region.ready md ops listed := by rw [hB]; exact hi
    obtain ⟨_, o, ho', _⟩ := mem_ready.1 this
    rw [ho] at ho'; cases ho'
  | some o =>
    have := allUp_at hw1 h hi o ho
    unfold wpList at this
    simp only []
    split
    · rename_i hw
      rw [if_pos hw] at this
      rcases this with h | ⟨_, _, _, hf⟩
      · exact upon_to (fun a' w' hk => ⟨fun _ => hk.1, hk.2⟩) (upon_on h)
      · exact hf.elim
    · rename_i hw
      rw [if_neg hw] at this
      exact ⟨fun _ => this.1, this.2⟩
theorem wc_abs (h : ∀ T : Nat → Array Bool → Act → World → Prop, T = wpAnyS P md ops Q M S → T fuel listed a w) : wpAnyS P md ops Q M S fuel listed a w := h _ rfl
theorem wc_at {T : Nat → Array Bool → Act → World → Prop} {l l' : Array Bool} (e : l' = l) (h : T fuel l a w) : T fuel l' a w := e ▸ h
theorem wc_done (hr : (Region.ready md ops listed).isEmpty = true) (h : ∀ w1, Ext w w1 → Q .normal a w1) : wpAnyS P md ops Q M S fuel listed a w := by
  have hr := List.isEmpty_iff.1 hr
  cases fuel with
  | zero => exact fun w1 hw1 => ⟨hr, h w1 hw1⟩
  | succ k => exact fun w1 hw1 => ⟨fun _ => h w1 hw1, by rw [hr]; simp⟩
end
end Go.Proofs.Ytjhaealoneennaa
