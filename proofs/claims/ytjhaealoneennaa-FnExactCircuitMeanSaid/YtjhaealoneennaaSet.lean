/- A set of numbers as a map from numbers to bools that the call made. Nothing of a program is named here. -/
import Derived.Test.YtjhaealoneennaaStr
import Derived.Maps.OwnSet
import Derived.Carry
namespace Go.Proofs.Ytjhaealoneennaa
open Go.RowKit Go.Maps
set_option linter.unusedVariables false
set_option linter.unusedSimpArgs false

structure SetT (P : Program) (t k e : TypeId) : Prop where
  um : P.underlying t = some (.map k e)
  uk : P.underlying k = some (.int .i64)
  ue : P.underlying e = some .bool
def SetSat (P : Program) (k e : TypeId) (v : Value) (l : List Int) (w : World) (fp : List Nat) : Prop :=
  ∃ g, v = .map (some g) ∧ fp = [g] ∧ ∃ D : DataW Unit, w.ownsMap P k (plainElem P e) g l.length D ∧ ∀ x, (Lit.int .i64 x).wf = true → D.atKey (.int .i64 x) (.lit (.bool false)) = .lit (.bool (l.contains x))
def aSet (P : Program) (k e : TypeId) (v : Value) (l : List Int) : Atom :=
  ⟨SetSat P k e v l, fun ⟨g, h1, h2, D, ⟨es, clock, hb, r⟩, h3⟩ hk => ⟨g, h1, h2, D, ⟨es, clock, (hk g (by rw [h2]; simp)).trans hb, r⟩, h3⟩⟩
theorem wf_of_ck {n m : Int} (h : ck n = some m) : (Lit.int .i64 n).wf = true := by
  obtain ⟨_, h1, h2⟩ := ck_spec h
  have e2 : IntKind.i64.min = -9223372036854775808 := by decide +kernel
  have e3 : IntKind.i64.max = 9223372036854775807 := by decide +kernel
  simp only [Lit.wf, e2, e3, decide_eq_true_eq, Bool.and_eq_true]
  omega
theorem plainElem_bool_inv {H : Type} {P : Program} {e : TypeId} (he : P.underlying e = some .bool) {v : Value} {z : DataW H × List MemPlace} (h : plainElem P e v = some z) : ∃ b, v = .bool b ∧ z = (.lit (.bool b), []) := by
  unfold plainElem at h
  rw [he] at h
  cases v <;> simp at h
  exact ⟨_, rfl, h.symm⟩
section
variable {P : Program} {ops : Array Oper} {Q : Exit → Act → World → Prop} {a : Act} {w W : World} {rest : List Oper} {N : Nat} {L : List (Nat × Value)} {As : List Atom}
variable {d : Option Nat} {ty : TypeId} {pos : String} {af : Array Edge} {gd : Option (Nat × Bool)} {t k e : TypeId} {x y z : Operand} {v : Value} {l l' : List Int} {n n' : Int}
theorem x_makeSet (hM : Mem W w As) : ∃ v w', (execOp a.eval ⟨d, .makeMap t none, ty, pos, af, gd⟩).run P w = .ok (.value v) w' ∧ Mem W w' (aSet P k e v [] :: As) := by
  refine ⟨.map (some w.heap.size), w.alloc (.map #[] 0), by simp [execOp, Option.map, run_makeMap], ?_⟩
  exact hM.new_ ((Below.refl _ _).alloc (Nat.le_refl _) _) (f := [w.heap.size]) ⟨_, rfl, rfl, .map [], World.ownsMap_made _ _ _ _, fun x _ => rfl⟩ (by simp) (by simp)
theorem y_lookupSet (hT : SetT P t k e) (he : ElT P e (.bool false) 1) (hs : Fr a N L) (hx : evL L x = some v) (hy : evL L y = some (.int .i64 n)) (hn : ck n = some n') (hM : Mem W w As) (i : Nat) (hi : As[i]? = some (aSet P k e v l)) :
    Yld P ⟨d, .lookup t x y false, ty, pos, af, gd⟩ a w (.bool (l.contains n)) := by
  obtain ⟨f, ⟨g, rfl, _, D, hown, hat⟩, _⟩ := hM.get hi
  obtain ⟨inf, hinf, hz, _, _⟩ := he.info
  have hz' : (zeroValue e).run P w = .ok (.bool false) w := by simp [zeroValue, typeInfo, hinf, hz]
  have hwf := wf_of_ck hn
  obtain ⟨u, ps, hrun, hu⟩ := hown.lookup (int_keyed hT.uk) hT.um hz' (plainElem_bool hT.ue false) (keyOf_int_mk hT.uk hwf)
  obtain ⟨b, rfl, hb⟩ := plainElem_bool_inv hT.ue hu
  rw [hat n hwf] at hb
  simp only [Prod.mk.injEq, DataW.lit.injEq, Lit.bool.injEq] at hb
  rw [hb.1]
  unfold Yld
  simp [execOp, hs.ev hx, hs.ev hy, hrun]
theorem wputSet (hT : SetT P t k e) (hs : Fr a N L) (hx : evL L x = some v) (hy : evL L y = some (.int .i64 n)) (hz : evL L z = some (.bool true)) (hn : ck n = some n') (ha : app l n = some l') (hM : Mem W w (aSet P k e v l :: As))
    (K : ∀ w', Mem W w' (aSet P k e v l' :: As) → wpList P ops Q rest a w') :
    wpList P ops Q (⟨none, .mapUpdate t x y z, ty, pos, af, none⟩ :: rest) a w := by
  obtain ⟨rfl, hl⟩ := app_spec ha
  have hM0 := hM
  obtain ⟨F, ⟨f, F', e1, ⟨g, rfl, hf, D, hown, hat⟩, h2⟩, h3, h4⟩ := hM0.hp.ex
  have hwf := wf_of_ck hn
  obtain ⟨w', hrun, o1, o2⟩ := hown.update (int_keyed hT.uk) hT.um (by simp only [maxLen]; omega) (keyOf_int_mk hT.uk hwf) (plainElem_bool hT.ue true)
  refine wpList_plain rfl fun K' hK' => ?_
  unfold Oper.wp
  simp [execOp, hs.ev hx, hs.ev hy, hs.ev hz, hrun, Result.andThen]
  refine hK' _ _ (K w' ?_)
  refine hM.turn o2.os o2.tape o2.output o2.size fun f' ⟨g', hv, hf', _⟩ hn' => ?_
  simp only [Value.map.injEq, Option.some.injEq] at hv
  subst hv
  refine ⟨f', ⟨g, rfl, hf', _, by rw [List.length_append]; exact o1, fun q hq => ?_⟩, hn', fun g hg => .inl hg, fun j hj hnot => o2.block j hj fun e => hnot ?_⟩
  · by_cases hqn : q = n
    · subst hqn
      rw [atKey_put_same hown.isMap ((int_keyed hT.uk).key (keyOf_int_mk hT.uk hwf))]
      simp
    · rw [atKey_put_other (fun h => hqn (by injection h)), hat q hq]
      congr 2
      simp [hqn]
  · rw [hf']
    simp only [Option.some.injEq] at e
    rw [e]; simp
end
end Go.Proofs.Ytjhaealoneennaa
