/- Rules on strings: what a text's operations yield. A text is a list of bytes. -/
import Derived.Test.YtcglmncmnlkpmaaDoorStr
import Derived.Laws.Concat
import Derived.Laws.Strings
import Derived.Laws.BytesString
import Derived.Laws.IdiomStrings
import Derived.Laws.BytesArg
import Derived.Lib.Join
import Derived.Lib.ItoaNum
import Derived.Lib.LaidTab
namespace Go.Proofs.YtcglmncmnlkpmaaDoor
open Go.RowKit
set_option linter.unusedVariables false

def scat (a b : List UInt8) : Option (List UInt8) := cond (decide (a.length + b.length < 1000000000)) (some (a ++ b)) none
theorem scat_spec {a b r : List UInt8} (h : scat a b = some r) : r = a ++ b ∧ a.length + b.length < 1000000000 := by
  unfold scat at h
  by_cases hd : a.length + b.length < 1000000000
  · rw [decide_eq_true hd] at h; exact ⟨(Option.some.inj h).symm, hd⟩
  · rw [decide_eq_false hd] at h; cases h
theorem scat_mk {a b : List UInt8} (h : a.length + b.length < 1000000000) : scat a b = some (a ++ b) := by
  unfold scat; rw [decide_eq_true h]; rfl
def ckb (n : Int) : Option Int := cond (decide (0 ≤ n ∧ n < 256)) (some n) none
theorem ckb_spec {n m : Int} (h : ckb n = some m) : m = n ∧ 0 ≤ n ∧ n < 256 := by
  unfold ckb at h
  by_cases hd : 0 ≤ n ∧ n < 256
  · rw [decide_eq_true hd] at h; exact ⟨(Option.some.inj h).symm, hd⟩
  · rw [decide_eq_false hd] at h; cases h
theorem ckb_mk {n : Int} (h : 0 ≤ n ∧ n < 256) : ckb n = some n := by
  unfold ckb; rw [decide_eq_true h]; rfl
/-! What Go's library computes. -/
def strconv_Itoa_m (n : Int) : Option (List UInt8) := cond (decide (-9223372036854775808 ≤ n ∧ n ≤ 9223372036854775807)) (some (Lib.itoa n)) none
def strings_Join_m (p0 : List (List UInt8)) (p1 : List UInt8) : Option (List UInt8) := cond (decide (p0.length < 1000000000 ∧ (Lib.join p0 p1).length < 1000000000)) (some (Lib.join p0 p1)) none
def byteOf (n : Int) : UInt8 := UInt8.ofNat n.toNat

section
variable {P : Program} {a : Act} {w W : World} {N : Nat} {L : List (Nat × Value)} {As : List Atom} {d : Option Nat} {ty t t' e : TypeId} {pos : String} {af : Array Edge} {gd : Option (Nat × Bool)} {x y : Operand} {p q r : List UInt8} {z : Value} {by_ : Nat}

theorem y_addT (hs : Fr a N L) (hx : evL L x = some (.string ⟨p.toArray⟩)) (hy : evL L y = some (.string ⟨q.toArray⟩)) (hr : scat p q = some r) : Yld P ⟨d, .binOp .add t x y t', ty, pos, af, gd⟩ a w (.string ⟨r.toArray⟩) := by
  obtain ⟨rfl, hl⟩ := scat_spec hr
  have h1 : (eqGuard .add t x y (.string ⟨p.toArray⟩) (.string ⟨q.toArray⟩)).run P w = .ok () w := rfl
  have h2 : (Op.stringOp .add ⟨p.toArray⟩ ⟨q.toArray⟩).run P w = .ok (.string ⟨(p ++ q).toArray⟩) w := by
    rw [run_string_add_sum w _ _ (by simp [ByteArray.size]; omega), ByteArray.mk_append_mk]
  unfold Yld
  simp [execOp, hs.ev hx, hs.ev hy, h1, binOp, h2]
theorem y_eqlT (hs : Fr a N L) (hx : evL L x = some (.string ⟨p.toArray⟩)) (hy : evL L y = some (.string ⟨q.toArray⟩)) : Yld P ⟨d, .binOp .eql t x y t', ty, pos, af, gd⟩ a w (.bool (p == q)) := by
  have h1 : (eqGuard .eql t x y (.string ⟨p.toArray⟩) (.string ⟨q.toArray⟩)).run P w = .ok () w := rfl
  unfold Yld
  simp [execOp, hs.ev hx, hs.ev hy, h1, binOp_string_eql]
theorem y_neqT (hs : Fr a N L) (hx : evL L x = some (.string ⟨p.toArray⟩)) (hy : evL L y = some (.string ⟨q.toArray⟩)) : Yld P ⟨d, .binOp .neq t x y t', ty, pos, af, gd⟩ a w (.bool (p != q)) := by
  have h1 : (eqGuard .neq t x y (.string ⟨p.toArray⟩) (.string ⟨q.toArray⟩)).run P w = .ok () w := rfl
  unfold Yld
  simp [execOp, hs.ev hx, hs.ev hy, h1, binOp_string_neq, bne]
/-- 'byte(n)' -/
theorem y_byte (hb : P.underlying t' = some (.int .u8)) (hi : (P.underlying t).isSome = true) {n m : Int} {k : IntKind} (hs : Fr a N L) (hx : evL L x = some (.int k n)) (hr : ckb n = some m) : Yld P ⟨d, .convert t t' x, ty, pos, af, gd⟩ a w (.int .u8 m) := by
  obtain ⟨rfl, h0, h1⟩ := ckb_spec hr
  have hk : P.intKind t' = .u8 := by simp [Program.intKind, hb]
  have hw : IntKind.u8.wrap m = m := by
    have : IntKind.u8.wrap m = m % 256 := by simp [IntKind.wrap, IntKind.bits, IntKind.signed]
    omega
  have h2 := run_convert_int (P := P) w t t' k m hi (by rw [hk]; exact hb)
  rw [hk, hw] at h2
  unfold Yld
  simp [execOp, hs.ev hx, h2]

theorem Sc.string {t : TypeId} (h : P.underlying t = some .string) : Sc P t := fun w => by simp [isAgg, run_underlying h]
/-! Own slices of bytes and of texts. -/
def aBytes (e : TypeId) (v : Value) (l : List Int) : Atom := aRow e v (l.map (Value.int .u8))
def strV (s : List UInt8) : Value := .string ⟨s.toArray⟩
def aStrs (e : TypeId) (v : Value) (l : List (List UInt8)) : Atom := aRow e v (l.map strV)
def isT (_ : World) (u : Value) (x : List UInt8) : Prop := u = .string ⟨x.toArray⟩
/-- The place is a plain one: what Go's library's contracts ask. -/
def spotless : Value → Prop
  | .slice (some ad) _ _ => ad.spot = none
  | _ => True
def RdT (w : World) (v : Value) (l : List (List UInt8)) : Prop := RdS isT w v l ∧ spotless v
def isU (_ : World) (u : Value) (x : Int) : Prop := u = .int .u8 x
def RdU : World → Value → List Int → Prop := RdS isU
theorem RdT.below {w w' : World} {v : Value} {l : List (List UInt8)} (h : RdT w v l) (hb : Below w.heap.size w w') : RdT w' v l := ⟨RdS.below (fun _ _ _ _ h _ => h) h.1 hb, h.2⟩
theorem RdU.below {w w' : World} {v : Value} {l : List Int} (h : RdU w v l) (hb : Below w.heap.size w w') : RdU w' v l := RdS.below (fun _ _ _ _ h _ => h) h hb
theorem RdT.at_ {w : World} {v : Value} {l : List (List UInt8)} (h : RdT w v l) {i : Int} {x : List UInt8} (hi : idx l i = some x) : ElemAt w v i (.string ⟨x.toArray⟩) := by
  obtain ⟨u, hu, rfl⟩ := RdS.at_ h.1 hi
  exact hu

theorem x_new1U {n : Int} (ht : P.underlying t = some (.slice e)) (he : ElT P e z by_) (hs : Fr a N L) (hx : evL L x = some (.int .u8 n)) (hM : Mem W w As) :
    ∃ v w', (execOp a.eval ⟨d, .buildSlice t 1 #[(0, x)], ty, pos, af, gd⟩).run P w = .ok (.value v) w' ∧ Mem W w' (aBytes e v [n] :: As) := by
  refine ⟨_, _, ?_, hM.newRow e [.int .u8 n] (by simp [maxLen])⟩
  simp [execOp, hs.ev hx, run_build1 ht he (.int .u8 n) rfl]
theorem x_new0T (ht : SlT P t e) (hM : Mem W w As) : ∃ v w', (execOp a.eval ⟨d, .buildSlice t 0 #[], ty, pos, af, gd⟩).run P w = .ok (.value v) w' ∧ Mem W w' (aStrs e v [] :: As) := by
  refine ⟨_, _, ?_, hM.newRow e [] (by simp [maxLen])⟩
  simp [execOp, run_build0 ht]
theorem OwnR.rdG {α : Type} {R : World → Value → α → Prop} {f : α → Value} (hR : ∀ w x, R w (f x) x) {e : TypeId} {v : Value} {l : List α} (h : OwnR w e v (l.map f)) : RdS R w v l := by
  rcases h with ⟨hv, hl⟩ | ⟨g, off, cap, cur, hv, hg, h1, h2, h3, h4⟩
  · obtain rfl : l = [] := by simpa using hl
    subst hv
    exact RdS.nil_ _ _
  · refine ⟨_, _, by simpa using hv, by simp at h1; omega, fun h0 => ⟨_, rfl, ?_, fun i y hy => ?_⟩⟩
    · rcases Nat.lt_or_ge g w.heap.size with h' | h'
      · exact h'
      · simp [Array.getElem?_eq_none h'] at hg
    · refine ⟨f y, ?_, hR _ _⟩
      have e1 : ((cur.toList.drop off).take (l.map f).length)[i]? = some (f y) := by rw [h4, List.getElem?_map, hy]; rfl
      rw [List.getElem?_take] at e1
      split at e1
      · rw [List.getElem?_drop] at e1
        have e2 : (⟨g, off, none⟩ : Addr).add i = ⟨g, off + i, none⟩ := by unfold Addr.add; split <;> simp_all
        rw [e2]
        simp [World.cell?, hg]
        simpa using e1
      · cases e1
theorem Mem.rdT (h : Mem W w As) (i : Nat) {e : TypeId} {v : Value} {l : List (List UInt8)} (hi : As[i]? = some (aStrs e v l)) : RdT w v l := by
  obtain ⟨f, h1, _⟩ := h.get hi
  refine ⟨OwnR.rdG (f := strV) (fun _ _ => rfl) h1.2, ?_⟩
  rcases h1.2 with ⟨hv, _⟩ | ⟨g, off, cap, cur, hv, _⟩ <;> rw [hv] <;> trivial
theorem Mem.rdU (h : Mem W w As) (i : Nat) {e : TypeId} {v : Value} {l : List Int} (hi : As[i]? = some (aBytes e v l)) : RdU w v l := by
  obtain ⟨f, h1, _⟩ := h.get hi
  exact OwnR.rdG (f := Value.int .u8) (fun _ _ => rfl) h1.2
/-- 'string(b)' of own bytes -/
theorem y_strU (hsl : P.underlying t = some (.slice e)) (he : P.underlying e = some (.int .u8)) (hd : P.underlying t' = some .string) {v : Value} {n0 : Int} {l : List Int} (hs : Fr a N L) (hx : evL L x = some v) (h : RdU w v (n0 :: l)) : Yld P ⟨d, .convert t t' x, ty, pos, af, gd⟩ a w (.string ⟨(((n0 :: l).map byteOf)).toArray⟩) := by
  obtain ⟨A, c, rfl, hm, hc⟩ := h
  obtain ⟨ad, rfl, _, hcell⟩ := hc (by simp)
  have hl : (loadCells ad (n0 :: l).length).run P w = .ok ((n0 :: l).map (Value.int .u8)).toArray w := by
    have := run_loadCells_list (P := P) w ad ((n0 :: l).map (Value.int .u8)) (fun j u hj => by
      rw [List.getElem?_map] at hj
      obtain ⟨y, hy, rfl⟩ := Option.map_eq_some_iff.1 hj
      obtain ⟨u', hu, rfl⟩ := hcell j y hy
      exact hu)
    rwa [List.length_map] at this
  have hrun : (convert t t' (.slice (some ad) (n0 :: l).length c)).run P w = .ok (.string ⟨((n0 :: l).map byteOf).toArray⟩) w := by
    rw [run_convert_bytes_string w t t' e _ _ c hsl he hd, run_bytesToString w ad _ c (n0 :: l) hl, foldl_push_bytes]
    have he0 : ByteArray.empty.data = #[] := rfl
    rw [he0, Array.empty_append]
    rfl
  unfold Yld
  simp only [execOp, hs.ev hx, Sem.run_bind, hrun]
  rfl
end

section
variable {P : Program} {ops : Array Oper} {Q : Exit → Act → World → Prop} {a : Act} {w W : World} {rest : List Oper} {N : Nat} {L : List (Nat × Value)} {As : List Atom} {t e : TypeId} {s x : Operand}
theorem wappT {d1 d2 : Nat} {ty1 ty2 : TypeId} {pos1 pos2 : String} {af1 af2 : Array Edge} {v : Value} {n : List UInt8} {l l' : List (List UInt8)} (ht : P.underlying t = some (.slice e)) (he : ElT P e (.string ⟨#[]⟩) 16) (hs : Fr a N L) (hM : Mem W w (aStrs e v l :: As))
    (hv : evL L s = some v) (hx : evL L x = some (.string ⟨n.toArray⟩)) (ha : app l n = some l') (hd1 : Nat.ble (d1 + 1) N = true) (hd2 : Nat.ble (d2 + 1) N = true) (hsd : evL ((d1, .slice (some ⟨w.heap.size, 0, none⟩) 1 1) :: L) s = some v)
    (k : ∀ a' v' w' u', Fr a' N ((d2, v') :: (d1, u') :: L) → Mem W w' (aStrs e v' l' :: As) → wpList P ops Q rest a' w') :
    wpList P ops Q (⟨some d1, .buildSlice t 1 #[(0, x)], ty1, pos1, af1, none⟩ :: ⟨some d2, .call ⟨.builtin .append, #[s, .tmp d1], #[t, t]⟩, ty2, pos2, af2, none⟩ :: rest) a w := by
  obtain ⟨rfl, hl⟩ := app_spec ha
  refine wappG (R := fun v' w' => Mem W w' (aStrs e v' (l ++ [n]) :: As)) ht he hs hv hx rfl hd1 hd2 hsd ?_ (fun a' v' w' h1 h2 => k a' v' w' _ h1 h2)
  rintro w0 rfl
  obtain ⟨v', w', hr, hm⟩ := Mem.grow (ty := ty2) ht he rfl (by omega) (hM.alloc _) (.string ⟨n.toArray⟩) rfl (by simpa using hl) ⟨w.heap.size, 0, none⟩ 1 (cell_new w _ e)
  exact ⟨v', w', hr, by simpa [aStrs, strV] using hm⟩
end
end Go.Proofs.YtcglmncmnlkpmaaDoor
