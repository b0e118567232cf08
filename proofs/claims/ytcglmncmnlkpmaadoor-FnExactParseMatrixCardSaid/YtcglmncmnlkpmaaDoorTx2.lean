/- More rules on strings: their length, bytes, parts; errors; lists of texts. -/
import Derived.Test.YtcglmncmnlkpmaaDoorTxt
import Derived.Laws.Strings2
import Derived.Laws.Slices
import Derived.Lib.AtoiAll
import Derived.Stop.IfaceNil
import Derived.Lib.SplitLaws
namespace Go.Proofs.YtcglmncmnlkpmaaDoor
open Go.RowKit
set_option linter.unusedVariables false

/-- s[lo:hi] -/
def cutS (s : List UInt8) (lo hi : Int) : Option (List UInt8) := cond (decide (0 ≤ lo ∧ lo ≤ hi ∧ hi ≤ s.length)) (some ((s.drop lo.toNat).take (hi.toNat - lo.toNat))) none
theorem cutS_spec {s r : List UInt8} {lo hi : Int} (h : cutS s lo hi = some r) : r = (s.drop lo.toNat).take (hi.toNat - lo.toNat) ∧ 0 ≤ lo ∧ lo ≤ hi ∧ hi ≤ s.length := by
  unfold cutS at h
  by_cases hd : 0 ≤ lo ∧ lo ≤ hi ∧ hi ≤ s.length
  · rw [decide_eq_true hd] at h; exact ⟨(Option.some.inj h).symm, hd⟩
  · rw [decide_eq_false hd] at h; cases h
theorem cutS_mk {s : List UInt8} {lo hi : Int} (h : 0 ≤ lo ∧ lo ≤ hi ∧ hi ≤ s.length) : cutS s lo hi = some ((s.drop lo.toNat).take (hi.toNat - lo.toNat)) := by
  unfold cutS; rw [decide_eq_true h]; rfl

section
variable {P : Program} {a : Act} {w W : World} {N : Nat} {L : List (Nat × Value)} {As : List Atom} {d : Option Nat} {ty t t' e : TypeId} {pos : String} {af : Array Edge} {gd : Option (Nat × Bool)} {x y z : Operand} {p q r : List UInt8}

theorem y_lenS (hd : P.underlying t = some .string) (hs : Fr a N L) (hx : evL L x = some (.string ⟨p.toArray⟩)) : Yld P ⟨d, .call ⟨.builtin .len, #[x], #[t]⟩, ty, pos, af, gd⟩ a w (.int .i64 (p.length : Int)) := by
  have he : evA L [x] = some [.string ⟨p.toArray⟩] := by simp [evA, hx]
  unfold Yld
  obtain ⟨cs, hcs⟩ := exec_builtin (d := d) (ty := ty) (pos := pos) (af := af) (gd := gd) .len [x] #[t] hs he
  rw [hcs]
  simp [builtin, run_len_string w t ty _ hd, goInt, ByteArray.size]
theorem y_indexS (hd : P.underlying t = some .string) (hs : Fr a N L) {i : Int} {k : IntKind} {b : UInt8} (hx : evL L x = some (.string ⟨p.toArray⟩)) (hy : evL L y = some (.int k i)) (h : idx p i = some b) : Yld P ⟨d, .index t x y, ty, pos, af, gd⟩ a w (.int .u8 (b.toNat : Int)) := by
  obtain ⟨h0, h1, hb⟩ := idx_spec h
  have hsz : (ByteArray.mk p.toArray).size = p.length := by simp [ByteArray.size]
  have h2 := run_index_string (P := P) w t ⟨p.toArray⟩ k i hd
  rw [dif_pos (by rw [hsz]; exact ⟨h0, h1⟩)] at h2
  have hbb : (ByteArray.mk p.toArray)[i.toNat]'(by rw [hsz]; omega) = b := by
    have := (List.getElem?_eq_some_iff.1 hb).2
    show (p.toArray)[i.toNat]'(by simp; omega) = b
    simpa using this
  rw [hbb] at h2
  unfold Yld
  simp [execOp, hs.ev hx, hs.ev hy, h2]
theorem y_sliceSh (hd : P.underlying t = some .string) (hs : Fr a N L) {n : Int} {k : IntKind} (hx : evL L x = some (.string ⟨p.toArray⟩)) (hy : evL L y = some (.int k n)) (h : cutS p 0 n = some r) : Yld P ⟨d, .slice t x none (some y) none, ty, pos, af, gd⟩ a w (.string ⟨r.toArray⟩) := by
  obtain ⟨rfl, h0, h1, h2⟩ := cutS_spec h
  have hsz : (ByteArray.mk p.toArray).size = p.length := by simp [ByteArray.size]
  have h3 := run_slice_string_h (P := P) w t ⟨p.toArray⟩ hd k n h1 (by rw [hsz]; exact h2)
  rw [ByteArray.extract_mk] at h3
  have h4 := (run_sliceAt_string (P := P) w t (.string ⟨p.toArray⟩) none (some (.int k n)) none hd).trans h3
  unfold Yld
  simp only [execOp, hs.ev hx, hs.ev hy, Option.map_some, Option.map_none, Sem.run_bind, h4]
  rfl
theorem y_sliceSl (hd : P.underlying t = some .string) (hs : Fr a N L) {n : Int} {k : IntKind} (hx : evL L x = some (.string ⟨p.toArray⟩)) (hy : evL L y = some (.int k n)) (h : cutS p n (p.length : Int) = some r) : Yld P ⟨d, .slice t x (some y) none none, ty, pos, af, gd⟩ a w (.string ⟨r.toArray⟩) := by
  obtain ⟨rfl, h0, h1, h2⟩ := cutS_spec h
  have hsz : (ByteArray.mk p.toArray).size = p.length := by simp [ByteArray.size]
  have h3 := run_slice_string_l (P := P) w t ⟨p.toArray⟩ hd k n h0 (by rw [hsz]; exact h1)
  rw [ByteArray.extract_mk, hsz] at h3
  have h4 := (run_sliceAt_string (P := P) w t (.string ⟨p.toArray⟩) (some (.int k n)) none none hd).trans h3
  unfold Yld
  simp only [execOp, hs.ev hx, hs.ev hy, Option.map_some, Option.map_none, Sem.run_bind, h4]
  rfl
theorem y_sliceSlh (hd : P.underlying t = some .string) (hs : Fr a N L) {m n : Int} {k : IntKind} (hx : evL L x = some (.string ⟨p.toArray⟩)) (hz : evL L z = some (.int k m)) (hy : evL L y = some (.int k n)) (h : cutS p m n = some r) : Yld P ⟨d, .slice t x (some z) (some y) none, ty, pos, af, gd⟩ a w (.string ⟨r.toArray⟩) := by
  obtain ⟨rfl, h0, h1, h2⟩ := cutS_spec h
  have hsz : (ByteArray.mk p.toArray).size = p.length := by simp [ByteArray.size]
  have h3 := run_slice_string (P := P) w t ⟨p.toArray⟩ k k m n hd h0 h1 (by rw [hsz]; exact h2)
  rw [ByteArray.extract_mk] at h3
  have h4 := (run_sliceAt_string (P := P) w t (.string ⟨p.toArray⟩) (some (.int k m)) (some (.int k n)) none hd).trans h3
  unfold Yld
  simp only [execOp, hs.ev hx, hs.ev hy, hs.ev hz, Option.map_some, Option.map_none, Sem.run_bind, h4]
  rfl
theorem y_subU (hs : Fr a N L) {m n r : Int} (hx : evL L x = some (.int .u8 m)) (hy : evL L y = some (.int .u8 n)) (hr : ckb (m - n) = some r) : Yld P ⟨d, .binOp .sub t x y t', ty, pos, af, gd⟩ a w (.int .u8 r) := by
  obtain ⟨rfl, h0, h1⟩ := ckb_spec hr
  have hw : IntKind.u8.wrap (m - n) = m - n := by
    have : IntKind.u8.wrap (m - n) = (m - n) % 256 := by simp [IntKind.wrap, IntKind.bits, IntKind.signed]
    omega
  unfold Yld; simp [execOp, hs.ev hx, hs.ev hy, run_bin, binOp, Op.intArith, hw]
theorem y_ofByte (hb : P.underlying t' = some (.int .i64)) (hi : (P.underlying t).isSome = true) {n m : Int} (hs : Fr a N L) (hx : evL L x = some (.int .u8 n)) (hr : ck n = some m) : Yld P ⟨d, .convert t t' x, ty, pos, af, gd⟩ a w (.int .i64 m) := by
  obtain ⟨rfl, hbd⟩ := ck_spec hr
  have hk : P.intKind t' = .i64 := by simp [Program.intKind, hb]
  have h2 := run_convert_int (P := P) w t t' .u8 m hi (by rw [hk]; exact hb)
  rw [hk, IntWalk.i64_in _ hbd] at h2
  unfold Yld
  simp [execOp, hs.ev hx, h2]
/-- An error: nil, or not nil. -/
def ErrV (b : Bool) (ev : Value) : Prop := (b = false ∧ ev = .nilIface) ∨ (b = true ∧ ∃ te pe, ev = .iface te (.pointer pe))
theorem y_neqE (hI : P.isIface t = true) (hs : Fr a N L) {ev : Value} {b : Bool} (hx : evL L x = some ev) (hE : ErrV b ev) : Yld P ⟨d, .binOp .neq t x (.const .nilIface) t', ty, pos, af, gd⟩ a w (.bool b) := by
  rcases hE with ⟨rfl, rfl⟩ | ⟨rfl, te, pe, rfl⟩
  · have h1 : (eqGuard .neq t x (.const .nilIface) .nilIface .nilIface).run P w = .ok () w := by simp [eqGuard]
    have h2 : a.eval (.const .nilIface) = .nilIface := rfl
    unfold Yld
    simp only [execOp, hs.ev hx, h2, Sem.run_bind, h1, Result.andThen_ok, run_neq_nil_nil_at w t hI]
    rfl
  · have h1 : (eqGuard .neq t x (.const .nilIface) (.iface te (.pointer pe)) .nilIface).run P w = .ok () w := rfl
    have h2 : a.eval (.const .nilIface) = .nilIface := rfl
    unfold Yld
    simp only [execOp, hs.ev hx, h2, Sem.run_bind, h1, Result.andThen_ok, run_neq_iface_nil w t hI]
    rfl
theorem RdT.cut {e : TypeId} {zz : Value} {by_ : Nat} {w0 : World} {v : Value} {l l' : List (List UInt8)} {n : Int} (ht : P.underlying t = some (.slice e)) (he : ElT P e zz by_) (h : RdT w0 v l) (hc : cutO l n = some l') :
    ∃ v', (∀ w, (Instr.sliceAt t v none (some (.int .i64 n)) none).run P w = .ok v' w) ∧ (∀ w, RdT w v l → RdT w v' l') := by
  obtain ⟨⟨A, c, rfl, h1, h2⟩, hsp⟩ := h
  have h := (show RdS isT w0 (.slice A l.length c) l from ⟨A, c, rfl, h1, h2⟩)
  obtain ⟨v', hr, hR⟩ := RdS.cut ht he h hc
  obtain ⟨rfl, h0, h3⟩ := cutO_spec hc
  have e : v' = .slice A n.toNat c := by
    have a1 := hr w0
    have ht' : P.underlying t = some (.slice (P.elem t)) := by rw [elem_of ht]; exact ht
    rw [run_sliceAt_slice w0 t _ _ _ _ ht', run_slice_h w0 t A l.length c ht' .i64 n h0 (by omega), elem_of ht, run_size he] at a1
    simp only [Result.andThen_ok, sliced_cut] at a1
    cases a1; rfl
  exact ⟨v', hr, fun w hw => ⟨hR w hw.1, by rw [e]; cases A <;> exact hsp⟩⟩
end

theorem Mem.nilT {W w : World} {As : List Atom} (h : Mem W w As) (e : TypeId) : Mem W w (aStrs e (.slice none 0 0) [] :: As) :=
  h.nilI e
theorem Mem.cutT {P : Program} {W w : World} {As : List Atom} {t e : TypeId} {zz : Value} {by_ : Nat} {v v2 : Value} {l l' : List (List UInt8)} {n : Int} (ht : P.underlying t = some (.slice e)) (he : ElT P e zz by_) (h : Mem W w (aStrs e v l :: As)) (hc : cutO l n = some l')
    (hy : ∀ w, (Instr.sliceAt t v none (some (.int .i64 n)) none).run P w = .ok v2 w) : Mem W w (aStrs e v2 l' :: As) := by
  obtain ⟨rfl, h0, h1⟩ := cutO_spec hc
  obtain ⟨f, ⟨hf, ho⟩, hlt⟩ := h.get (i := 0) rfl
  obtain ⟨A, c, hv, hlc, ho2, hob⟩ := ho.cut (n := n.toNat) (by simp; omega)
  rw [List.length_map] at hv hlc
  have e2 : v2 = .slice A n.toNat c := by
    have a1 := hy w
    have ht' : P.underlying t = some (.slice (P.elem t)) := by rw [elem_of ht]; exact ht
    rw [hv, run_sliceAt_slice w t _ _ _ _ ht', run_slice_h w t A l.length c ht' .i64 n h0 (by omega), elem_of ht, run_size he] at a1
    simp only [Result.andThen_ok, sliced_cut] at a1
    cases a1; rfl
  subst e2
  exact h.turn rfl rfl rfl (Nat.le_refl _) fun f hs hn => ⟨f, ⟨by rw [hs.1, hob], by rw [List.map_take]; exact ho2⟩, hn, fun g hg => .inl hg, fun k _ _ => rfl⟩

/-- The parts of a text between the bytes c. -/
def splitC (c : UInt8) : List UInt8 → List (List UInt8)
  | [] => [[]]
  | b :: l => if b = c then [] :: splitC c l else match splitC c l with
    | [] => [[b]]
    | h :: t => (b :: h) :: t
theorem splitC_cons (c b : UInt8) (l : List UInt8) : splitC c (b :: l) = (if b = c then [] :: splitC c l else match splitC c l with | [] => [[b]] | h :: t => (b :: h) :: t) := by rw [splitC]
/-! What Go's library computes. -/
def strings_Split_m (p0 p1 : List UInt8) : Option (List (List UInt8)) := cond (decide (p0.length < 1000000000 ∧ 1 ≤ p1.length)) (some (Lib.splitK p1 0 (Lib.count p0 p1) p0)) none
def endOf : Lib.NumEnd Int → Int → Int × Bool
  | .ok v, _ => (v, false)
  | .range, s => (s, true)
  | _, _ => (0, true)
def strconv_Atoi_m (s : List UInt8) : Option (Int × Bool) := cond (decide (s.length < 1000000000)) (some (endOf (Lib.atoiAll s) (Lib.atoiSat s))) none
end Go.Proofs.YtcglmncmnlkpmaaDoor
