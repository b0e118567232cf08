/- The rules that the generated proofs apply, one by one. Nothing of a program is named here. -/
import Derived.Test.YtjhaealoneennaaRun
namespace Go.Proofs.Ytjhaealoneennaa
open Go.RowKit
set_option linter.unusedVariables false

section
variable {P : Program} {ops : Array Oper} {Q : Exit → Act → World → Prop} {a : Act} {w W : World} {rest : List Oper} {N : Nat} {L : List (Nat × Value)} {As : List Atom}

/-- An operation that yields a value and may change memory. -/
theorem wmem {d : Nat} {op : Op} {ty : TypeId} {pos : String} {af : Array Edge} {R : Value → World → Prop} (hs : Fr a N L)
    (h : ∃ v w', (execOp a.eval ⟨some d, op, ty, pos, af, none⟩).run P w = .ok (.value v) w' ∧ R v w') (hd : Nat.ble (d + 1) N = true) (k : ∀ a' v w', Fr a' N ((d, v) :: L) → R v w' → wpList P ops Q rest a' w') :
    wpList P ops Q (⟨some d, op, ty, pos, af, none⟩ :: rest) a w := by
  obtain ⟨v, w', hr, hR⟩ := h
  refine wpList_plain rfl fun K hK => ?_
  unfold Oper.wp
  rw [hr]
  exact hK _ _ (k _ _ _ (hs.put (Nat.le_of_ble_eq_true hd) v) hR)
/-- A store. -/
theorem wstore {t : TypeId} {p x : Operand} {ty : TypeId} {pos : String} {af : Array Edge} {R : World → Prop} {pa : Addr} {u : Value} (hs : Fr a N L) (hp : evL L p = some (.pointer (some pa))) (hx : evL L x = some u)
    (h : ∃ w', (Instr.storeAt t (.pointer (some pa)) u).run P w = .ok () w' ∧ R w') (k : ∀ w', R w' → wpList P ops Q rest a w') :
    wpList P ops Q (⟨none, .store t p x, ty, pos, af, none⟩ :: rest) a w := by
  obtain ⟨w', hr, hR⟩ := h
  refine wpList_plain rfl fun K hK => ?_
  unfold Oper.wp
  have : (execOp a.eval ⟨none, .store t p x, ty, pos, af, none⟩).run P w = .ok .skip w' := by
    simp only [execOp, hs.ev hp, hs.ev hx, Sem.run_bind, hr, Result.andThen_ok]
    rfl
  rw [this]
  exact hK _ _ (k _ hR)

variable {d : Option Nat} {ty : TypeId} {pos : String} {af : Array Edge} {gd : Option (Nat × Bool)} {t e ts ti : TypeId} {z : Value} {by_ : Nat} {x y s : Operand}
theorem x_new0I (ht : SlT P t e) (hM : Mem W w As) : ∃ v w', (execOp a.eval ⟨d, .buildSlice t 0 #[], ty, pos, af, gd⟩).run P w = .ok (.value v) w' ∧ Mem W w' (aInts e v [] :: As) := by
  refine ⟨_, _, ?_, hM.newRow e [] (by simp [maxLen])⟩
  simp [execOp, run_build0 ht]
theorem x_new0M (ht : SlT P t ts) (hM : Mem W w As) : ∃ v w', (execOp a.eval ⟨d, .buildSlice t 0 #[], ty, pos, af, gd⟩).run P w = .ok (.value v) w' ∧ Mem W w' (aMat ts ti v [] [] :: As) := by
  refine ⟨.slice (some ⟨w.heap.size, 0, none⟩) 0 0, w.alloc (.cells #[] ts), by simp [execOp, run_build0 ht], ?_⟩
  exact hM.new_ ((Below.refl _ _).alloc (Nat.le_refl _) _) (f := [w.heap.size]) ⟨rfl, own_new w ts [] (by simp [maxLen]), rfl, fun i x l _ hx _ => by simp at hx⟩ (by simp) (by simp)
theorem x_new1I {n : Int} (ht : P.underlying t = some (.slice e)) (he : ElT P e z by_) (hs : Fr a N L) (hx : evL L x = some (.int .i64 n)) (hM : Mem W w As) :
    ∃ v w', (execOp a.eval ⟨d, .buildSlice t 1 #[(0, x)], ty, pos, af, gd⟩).run P w = .ok (.value v) w' ∧ Mem W w' (aInts e v [n] :: As) := by
  refine ⟨_, _, ?_, hM.newRow e [.int .i64 n] (by simp [maxLen])⟩
  simp [execOp, hs.ev hx, run_build1 ht he (.int .i64 n) rfl]
theorem x_new2I {n m : Int} (ht : P.underlying t = some (.slice e)) (he : ElT P e z by_) (hs : Fr a N L) (hx : evL L x = some (.int .i64 n)) (hy : evL L y = some (.int .i64 m)) (hM : Mem W w As) :
    ∃ v w', (execOp a.eval ⟨d, .buildSlice t 2 #[(0, x), (1, y)], ty, pos, af, gd⟩).run P w = .ok (.value v) w' ∧ Mem W w' (aInts e v [n, m] :: As) := by
  refine ⟨_, _, ?_, hM.newRow e [.int .i64 n, .int .i64 m] (by simp [maxLen])⟩
  simp [execOp, hs.ev hx, hs.ev hy, run_build2 ht he (.int .i64 n) (.int .i64 m) rfl rfl]
theorem own_one {e : TypeId} {v : Value} {xs : List Value} (h : OwnR w e v xs) : v.oneCell' = true := by
  rcases h with ⟨hv, _⟩ | ⟨g, off, cap, cur, hv, _⟩ <;> rw [hv] <;> rfl
theorem Mem.one {e : TypeId} {v : Value} {xs : List Value} (h : Mem W w (aRow e v xs :: As)) : v.oneCell' = true := by
  obtain ⟨f, ⟨_, ho⟩, _⟩ := h.get (i := 0) rfl
  exact own_one ho

/-- 'append(s, x)': the one-element slice, then the append. -/
theorem exec_append {xs : List Operand} {v u : Value} (hs : Fr a N L) (h : evA L [s, x] = some [v, u]) :
    execOp a.eval ⟨d, .call ⟨.builtin .append, #[s, x], #[t, t]⟩, ty, pos, af, gd⟩ = (do pure (.value (← Builtin.append_ #[t, t] ty #[v, u]))) := by
  obtain ⟨cs, hcs⟩ := exec_builtin (d := d) (ty := ty) (pos := pos) (af := af) (gd := gd) .append [s, x] #[t, t] hs h
  exact hcs
theorem wappG {d1 d2 : Nat} {ty1 ty2 : TypeId} {pos1 pos2 : String} {af1 af2 : Array Edge} {v u : Value} {R : Value → World → Prop} (ht : P.underlying t = some (.slice e)) (he : ElT P e z by_) (hs : Fr a N L)
    (hv : evL L s = some v) (hx : evL L x = some u) (hu : u.oneCell' = true) (hd1 : Nat.ble (d1 + 1) N = true) (hd2 : Nat.ble (d2 + 1) N = true) (hsd : evL ((d1, .slice (some ⟨w.heap.size, 0, none⟩) 1 1) :: L) s = some v)
    (hG : ∀ w0, w0 = w.alloc (.cells #[u] e) → ∃ v' w', (Builtin.append_ #[t, t] ty2 #[v, .slice (some ⟨w.heap.size, 0, none⟩) 1 1]).run P w0 = .ok v' w' ∧ R v' w')
    (k : ∀ a' v' w', Fr a' N ((d2, v') :: (d1, .slice (some ⟨w.heap.size, 0, none⟩) 1 1) :: L) → R v' w' → wpList P ops Q rest a' w') :
    wpList P ops Q (⟨some d1, .buildSlice t 1 #[(0, x)], ty1, pos1, af1, none⟩ :: ⟨some d2, .call ⟨.builtin .append, #[s, .tmp d1], #[t, t]⟩, ty2, pos2, af2, none⟩ :: rest) a w := by
  refine wmem (R := fun v w' => v = .slice (some ⟨w.heap.size, 0, none⟩) 1 1 ∧ w' = w.alloc (.cells #[u] e)) hs ⟨.slice (some ⟨w.heap.size, 0, none⟩) 1 1, w.alloc (.cells #[u] e), by simp [execOp, hs.ev hx, run_build1 ht he u hu], rfl, rfl⟩ hd1 ?_
  rintro a1 v1 w1 hs1 ⟨rfl, rfl⟩
  obtain ⟨v', w', hr, hR⟩ := hG _ rfl
  refine wmem (R := R) hs1 ⟨v', w', ?_, hR⟩ hd2 k
  have he1 : evA ((d1, .slice (some ⟨w.heap.size, 0, none⟩) 1 1) :: L) [s, .tmp d1] = some [v, .slice (some ⟨w.heap.size, 0, none⟩) 1 1] := by
    have h1 : evL ((d1, .slice (some ⟨w.heap.size, 0, none⟩) 1 1) :: L) (.tmp d1) = some (.slice (some ⟨w.heap.size, 0, none⟩) 1 1) := by simp [evL, look]
    simp only [evA, hsd, h1]
  rw [exec_append (xs := []) hs1 he1, Sem.run_bind, hr]
  rfl
theorem cell_new (w : World) (u : Value) (e : TypeId) : (w.alloc (.cells #[u] e)).cell? ⟨w.heap.size, 0, none⟩ = some u := by
  simp
theorem wappI {d1 d2 : Nat} {ty1 ty2 : TypeId} {pos1 pos2 : String} {af1 af2 : Array Edge} {v : Value} {n : Int} {l l' : List Int} (ht : P.underlying t = some (.slice e)) (he : ElT P e (.int .i64 0) 8) (hs : Fr a N L) (hM : Mem W w (aInts e v l :: As))
    (hv : evL L s = some v) (hx : evL L x = some (.int .i64 n)) (ha : app l n = some l') (hd1 : Nat.ble (d1 + 1) N = true) (hd2 : Nat.ble (d2 + 1) N = true) (hsd : evL ((d1, .slice (some ⟨w.heap.size, 0, none⟩) 1 1) :: L) s = some v)
    (k : ∀ a' v' w' u', Fr a' N ((d2, v') :: (d1, u') :: L) → Mem W w' (aInts e v' l' :: As) → wpList P ops Q rest a' w') :
    wpList P ops Q (⟨some d1, .buildSlice t 1 #[(0, x)], ty1, pos1, af1, none⟩ :: ⟨some d2, .call ⟨.builtin .append, #[s, .tmp d1], #[t, t]⟩, ty2, pos2, af2, none⟩ :: rest) a w := by
  obtain ⟨rfl, hl⟩ := app_spec ha
  refine wappG (R := fun v' w' => Mem W w' (aInts e v' (l ++ [n]) :: As)) ht he hs hv hx rfl hd1 hd2 hsd ?_ (fun a' v' w' h1 h2 => k a' v' w' _ h1 h2)
  rintro w0 rfl
  obtain ⟨v', w', hr, hm⟩ := Mem.grow (ty := ty2) ht he rfl (by omega) (hM.alloc _) (.int .i64 n) rfl (by simpa using hl) ⟨w.heap.size, 0, none⟩ 1 (cell_new w _ e)
  exact ⟨v', w', hr, by simpa [aInts] using hm⟩
theorem wappM {d1 d2 : Nat} {ty1 ty2 : TypeId} {pos1 pos2 : String} {af1 af2 : Array Edge} {v xv : Value} {vs : List Value} {m m' : List (List Int)} {l : List Int} (ht : P.underlying t = some (.slice ts)) (he : ElT P ts (.slice none 0 0) 24) (hs : Fr a N L)
    (hM : Mem W w (aMat ts ti v vs m :: aInts ti xv l :: As)) (hv : evL L s = some v) (hx : evL L x = some xv) (ha : app m l = some m') (hd1 : Nat.ble (d1 + 1) N = true) (hd2 : Nat.ble (d2 + 1) N = true) (hsd : evL ((d1, .slice (some ⟨w.heap.size, 0, none⟩) 1 1) :: L) s = some v)
    (k : ∀ a' v' w' u', Fr a' N ((d2, v') :: (d1, u') :: L) → Mem W w' (aMat ts ti v' (vs ++ [xv]) m' :: As) → wpList P ops Q rest a' w') :
    wpList P ops Q (⟨some d1, .buildSlice t 1 #[(0, x)], ty1, pos1, af1, none⟩ :: ⟨some d2, .call ⟨.builtin .append, #[s, .tmp d1], #[t, t]⟩, ty2, pos2, af2, none⟩ :: rest) a w := by
  have hx1 : xv.oneCell' = true := by
    obtain ⟨f, ⟨_, ho⟩, _⟩ := hM.get (i := 1) rfl
    exact own_one ho
  refine wappG (R := fun v' w' => Mem W w' (aMat ts ti v' (vs ++ [xv]) m' :: As)) ht he hs hv hx hx1 hd1 hd2 hsd ?_ (fun a' v' w' h1 h2 => k a' v' w' _ h1 h2)
  rintro w0 rfl
  exact Mem.growM (ty := ty2) ht he (hM.alloc _) hx1 ha ⟨w.heap.size, 0, none⟩ 1 (cell_new w _ _)
/-- 'l[i] = n' -/
theorem x_storeI {v : Value} {n i : Int} {l l' : List Int} (he : ElT P e z by_) (hM : Mem W w (aInts e v l :: As)) (hu : upd l i n = some l') :
    ∃ w', (Instr.storeAt e (.pointer (some (elemAddr v i))) (.int .i64 n)).run P w = .ok () w' ∧ Mem W w' (aInts e v l' :: As) := by
  obtain ⟨rfl, h0, h1⟩ := upd_spec hu
  obtain ⟨f, ⟨_, ho⟩, _⟩ := hM.get (i := 0) rfl
  obtain ⟨⟨u', hc⟩, hf, _, _⟩ := own_store ho h0 (by simpa using h1) (.int .i64 n)
  obtain ⟨j, hj, _, hjs, _⟩ := he.info
  refine ⟨_, run_storeAt ⟨j, hj, hjs⟩ rfl hc hf, ?_⟩
  have := Mem.store hM h0 (by simpa using h1) (.int .i64 n)
  simpa [aInts, List.map_set] using this
theorem x_storeB {v : Value} {b : Bool} {i : Int} {l l' : List Bool} (he : ElT P e z by_) (hM : Mem W w (aBools e v l :: As)) (hu : upd l i b = some l') :
    ∃ w', (Instr.storeAt e (.pointer (some (elemAddr v i))) (.bool b)).run P w = .ok () w' ∧ Mem W w' (aBools e v l' :: As) := by
  obtain ⟨rfl, h0, h1⟩ := upd_spec hu
  obtain ⟨f, ⟨_, ho⟩, _⟩ := hM.get (i := 0) rfl
  obtain ⟨⟨u', hc⟩, hf, _, _⟩ := own_store ho h0 (by simpa using h1) (.bool b)
  obtain ⟨j, hj, _, hjs, _⟩ := he.info
  refine ⟨_, run_storeAt ⟨j, hj, hjs⟩ rfl hc hf, ?_⟩
  have := Mem.store hM h0 (by simpa using h1) (.bool b)
  simpa [aBools, List.map_set] using this
/-- 'm[j][i] = n', row j of value xv -/
theorem x_storeM {v xv : Value} {vs : List Value} {n i : Int} {j : Nat} {m : List (List Int)} {l l' : List Int} (he : ElT P ti z by_) (hM : Mem W w (aMat ts ti v vs m :: As)) (hx : vs[j]? = some xv) (hl : m[j]? = some l) (hu : upd l i n = some l') :
    ∃ w', (Instr.storeAt ti (.pointer (some (elemAddr xv i))) (.int .i64 n)).run P w = .ok () w' ∧ Mem W w' (aMat ts ti v vs (m.set j l') :: As) := by
  obtain ⟨w', h1, h2⟩ := x_storeI he (hM.take rfl hx hl) hu
  exact ⟨w', h1, h2.put rfl hx⟩
/-- 'make([]int, n)' -/
theorem made_one (z : Value) (hz1 : z.oneCell' = true) (n : Nat) : (madeCells z.cells (n * 1)).toList = List.replicate n z := by
  rw [cells_one z hz1, Nat.mul_one, toList_madeCells_one]
theorem x_make {n : Int} (ht : P.underlying t = some (.slice e)) (he : ElT P e z by_) (hz1 : z.oneCell' = true) (hby : by_ ≤ 24) (hs : Fr a N L) (hx : evL L x = some (.int .i64 n)) (hM : Mem W w As) (hn : guardO (decide (0 ≤ n ∧ n < 1000000000)) = some ()) :
    ∃ v w', (execOp a.eval ⟨d, .makeSlice t x x, ty, pos, af, gd⟩).run P w = .ok (.value v) w' ∧ Mem W w' (aRow e v (List.replicate n.toNat z) :: As) := by
  have hn' : 0 ≤ n ∧ n < 1000000000 := by
    unfold guardO at hn
    cases hb : decide (0 ≤ n ∧ n < 1000000000) with
    | false => rw [hb] at hn; cases hn
    | true => exact of_decide_eq_true hb
  obtain ⟨i, hi, hz, his, hib⟩ := he.info
  obtain ⟨q, rfl⟩ := Int.eq_ofNat_of_zero_le hn'.1
  have hb : i.bytes * q ≤ 281474976710656 := Nat.le_trans (Nat.mul_le_mul_right q (hib ▸ hby)) (by omega)
  obtain ⟨w', hr, h1, h2⟩ := run_make_full (P := P) w 0 t e i z 1 ht hi hz his .i64 .i64 q hb (by simp only [maxLen]; omega) (Nat.zero_le _)
  rw [made_one z hz1] at h1
  have hbl : Below w.heap.size w w' := ⟨h2.os, h2.tape, h2.output, h2.size, fun k hk => h2.block k hk (by simp)⟩
  have hown : OwnR w' e (.slice (some ⟨w.heap.size, 0, none⟩) q q) (List.replicate q z) := OwnR.of h1
  refine ⟨_, w', by simp [execOp, hs.ev hx, hr]; rfl, ?_⟩
  simp only [Int.toNat_natCast]
  exact hM.new_ hbl (f := [w.heap.size]) ⟨rfl, hown⟩ (by simp) (fun g hg => ⟨by simp at hg; omega, hown.lt g (by simpa [obl, Value.ownBlock] using hg)⟩)
theorem x_makeI {n : Int} (ht : P.underlying t = some (.slice e)) (he : ElT P e (.int .i64 0) 8) (hs : Fr a N L) (hx : evL L x = some (.int .i64 n)) (hM : Mem W w As) (hn : guardO (decide (0 ≤ n ∧ n < 1000000000)) = some ()) :
    ∃ v w', (execOp a.eval ⟨d, .makeSlice t x x, ty, pos, af, gd⟩).run P w = .ok (.value v) w' ∧ Mem W w' (aInts e v (List.replicate n.toNat 0) :: As) := by
  obtain ⟨v, w', h1, h2⟩ := x_make (d := d) (ty := ty) (pos := pos) (af := af) (gd := gd) ht he rfl (by omega) hs hx hM hn
  exact ⟨v, w', h1, by simpa [aInts] using h2⟩
theorem x_makeB {n : Int} (ht : P.underlying t = some (.slice e)) (he : ElT P e (.bool false) 1) (hs : Fr a N L) (hx : evL L x = some (.int .i64 n)) (hM : Mem W w As) (hn : guardO (decide (0 ≤ n ∧ n < 1000000000)) = some ()) :
    ∃ v w', (execOp a.eval ⟨d, .makeSlice t x x, ty, pos, af, gd⟩).run P w = .ok (.value v) w' ∧ Mem W w' (aBools e v (List.replicate n.toNat false) :: As) := by
  obtain ⟨v, w', h1, h2⟩ := x_make (d := d) (ty := ty) (pos := pos) (af := af) (gd := gd) ht he rfl (by omega) hs hx hM hn
  exact ⟨v, w', h1, by simpa [aBools] using h2⟩
theorem x_make0I {n : Int} (ht : P.underlying t = some (.slice e)) (he : ElT P e z by_) (hby : by_ ≤ 24) (hs : Fr a N L) (hx : evL L x = some (.int .i64 0)) (hy : evL L y = some (.int .i64 n)) (hM : Mem W w As) (hn : guardO (decide (0 ≤ n ∧ n < 1000000000)) = some ()) :
    ∃ v w', (execOp a.eval ⟨d, .makeSlice t x y, ty, pos, af, gd⟩).run P w = .ok (.value v) w' ∧ Mem W w' (aInts e v [] :: As) := by
  have hn' : 0 ≤ n ∧ n < 1000000000 := by
    unfold guardO at hn
    cases hb : decide (0 ≤ n ∧ n < 1000000000) with
    | false => rw [hb] at hn; cases hn
    | true => exact of_decide_eq_true hb
  obtain ⟨i, hi, hz, his, hib⟩ := he.info
  obtain ⟨q, rfl⟩ := Int.eq_ofNat_of_zero_le hn'.1
  have hb : i.bytes * q ≤ 281474976710656 := Nat.le_trans (Nat.mul_le_mul_right q (hib ▸ hby)) (by omega)
  obtain ⟨w', hr, h1, h2⟩ := run_make_own (P := P) w 0 t e i z 1 ht hi hz his .i64 .i64 q hb (by simp only [maxLen]; omega) (Nat.zero_le _)
  have hbl : Below w.heap.size w w' := ⟨h2.os, h2.tape, h2.output, h2.size, fun k hk => h2.block k hk (by simp)⟩
  have hown : OwnR w' e (.slice (some ⟨w.heap.size, 0, none⟩) 0 q) [] := OwnR.of h1
  refine ⟨_, w', by simp [execOp, hs.ev hx, hs.ev hy, hr]; rfl, ?_⟩
  exact hM.new_ hbl (f := [w.heap.size]) ⟨rfl, hown⟩ (by simp) (fun g hg => ⟨by simp at hg; omega, hown.lt g (by simpa [obl, Value.ownBlock] using hg)⟩)
theorem rowsFp_nils {out : Nat → Bool} : ∀ {n k : Nat}, rowsFp out k (List.replicate n (.slice none 0 0)) = []
  | 0, _ => rfl
  | n + 1, k => by
    simp only [List.replicate_succ, rowsFp]
    rw [rowsFp_nils]
    cases out k <;> rfl
theorem x_makeM {n : Int} (ht : P.underlying t = some (.slice ts)) (he : ElT P ts (.slice none 0 0) 24) (hs : Fr a N L) (hx : evL L x = some (.int .i64 n)) (hM : Mem W w As) (hn : guardO (decide (0 ≤ n ∧ n < 1000000000)) = some ()) :
    ∃ v w', (execOp a.eval ⟨d, .makeSlice t x x, ty, pos, af, gd⟩).run P w = .ok (.value v) w' ∧ Mem W w' (aMat ts ti v (List.replicate n.toNat (.slice none 0 0)) (List.replicate n.toNat []) :: As) := by
  obtain ⟨v, w', h1, h2⟩ := x_make (d := d) (ty := ty) (pos := pos) (af := af) (gd := gd) ht he rfl (by omega) hs hx hM hn
  refine ⟨v, w', h1, h2.perm2 fun F ⟨f, F', e, ⟨h3, h4⟩, h5⟩ => ⟨F, List.Perm.refl F, ⟨f, F', e, ⟨by rw [h3, rowsFp_nils, List.append_nil], h4, by simp, fun i y l _ hy hl => ?_⟩, h5⟩⟩⟩
  have e1 : y = .slice none 0 0 := by
    rw [List.getElem?_replicate] at hy
    split at hy
    · exact (Option.some.inj hy).symm
    · cases hy
  have e2 : l = [] := by
    rw [List.getElem?_replicate] at hl
    split at hl
    · exact (Option.some.inj hl).symm
    · cases hl
  rw [e1, e2]
  exact OwnR.nil_ _ _
/-- The outer cell of a row that is taken out. -/
theorem Mem.storeO {v : Value} {vs : List Value} {m : List (List Int)} {out : Nat → Bool} {i : Int} (hM : Mem W w (aMatO ts ti v vs m out :: As)) (h0 : 0 ≤ i) (h1 : i < vs.length) (ho : out i.toNat = true) (u : Value) :
    (∃ u', w.cell? (elemAddr v i) = some u') ∧ w.frozen? (elemAddr v i) = false ∧ Mem W (w.setCell (elemAddr v i) u) (aMatO ts ti v (vs.set i.toNat u) m out :: As) := by
  obtain ⟨f, ⟨hf, how, _⟩, _⟩ := hM.get (i := 0) rfl
  obtain ⟨hc, hfz, h2, h3⟩ := own_store how h0 h1 u
  refine ⟨hc, hfz, hM.turn h3.os h3.tape h3.output h3.size fun f hs hn => ?_⟩
  obtain ⟨e1, e2, e3, e4⟩ := hs
  have hno : ∀ k, k ∉ f → some k ≠ v.ownBlock := fun k hk e => hk (by rw [e1]; exact List.mem_append_left _ (by unfold obl; rw [← e]; simp))
  have hdis : ∀ g ∈ rowsFp out 0 vs, some g ≠ v.ownBlock := fun g hg e => by
    rw [e1] at hn
    exact (List.nodup_append.1 hn).2.2 g (by unfold obl; rw [← e]; simp) g hg rfl
  refine ⟨f, ⟨by rw [e1, rowsFp_set u (by simpa using ho)], h2, by simpa using e3, fun j y l hj hy hl => ?_⟩, hn, fun g hg => .inl hg, fun k hk hnot => h3.block k hk (hno k hnot)⟩
  have hne : i.toNat ≠ j := fun e => by rw [e, hj] at ho; cases ho
  rw [List.getElem?_set_ne hne] at hy
  refine (e4 j y l hj hy hl).keep fun g hg => h3.block g ((e4 j y l hj hy hl).lt g hg) (hdis g (mem_rowsFp hy (by simpa using hj) g hg))
/-- 'm[i] = row', the old row taken out. -/
theorem x_storeH {v xv : Value} {vs : List Value} {i : Int} {m m' : List (List Int)} {l : List Int} {out : Nat → Bool} (he : ElT P ts z by_) (hM : Mem W w (aInts ti xv l :: aMatO ts ti v vs m (setO out i.toNat) :: As)) (ho : out i.toNat = false) (hu : upd m i l = some m') :
    ∃ w', (Instr.storeAt ts (.pointer (some (elemAddr v i))) xv).run P w = .ok () w' ∧ Mem W w' (aMatO ts ti v (vs.set i.toNat xv) m' out :: As) := by
  obtain ⟨rfl, h0, h1⟩ := upd_spec hu
  have hx1 := hM.one
  have hM1 : Mem W w (aMatO ts ti v vs m (setO out i.toNat) :: aInts ti xv l :: As) := hM.front 1 rfl
  obtain ⟨f, ⟨_, _, hlen, _⟩, _⟩ := hM1.get (i := 0) rfl
  obtain ⟨⟨u', hc⟩, hf, h2⟩ := hM1.storeO h0 (by omega) (setO_same _ _) xv
  obtain ⟨j, hj, _, hjs, _⟩ := he.info
  refine ⟨_, run_storeAt ⟨j, hj, hjs⟩ hx1 hc hf, ?_⟩
  have h3 : Mem W _ (aInts ti xv l :: aMatO ts ti v (vs.set i.toNat xv) m (setO out i.toNat) :: As) := h2.front 1 rfl
  exact h3.put ho (by rw [List.getElem?_set_self (by omega)])
/-- 'm[i] = row' -/
theorem x_storeR {v xv : Value} {vs : List Value} {i : Int} {m m' : List (List Int)} {l : List Int} (he : ElT P ts z by_) (hM : Mem W w (aMat ts ti v vs m :: aInts ti xv l :: As)) (hu : upd m i l = some m') :
    ∃ w', (Instr.storeAt ts (.pointer (some (elemAddr v i))) xv).run P w = .ok () w' ∧ Mem W w' (aMat ts ti v (vs.set i.toNat xv) m' :: As) := by
  obtain ⟨_, h0, h1⟩ := upd_spec hu
  obtain ⟨f, ⟨_, _, hlen, _⟩, _⟩ := hM.get (i := 0) rfl
  have hM2 := (hM.take (j := i.toNat) rfl (List.getElem?_eq_getElem (by omega)) (List.getElem?_eq_getElem (by omega))).drop
  exact x_storeH he (hM2.front 1 rfl) rfl hu
/-- A captured variable. -/
theorem x_box {v : Value} (hv : v.oneCell' = true) (hs : Fr a N L) (hx : evL L x = some v) (hM : Mem W w As) :
    ∃ p w', (execOp a.eval ⟨d, .box e x, ty, pos, af, gd⟩).run P w = .ok (.value p) w' ∧ ∃ g, p = .pointer (some ⟨g, 0, none⟩) ∧ Mem W w' (aBlk g e [v] :: As) := by
  refine ⟨.pointer (some ⟨w.heap.size, 0, none⟩), w.alloc (.cells #[v] e), by simp [execOp, Instr.box, newVar, newRow, hs.ev hx, cells_one v hv], w.heap.size, rfl, ?_⟩
  exact hM.new_ ((Below.refl _ _).alloc (Nat.le_refl _) _) (f := [w.heap.size]) ⟨rfl, by exact heap_alloc_new w _⟩ (by simp) (by simp)
theorem Mem.cellBlk (hM : Mem W w As) (i : Nat) {g : Nat} {cs : List Value} (hi : As[i]? = some (aBlk g e cs)) (j : Nat) {u : Value} (hu : cs[j]? = some u) : w.cell? ⟨g, j, none⟩ = some u := by
  obtain ⟨f, ⟨_, h1⟩, _⟩ := hM.get hi
  rw [cell_of_row w g j cs.toArray e (0, 0) h1]
  simpa using hu
theorem Mem.ltBlk (hM : Mem W w As) (i : Nat) {g : Nat} {cs : List Value} (hi : As[i]? = some (aBlk g e cs)) : g < w.heap.size := by
  obtain ⟨f, ⟨h0, h1⟩, h2⟩ := hM.get hi
  exact (h2 g (by rw [h0]; simp)).2
theorem x_storeBlk {g : Nat} {v u : Value} (he : ElT P e z by_) (hu : u.oneCell' = true) (hM : Mem W w (aBlk g e [v] :: As)) :
    ∃ w', (Instr.storeAt e (.pointer (some ⟨g, 0, none⟩)) u).run P w = .ok () w' ∧ Mem W w' (aBlk g e [u] :: As) := by
  obtain ⟨f, ⟨hf, h1⟩, hlt⟩ := hM.get (i := 0) rfl
  obtain ⟨j, hj, _, hjs, _⟩ := he.info
  refine ⟨_, run_storeAt ⟨j, hj, hjs⟩ hu (hM.cellBlk 0 rfl 0 rfl) (frozen_of_row w g 0 _ e h1), hM.turn rfl rfl rfl (by simp [World.setCell]) fun f hs hn => ⟨f, ⟨hs.1, ?_⟩, hn, fun g hg => .inl hg, fun k hk hnot => ?_⟩⟩
  · have := heap_setCell_same w g 0 [v].toArray e u h1
    simpa using this
  · refine heap_setCell_other w ⟨g, 0, none⟩ k u fun e => hnot ?_
    rw [hs.1, e]; simp
end

/-- A contract whose result is a plain value, in a region that draws. -/
theorem q_of {P : Program} {f : Nat} {vs : Array Value} {v : Value} {w w1 : World} (hw : Below w.heap.size w w1) (h : Calls P f vs w1 fun e w' => ∃ u, e = .returned u ∧ u = v ∧ Mem w1 w' []) :
    Calls P f vs w1 fun e w' => e = .returned v ∧ Below w.heap.size w w' :=
  h.mono fun e w' ⟨u, he, hu, hM⟩ => ⟨by rw [he, hu], hw.trans (hM.bel.mono hw.size)⟩
theorem RdS.one {α : Type} {R : World → Value → α → Prop} {w : World} {v : Value} {l : List α} (h : RdS R w v l) : v.oneCell' = true := by
  obtain ⟨A, c, rfl, _⟩ := h
  rfl
theorem Hpl.take {w : World} : ∀ {As : List Atom} {F : List Nat} (n : Nat), Hpl w As F → ∃ F1 F2, F = F1 ++ F2 ∧ Hpl w (As.take n) F1
  | As, F, 0, h => ⟨[], F, rfl, by rw [List.take_zero]; rfl⟩
  | [], F, n + 1, h => ⟨F, [], by simp, by rw [List.take_nil]; exact h⟩
  | A :: As, F, n + 1, ⟨f, F', e, h1, h2⟩ => by
    obtain ⟨F1, F2, e2, h3⟩ := Hpl.take n h2
    exact ⟨f ++ F1, F2, by rw [e, e2, List.append_assoc], ⟨f, F1, rfl, h1, h3⟩⟩
/-- The first n atoms alone. -/
theorem Mem.keep_ {W w : World} {As : List Atom} (n : Nat) (h : Mem W w As) : Mem W w (As.take n) := by
  obtain ⟨F, h1, h2, h3⟩ := h.hp.ex
  obtain ⟨F1, F2, e, h4⟩ := h1.take n
  subst e
  exact ⟨h.bel, ⟨F1, h4, (List.nodup_append.1 h2).1, fun g hg => h3 g (List.mem_append_left _ hg)⟩⟩
theorem Mem.eq_ {W w : World} {As Bs : List Atom} (h : Mem W w As) (e : As = Bs) : Mem W w Bs := e ▸ h

/-- Handed on, or nil. -/
theorem Mem.condI {W w : World} {As : List Atom} {e : TypeId} {v : Value} {l : List Int} (h : Mem W w (aInts e v l :: As)) (p : Bool) : Mem W w (aInts e (cond p v (.slice none 0 0)) (cond p l []) :: As) := by
  cases p
  · exact h.drop.nilI e
  · exact h
theorem Mem.condM {W w : World} {As : List Atom} {ts ti : TypeId} {v : Value} {vs : List Value} {m : List (List Int)} (h : Mem W w (aMat ts ti v vs m :: As)) (p : Bool) :
    Mem W w (aMat ts ti (cond p v (.slice none 0 0)) (cond p vs []) (cond p m []) :: As) := by
  cases p
  · exact h.drop.nilM ts ti
  · exact h

/-! ### Loops over lists -/
theorem RdS.len {α : Type} {R : World → Value → α → Prop} {w : World} {v : Value} {l : List α} (h : RdS R w v l) : l.length ≤ maxLen := by
  obtain ⟨A, c, _, h, _⟩ := h
  exact h.1
theorem drop_f {α : Type} {l : List α} {j : Nat} (h : l.drop j = []) : decide ((j : Int) < (l.length : Int)) = false := by
  have := List.drop_eq_nil_iff.1 h
  exact decide_eq_false (by omega)
theorem drop_lt {α : Type} {l rest : List α} {j : Nat} {x : α} (h : l.drop j = x :: rest) : j < l.length := by
  rcases Nat.lt_or_ge j l.length with h1 | h1
  · exact h1
  · rw [List.drop_eq_nil_of_le h1] at h; cases h
theorem drop_t {α : Type} {l rest : List α} {j : Nat} {x : α} (h : l.drop j = x :: rest) : decide ((j : Int) < (l.length : Int)) = true := by
  have := drop_lt h
  exact decide_eq_true (by omega)
theorem drop_idx {α : Type} {l rest : List α} {j : Nat} {x : α} (h : l.drop j = x :: rest) : idx l (j : Int) = some x := by
  have h1 := drop_lt h
  rw [List.drop_eq_getElem_cons h1] at h
  injection h with h2 _
  exact idx_mk (by rw [List.getElem?_eq_getElem h1, h2])
theorem drop_next {α : Type} {l rest : List α} {j : Nat} {x : α} (h : l.drop j = x :: rest) : l.drop (j + 1) = rest := by
  have h1 := drop_lt h
  rw [List.drop_eq_getElem_cons h1] at h
  injection h
theorem ck_succ {α : Type} {l rest : List α} {j : Nat} {x : α} (h : l.drop j = x :: rest) (hl : l.length ≤ maxLen) : ck ((j : Int) + 1) = some ((j + 1 : Nat) : Int) := by
  have h1 := drop_lt h
  have h2 : maxLen = 9223372036854775807 := rfl
  rw [show ((j + 1 : Nat) : Int) = (j : Int) + 1 by omega]
  exact ck_mk (by omega)
theorem cnt_f {n : Int} {j : Nat} (h : (n - j).toNat = 0) : decide ((j : Int) < n) = false := decide_eq_false (by omega)
theorem cnt_t {n : Int} {j r : Nat} (h : (n - j).toNat = r + 1) : decide ((j : Int) < n) = true := decide_eq_true (by omega)
theorem cnt_next {n : Int} {j r : Nat} (h : (n - j).toNat = r + 1) : (n - (j + 1 : Nat)).toNat = r := by omega
theorem cnt_succ {n : Int} {j r : Nat} {n' : Int} (h : (n - j).toNat = r + 1) (hn : ck n = some n') : ck ((j : Int) + 1) = some ((j + 1 : Nat) : Int) := by
  obtain ⟨_, h2⟩ := ck_spec hn
  rw [show ((j + 1 : Nat) : Int) = (j : Int) + 1 by omega]
  exact ck_mk (by omega)

/-! ### Forms of code -/
section
variable {P : Program} {Q : Exit → Act → World → Prop} {a : Act} {w : World} {N : Nat} {L : List (Nat × Value)}
theorem x_cond {c : Operand} {x y : Code} {b : Bool} (hs : Fr a N L) (hc : evL L c = some (.bool b)) (ht : b = true → x.wp P Q a w) (hf : b = false → y.wp P Q a w) : (Code.cond c x y).wp P Q a w :=
  wp_cond_split (hs.ev hc) ht hf
theorem x_condT {c : Operand} {x y : Code} {b : Bool} (hs : Fr a N L) (hc : evL L c = some (.bool b)) (hb : b = true) (ht : x.wp P Q a w) : (Code.cond c x y).wp P Q a w :=
  wp_cond_true (by rw [hs.ev hc, hb]) ht
theorem x_condF {c : Operand} {x y : Code} {b : Bool} (hs : Fr a N L) (hc : evL L c = some (.bool b)) (hb : b = false) (hf : y.wp P Q a w) : (Code.cond c x y).wp P Q a w :=
  wp_cond_false (by rw [hs.ev hc, hb]) hf
theorem x_regq {id : Nat} {l : List Oper} (hm : P.follows .mixedOrders = true) (hB : Region.lexB .any l.toArray = true)
    (h : wpQuiet P l.toArray (fun w' => Below w.heap.size w w') (fun a' => ∀ w', Below w.heap.size w w' → Q .normal a' w') l a) : (Code.region id l.toArray true).wp P Q a w :=
  wp_region_quiet (C := fun w' => Below w.heap.size w w') hm hB ⟨rfl, rfl, rfl, Nat.le_refl _, fun _ _ => rfl⟩ (by simpa using h)
theorem x_nt {K : Act → World → Prop} (h : K a w) : Exit.then K Q .normal a w := h
theorem x_nb {id : Nat} (h : Q .normal a w) : Exit.inBlock id Q .normal a w := h
theorem x_rt {K : Act → World → Prop} (h : Q .ret a w) : Exit.then K Q .ret a w := h
theorem x_rb {id : Nat} (h : Q .ret a w) : Exit.inBlock id Q .ret a w := h
theorem x_et {K : Act → World → Prop} {i : Nat} (h : Q (.exit i) a w) : Exit.then K Q (.exit i) a w := h
theorem x_eb {i : Nat} (h : Q .normal a w) : Exit.inBlock i Q (.exit i) a w := by simpa [Exit.inBlock] using h
theorem x_ep {i j : Nat} (hne : Nat.beq i j = false) (h : Q (.exit i) a w) : Exit.inBlock j Q (.exit i) a w := by
  have : i ≠ j := fun e => by rw [e, Nat.beq_refl] at hne; cases hne
  simpa [Exit.inBlock, this] using h
theorem x_loop {c : Code} (I : Nat → Act → World → Prop) (k0 : Nat) (h0 : I k0 a w)
    (round : ∀ k a w, I k a w → c.wp P (Exit.then (fun a' w' => ∃ k', k' < k ∧ I k' a' w') Q) a w) : (Code.loop c).wp P Q a w := by
  intro b q cs
  have key : ∀ k a w, I k a w → ∃ e a' w', Q e a' w' ∧ Arrives P (lone (b.at a (.code c :: .inLoop c :: q)) cs w) b q cs e a' w' := by
    intro k
    induction k using Nat.strongRecOn with
    | _ k ih =>
      intro a w hI
      obtain ⟨e, a₁, w₁, hq, harr⟩ := round k a w hI b (.inLoop c :: q) cs
      cases e with
      | normal =>
        obtain ⟨k', hk, hI'⟩ := hq
        obtain ⟨e₂, a₂, w₂, hq₂, harr₂⟩ := ih k' hk a₁ w₁ hI'
        exact ⟨e₂, a₂, w₂, hq₂, .of_steps (Steps.trans harr (.one step_inLoop)) harr₂⟩
      | exit id => exact ⟨_, a₁, w₁, hq, .pass (x := .inLoop c) rfl (fun _ _ => .inl (by simp)) harr⟩
      | goto l => exact ⟨_, a₁, w₁, hq, .pass (x := .inLoop c) rfl (fun _ _ => .inl (by simp)) harr⟩
      | ret => exact ⟨_, a₁, w₁, hq, .pass (x := .inLoop c) rfl (fun _ _ => .inl (by simp)) harr⟩
      | panic ch => exact ⟨_, a₁, w₁, hq, .pass (x := .inLoop c) rfl (fun _ _ => .inl (by simp)) harr⟩
      | outgrown => exact ⟨_, a₁, w₁, hq, .pass (x := .inLoop c) rfl (fun _ _ => .inl (by simp)) harr⟩
  obtain ⟨e, a', w', hq, harr⟩ := key k0 a w h0
  exact ⟨e, a', w', hq, .of_steps (.one step_loop) harr⟩

/-- A cut: what holds wherever x comes to its end. -/
theorem x_mid {x : Code} (Mid : Act → World → Prop) (h : x.wp P (Exit.then Mid Q) a w) (k : ∀ a w, Mid a w → Q .normal a w) : x.wp P Q a w := by
  refine wp_mono h fun e a w hq => ?_
  cases e with
  | normal => exact k _ _ hq
  | _ => exact hq

def argsL : Nat → List Value → List (Nat × Value)
  | _, [] => []
  | k, v :: r => (k, v) :: argsL (k + 1) r
theorem look_args : ∀ {vs : List Value} {k t : Nat} {v : Value}, look (argsL k vs) t = some v → ∃ j, t = k + j ∧ vs[j]? = some v
  | x :: r, k, t, v, h => by
    simp only [argsL, look] at h
    cases hb : Nat.beq k t
    · rw [hb] at h
      obtain ⟨j, hj, hv⟩ := look_args h
      exact ⟨j + 1, by omega, by simpa using hv⟩
    · rw [hb] at h
      have := Nat.eq_of_beq_eq_true hb
      simp only [cond_true, Option.some.injEq] at h
      exact ⟨0, by omega, by simpa using h⟩
theorem x_enter {f : Nat} {fn : Func} {c : Code} {vs : List Value} {R : Ending → World → Prop} (hf : P.funcs[f]? = some fn) (hb : fn.body = some c) (hn : fn.ntmps = N) (hl : Nat.ble vs.length N = true)
    (h : ∀ a, Fr a N (argsL 0 vs) → c.wp P (bodyPost P fn R) a w) : Calls P f vs.toArray w R := by
  refine calls_of_wp hf hb (h _ ⟨rfl, ?_, fun t v ht => ?_⟩)
  · have := Nat.le_of_ble_eq_true hl
    simp [hn]
    omega
  · obtain ⟨j, hj, hv⟩ := look_args ht
    have hlt := (List.getElem?_eq_some_iff.1 hv).1
    have e : t = j := by omega
    subst e
    rw [Array.getElem?_append_left (by simpa using hlt)]
    simpa using hv
theorem x_ret1 {fn : Func} {R : Ending → World → Prop} {t : Nat} {v : Value} (hr : fn.results = #[.tmp t]) (hs : Fr a N L) (hv : look L t = some v) (h : R (.returned v) w) : bodyPost P fn R .ret a w :=
  bodyPost_ret (results_tmp hr _ _ _) hs.dfr (by simpa [Array.getD_eq_getD_getElem?, hs.get t v hv] using h)
theorem x_ret2 {fn : Func} {R : Ending → World → Prop} {t u : Nat} {v x : Value} (hr : fn.results = #[.tmp t, .tmp u]) (hs : Fr a N L) (hv : look L t = some v) (hx : look L u = some x) (h : R (.returned (.tuple #[v, x])) w) : bodyPost P fn R .ret a w :=
  bodyPost_ret (results_tmp2 hr _ _ _) hs.dfr (by simpa [Array.getD_eq_getD_getElem?, hs.get t v hv, hs.get u x hx] using h)
theorem x_ret3 {fn : Func} {R : Ending → World → Prop} {t u q : Nat} {v x y : Value} (hr : fn.results = #[.tmp t, .tmp u, .tmp q]) (hs : Fr a N L) (hv : look L t = some v) (hx : look L u = some x) (hy : look L q = some y) (h : R (.returned (.tuple #[v, x, y])) w) : bodyPost P fn R .ret a w :=
  bodyPost_ret (results_tmp3 hr _ _ _) hs.dfr (by simpa [Array.getD_eq_getD_getElem?, hs.get t v hv, hs.get u x hx, hs.get q y hy] using h)
theorem x_end0 {fn : Func} {R : Ending → World → Prop} (hr : fn.results = #[]) (hs : Fr a N L) (h : R (.returned (.tuple #[])) w) : bodyPost P fn R .normal a w :=
  bodyPost_end (results_none hr _ _ _) hs.dfr h
end
end Go.Proofs.Ytjhaealoneennaa
