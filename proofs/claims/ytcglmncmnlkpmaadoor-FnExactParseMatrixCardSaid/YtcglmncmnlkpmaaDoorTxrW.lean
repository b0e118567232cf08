/- The code of this unit computes what its mirrors say. Written by program (wip/gen). -/
import Derived.Test.YtcglmncmnlkpmaaDoorFacts
import Derived.Test.YtcglmncmnlkpmaaDoorTxrM
import Derived.Test.YtcglmncmnlkpmaaDoorMatW
import Derived.Test.YtcglmncmnlkpmaaDoorTxqW
namespace Go.Proofs.YtcglmncmnlkpmaaDoor
open Go.RowKit
set_option linter.unusedVariables false

open Go.Shelf
attribute [local go_sem] Oper.semAt_some
/-- An object whose blocks are all cells. -/
def Cel (A : Atom) : Prop := ∀ w fp, A.sat w fp → ∀ g ∈ fp, ∃ cs t fr, w.heap[g]? = some (.cells cs t fr)
theorem Cel.blk (g : Nat) (e : TypeId) (cs : List Value) : Cel (aBlk g e cs) := by
  rintro w fp ⟨rfl, h⟩ k hk
  obtain rfl : k = g := by simpa using hk
  exact ⟨_, _, _, h⟩
theorem Cel.ints (e : TypeId) (v : Value) (l : List Int) : Cel (aInts e v l) := by
  rintro w fp ⟨rfl, h⟩ k hk
  rcases h with ⟨rfl, _⟩ | ⟨g, off, cap, cur, rfl, hg, _⟩
  · simp [obl, Value.ownBlock] at hk
  · obtain rfl : k = g := by simpa [obl, Value.ownBlock] using hk
    exact ⟨_, _, _, hg⟩
theorem hpl_cel {w : World} : ∀ {As : List Atom} {F : List Nat}, Hpl w As F → (∀ A ∈ As, Cel A) → ∀ g ∈ F, ∃ cs t fr, w.heap[g]? = some (.cells cs t fr)
  | [], F, h, _, g, hg => by have h : F = [] := h; rw [h] at hg; cases hg
  | A :: As, F, ⟨f, F', e, h1, h2⟩, hc, g, hg => by
    rw [e] at hg
    rcases List.mem_append.1 hg with h | h
    · exact hc A List.mem_cons_self w f h1 g h
    · exact hpl_cel h2 (fun B hB => hc B (List.mem_cons_of_mem _ hB)) g h
/-- What turns is no cells, and new. -/
theorem Mem.others {W w w' : World} {As : List Atom} (h : Mem W w As) (hc : ∀ A ∈ As, Cel A) {row : Option Nat} (hg : w.grownBy w' row) (hr : ∀ r, row = some r → W.heap.size ≤ r ∧ ∃ o : Obj, w.heap[r]? = some o ∧ o.isCells = false) : Mem W w' As := by
  obtain ⟨F, h1, h2, h3⟩ := h.hp.ex
  refine ⟨h.bel.grown hg h.bel.size (fun k e => (hr k e).1), ⟨F, h1.keep (fun g hgF => ?_), h2, fun g hgF => ⟨(h3 g hgF).1, Nat.lt_of_lt_of_le (h3 g hgF).2 hg.size⟩⟩⟩
  refine hg.block g (h3 g hgF).2 (fun e => ?_)
  obtain ⟨cs, t, fr, hcell⟩ := hpl_cel h1 hc g hgF
  obtain ⟨_, o, ho, hno⟩ := hr g e.symm
  rw [hcell] at ho
  cases ho
  cases hno
theorem Mem.setBlk {W w : World} {As : List Atom} {g : Nat} {e : TypeId} {v : Value} (u : Value) (hM : Mem W w (aBlk g e [v] :: As)) : Mem W (w.setCell ⟨g, 0, none⟩ u) (aBlk g e [u] :: As) := by
  obtain ⟨f, ⟨hf, h1⟩, hlt⟩ := hM.get (i := 0) rfl
  refine hM.turn rfl rfl rfl (by simp [World.setCell]) fun f hs hn => ⟨f, ⟨hs.1, ?_⟩, hn, fun g hg => .inl hg, fun k hk hnot => ?_⟩
  · have := heap_setCell_same w g 0 [v].toArray e u h1
    simpa using this
  · exact Below.heap_setCell _ _ _ k (fun e => hnot (by rw [hs.1, e]; simp))
theorem Mem.grow2 {P : Program} {t ty e : TypeId} {z : Value} {by_ : Nat} (ht : P.underlying t = some (.slice e)) (he : ElT P e z by_) (hz1 : z.oneCell' = true) (hby : by_ ≤ 24) {W w : World} {As : List Atom} {v : Value} {l : List Int} (h : Mem W w (aInts e v l :: As)) (n : Int)
    (hl : l.length < 1000000000) (ad : Addr) (c : Nat) (hc : w.cell? ad = some (.int .i64 n)) :
    ∃ v' w', (Builtin.append_ #[t, t] ty #[v, .slice (some ad) 1 c]).run P w = .ok v' w' ∧ Mem W w' (aInts e v' (l ++ [n]) :: As) ∧ KeepsOthers w w' ∧ ∃ ao m cap, v' = .slice ao m cap := by
  obtain ⟨f, ⟨hf, ho⟩, hlt⟩ := h.get (i := 0) rfl
  obtain ⟨v', w', hr, h2, h3, h5⟩ := own_grow (ty := ty) ht he hz1 hby ho (.int .i64 n) rfl (by simpa using hl) ad c hc
  obtain ⟨v'', w'', hr', hm⟩ := Mem.grow (ty := ty) ht he hz1 hby h (.int .i64 n) rfl (by simpa using hl) ad c hc
  rw [hr] at hr'
  cases hr'
  refine ⟨v', w', hr, by simpa [aInts] using hm, KeepsOthers.of_grownBy h3 (fun j o ej hj => ?_), ?_⟩
  · rcases ho with ⟨rfl, _⟩ | ⟨g, off, cap, cur, rfl, hg, _⟩
    · simp [Value.ownBlock] at ej
    · obtain rfl : g = j := by simpa [Value.ownBlock] using ej
      rw [hg] at hj; cases hj; rfl
  · rcases h2 with ⟨rfl, _⟩ | ⟨g, off, cap, cur, rfl, _⟩ <;> exact ⟨_, _, _, rfl⟩
/-- The append in a round. -/
theorem listIn_append {F : Fence} {n : Nat} {P : Program} {w W : World} {ops : Array Oper} {rest : List Oper} {o : Oper} {a : Act} {Q : Exit → Act → World → Prop}
    (hg : o.guard = none) (s x : Operand) (t : TypeId) (hop : o.op = Op.call { callee := Callee.builtin Builtin.append, args := #[s, x], argTypes := #[t, t] }) {e : TypeId} {z : Value} {by_ : Nat}
    (ht : P.underlying t = some (.slice e)) (he : ElT P e z by_) (hz1 : z.oneCell' = true) (hby : by_ ≤ 24) {As : List Atom} (v : Value) (l : List Int) (k : Int) (ad : Addr) (c : Nat) (hs : a.eval s = v) (hx : a.eval x = .slice (some ad) 1 c) (h : Mem W w (aInts e v l :: As)) (hl : l.length < 1000000000) (hc : w.cell? ad = some (.int .i64 k))
    (hK : ∀ ao m cap w', Mem W w' (aInts e (.slice ao m cap) (l ++ [k]) :: As) → KeepsOthers w w' → wpListIn F n P ops Q rest (a.put o.dst (.slice ao m cap)) w') :
    wpListIn F n P ops Q (o :: rest) a w := by
  refine wpListIn_plain hg fun K hK' => ?_
  obtain ⟨v', w', hrun, r1, r2, ao, m, cap, rfl⟩ := Mem.grow2 (ty := o.type) ht he hz1 hby h k hl ad c hc
  unfold Oper.wpIn
  refine ⟨?_, ?_⟩
  · simp [Oper.about, hop, resolve, Target.leads, Sem.run_pure]
  · rw [Oper.semAt_plain F _ _ (by rw [hop]; intro c hc'; cases hc')]
    simp [execOp, hop, resolve, invoke, builtin, hs, hx, hrun, Result.andThen]
    exact hK' _ _ (hK ao m cap w' r1 r2)
theorem Mem.newBlk {W w : World} {As : List Atom} (h : Mem W w As) (e : TypeId) (v : Value) : Mem W (w.alloc (.cells #[v] e)) (aBlk w.heap.size e [v] :: As) :=
  h.new_ ((Below.refl _ _).alloc (Nat.le_refl _) _) (f := [w.heap.size]) ⟨rfl, World.alloc_heap_new w _⟩ (by simp) (by simp)
theorem others_of_below {A w : World} (hb : Below A.heap.size A w) : KeepsOthers A w :=
  ⟨hb.size, fun k o hk _ => (hb.block k (Array.getElem?_eq_some_iff.1 hk).1).trans hk⟩
theorem Mem.formI {W w : World} {As : List Atom} (h : Mem W w As) (i : Nat) {e : TypeId} {v : Value} {l : List Int} (hi : As[i]? = some (aInts e v l)) : ∃ ao m cap, v = .slice ao m cap := by
  obtain ⟨f, ⟨_, h1⟩, _⟩ := h.get hi
  rcases h1 with ⟨rfl, _⟩ | ⟨g, off, cap, cur, rfl, _⟩ <;> exact ⟨_, _, _, rfl⟩
theorem infoI : (Tryd.prog.info? 33).map (fun i => (i.zero, i.size)) = some (some (.slice none 0 0), 1) := by kernel_rfl

set_option maxRecDepth 100000 in
set_option maxHeartbeats 2000000 in
theorem impl_parseNumbers_any (p0 p1 : List UInt8) (W : World) (hT : TabOk2 W) {r : List Int × Bool} (hm : impl_parseNumbers_m p0 p1 = some r) : Calls Tryd.prog 24 [.string ⟨p0.toArray⟩, .string ⟨p1.toArray⟩].toArray W fun e w => ∃ v, e = .returned v ∧ ∃ v0, v = .tuple #[v0, .bool r.2] ∧ Mem W w [aInts 3 v0 r.1] := by
  unfold impl_parseNumbers_m at hm
  by_cases hd : p1 = [32] ∧ p0.length < 1000000000
  case neg => rw [decide_eq_false hd] at hm; cases hm
  rw [decide_eq_true hd] at hm
  have hm : impl_parseNumbers_l1 (splitC 32 p0) [] = some r := hm
  obtain ⟨rfl, hlen⟩ := hd
  refine (callsIn_wide (n := 5)).1 ?_
  refine callsIn_of_wp_marks Tryd.func24 rfl trivial ?_ rfl
  simp only [Tryd.ntmps24, List.size_toArray, List.length_cons, List.length_nil, Nat.reduceAdd, Nat.reduceSub, Array.replicate_succ, Array.replicate_zero, List.push_toArray, List.append_toArray, List.nil_append, List.cons_append]
  have hS := fun w => SplitSeq_made ⟨p0.toArray⟩ w
  gi_wp2_with (refine ⟨trivial, ?_⟩; gi_at_call 41; refine (callsIn_wide.2 (hS _)).mono ?_; rintro e w' ⟨rfl, rfl⟩)
  simp only [Nat.add_assoc, Nat.reduceAdd]
  have h7 := (((((((Mem.start W).newBlk 33 (.slice none 0 0)).newBlk 4 (.bool false)).newRow 3 [] (by simp [maxLen])).newBlk 33 (.slice (some ⟨W.heap.size + 2, 0, none⟩) 0 0)).newBlk 9 (.string ⟨p0.toArray⟩)).newBlk 9 (.string ⟨#[32]⟩)).newBlk 3 (.int .i64 0)
  simp only [World.size_alloc, Nat.add_assoc, Nat.reduceAdd] at h7
  have h7 : Mem W _ [aBlk (W.heap.size + 4) 9 [.string ⟨p0.toArray⟩], aBlk (W.heap.size + 6) 3 [.int .i64 0], aBlk (W.heap.size + 5) 9 [.string ⟨#[32]⟩], aBlk (W.heap.size + 3) 33 [.slice (some ⟨W.heap.size + 2, 0, none⟩) 0 0], aInts 3 (.slice (some ⟨W.heap.size + 2, 0, none⟩) 0 0) [], aBlk (W.heap.size + 1) 4 [.bool false], aBlk W.heap.size 33 [.slice none 0 0]] := h7.front 2 rfl
  have hcel : ∀ (u v : Value) (li : List Int), ∀ A ∈ [aBlk (W.heap.size + 4) 9 [u], aBlk (W.heap.size + 6) 3 [.int .i64 0], aBlk (W.heap.size + 5) 9 [.string ⟨#[32]⟩], aBlk (W.heap.size + 3) 33 [v], aInts 3 v li, aBlk (W.heap.size + 1) 4 [.bool false], aBlk W.heap.size 33 [.slice none 0 0]], Cel A := by
    intro u v li A hA
    simp only [List.mem_cons, List.not_mem_nil, or_false] at hA
    rcases hA with rfl | rfl | rfl | rfl | rfl | rfl | rfl
    all_goals first | exact Cel.blk _ _ _ | exact Cel.ints _ _ _
  have hcel2 : ∀ (u v : Value) (li : List Int), ∀ A ∈ [aBlk (W.heap.size + 1) 4 [.bool false], aBlk W.heap.size 33 [.slice none 0 0], aBlk (W.heap.size + 4) 9 [u], aBlk (W.heap.size + 6) 3 [.int .i64 0], aBlk (W.heap.size + 5) 9 [.string ⟨#[32]⟩], aBlk (W.heap.size + 3) 33 [v], aInts 3 v li], Cel A := by
    intro u v li A hA
    simp only [List.mem_cons, List.not_mem_nil, or_false] at hA
    rcases hA with rfl | rfl | rfl | rfl | rfl | rfl | rfl
    all_goals first | exact Cel.blk _ _ _ | exact Cel.ints _ _ _
  have hsz := h7.ltBlk 1 rfl
  have hbs := h7.bel.size
  have q4 := h7.heapBlk 0 rfl
  have q6 := h7.heapBlk 1 rfl
  have q5 := h7.heapBlk 2 rfl
  refine rangeCell (F := Fence.wide) rfl (by omega) (gf := 61) (lb := #[.pointer (some ⟨W.heap.size + 5, 0, none⟩), .pointer (some ⟨W.heap.size + 4, 0, none⟩), .pointer (some ⟨W.heap.size + 6, 0, none⟩)]) rfl trivial (enters_of Tryd.func61 (by kernel_rfl) rfl)
    (enc := fun x : List UInt8 => Value.string ⟨x.toArray⟩) (Bs := W.heap.size + 4) (Kp := KeepB (W.heap.size + 4)) (all := splitC 32 p0)
    (fun l J Jx A hk hJs hY h0 => splitSeq_in 4 (by omega) l (W.heap.size + 4) p0 hlen J Jx hY hJs A (boxed_keep q5 hk (by omega) (by omega)) (boxed_keep q4 hk (by omega) (by omega)) (boxed_keep q6 hk (by omega) (by omega)) h0)
    (by omega) KeepB.trans ?ka ?kb rfl
    (fun pre A => ∃ (li : List Int) (v u : Value), (∀ rest, splitC 32 p0 = pre ++ rest → impl_parseNumbers_l1 rest li = some r) ∧ Mem W A [aBlk (W.heap.size + 4) 9 [u], aBlk (W.heap.size + 6) 3 [.int .i64 0], aBlk (W.heap.size + 5) 9 [.string ⟨#[32]⟩], aBlk (W.heap.size + 3) 33 [v], aInts 3 v li, aBlk (W.heap.size + 1) 4 [.bool false], aBlk W.heap.size 33 [.slice none 0 0]])
    (fun pre A => r = ([], false) ∧ ∃ (li : List Int) (v u : Value), Mem W A [aBlk (W.heap.size + 1) 4 [.bool false], aBlk W.heap.size 33 [.slice none 0 0], aBlk (W.heap.size + 4) 9 [u], aBlk (W.heap.size + 6) 3 [.int .i64 0], aBlk (W.heap.size + 5) 9 [.string ⟨#[32]⟩], aBlk (W.heap.size + 3) 33 [v], aInts 3 v li])
    ?hI ?hIx ?hIs ⟨[], _, _, fun rest h => by rw [← show splitC 32 p0 = rest from h]; exact hm, h7⟩
    (fun x => { tmps := #[.string ⟨p0.toArray⟩, .string ⟨#[32]⟩, undef, undef, .pointer (some ⟨W.heap.size, 0, none⟩), .pointer (some ⟨W.heap.size + 1, 0, none⟩), .pointer (some ⟨W.heap.size + 3, 0, none⟩), .string ⟨x.toArray⟩, undef, undef, .slice (some ⟨W.heap.size + 2, 0, none⟩) 0 0, .string ⟨p0.toArray⟩, .string ⟨#[32]⟩, .func (.func 61) #[] #[.pointer (some ⟨W.heap.size + 5, 0, none⟩), .pointer (some ⟨W.heap.size + 4, 0, none⟩), .pointer (some ⟨W.heap.size + 6, 0, none⟩)], .string ⟨x.toArray⟩, undef, undef, undef, undef, undef, undef, undef, undef, undef, undef, undef, undef], defers := [] }) ?assign ?body ?done ?stop
  case ka => exact fun A o hA => ⟨by simp, fun k _ hk => Below.heap_alloc _ _ _ (by omega)⟩
  case kb => exact fun A l o' hl => ⟨by simp, fun k _ hk => World.putObj_heap_other (by omega)⟩
  case hI =>
    rintro pre A A' row ⟨li, v, u, hp, hM⟩ hg hr
    exact ⟨li, v, u, hp, hM.others (hcel u v li) hg (fun k e => ⟨Nat.le_trans hbs (hr k e).1, (hr k e).2⟩)⟩
  case hIx =>
    rintro pre A A' row ⟨hr0, li, v, u, hM⟩ hg hr
    exact ⟨hr0, li, v, u, hM.others (hcel2 u v li) hg (fun k e => ⟨Nat.le_trans hbs (hr k e).1, (hr k e).2⟩)⟩
  case hIs =>
    rintro pre A v' ⟨li, v, u, hp, hM⟩
    exact ⟨li, v, v', hp, hM.setBlk v'⟩
  case assign =>
    intro l x A K hK
    gi_wp2
    exact hK
  case body =>
    rintro l pre x A ⟨li, v, u, hp, hM⟩ ⟨rest, hrest⟩
    have hq := hp (x :: rest) (by rw [← hrest]; simp)
    rw [impl_parseNumbers_l1] at hq
    obtain ⟨⟨n, bb⟩, hy, hq⟩ := bindE hq
    have hP := impl_parseNumber_any x A (hT.below hM.bel) hy
    cases bb
    · have hq : some ([], false) = some r := hq
      have hr0 := (Option.some.inj hq).symm
      gi_wp2_with (refine ⟨trivial, ?_⟩; gi_at_call 42; refine (CallsIn.inRound l (callsIn_wide.2 hP)).mono ?_; clear hP; rintro e w' ⟨_, rfl, rfl, hX⟩; have hM2 := hM.call hX; have c0 := hM2.cellBlk 6 rfl 0 rfl; have c1 := hM2.cellBlk 5 rfl 0 rfl; have f0 := frozen_of_row w' W.heap.size 0 _ 33 (hM2.heapBlk 6 rfl); have f1 := frozen_of_row w' (W.heap.size + 1) 0 _ 4 (hM2.heapBlk 5 rfl))
      exact ⟨((others_of_below hX.bel).trans (KeepsOthers.setCell _ _ _)).trans (KeepsOthers.setCell _ _ _), rfl, hr0, li, v, u, (((hM2.front 6 rfl).setBlk (.slice none 0 0)).front 6 rfl).setBlk (.bool false)⟩
    · have hq : (app li n).bind (fun l2 => impl_parseNumbers_l1 rest l2) = some r := hq
      obtain ⟨l2, ha, hq⟩ := bindE hq
      obtain ⟨rfl, hll⟩ := app_spec ha
      gi_wp2_with first
        | (refine ⟨trivial, ?_⟩; gi_at_call 42; refine (CallsIn.inRound l (callsIn_wide.2 hP)).mono ?_; clear hP; rintro e w' ⟨_, rfl, rfl, hX⟩; have hM2 := hM.call hX; have c3 := hM2.cellBlk 3 rfl 0 rfl)
        | (gi_at_builtin; refine listIn_append rfl _ _ 33 rfl hu_I he_int rfl (by omega) v li n ⟨w'.heap.size, 0, none⟩ 1 rfl rfl ((hM2.front 4 rfl).alloc _) hll (cell_new _ _ _) ?_; intro ao m cap w1 hM3 hk3; have c3' := hM3.cellBlk 4 rfl 0 rfl; have f3' := frozen_of_row w1 (W.heap.size + 3) 0 _ 33 (hM3.heapBlk 4 rfl))
      have hM4 := ((((hM3.front 4 rfl).setBlk (.slice ao m cap)).front 4 rfl).front 4 rfl).front 4 rfl
      refine ⟨(((others_of_below hX.bel).trans (KeepsOthers.alloc _ _)).trans hk3).trans (KeepsOthers.setCell _ _ _), ⟨Nat.le_trans (((others_of_below hX.bel).trans (KeepsOthers.alloc _ _)).trans hk3).size (by simp [World.setCell]), fun k h1 h2 => ?_⟩, li ++ [n], _, u, fun rest' h' => ?_, hM4⟩
      · have : k = W.heap.size + 4 ∨ k = W.heap.size + 5 ∨ k = W.heap.size + 6 := by omega
        rcases this with rfl | rfl | rfl
        · exact (hM4.heapBlk 0 rfl).trans (hM.heapBlk 0 rfl).symm
        · exact (hM4.heapBlk 2 rfl).trans (hM.heapBlk 2 rfl).symm
        · exact (hM4.heapBlk 1 rfl).trans (hM.heapBlk 1 rfl).symm
      · obtain rfl : rest = rest' := List.append_cancel_left (hrest.trans h')
        exact hq
  case done =>
    rintro D A hD ⟨li, v, u, hp, hM⟩ hK
    have hq : some (li, true) = some r := hp [] (by simp)
    obtain rfl := Option.some.inj hq
    obtain ⟨ao, m, cap, rfl⟩ := hM.formI 4 rfl
    have c3 := hM.cellBlk 3 rfl 0 rfl
    have c0 := hM.cellBlk 6 rfl 0 rfl
    have c1 := hM.cellBlk 5 rfl 0 rfl
    have f0 := frozen_of_row A W.heap.size 0 _ 33 (hM.heapBlk 6 rfl)
    have f1 := frozen_of_row A (W.heap.size + 1) 0 _ 4 (hM.heapBlk 5 rfl)
    gi_wp2
    have hM5 := (((hM.front 6 rfl).setBlk (.slice ao m cap)).front 6 rfl).setBlk (.bool true)
    have hK' := ((KeepsOthers.setCell A ⟨W.heap.size, 0, none⟩ (.slice ao m cap)).trans (KeepsOthers.setCell _ ⟨W.heap.size + 1, 0, none⟩ (.bool true))).same D _ hK rfl
    have hM6 := (hM5.only 6 rfl).others (by intro B hB; simp only [List.mem_cons, List.not_mem_nil, or_false] at hB; subst hB; exact Cel.ints _ _ _) (grownBy_putObj' _ D (.deferred none)) (fun k e => by cases e; exact ⟨Nat.le_trans hbs hD, _, hK', rfl⟩)
    have e0 := cell_kept (hM5.cellBlk 1 rfl 0 rfl) (grownBy_putObj' _ D (.deferred none)) (fun r e => by cases e; exact ⟨_, hK', rfl⟩)
    have e1 := cell_kept (hM5.cellBlk 0 rfl 0 rfl) (grownBy_putObj' _ D (.deferred none)) (fun r e => by cases e; exact ⟨_, hK', rfl⟩)
    refine ⟨by simp, .inl ⟨_, _, rfl, run_takeDeferred hK', ?_⟩⟩
    refine ⟨.tuple #[.slice ao m cap, .bool true], ?_, _, rfl, _, rfl, hM6⟩
    simp [results, Tryd.f24, go_sem, e0, e1]
  case stop =>
    rintro D pre A hD hpre ⟨hr0, li, v, u, hM⟩ hK
    subst hr0
    gi_wp2
    have e0 := cell_kept (hM.cellBlk 1 rfl 0 rfl) (grownBy_putObj' _ D (.deferred none)) (fun r e => by cases e; exact ⟨_, hK, rfl⟩)
    have e1 := cell_kept (hM.cellBlk 0 rfl 0 rfl) (grownBy_putObj' _ D (.deferred none)) (fun r e => by cases e; exact ⟨_, hK, rfl⟩)
    refine ⟨by simp, .inl ⟨_, _, rfl, run_takeDeferred hK, ?_⟩⟩
    refine ⟨.tuple #[.slice none 0 0, .bool false], ?_, _, rfl, .slice none 0 0, rfl, ((hM.none_).others (by intro B hB; cases hB) (grownBy_putObj' _ D (.deferred none)) (fun k e => by cases e; exact ⟨Nat.le_trans hbs hD, _, hK, rfl⟩)).nilI 3⟩
    simp [results, Tryd.f24, go_sem, e0, e1]

set_option maxHeartbeats 4000000 in
theorem impl_ParseMatrix_any (p0 : List UInt8) (W : World) (hT : TabOk2 W) {r : (List (List Int)) × Bool} (hm : impl_ParseMatrix_m p0 = some r) : Calls Tryd.prog 11 [.string ⟨p0.toArray⟩].toArray W fun e w => ∃ v, e = .returned v ∧ ∃ v0, ∃ vs0, v = .tuple #[v0, .bool r.2] ∧ Mem W w [aMat 33 3 v0 vs0 r.1] := by
  refine x_enter Tryd.func11 rfl Tryd.ntmps11 rfl ?_
  intro a hs
  have hM := Mem.start W
  unfold impl_ParseMatrix_m at hm
  refine wp_seq ?_
  refine wp_region_lit ?_
  refine wl hs (y_assign hs rfl) rfl ?_; intro a hs
  refine wl hs (y_assign hs rfl) rfl ?_; intro a hs
  refine wpList_nil ?_
  refine x_nt ?_
  refine wp_seq ?_
  refine wp_region_lit ?_
  refine wl hs (y_move hs rfl) rfl ?_; intro a hs
  obtain ⟨y1, h2, hm⟩ := bindE hm
  refine wcall is_23 hs rfl rfl (impl_parts_any p0 _ (hT.below hM.bel) h2) ?_; rintro a _ w hs ⟨v5, rfl, hX⟩
  have hM : Mem W w [aStrs 9 v5 y1.1] := hM.call hX
  refine wl hs (y_move hs rfl) rfl ?_; intro a hs
  refine wl hs (y_extract hs rfl rfl) rfl ?_; intro a hs
  refine wl hs (y_extract hs rfl rfl) rfl ?_; intro a hs
  refine wl hs (y_assign hs rfl) rfl ?_; intro a hs
  refine wl hs (y_assign hs rfl) rfl ?_; intro a hs
  refine wpList_nil ?_
  refine x_nt ?_
  refine wp_seq ?_
  refine wp_region_lit ?_
  refine wmem hs (x_new0M (ti := 3) ht_M hM) rfl ?_; intro a v7 w hs hM
  have hM : Mem W w [aMat 33 3 v7 ([]) ([]), aStrs 9 v5 y1.1] := hM
  refine wl hs (y_assign hs rfl) rfl ?_; intro a hs
  refine wpList_nil ?_
  refine x_nt ?_
  refine wp_seq ?_
  refine wp_seq ?_
  refine wp_region_lit ?_
  refine wl hs (y_move hs rfl) rfl ?_; intro a hs
  refine wl hs (y_len hu_T hs rfl ((hM.rdT 1 rfl)).1) rfl ?_; intro a hs
  refine wl hs (y_move hs rfl) rfl ?_; intro a hs
  refine wpList_nil ?_
  refine x_nt ?_
  obtain ⟨s15, hm, hk16⟩ := bindE hm
  refine x_mid (fun a w => ∃ (v12 : Value), ∃ (vs13 : List Value), ∃ (l14 : List (List Int)), Sum.inr l14 = s15 ∧ Fr a 41 [(5, .bool y1.2), (6, v12)] ∧ Mem W w [aMat 33 3 v12 vs13 l14]) ?_ ?_
  · refine wp_block ?_
    refine x_loop (fun k a w => ∃ (q17 : List (List UInt8)) (j8 : Nat) (v9 : Value) (vs10 : List Value) (l11 : List (List Int)) , k = q17.length ∧ Fr a 41 [(5, .bool y1.2), (6, v9), (17, v5), (18, .int .i64 (y1.1.length : Int)), (19, .int .i64 (j8 : Int))] ∧ Mem W w [aMat 33 3 v9 vs10 l11, aStrs 9 v5 y1.1] ∧ impl_ParseMatrix_l1 q17 j8 l11 = some s15 ∧ List.drop j8 y1.1 = q17) _ ⟨y1.1, 0, v7, [], [], rfl, hs.sub ⟨rfl, rfl, rfl, rfl, rfl, trivial⟩, hM, hm, rfl⟩ ?_
    rintro k a w ⟨q17, j8, v9, vs10, l11, rfl, hs, hM, hm, hj8⟩
    rcases q17 with _ | ⟨x18, q17⟩
    · rewrite [impl_ParseMatrix_l1] at hm
      refine wp_seq ?_
      refine wp_region_lit ?_
      refine wl hs (y_lss hs rfl rfl) rfl ?_; intro a hs
      refine wpList_nil ?_
      refine x_nt ?_
      refine wp_seq ?_
      refine x_condF hs rfl (drop_f hj8) ?_
      refine wp_exit ?_
      refine x_et ?_
      refine x_et ?_
      refine x_eb ?_
      have hm : some (Sum.inr l11) = some s15 := hm
      exact ⟨v9, vs10, l11, Option.some.inj hm, hs.sub ⟨rfl, rfl, trivial⟩, (hM.keep_ 1)⟩
    · rewrite [impl_ParseMatrix_l1] at hm
      have hx19 := drop_idx hj8
      have hsj8 := ck_succ hj8 (RdS.len (hM.rdT 1 rfl).1)
      refine wp_seq ?_
      refine wp_region_lit ?_
      refine wl hs (y_lss hs rfl rfl) rfl ?_; intro a hs
      refine wpList_nil ?_
      refine x_nt ?_
      refine wp_seq ?_
      refine x_condT hs rfl (drop_t hj8) ?_
      refine wp_skip ?_
      refine x_nt ?_
      refine wp_seq ?_
      refine wp_block ?_
      refine wp_seq ?_
      refine wp_region_lit ?_
      have he20 := RdT.at_ (hM.rdT 1 rfl) hx19
      refine wl hs (y_index ht_T hs rfl rfl he20) rfl ?_; intro a hs
      refine wl hs (y_load sc_str hs rfl he20.cell) rfl ?_; intro a hs
      refine wl hs (y_assign hs rfl) rfl ?_; intro a hs
      refine wpList_nil ?_
      refine x_nt ?_
      refine wp_seq ?_
      refine wp_region_lit ?_
      refine wl hs (y_move hs rfl) rfl ?_; intro a hs
      obtain ⟨y21, h22, hm⟩ := bindE hm
      refine wcall is_24 hs rfl rfl (impl_parseNumbers_any x18 ([32] : List UInt8) _ (hT.below hM.bel) h22) ?_; rintro a _ w hs ⟨v25, rfl, hX⟩
      have hM : Mem W w [aInts 3 v25 y21.1, aMat 33 3 v9 vs10 l11, aStrs 9 v5 y1.1] := hM.call hX
      refine wl hs (y_move hs rfl) rfl ?_; intro a hs
      refine wl hs (y_extract hs rfl rfl) rfl ?_; intro a hs
      refine wl hs (y_extract hs rfl rfl) rfl ?_; intro a hs
      refine wl hs (y_assign hs rfl) rfl ?_; intro a hs
      refine wl hs (y_assign hs rfl) rfl ?_; intro a hs
      refine wpList_nil ?_
      refine x_nt ?_
      refine wp_seq ?_
      refine wp_seq ?_
      refine wp_region_lit ?_
      refine wl hs (y_move hs rfl) rfl ?_; intro a hs
      refine wl hs (y_not hs rfl) rfl ?_; intro a hs
      refine wpList_nil ?_
      refine x_nt ?_
      refine x_cond hs rfl (fun hb => ?_) (fun hb => ?_)
      · replace hm := condT hb hm
        refine wp_seq ?_
        refine wp_region_lit ?_
        refine wl hs (y_assign hs rfl) rfl ?_; intro a hs
        refine wl hs (y_assign hs rfl) rfl ?_; intro a hs
        refine wpList_nil ?_
        refine x_nt ?_
        refine wp_ret ?_
        refine x_rt ?_
        refine x_rb ?_
        refine x_rt ?_
        refine x_rt ?_
        refine x_rb ?_
        refine x_rt ?_
        refine x_rt ?_
        have hm : some (Sum.inl ([], false)) = some s15 := hm
        cases Option.some.inj hm
        have hm := hk16
        have hm : some ([], false) = some r := hm
        obtain rfl := Option.some.inj hm
        refine x_ret2 rfl hs rfl rfl ⟨_, rfl, ?_⟩
        have hM := hM.nilM 33 3
        exact ⟨_, _, rfl, (hM.keep_ 1)⟩
      · replace hm := condF hb hm
        refine wp_skip ?_
        refine x_nt ?_
        refine wp_region_lit ?_
        refine wl hs (y_move hs rfl) rfl ?_; intro a hs
        refine wl hs (y_move hs rfl) rfl ?_; intro a hs
        obtain ⟨l27, h28, hm⟩ := bindE hm
        refine wappM hu_M he_I hs (((hM.front 2 rfl).front 1 rfl).front 2 rfl) rfl rfl h28 rfl rfl rfl ?_; intro a v29 w u30 hs hM
        have hM : Mem W w [aMat 33 3 v29 (vs10 ++ [v25]) l27, aStrs 9 v5 y1.1] := hM
        refine wl hs (y_assign hs rfl) rfl ?_; intro a hs
        refine wpList_nil ?_
        refine x_nb ?_
        refine x_nt ?_
        refine wp_region_lit ?_
        refine wl hs (y_add hs rfl rfl hsj8) rfl ?_; intro a hs
        refine wl hs (y_move hs rfl) rfl ?_; intro a hs
        refine wpList_nil ?_
        exact ⟨_, by simp, q17, j8 + 1, v29, (vs10 ++ [v25]), l27, rfl, hs.sub ⟨rfl, rfl, rfl, rfl, rfl, trivial⟩, hM, hm, drop_next hj8⟩
  rintro a w ⟨v12, vs13, l14, rfl, hs, hM⟩
  have hm := hk16
  refine x_nt ?_
  refine wp_seq ?_
  refine wp_seq ?_
  refine wp_region_lit ?_
  refine wl hs (y_move hs rfl) rfl ?_; intro a hs
  refine wl hs (y_not hs rfl) rfl ?_; intro a hs
  refine wpList_nil ?_
  refine x_nt ?_
  refine x_cond hs rfl (fun hb => ?_) (fun hb => ?_)
  · replace hm := condT hb hm
    refine wp_seq ?_
    refine wp_region_lit ?_
    refine wl hs (y_assign hs rfl) rfl ?_; intro a hs
    refine wl hs (y_assign hs rfl) rfl ?_; intro a hs
    refine wpList_nil ?_
    refine x_nt ?_
    refine wp_ret ?_
    refine x_rt ?_
    have hm : some ([], false) = some r := hm
    obtain rfl := Option.some.inj hm
    refine x_ret2 rfl hs rfl rfl ⟨_, rfl, ?_⟩
    have hM := hM.nilM 33 3
    exact ⟨_, _, rfl, (hM.keep_ 1)⟩
  · replace hm := condF hb hm
    refine wp_skip ?_
    refine x_nt ?_
    refine wp_seq ?_
    refine wp_region_lit ?_
    refine wl hs (y_move hs rfl) rfl ?_; intro a hs
    obtain ⟨y32, h33, hm⟩ := bindE hm
    refine wcall is_25 hs rfl rfl (impl_toldMatrix_any v12 l14 _ (hM.rdM 0 rfl) h33) ?_; rintro a _ w hs ⟨rfl, hX⟩
    have hM : Mem W w [aMat 33 3 v12 vs13 l14] := hM.call hX
    have hM : Mem W w [aMat 33 3 (cond y32.1 v12 (.slice none 0 0)) (cond y32.1 vs13 []) (cond y32.1 l14 [])] := (hM).condM y32.1
    refine wl hs (y_extract hs rfl rfl) rfl ?_; intro a hs
    refine wl hs (y_extract hs rfl rfl) rfl ?_; intro a hs
    refine wl hs (y_assign hs rfl) rfl ?_; intro a hs
    refine wl hs (y_assign hs rfl) rfl ?_; intro a hs
    refine wpList_nil ?_
    refine x_nt ?_
    refine wp_ret ?_
    have hm : some ((cond y32.1 l14 []), y32.2) = some r := hm
    obtain rfl := Option.some.inj hm
    refine x_ret2 rfl hs rfl rfl ⟨_, rfl, ?_⟩
    exact ⟨_, _, rfl, hM⟩

end Go.Proofs.YtcglmncmnlkpmaaDoor
