/- The code of this unit computes what its mirrors say. Written by program (wip/gen). -/
import Derived.Test.YtcglmncmnlkpmaaDoorFacts
import Derived.Test.YtcglmncmnlkpmaaDoorTxiM
import Derived.Test.YtcglmncmnlkpmaaDoorMatW
namespace Go.Proofs.YtcglmncmnlkpmaaDoor
open Go.RowKit
set_option linter.unusedVariables false

theorem impl_numberText_any (p0 : Int) (W : World) (hT : TabOk W) {r : List UInt8} (hm : impl_numberText_m p0 = some r) : Calls Tryd.prog 47 [.int .i64 p0].toArray W fun e w => ∃ v, e = .returned v ∧ v = .string ⟨r.toArray⟩ ∧ Mem W w [] := by
  refine x_enter Tryd.func47 rfl Tryd.ntmps47 rfl ?_
  intro a hs
  have hM := Mem.start W
  unfold impl_numberText_m at hm
  refine wp_seq ?_
  refine wp_region_lit ?_
  refine wl hs (y_assign hs rfl) rfl ?_; intro a hs
  refine wpList_nil ?_
  refine x_nt ?_
  refine wp_seq ?_
  refine wp_seq ?_
  refine wp_region_lit ?_
  refine wl hs (y_move hs rfl) rfl ?_; intro a hs
  refine wl hs (y_eql hs rfl rfl) rfl ?_; intro a hs
  refine wpList_nil ?_
  refine x_nt ?_
  refine x_cond hs rfl (fun hb => ?_) (fun hb => ?_)
  · replace hm := condT hb hm
    refine wp_seq ?_
    refine wp_region_lit ?_
    refine wl hs (y_assign hs rfl) rfl ?_; intro a hs
    refine wpList_nil ?_
    refine x_nt ?_
    refine wp_ret ?_
    refine x_rt ?_
    have hm : some ([105, 110, 102] : List UInt8) = some r := hm
    obtain rfl := Option.some.inj hm
    refine x_ret1 rfl hs rfl ⟨_, rfl, ?_⟩
    exact ⟨rfl, hM⟩
  · replace hm := condF hb hm
    refine wp_skip ?_
    refine x_nt ?_
    refine wp_seq ?_
    refine wp_region_lit ?_
    refine wl hs (y_move hs rfl) rfl ?_; intro a hs
    obtain ⟨y1, h2, hm⟩ := bindE hm
    refine wcall is_53 hs rfl rfl (strconv_Itoa_any p0 _ (hT.below hM.bel) h2) ?_; rintro a _ w hs ⟨rfl, hX⟩
    have hM : Mem W w [] := hM.call hX
    refine wl hs (y_assign hs rfl) rfl ?_; intro a hs
    refine wpList_nil ?_
    refine x_nt ?_
    refine wp_ret ?_
    have hm : some y1 = some r := hm
    obtain rfl := Option.some.inj hm
    refine x_ret1 rfl hs rfl ⟨_, rfl, ?_⟩
    exact ⟨rfl, hM⟩

theorem impl_numbersText_any (v_p0 : Value) (p0 : List Int) (p1 : List UInt8) (W : World) (hT : TabOk W) (hr_p0 : RdI W v_p0 p0) {r : List UInt8} (hm : impl_numbersText_m p0 p1 = some r) : Calls Tryd.prog 36 [v_p0, .string ⟨p1.toArray⟩].toArray W fun e w => ∃ v, e = .returned v ∧ v = .string ⟨r.toArray⟩ ∧ Mem W w [] := by
  refine x_enter Tryd.func36 rfl Tryd.ntmps36 rfl ?_
  intro a hs
  have hM := Mem.start W
  unfold impl_numbersText_m at hm
  refine wp_seq ?_
  refine wp_region_lit ?_
  refine wl hs (y_assign hs rfl) rfl ?_; intro a hs
  refine wpList_nil ?_
  refine x_nt ?_
  refine wp_seq ?_
  refine wp_region_lit ?_
  refine wmem hs (x_new0T ht_T hM) rfl ?_; intro a v2 w hs hM
  have hM : Mem W w [aStrs 9 v2 ([])] := hM
  refine wl hs (y_assign hs rfl) rfl ?_; intro a hs
  refine wpList_nil ?_
  refine x_nt ?_
  refine wp_seq ?_
  refine wp_seq ?_
  refine wp_region_lit ?_
  refine wl hs (y_move hs rfl) rfl ?_; intro a hs
  refine wl hs (y_len hu_I hs rfl (RdI.below hr_p0 hM.bel)) rfl ?_; intro a hs
  refine wl hs (y_move hs rfl) rfl ?_; intro a hs
  refine wpList_nil ?_
  refine x_nt ?_
  obtain ⟨s8, hm, hk9⟩ := bindE hm
  refine x_mid (fun a w => ∃ (v6 : Value), ∃ (l7 : List (List UInt8)), l7 = s8 ∧ Fr a 24 [(1, .string ⟨p1.toArray⟩), (5, v6)] ∧ Mem W w [aStrs 9 v6 l7]) ?_ ?_
  · refine wp_block ?_
    refine x_loop (fun k a w => ∃ (q10 : List Int) (j3 : Nat) (v4 : Value) (l5 : List (List UInt8)) , k = q10.length ∧ Fr a 24 [(1, .string ⟨p1.toArray⟩), (5, v4), (9, v_p0), (10, .int .i64 (p0.length : Int)), (11, .int .i64 (j3 : Int))] ∧ Mem W w [aStrs 9 v4 l5] ∧ impl_numbersText_l1 q10 j3 l5 = some s8 ∧ List.drop j3 p0 = q10) _ ⟨p0, 0, v2, [], rfl, hs.sub ⟨rfl, rfl, rfl, rfl, rfl, trivial⟩, hM, hm, rfl⟩ ?_
    rintro k a w ⟨q10, j3, v4, l5, rfl, hs, hM, hm, hj3⟩
    rcases q10 with _ | ⟨x11, q10⟩
    · rewrite [impl_numbersText_l1] at hm
      refine wp_seq ?_
      refine wp_region_lit ?_
      refine wl hs (y_lss hs rfl rfl) rfl ?_; intro a hs
      refine wpList_nil ?_
      refine x_nt ?_
      refine wp_seq ?_
      refine x_condF hs rfl (drop_f hj3) ?_
      refine wp_exit ?_
      refine x_et ?_
      refine x_et ?_
      refine x_eb ?_
      have hm : some l5 = some s8 := hm
      exact ⟨v4, l5, Option.some.inj hm, hs.sub ⟨rfl, rfl, trivial⟩, hM⟩
    · rewrite [impl_numbersText_l1] at hm
      have hx12 := drop_idx hj3
      have hsj3 := ck_succ hj3 (RdS.len (RdI.below hr_p0 hM.bel))
      refine wp_seq ?_
      refine wp_region_lit ?_
      refine wl hs (y_lss hs rfl rfl) rfl ?_; intro a hs
      refine wpList_nil ?_
      refine x_nt ?_
      refine wp_seq ?_
      refine x_condT hs rfl (drop_t hj3) ?_
      refine wp_skip ?_
      refine x_nt ?_
      refine wp_seq ?_
      refine wp_block ?_
      refine wp_seq ?_
      refine wp_region_lit ?_
      have he13 := RdI.at_ (RdI.below hr_p0 hM.bel) hx12
      refine wl hs (y_index ht_I hs rfl rfl he13) rfl ?_; intro a hs
      refine wl hs (y_load sc_int hs rfl he13.cell) rfl ?_; intro a hs
      refine wl hs (y_assign hs rfl) rfl ?_; intro a hs
      refine wpList_nil ?_
      refine x_nt ?_
      refine wp_region_lit ?_
      refine wl hs (y_move hs rfl) rfl ?_; intro a hs
      refine wl hs (y_move hs rfl) rfl ?_; intro a hs
      obtain ⟨y14, h15, hm⟩ := bindE hm
      refine wcall is_47 hs rfl rfl (impl_numberText_any x11 _ (hT.below hM.bel) h15) ?_; rintro a _ w hs ⟨rfl, hX⟩
      have hM : Mem W w [aStrs 9 v4 l5] := hM.call hX
      obtain ⟨l16, h17, hm⟩ := bindE hm
      refine wappT hu_T he_str hs hM rfl rfl h17 rfl rfl rfl ?_; intro a v18 w u19 hs hM
      have hM : Mem W w [aStrs 9 v18 l16] := hM
      refine wl hs (y_assign hs rfl) rfl ?_; intro a hs
      refine wpList_nil ?_
      refine x_nb ?_
      refine x_nt ?_
      refine wp_region_lit ?_
      refine wl hs (y_add hs rfl rfl hsj3) rfl ?_; intro a hs
      refine wl hs (y_move hs rfl) rfl ?_; intro a hs
      refine wpList_nil ?_
      exact ⟨_, by simp, q10, j3 + 1, v18, l16, rfl, hs.sub ⟨rfl, rfl, rfl, rfl, rfl, trivial⟩, hM, hm, drop_next hj3⟩
  rintro a w ⟨v6, l7, rfl, hs, hM⟩
  have hm := hk9
  refine x_nt ?_
  refine wp_seq ?_
  refine wp_region_lit ?_
  refine wl hs (y_move hs rfl) rfl ?_; intro a hs
  refine wl hs (y_move hs rfl) rfl ?_; intro a hs
  obtain ⟨y20, h21, hm⟩ := bindE hm
  refine wcall is_48 hs rfl rfl (strings_Join_any v6 l7 p1 _ (hM.rdT 0 rfl) h21) ?_; rintro a _ w hs ⟨rfl, hX⟩
  have hM : Mem W w [aStrs 9 v6 l7] := hM.call hX
  refine wl hs (y_assign hs rfl) rfl ?_; intro a hs
  refine wpList_nil ?_
  refine x_nt ?_
  refine wp_ret ?_
  have hm : some y20 = some r := hm
  obtain rfl := Option.some.inj hm
  refine x_ret1 rfl hs rfl ⟨_, rfl, ?_⟩
  exact ⟨rfl, hM.none_⟩

theorem impl_matrixText_any (v_p0 : Value) (p0 : List (List Int)) (W : World) (hT : TabOk W) (hr_p0 : RdM W v_p0 p0) {r : List UInt8} (hm : impl_matrixText_m p0 = some r) : Calls Tryd.prog 19 [v_p0].toArray W fun e w => ∃ v, e = .returned v ∧ v = .string ⟨r.toArray⟩ ∧ Mem W w [] := by
  refine x_enter Tryd.func19 rfl Tryd.ntmps19 rfl ?_
  intro a hs
  have hM := Mem.start W
  unfold impl_matrixText_m at hm
  refine wp_seq ?_
  refine wp_region_lit ?_
  refine wl hs (y_assign hs rfl) rfl ?_; intro a hs
  refine wpList_nil ?_
  refine x_nt ?_
  refine wp_seq ?_
  refine wp_region_lit ?_
  refine wl hs (y_build (zs := [.pointer none, .slice none 0 0]) (xs := []) (vs := []) (cs := [.pointer none, .slice none 0 0]) zBuilder hs rfl trivial rfl) rfl ?_; intro a hs
  refine wmem (R := fun v w' => v = .pointer (some ⟨W.heap.size, 0, none⟩) ∧ w' = W.alloc (.cells #[.pointer none, .slice none 0 0] 53)) hs (boxB hs rfl) rfl ?_; rintro a v w hs ⟨rfl, rfl⟩
  have hI : Lib.IsBuilder 53 5 W.heap.size W.heap.size (Lib.byteCells []) (W.alloc (.cells #[.pointer none, .slice none 0 0] 53)) := Lib.fresh_isBuilder 53 5 W
  replace hM := hM.alloc (.cells #[.pointer none, .slice none 0 0] 53)
  generalize (W.alloc (.cells #[.pointer none, .slice none 0 0] 53)) = w at hM hI
  refine wl hs (y_assign hs rfl) rfl ?_; intro a hs
  refine wpList_nil ?_
  refine x_nt ?_
  refine wp_seq ?_
  refine wp_seq ?_
  refine wp_region_lit ?_
  refine wl hs (y_move hs rfl) rfl ?_; intro a hs
  refine wl hs (y_len hu_M hs rfl (RdM.below hr_p0 hM.bel)) rfl ?_; intro a hs
  refine wl hs (y_move hs rfl) rfl ?_; intro a hs
  refine wpList_nil ?_
  refine x_nt ?_
  obtain ⟨s8, hm, hk9⟩ := bindE hm
  refine x_mid (fun a w => Fr a 22 [(3, .pointer (some ⟨W.heap.size, 0, none⟩))] ∧ Mem W w [] ∧ Lib.IsBuilder 53 5 W.heap.size W.heap.size (Lib.byteCells s8) w) ?_ ?_
  · refine wp_block ?_
    refine x_loop (fun k a w => ∃ (q10 : List (List Int)) (j3 : Nat) (l5 : List UInt8) , k = q10.length ∧ Fr a 22 [(3, .pointer (some ⟨W.heap.size, 0, none⟩)), (8, v_p0), (9, .int .i64 (p0.length : Int)), (10, .int .i64 (j3 : Int))] ∧ Mem W w [] ∧ Lib.IsBuilder 53 5 W.heap.size W.heap.size (Lib.byteCells l5) w ∧ impl_matrixText_l1 q10 j3 l5 = some s8 ∧ List.drop j3 p0 = q10) _ ⟨p0, 0, [], rfl, hs.sub ⟨rfl, rfl, rfl, rfl, trivial⟩, hM, hI, hm, rfl⟩ ?_
    rintro k a w ⟨q10, j3, l5, rfl, hs, hM, hI, hm, hj3⟩
    rcases q10 with _ | ⟨x11, q10⟩
    · rewrite [impl_matrixText_l1] at hm
      refine wp_seq ?_
      refine wp_region_lit ?_
      refine wl hs (y_lss hs rfl rfl) rfl ?_; intro a hs
      refine wpList_nil ?_
      refine x_nt ?_
      refine wp_seq ?_
      refine x_condF hs rfl (drop_f hj3) ?_
      refine wp_exit ?_
      refine x_et ?_
      refine x_et ?_
      refine x_eb ?_
      have hm : some l5 = some s8 := hm
      cases Option.some.inj hm
      exact ⟨hs.sub ⟨rfl, trivial⟩, hM, hI⟩
    · rewrite [impl_matrixText_l1] at hm
      have hx12 := drop_idx hj3
      have hsj3 := ck_succ hj3 (RdS.len (RdM.below hr_p0 hM.bel))
      refine wp_seq ?_
      refine wp_region_lit ?_
      refine wl hs (y_lss hs rfl rfl) rfl ?_; intro a hs
      refine wpList_nil ?_
      refine x_nt ?_
      refine wp_seq ?_
      refine x_condT hs rfl (drop_t hj3) ?_
      refine wp_skip ?_
      refine x_nt ?_
      refine wp_seq ?_
      refine wp_block ?_
      refine wp_seq ?_
      refine wp_region_lit ?_
      obtain ⟨u13, he13, hr13⟩ := RdM.at_ hr_p0 hx12
      replace he13 := he13.below hM.bel
      refine wl hs (y_index ht_M hs rfl rfl he13) rfl ?_; intro a hs
      refine wl hs (y_load sc_I hs rfl he13.cell) rfl ?_; intro a hs
      refine wl hs (y_assign hs rfl) rfl ?_; intro a hs
      refine wpList_nil ?_
      refine x_nt ?_
      refine wp_region_lit ?_
      refine wl hs (y_move hs rfl) rfl ?_; intro a hs
      refine wl hs (y_move hs rfl) rfl ?_; intro a hs
      obtain ⟨y14, h15, hm⟩ := bindE hm
      refine wcall is_36 hs rfl rfl (impl_numbersText_any u13 x11 ([32] : List UInt8) _ (hT.below hM.bel) (RdI.below hr13 hM.bel) h15) ?_; rintro a _ w' hs ⟨rfl, hX⟩
      replace hI := isBuilder_below hI hX.bel
      have hM : Mem W w' [] := hM.call hX
      obtain ⟨t16, h17, hm⟩ := bindE hm
      refine wl hs (y_addT hs rfl rfl h17) rfl ?_; intro a hs
      obtain ⟨t18, h19, hm⟩ := bindE hm
      obtain ⟨rfl, hlt⟩ := scat_spec h19
      refine wcall is_35 hs rfl rfl (writeS _ l5 t16 _ hI hlt hM.bel.size) ?_; rintro a v w'' hs ⟨hI, hb⟩
      replace hM : Mem W w'' [] := (Mem.start W).quiet (hM.bel.trans hb)
      refine wpList_nil ?_
      refine x_nb ?_
      refine x_nt ?_
      refine wp_region_lit ?_
      refine wl hs (y_add hs rfl rfl hsj3) rfl ?_; intro a hs
      refine wl hs (y_move hs rfl) rfl ?_; intro a hs
      refine wpList_nil ?_
      exact ⟨_, by simp, q10, j3 + 1, _, rfl, hs.sub ⟨rfl, rfl, rfl, rfl, trivial⟩, hM, hI, hm, drop_next hj3⟩
  · rintro a w ⟨hs, hM, hI⟩
    have hm := hk9
    refine x_nt ?_
    refine wp_seq ?_
    refine wp_region_lit ?_
    refine wl hs (y_move hs rfl) rfl ?_; intro a hs
    refine wcall is_37 hs rfl rfl (stringB _ s8 _ hI hM.bel.size) ?_; rintro a _ w' hs ⟨rfl, hb⟩
    replace hM : Mem W w' [] := (Mem.start W).quiet (hM.bel.trans hb)
    refine wl hs (y_assign hs rfl) rfl ?_; intro a hs
    refine wpList_nil ?_
    refine x_nt ?_
    refine wp_ret ?_
    have hm : some s8 = some r := hm
    obtain rfl := Option.some.inj hm
    refine x_ret1 rfl hs rfl ⟨_, rfl, ?_⟩
    exact ⟨rfl, hM⟩

theorem impl_MatrixText_any (v_p0 : Value) (p0 : List (List Int)) (W : World) (hT : TabOk W) (hr_p0 : RdM W v_p0 p0) {r : (List UInt8) × Bool} (hm : impl_MatrixText_m p0 = some r) : Calls Tryd.prog 8 [v_p0].toArray W fun e w => ∃ v, e = .returned v ∧ v = .tuple #[.string ⟨r.1.toArray⟩, .bool r.2] ∧ Mem W w [] := by
  refine x_enter Tryd.func8 rfl Tryd.ntmps8 rfl ?_
  intro a hs
  have hM := Mem.start W
  unfold impl_MatrixText_m at hm
  refine wp_seq ?_
  refine wp_region_lit ?_
  refine wl hs (y_assign hs rfl) rfl ?_; intro a hs
  refine wl hs (y_assign hs rfl) rfl ?_; intro a hs
  refine wpList_nil ?_
  refine x_nt ?_
  refine wp_seq ?_
  refine wp_seq ?_
  refine wp_region_lit ?_
  refine wl hs (y_move hs rfl) rfl ?_; intro a hs
  obtain ⟨y1, h2, hm⟩ := bindE hm
  refine wcall is_18 hs rfl rfl (impl_isMatrix_any v_p0 p0 _ (RdM.below hr_p0 hM.bel) h2) ?_; rintro a _ w hs ⟨rfl, hX⟩
  have hM : Mem W w [] := hM.call hX
  refine wl hs (y_not hs rfl) rfl ?_; intro a hs
  refine wpList_nil ?_
  refine x_nt ?_
  refine x_cond hs rfl (fun hb => ?_) (fun hb => ?_)
  · replace hm := condT hb hm
    refine wp_seq ?_
    refine wp_region_lit ?_
    refine wl hs (y_assign hs rfl) rfl ?_; intro a hs
    refine wl hs (y_assign hs rfl) rfl ?_; intro a hs
    refine wpList_nil ?_
    refine x_nt ?_
    refine wp_ret ?_
    refine x_rt ?_
    have hm : some (([] : List UInt8), false) = some r := hm
    obtain rfl := Option.some.inj hm
    refine x_ret2 rfl hs rfl rfl ⟨_, rfl, ?_⟩
    exact ⟨rfl, hM⟩
  · replace hm := condF hb hm
    refine wp_skip ?_
    refine x_nt ?_
    refine wp_seq ?_
    refine wp_region_lit ?_
    refine wl hs (y_move hs rfl) rfl ?_; intro a hs
    obtain ⟨y3, h4, hm⟩ := bindE hm
    refine wcall is_19 hs rfl rfl (impl_matrixText_any v_p0 p0 _ (hT.below hM.bel) (RdM.below hr_p0 hM.bel) h4) ?_; rintro a _ w hs ⟨rfl, hX⟩
    have hM : Mem W w [] := hM.call hX
    refine wl hs (y_assign hs rfl) rfl ?_; intro a hs
    refine wl hs (y_assign hs rfl) rfl ?_; intro a hs
    refine wpList_nil ?_
    refine x_nt ?_
    refine wp_ret ?_
    have hm : some (y3, true) = some r := hm
    obtain rfl := Option.some.inj hm
    refine x_ret2 rfl hs rfl rfl ⟨_, rfl, ?_⟩
    exact ⟨rfl, hM⟩

end Go.Proofs.YtcglmncmnlkpmaaDoor
