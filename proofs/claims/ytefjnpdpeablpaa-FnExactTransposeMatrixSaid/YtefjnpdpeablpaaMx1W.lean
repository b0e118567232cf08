/- The code of this unit computes what its mirrors say. Written by program (wip/gen). -/
import Derived.Test.YtefjnpdpeablpaaFacts
import Derived.Test.YtefjnpdpeablpaaMx1M
import Derived.Test.YtefjnpdpeablpaaNumW
import Derived.Test.YtefjnpdpeablpaaMatW
namespace Go.Proofs.Ytefjnpdpeablpaa
open Go.RowKit
set_option linter.unusedVariables false

theorem spec_UnitMatrix_any (p0 : Int) (W : World)  {r : (List (List Int)) × Bool} (hm : spec_UnitMatrix_m p0 = some r) : Calls Try.prog 14 [.int .i64 p0].toArray W fun e w => ∃ v, e = .returned v ∧ ∃ v0, ∃ vs0, v = .tuple #[v0, .bool r.2] ∧ Mem W w [aMat 34 3 v0 vs0 r.1] := by
  refine x_enter Try.func14 rfl Try.ntmps14 rfl ?_
  intro a hs
  have hM := Mem.start W
  unfold spec_UnitMatrix_m at hm
  refine wp_seq ?_
  refine wp_region_lit ?_
  refine wl hs (y_assign hs rfl) rfl ?_; intro a hs
  refine wl hs (y_assign hs rfl) rfl ?_; intro a hs
  refine wpList_nil ?_
  refine x_nt ?_
  refine wp_seq ?_
  refine wp_seq ?_
  refine wp_region_lit ?_
  refine wl hs (y_move hs rfl) rfl ?_; intro a hs
  obtain ⟨y1, h2, hm⟩ := bindE hm
  refine wcall is_44 hs rfl rfl (spec_l1In_any p0 1 6 _  h2) ?_; rintro a _ w hs ⟨rfl, hX⟩
  have hM : Mem W w [] := hM.call hX
  refine wl hs (y_not hs rfl) rfl ?_; intro a hs
  refine wpList_nil ?_
  refine x_nt ?_
  refine x_cond hs rfl (fun hb => ?_) (fun hb => ?_)
  · replace hm := condT hb hm
    refine wp_seq ?_
    refine wp_region_lit ?_
    refine wl hs (y_assign hs rfl) rfl ?_; intro a hs
    refine wl hs (y_assign hs rfl) rfl ?_; intro a hs
    refine wpList_nil ?_
    refine x_nt ?_
    refine wp_ret ?_
    refine x_rt ?_
    have hm : some ([], false) = some r := hm
    obtain rfl := Option.some.inj hm
    refine x_ret2 rfl hs rfl rfl ⟨_, rfl, ?_⟩
    have hM := hM.nilM 34 3
    exact ⟨_, _, rfl, hM⟩
  · replace hm := condF hb hm
    refine wp_skip ?_
    refine x_nt ?_
    refine wp_seq ?_
    refine wp_region_lit ?_
    refine wl hs (y_move hs rfl) rfl ?_; intro a hs
    obtain ⟨y4, h5, hm⟩ := bindE hm
    refine wcall is_45 hs rfl rfl (spec_mxUnit_any p0 _  h5) ?_; rintro a v6 w hs ⟨vs8, hX⟩
    have hM : Mem W w [aMat 34 3 v6 vs8 y4] := hM.call hX
    refine wl hs (y_assign hs rfl) rfl ?_; intro a hs
    refine wl hs (y_assign hs rfl) rfl ?_; intro a hs
    refine wpList_nil ?_
    refine x_nt ?_
    refine wp_ret ?_
    have hm : some (y4, true) = some r := hm
    obtain rfl := Option.some.inj hm
    refine x_ret2 rfl hs rfl rfl ⟨_, rfl, ?_⟩
    exact ⟨_, _, rfl, hM⟩

theorem impl_UnitMatrix_any (p0 : Int) (W : World)  {r : (List (List Int)) × Bool} (hm : impl_UnitMatrix_m p0 = some r) : Calls Try.prog 15 [.int .i64 p0].toArray W fun e w => ∃ v, e = .returned v ∧ ∃ v0, ∃ vs0, v = .tuple #[v0, .bool r.2] ∧ Mem W w [aMat 34 3 v0 vs0 r.1] := by
  refine x_enter Try.func15 rfl Try.ntmps15 rfl ?_
  intro a hs
  have hM := Mem.start W
  unfold impl_UnitMatrix_m at hm
  refine wp_seq ?_
  refine wp_region_lit ?_
  refine wl hs (y_assign hs rfl) rfl ?_; intro a hs
  refine wl hs (y_assign hs rfl) rfl ?_; intro a hs
  refine wpList_nil ?_
  refine x_nt ?_
  refine wp_seq ?_
  refine wp_seq ?_
  refine wp_region_lit ?_
  refine wl hs (y_move hs rfl) rfl ?_; intro a hs
  obtain ⟨y1, h2, hm⟩ := bindE hm
  refine wcall is_46 hs rfl rfl (impl_within_any p0 1 6 _  h2) ?_; rintro a _ w hs ⟨rfl, hX⟩
  have hM : Mem W w [] := hM.call hX
  refine wl hs (y_not hs rfl) rfl ?_; intro a hs
  refine wpList_nil ?_
  refine x_nt ?_
  refine x_cond hs rfl (fun hb => ?_) (fun hb => ?_)
  · replace hm := condT hb hm
    refine wp_seq ?_
    refine wp_region_lit ?_
    refine wl hs (y_assign hs rfl) rfl ?_; intro a hs
    refine wl hs (y_assign hs rfl) rfl ?_; intro a hs
    refine wpList_nil ?_
    refine x_nt ?_
    refine wp_ret ?_
    refine x_rt ?_
    have hm : some ([], false) = some r := hm
    obtain rfl := Option.some.inj hm
    refine x_ret2 rfl hs rfl rfl ⟨_, rfl, ?_⟩
    have hM := hM.nilM 34 3
    exact ⟨_, _, rfl, hM⟩
  · replace hm := condF hb hm
    refine wp_skip ?_
    refine x_nt ?_
    refine wp_seq ?_
    refine wp_region_lit ?_
    refine wl hs (y_move hs rfl) rfl ?_; intro a hs
    obtain ⟨y4, h5, hm⟩ := bindE hm
    refine wcall is_47 hs rfl rfl (impl_unit_any p0 _  h5) ?_; rintro a v6 w hs ⟨vs8, hX⟩
    have hM : Mem W w [aMat 34 3 v6 vs8 y4] := hM.call hX
    refine wl hs (y_assign hs rfl) rfl ?_; intro a hs
    refine wl hs (y_assign hs rfl) rfl ?_; intro a hs
    refine wpList_nil ?_
    refine x_nt ?_
    refine wp_ret ?_
    have hm : some (y4, true) = some r := hm
    obtain rfl := Option.some.inj hm
    refine x_ret2 rfl hs rfl rfl ⟨_, rfl, ?_⟩
    exact ⟨_, _, rfl, hM⟩

theorem spec_IsMatrix_any (v_p0 : Value) (p0 : List (List Int)) (W : World) (hr_p0 : RdM W v_p0 p0) {r : Bool} (hm : spec_IsMatrix_m p0 = some r) : Calls Try.prog 20 [v_p0].toArray W fun e w => ∃ v, e = .returned v ∧ v = .bool r ∧ Mem W w [] := by
  refine x_enter Try.func20 rfl Try.ntmps20 rfl ?_
  intro a hs
  have hM := Mem.start W
  unfold spec_IsMatrix_m at hm
  refine wp_seq ?_
  refine wp_region_lit ?_
  refine wl hs (y_assign hs rfl) rfl ?_; intro a hs
  refine wpList_nil ?_
  refine x_nt ?_
  refine wp_seq ?_
  refine wp_region_lit ?_
  refine wl hs (y_move hs rfl) rfl ?_; intro a hs
  obtain ⟨y1, h2, hm⟩ := bindE hm
  refine wcall is_50 hs rfl rfl (spec_mxGood_any v_p0 p0 _ (RdM.below hr_p0 hM.bel) h2) ?_; rintro a _ w hs ⟨rfl, hX⟩
  have hM : Mem W w [] := hM.call hX
  refine wl hs (y_assign hs rfl) rfl ?_; intro a hs
  refine wpList_nil ?_
  refine x_nt ?_
  refine wp_ret ?_
  have hm : some y1 = some r := hm
  obtain rfl := Option.some.inj hm
  refine x_ret1 rfl hs rfl ⟨_, rfl, ?_⟩
  exact ⟨rfl, hM⟩

theorem impl_IsMatrix_any (v_p0 : Value) (p0 : List (List Int)) (W : World) (hr_p0 : RdM W v_p0 p0) {r : Bool} (hm : impl_IsMatrix_m p0 = some r) : Calls Try.prog 22 [v_p0].toArray W fun e w => ∃ v, e = .returned v ∧ v = .bool r ∧ Mem W w [] := by
  refine x_enter Try.func22 rfl Try.ntmps22 rfl ?_
  intro a hs
  have hM := Mem.start W
  unfold impl_IsMatrix_m at hm
  refine wp_seq ?_
  refine wp_region_lit ?_
  refine wl hs (y_assign hs rfl) rfl ?_; intro a hs
  refine wpList_nil ?_
  refine x_nt ?_
  refine wp_seq ?_
  refine wp_region_lit ?_
  refine wl hs (y_move hs rfl) rfl ?_; intro a hs
  obtain ⟨y1, h2, hm⟩ := bindE hm
  refine wcall is_51 hs rfl rfl (impl_isMatrix_any v_p0 p0 _ (RdM.below hr_p0 hM.bel) h2) ?_; rintro a _ w hs ⟨rfl, hX⟩
  have hM : Mem W w [] := hM.call hX
  refine wl hs (y_assign hs rfl) rfl ?_; intro a hs
  refine wpList_nil ?_
  refine x_nt ?_
  refine wp_ret ?_
  have hm : some y1 = some r := hm
  obtain rfl := Option.some.inj hm
  refine x_ret1 rfl hs rfl ⟨_, rfl, ?_⟩
  exact ⟨rfl, hM⟩

theorem spec_TraceOf_any (v_p0 : Value) (p0 : List (List Int)) (W : World) (hr_p0 : RdM W v_p0 p0) {r : Int × Bool} (hm : spec_TraceOf_m p0 = some r) : Calls Try.prog 23 [v_p0].toArray W fun e w => ∃ v, e = .returned v ∧ v = .tuple #[.int .i64 r.1, .bool r.2] ∧ Mem W w [] := by
  refine x_enter Try.func23 rfl Try.ntmps23 rfl ?_
  intro a hs
  have hM := Mem.start W
  unfold spec_TraceOf_m at hm
  refine wp_seq ?_
  refine wp_region_lit ?_
  refine wl hs (y_assign hs rfl) rfl ?_; intro a hs
  refine wl hs (y_assign hs rfl) rfl ?_; intro a hs
  refine wpList_nil ?_
  refine x_nt ?_
  refine wp_seq ?_
  refine wp_seq ?_
  refine wp_region_lit ?_
  refine wl hs (y_move hs rfl) rfl ?_; intro a hs
  obtain ⟨y1, h2, hm⟩ := bindE hm
  refine wcall is_52 hs rfl rfl (spec_mxSquare_any v_p0 p0 _ (RdM.below hr_p0 hM.bel) h2) ?_; rintro a _ w hs ⟨rfl, hX⟩
  have hM : Mem W w [] := hM.call hX
  refine wl hs (y_not hs rfl) rfl ?_; intro a hs
  refine wpList_nil ?_
  refine x_nt ?_
  refine x_cond hs rfl (fun hb => ?_) (fun hb => ?_)
  · replace hm := condT hb hm
    refine wp_seq ?_
    refine wp_region_lit ?_
    refine wl hs (y_assign hs rfl) rfl ?_; intro a hs
    refine wl hs (y_assign hs rfl) rfl ?_; intro a hs
    refine wpList_nil ?_
    refine x_nt ?_
    refine wp_ret ?_
    refine x_rt ?_
    have hm : some (0, false) = some r := hm
    obtain rfl := Option.some.inj hm
    refine x_ret2 rfl hs rfl rfl ⟨_, rfl, ?_⟩
    exact ⟨rfl, hM⟩
  · replace hm := condF hb hm
    refine wp_skip ?_
    refine x_nt ?_
    refine wp_seq ?_
    refine wp_region_lit ?_
    refine wl hs (y_assign hs rfl) rfl ?_; intro a hs
    refine wpList_nil ?_
    refine x_nt ?_
    refine wp_seq ?_
    refine wp_seq ?_
    refine wp_region_lit ?_
    refine wl hs (y_move hs rfl) rfl ?_; intro a hs
    refine wl hs (y_len hu_M hs rfl (RdM.below hr_p0 hM.bel)) rfl ?_; intro a hs
    refine wl hs (y_move hs rfl) rfl ?_; intro a hs
    refine wpList_nil ?_
    refine x_nt ?_
    obtain ⟨s6, hm, hk7⟩ := bindE hm
    refine x_mid (fun a w => ∃ (n5 : Int), n5 = s6 ∧ Fr a 25 [(4, .int .i64 n5)] ∧ Mem W w []) ?_ ?_
    · refine wp_block ?_
      refine x_loop (fun k a w => ∃ (q8 : List (List Int)) (j4 : Nat) (n3 : Int) , k = q8.length ∧ Fr a 25 [(4, .int .i64 n3), (10, v_p0), (11, .int .i64 (p0.length : Int)), (12, .int .i64 (j4 : Int))] ∧ Mem W w [] ∧ spec_TraceOf_l1 q8 j4 n3 = some s6 ∧ List.drop j4 p0 = q8) _ ⟨p0, 0, 1000000000, rfl, hs.sub ⟨rfl, rfl, rfl, rfl, trivial⟩, hM, hm, rfl⟩ ?_
      rintro k a w ⟨q8, j4, n3, rfl, hs, hM, hm, hj⟩
      rcases q8 with _ | ⟨x9, q8⟩
      · rewrite [spec_TraceOf_l1] at hm
        refine wp_seq ?_
        refine wp_region_lit ?_
        refine wl hs (y_lss hs rfl rfl) rfl ?_; intro a hs
        refine wpList_nil ?_
        refine x_nt ?_
        refine wp_seq ?_
        refine x_condF hs rfl (drop_f hj) ?_
        refine wp_exit ?_
        refine x_et ?_
        refine x_et ?_
        refine x_eb ?_
        have hm : some n3 = some s6 := hm
        exact ⟨n3, Option.some.inj hm, hs.sub ⟨rfl, trivial⟩, hM⟩
      · rewrite [spec_TraceOf_l1] at hm
        have hx10 := drop_idx hj
        have hjs := ck_succ hj (RdS.len (RdM.below hr_p0 hM.bel))
        refine wp_seq ?_
        refine wp_region_lit ?_
        refine wl hs (y_lss hs rfl rfl) rfl ?_; intro a hs
        refine wpList_nil ?_
        refine x_nt ?_
        refine wp_seq ?_
        refine x_condT hs rfl (drop_t hj) ?_
        refine wp_skip ?_
        refine x_nt ?_
        refine wp_seq ?_
        refine wp_block ?_
        refine wp_seq ?_
        refine wp_region_lit ?_
        refine wl hs (y_move hs rfl) rfl ?_; intro a hs
        obtain ⟨u12, he11, hr13⟩ := RdM.at_ hr_p0 hx10
        replace he11 := he11.below hM.bel
        refine wl hs (y_index ht_M hs rfl rfl he11) rfl ?_; intro a hs
        refine wl hs (y_load sc_I hs rfl he11.cell) rfl ?_; intro a hs
        refine wl hs (y_assign hs rfl) rfl ?_; intro a hs
        refine wl hs (y_assign hs rfl) rfl ?_; intro a hs
        refine wpList_nil ?_
        refine x_nt ?_
        refine wp_region_lit ?_
        refine wl hs (y_move hs rfl) rfl ?_; intro a hs
        refine wl hs (y_move hs rfl) rfl ?_; intro a hs
        refine wl hs (y_move hs rfl) rfl ?_; intro a hs
        obtain ⟨x14, hx15, hm⟩ := bindE hm
        have he16 := RdI.at_ (RdI.below hr13 hM.bel) hx15
        refine wl hs (y_index ht_I hs rfl rfl he16) rfl ?_; intro a hs
        refine wl hs (y_load sc_int hs rfl he16.cell) rfl ?_; intro a hs
        obtain ⟨y17, h18, hm⟩ := bindE hm
        refine wcall is_53 hs rfl rfl (spec_l1Least_any n3 x14 _  h18) ?_; rintro a _ w hs ⟨rfl, hX⟩
        have hM : Mem W w [] := hM.call hX
        refine wl hs (y_assign hs rfl) rfl ?_; intro a hs
        refine wpList_nil ?_
        refine x_nb ?_
        refine x_nt ?_
        refine wp_region_lit ?_
        refine wl hs (y_add hs rfl rfl hjs) rfl ?_; intro a hs
        refine wl hs (y_move hs rfl) rfl ?_; intro a hs
        refine wpList_nil ?_
        exact ⟨_, by simp, q8, j4 + 1, y17, rfl, hs.sub ⟨rfl, rfl, rfl, rfl, trivial⟩, hM, hm, drop_next hj⟩
    rintro a w ⟨n5, rfl, hs, hM⟩
    have hm := hk7
    refine x_nt ?_
    refine wp_seq ?_
    refine wp_region_lit ?_
    refine wl hs (y_move hs rfl) rfl ?_; intro a hs
    refine wl hs (y_assign hs rfl) rfl ?_; intro a hs
    refine wl hs (y_assign hs rfl) rfl ?_; intro a hs
    refine wpList_nil ?_
    refine x_nt ?_
    refine wp_ret ?_
    have hm : some (n5, true) = some r := hm
    obtain rfl := Option.some.inj hm
    refine x_ret2 rfl hs rfl rfl ⟨_, rfl, ?_⟩
    exact ⟨rfl, hM⟩

theorem impl_TraceOf_any (v_p0 : Value) (p0 : List (List Int)) (W : World) (hr_p0 : RdM W v_p0 p0) {r : Int × Bool} (hm : impl_TraceOf_m p0 = some r) : Calls Try.prog 24 [v_p0].toArray W fun e w => ∃ v, e = .returned v ∧ v = .tuple #[.int .i64 r.1, .bool r.2] ∧ Mem W w [] := by
  refine x_enter Try.func24 rfl Try.ntmps24 rfl ?_
  intro a hs
  have hM := Mem.start W
  unfold impl_TraceOf_m at hm
  refine wp_seq ?_
  refine wp_region_lit ?_
  refine wl hs (y_assign hs rfl) rfl ?_; intro a hs
  refine wl hs (y_assign hs rfl) rfl ?_; intro a hs
  refine wpList_nil ?_
  refine x_nt ?_
  refine wp_seq ?_
  refine wp_seq ?_
  refine wp_region_lit ?_
  refine wl hs (y_move hs rfl) rfl ?_; intro a hs
  obtain ⟨y1, h2, hm⟩ := bindE hm
  refine wcall is_54 hs rfl rfl (impl_isSquare_any v_p0 p0 _ (RdM.below hr_p0 hM.bel) h2) ?_; rintro a _ w hs ⟨rfl, hX⟩
  have hM : Mem W w [] := hM.call hX
  refine wl hs (y_not hs rfl) rfl ?_; intro a hs
  refine wpList_nil ?_
  refine x_nt ?_
  refine x_cond hs rfl (fun hb => ?_) (fun hb => ?_)
  · replace hm := condT hb hm
    refine wp_seq ?_
    refine wp_region_lit ?_
    refine wl hs (y_assign hs rfl) rfl ?_; intro a hs
    refine wl hs (y_assign hs rfl) rfl ?_; intro a hs
    refine wpList_nil ?_
    refine x_nt ?_
    refine wp_ret ?_
    refine x_rt ?_
    have hm : some (0, false) = some r := hm
    obtain rfl := Option.some.inj hm
    refine x_ret2 rfl hs rfl rfl ⟨_, rfl, ?_⟩
    exact ⟨rfl, hM⟩
  · replace hm := condF hb hm
    refine wp_skip ?_
    refine x_nt ?_
    refine wp_seq ?_
    refine wp_region_lit ?_
    refine wl hs (y_assign hs rfl) rfl ?_; intro a hs
    refine wpList_nil ?_
    refine x_nt ?_
    refine wp_seq ?_
    refine wp_seq ?_
    refine wp_region_lit ?_
    refine wl hs (y_move hs rfl) rfl ?_; intro a hs
    refine wl hs (y_len hu_M hs rfl (RdM.below hr_p0 hM.bel)) rfl ?_; intro a hs
    refine wl hs (y_move hs rfl) rfl ?_; intro a hs
    refine wpList_nil ?_
    refine x_nt ?_
    obtain ⟨s6, hm, hk7⟩ := bindE hm
    refine x_mid (fun a w => ∃ (n5 : Int), n5 = s6 ∧ Fr a 25 [(4, .int .i64 n5)] ∧ Mem W w []) ?_ ?_
    · refine wp_block ?_
      refine x_loop (fun k a w => ∃ (q8 : List (List Int)) (j4 : Nat) (n3 : Int) , k = q8.length ∧ Fr a 25 [(4, .int .i64 n3), (10, v_p0), (11, .int .i64 (p0.length : Int)), (12, .int .i64 (j4 : Int))] ∧ Mem W w [] ∧ impl_TraceOf_l1 q8 j4 n3 = some s6 ∧ List.drop j4 p0 = q8) _ ⟨p0, 0, 1000000000, rfl, hs.sub ⟨rfl, rfl, rfl, rfl, trivial⟩, hM, hm, rfl⟩ ?_
      rintro k a w ⟨q8, j4, n3, rfl, hs, hM, hm, hj⟩
      rcases q8 with _ | ⟨x9, q8⟩
      · rewrite [impl_TraceOf_l1] at hm
        refine wp_seq ?_
        refine wp_region_lit ?_
        refine wl hs (y_lss hs rfl rfl) rfl ?_; intro a hs
        refine wpList_nil ?_
        refine x_nt ?_
        refine wp_seq ?_
        refine x_condF hs rfl (drop_f hj) ?_
        refine wp_exit ?_
        refine x_et ?_
        refine x_et ?_
        refine x_eb ?_
        have hm : some n3 = some s6 := hm
        exact ⟨n3, Option.some.inj hm, hs.sub ⟨rfl, trivial⟩, hM⟩
      · rewrite [impl_TraceOf_l1] at hm
        have hx10 := drop_idx hj
        have hjs := ck_succ hj (RdS.len (RdM.below hr_p0 hM.bel))
        refine wp_seq ?_
        refine wp_region_lit ?_
        refine wl hs (y_lss hs rfl rfl) rfl ?_; intro a hs
        refine wpList_nil ?_
        refine x_nt ?_
        refine wp_seq ?_
        refine x_condT hs rfl (drop_t hj) ?_
        refine wp_skip ?_
        refine x_nt ?_
        refine wp_seq ?_
        refine wp_block ?_
        refine wp_seq ?_
        refine wp_region_lit ?_
        refine wl hs (y_move hs rfl) rfl ?_; intro a hs
        obtain ⟨u12, he11, hr13⟩ := RdM.at_ hr_p0 hx10
        replace he11 := he11.below hM.bel
        refine wl hs (y_index ht_M hs rfl rfl he11) rfl ?_; intro a hs
        refine wl hs (y_load sc_I hs rfl he11.cell) rfl ?_; intro a hs
        refine wl hs (y_assign hs rfl) rfl ?_; intro a hs
        refine wl hs (y_assign hs rfl) rfl ?_; intro a hs
        refine wpList_nil ?_
        refine x_nt ?_
        refine wp_region_lit ?_
        refine wl hs (y_move hs rfl) rfl ?_; intro a hs
        refine wl hs (y_move hs rfl) rfl ?_; intro a hs
        refine wl hs (y_move hs rfl) rfl ?_; intro a hs
        obtain ⟨x14, hx15, hm⟩ := bindE hm
        have he16 := RdI.at_ (RdI.below hr13 hM.bel) hx15
        refine wl hs (y_index ht_I hs rfl rfl he16) rfl ?_; intro a hs
        refine wl hs (y_load sc_int hs rfl he16.cell) rfl ?_; intro a hs
        refine wl hs (y_min hs rfl rfl) rfl ?_; intro a hs
        refine wl hs (y_assign hs rfl) rfl ?_; intro a hs
        refine wpList_nil ?_
        refine x_nb ?_
        refine x_nt ?_
        refine wp_region_lit ?_
        refine wl hs (y_add hs rfl rfl hjs) rfl ?_; intro a hs
        refine wl hs (y_move hs rfl) rfl ?_; intro a hs
        refine wpList_nil ?_
        exact ⟨_, by simp, q8, j4 + 1, min n3 x14, rfl, hs.sub ⟨rfl, rfl, rfl, rfl, trivial⟩, hM, hm, drop_next hj⟩
    rintro a w ⟨n5, rfl, hs, hM⟩
    have hm := hk7
    refine x_nt ?_
    refine wp_seq ?_
    refine wp_region_lit ?_
    refine wl hs (y_move hs rfl) rfl ?_; intro a hs
    refine wl hs (y_assign hs rfl) rfl ?_; intro a hs
    refine wl hs (y_assign hs rfl) rfl ?_; intro a hs
    refine wpList_nil ?_
    refine x_nt ?_
    refine wp_ret ?_
    have hm : some (n5, true) = some r := hm
    obtain rfl := Option.some.inj hm
    refine x_ret2 rfl hs rfl rfl ⟨_, rfl, ?_⟩
    exact ⟨rfl, hM⟩

theorem spec_TransposeMatrix_any (v_p0 : Value) (p0 : List (List Int)) (W : World) (hr_p0 : RdM W v_p0 p0) {r : (List (List Int)) × Bool} (hm : spec_TransposeMatrix_m p0 = some r) : Calls Try.prog 37 [v_p0].toArray W fun e w => ∃ v, e = .returned v ∧ ∃ v0, ∃ vs0, v = .tuple #[v0, .bool r.2] ∧ Mem W w [aMat 34 3 v0 vs0 r.1] := by
  refine x_enter Try.func37 rfl Try.ntmps37 rfl ?_
  intro a hs
  have hM := Mem.start W
  unfold spec_TransposeMatrix_m at hm
  refine wp_seq ?_
  refine wp_region_lit ?_
  refine wl hs (y_assign hs rfl) rfl ?_; intro a hs
  refine wl hs (y_assign hs rfl) rfl ?_; intro a hs
  refine wpList_nil ?_
  refine x_nt ?_
  refine wp_seq ?_
  refine wp_seq ?_
  refine wp_region_lit ?_
  refine wl hs (y_move hs rfl) rfl ?_; intro a hs
  obtain ⟨y1, h2, hm⟩ := bindE hm
  refine wcall is_50 hs rfl rfl (spec_mxGood_any v_p0 p0 _ (RdM.below hr_p0 hM.bel) h2) ?_; rintro a _ w hs ⟨rfl, hX⟩
  have hM : Mem W w [] := hM.call hX
  refine wl hs (y_not hs rfl) rfl ?_; intro a hs
  refine wpList_nil ?_
  refine x_nt ?_
  refine x_cond hs rfl (fun hb => ?_) (fun hb => ?_)
  · replace hm := condT hb hm
    refine wp_seq ?_
    refine wp_region_lit ?_
    refine wl hs (y_assign hs rfl) rfl ?_; intro a hs
    refine wl hs (y_assign hs rfl) rfl ?_; intro a hs
    refine wpList_nil ?_
    refine x_nt ?_
    refine wp_ret ?_
    refine x_rt ?_
    have hm : some ([], false) = some r := hm
    obtain rfl := Option.some.inj hm
    refine x_ret2 rfl hs rfl rfl ⟨_, rfl, ?_⟩
    have hM := hM.nilM 34 3
    exact ⟨_, _, rfl, hM⟩
  · replace hm := condF hb hm
    refine wp_skip ?_
    refine x_nt ?_
    refine wp_seq ?_
    refine wp_region_lit ?_
    refine wl hs (y_move hs rfl) rfl ?_; intro a hs
    obtain ⟨y4, h5, hm⟩ := bindE hm
    refine wcall is_69 hs rfl rfl (spec_mxTurn_any v_p0 p0 _ (RdM.below hr_p0 hM.bel) h5) ?_; rintro a v6 w hs ⟨vs8, hX⟩
    have hM : Mem W w [aMat 34 3 v6 vs8 y4] := hM.call hX
    refine wl hs (y_assign hs rfl) rfl ?_; intro a hs
    refine wl hs (y_assign hs rfl) rfl ?_; intro a hs
    refine wpList_nil ?_
    refine x_nt ?_
    refine wp_ret ?_
    have hm : some (y4, true) = some r := hm
    obtain rfl := Option.some.inj hm
    refine x_ret2 rfl hs rfl rfl ⟨_, rfl, ?_⟩
    exact ⟨_, _, rfl, hM⟩

theorem impl_TransposeMatrix_any (v_p0 : Value) (p0 : List (List Int)) (W : World) (hr_p0 : RdM W v_p0 p0) {r : (List (List Int)) × Bool} (hm : impl_TransposeMatrix_m p0 = some r) : Calls Try.prog 38 [v_p0].toArray W fun e w => ∃ v, e = .returned v ∧ ∃ v0, ∃ vs0, v = .tuple #[v0, .bool r.2] ∧ Mem W w [aMat 34 3 v0 vs0 r.1] := by
  refine x_enter Try.func38 rfl Try.ntmps38 rfl ?_
  intro a hs
  have hM := Mem.start W
  unfold impl_TransposeMatrix_m at hm
  refine wp_seq ?_
  refine wp_region_lit ?_
  refine wl hs (y_assign hs rfl) rfl ?_; intro a hs
  refine wl hs (y_assign hs rfl) rfl ?_; intro a hs
  refine wpList_nil ?_
  refine x_nt ?_
  refine wp_seq ?_
  refine wp_seq ?_
  refine wp_region_lit ?_
  refine wl hs (y_move hs rfl) rfl ?_; intro a hs
  obtain ⟨y1, h2, hm⟩ := bindE hm
  refine wcall is_51 hs rfl rfl (impl_isMatrix_any v_p0 p0 _ (RdM.below hr_p0 hM.bel) h2) ?_; rintro a _ w hs ⟨rfl, hX⟩
  have hM : Mem W w [] := hM.call hX
  refine wl hs (y_not hs rfl) rfl ?_; intro a hs
  refine wpList_nil ?_
  refine x_nt ?_
  refine x_cond hs rfl (fun hb => ?_) (fun hb => ?_)
  · replace hm := condT hb hm
    refine wp_seq ?_
    refine wp_region_lit ?_
    refine wl hs (y_assign hs rfl) rfl ?_; intro a hs
    refine wl hs (y_assign hs rfl) rfl ?_; intro a hs
    refine wpList_nil ?_
    refine x_nt ?_
    refine wp_ret ?_
    refine x_rt ?_
    have hm : some ([], false) = some r := hm
    obtain rfl := Option.some.inj hm
    refine x_ret2 rfl hs rfl rfl ⟨_, rfl, ?_⟩
    have hM := hM.nilM 34 3
    exact ⟨_, _, rfl, hM⟩
  · replace hm := condF hb hm
    refine wp_skip ?_
    refine x_nt ?_
    refine wp_seq ?_
    refine wp_region_lit ?_
    refine wl hs (y_move hs rfl) rfl ?_; intro a hs
    obtain ⟨y4, h5, hm⟩ := bindE hm
    refine wcall is_70 hs rfl rfl (impl_transposed_any v_p0 p0 _ (RdM.below hr_p0 hM.bel) h5) ?_; rintro a v6 w hs ⟨vs8, hX⟩
    have hM : Mem W w [aMat 34 3 v6 vs8 y4] := hM.call hX
    refine wl hs (y_assign hs rfl) rfl ?_; intro a hs
    refine wl hs (y_assign hs rfl) rfl ?_; intro a hs
    refine wpList_nil ?_
    refine x_nt ?_
    refine wp_ret ?_
    have hm : some (y4, true) = some r := hm
    obtain rfl := Option.some.inj hm
    refine x_ret2 rfl hs rfl rfl ⟨_, rfl, ?_⟩
    exact ⟨_, _, rfl, hM⟩

end Go.Proofs.Ytefjnpdpeablpaa
