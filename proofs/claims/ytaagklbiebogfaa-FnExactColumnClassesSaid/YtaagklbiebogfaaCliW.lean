/- The code of this unit computes what its mirrors say. Written by program (wip/gen). -/
import Derived.Test.YtaagklbiebogfaaFacts
import Derived.Test.YtaagklbiebogfaaCliM
import Derived.Test.YtaagklbiebogfaaNumW
import Derived.Test.YtaagklbiebogfaaMatW
import Derived.Test.YtaagklbiebogfaaClsW
import Derived.Test.YtaagklbiebogfaaChoW
import Derived.Test.YtaagklbiebogfaaChiW
namespace Go.Proofs.Ytaagklbiebogfaa
open Go.RowKit
set_option linter.unusedVariables false

set_option maxHeartbeats 4000000 in
theorem impl_columnClasses_any (v_p0 : Value) (p0 : List (List Int)) (W : World) (hr_p0 : RdM W v_p0 p0) {r : List (List Int)} (hm : impl_columnClasses_m p0 = some r) : Calls Try.prog 73 [v_p0].toArray W fun e w => ∃ v, e = .returned v ∧ ∃ vs0, Mem W w [aMat 24 3 v vs0 r] := by
  refine x_enter Try.func73 rfl Try.ntmps73 rfl ?_
  intro a hs
  have hM := Mem.start W
  unfold impl_columnClasses_m at hm
  refine wp_seq ?_
  refine wp_region_lit ?_
  refine wl hs (y_assign hs rfl) rfl ?_; intro a hs
  refine wpList_nil ?_
  refine x_nt ?_
  refine wp_scope_straight ?_
  refine wp_seq ?_
  refine wp_region_lit ?_
  refine wl hs (y_move hs rfl) rfl ?_; intro a hs
  obtain ⟨y1, h2, hm⟩ := bindE hm
  refine wcall is_62 hs rfl rfl (impl_transposed_any v_p0 p0 _ (RdM.below hr_p0 hM.bel) h2) ?_; rintro a v3 w hs ⟨vs5, hX⟩
  have hM : Mem W w [aMat 24 3 v3 vs5 y1] := hM.call hX
  refine wl hs (y_assign hs rfl) rfl ?_; intro a hs
  refine wpList_nil ?_
  refine x_nt ?_
  refine wp_seq ?_
  refine wp_region_lit ?_
  refine wmem hs (x_new0M (ti := 3) ht_M hM) rfl ?_; intro a v7 w hs hM
  have hM : Mem W w [aMat 24 3 v7 ([]) ([]), aMat 24 3 v3 vs5 y1] := hM
  refine wl hs (y_assign hs rfl) rfl ?_; intro a hs
  refine wpList_nil ?_
  refine x_nt ?_
  refine wp_seq ?_
  refine wp_label ?_
  refine x_nt ?_
  refine wp_seq ?_
  refine wp_seq ?_
  refine wp_region_lit ?_
  refine wl hs (y_move hs rfl) rfl ?_; intro a hs
  refine wl hs (y_len hu_M hs rfl (hM.rdM 1 rfl)) rfl ?_; intro a hs
  refine wl hs (y_move hs rfl) rfl ?_; intro a hs
  refine wpList_nil ?_
  refine x_nt ?_
  obtain ⟨s15, hm, hk16⟩ := bindE hm
  refine x_mid (fun a w => ∃ (v12 : Value), ∃ (vs13 : List Value), ∃ (l14 : List (List Int)), l14 = s15 ∧ Fr a 49 [(4, v12)] ∧ Mem W w [aMat 24 3 v12 vs13 l14]) ?_ ?_
  · refine wp_block ?_
    refine x_loop (fun k a w => ∃ (q17 : List (List Int)) (j8 : Nat) (v9 : Value) (vs10 : List Value) (l11 : List (List Int)) , k = q17.length ∧ Fr a 49 [(3, v3), (4, v9), (12, v3), (13, .int .i64 (y1.length : Int)), (14, .int .i64 (j8 : Int))] ∧ Mem W w [aMat 24 3 v9 vs10 l11, aMat 24 3 v3 vs5 y1] ∧ impl_columnClasses_l1 y1 q17 j8 l11 = some s15 ∧ List.drop j8 y1 = q17) _ ⟨y1, 0, v7, [], [], rfl, hs.sub ⟨rfl, rfl, rfl, rfl, rfl, trivial⟩, hM, hm, rfl⟩ ?_
    rintro k a w ⟨q17, j8, v9, vs10, l11, rfl, hs, hM, hm, hj8⟩
    rcases q17 with _ | ⟨x18, q17⟩
    · rewrite [impl_columnClasses_l1] at hm
      refine wp_seq ?_
      refine wp_region_lit ?_
      refine wl hs (y_lss hs rfl rfl) rfl ?_; intro a hs
      refine wpList_nil ?_
      refine x_nt ?_
      refine wp_seq ?_
      refine x_condF hs rfl (drop_f hj8) ?_
      refine wp_exit ?_
      refine x_et ?_
      refine x_et ?_
      refine x_eb ?_
      have hm : some l11 = some s15 := hm
      exact ⟨v9, vs10, l11, Option.some.inj hm, hs.sub ⟨rfl, trivial⟩, (hM.keep_ 1)⟩
    · rewrite [impl_columnClasses_l1] at hm
      have hx19 := drop_idx hj8
      have hsj8 := ck_succ hj8 (RdS.len (hM.rdM 1 rfl))
      refine wp_seq ?_
      refine wp_region_lit ?_
      refine wl hs (y_lss hs rfl rfl) rfl ?_; intro a hs
      refine wpList_nil ?_
      refine x_nt ?_
      refine wp_seq ?_
      refine x_condT hs rfl (drop_t hj8) ?_
      refine wp_skip ?_
      refine x_nt ?_
      refine wp_seq ?_
      refine wp_block ?_
      refine wp_seq ?_
      refine wp_region_lit ?_
      refine wl hs (y_move hs rfl) rfl ?_; intro a hs
      obtain ⟨u21, hv22, he20⟩ := hM.atM 1 rfl hx19
      refine wl hs (y_index ht_M hs rfl rfl he20) rfl ?_; intro a hs
      refine wl hs (y_load sc_I hs rfl he20.cell) rfl ?_; intro a hs
      refine wl hs (y_assign hs rfl) rfl ?_; intro a hs
      refine wl hs (y_assign hs rfl) rfl ?_; intro a hs
      refine wpList_nil ?_
      refine x_nt ?_
      refine wp_seq ?_
      refine wp_seq ?_
      refine wp_region_lit ?_
      refine wl hs (y_move hs rfl) rfl ?_; intro a hs
      refine wl hs (y_len hu_M hs rfl (hM.rdM 0 rfl)) rfl ?_; intro a hs
      refine wl hs (y_move hs rfl) rfl ?_; intro a hs
      refine wpList_nil ?_
      refine x_nt ?_
      obtain ⟨s24, hm, hk25⟩ := bindE hm
      refine x_mid (fun a w => Sum.inr () = s24 ∧ Fr a 49 [(3, v3), (4, v9), (5, .int .i64 (j8 : Int)), (12, v3), (13, .int .i64 (y1.length : Int)), (14, .int .i64 (j8 : Int))] ∧ Mem W w [aMat 24 3 v9 vs10 l11, aMat 24 3 v3 vs5 y1]) ?_ ?_
      · refine wp_block ?_
        refine x_loop (fun k a w => ∃ (q28 : List (List Int)) (j23 : Nat) , k = q28.length ∧ Fr a 49 [(3, v3), (4, v9), (5, .int .i64 (j8 : Int)), (6, u21), (12, v3), (13, .int .i64 (y1.length : Int)), (14, .int .i64 (j8 : Int)), (19, v9), (20, .int .i64 (l11.length : Int)), (21, .int .i64 (j23 : Int))] ∧ Mem W w [aMat 24 3 v9 vs10 l11, aMat 24 3 v3 vs5 y1] ∧ impl_columnClasses_l2 y1 j8 l11 x18 q28 j23 = some s24 ∧ List.drop j23 l11 = q28) _ ⟨l11, 0, rfl, hs.sub ⟨rfl, rfl, rfl, rfl, rfl, rfl, rfl, rfl, rfl, rfl, trivial⟩, hM, hm, rfl⟩ ?_
        rintro k a w ⟨q28, j23, rfl, hs, hM, hm, hj23⟩
        rcases q28 with _ | ⟨x29, q28⟩
        · rewrite [impl_columnClasses_l2] at hm
          refine wp_seq ?_
          refine wp_region_lit ?_
          refine wl hs (y_lss hs rfl rfl) rfl ?_; intro a hs
          refine wpList_nil ?_
          refine x_nt ?_
          refine wp_seq ?_
          refine x_condF hs rfl (drop_f hj23) ?_
          refine wp_exit ?_
          refine x_et ?_
          refine x_et ?_
          refine x_eb ?_
          have hm : some (Sum.inr ()) = some s24 := hm
          exact ⟨Option.some.inj hm, hs.sub ⟨rfl, rfl, rfl, rfl, rfl, rfl, trivial⟩, hM⟩
        · rewrite [impl_columnClasses_l2] at hm
          have hx30 := drop_idx hj23
          have hsj23 := ck_succ hj23 (RdS.len (hM.rdM 0 rfl))
          refine wp_seq ?_
          refine wp_region_lit ?_
          refine wl hs (y_lss hs rfl rfl) rfl ?_; intro a hs
          refine wpList_nil ?_
          refine x_nt ?_
          refine wp_seq ?_
          refine x_condT hs rfl (drop_t hj23) ?_
          refine wp_skip ?_
          refine x_nt ?_
          refine wp_seq ?_
          refine wp_block ?_
          refine wp_seq ?_
          refine wp_region_lit ?_
          refine wl hs (y_move hs rfl) rfl ?_; intro a hs
          obtain ⟨u32, hv33, he31⟩ := hM.atM 0 rfl hx30
          refine wl hs (y_index ht_M hs rfl rfl he31) rfl ?_; intro a hs
          refine wl hs (y_load sc_I hs rfl he31.cell) rfl ?_; intro a hs
          refine wl hs (y_assign hs rfl) rfl ?_; intro a hs
          refine wl hs (y_assign hs rfl) rfl ?_; intro a hs
          refine wpList_nil ?_
          refine x_nt ?_
          refine wp_seq ?_
          refine wp_region_lit ?_
          refine wl hs (y_move hs rfl) rfl ?_; intro a hs
          refine wl hs (y_move hs rfl) rfl ?_; intro a hs
          obtain ⟨x34, hx35, hm⟩ := bindE hm
          have he36 := RdI.at_ (hM.rdRow 0 rfl rfl hv33 (idx_spec hx30).2.2) hx35
          refine wl hs (y_index ht_I hs rfl rfl he36) rfl ?_; intro a hs
          refine wl hs (y_load sc_int hs rfl he36.cell) rfl ?_; intro a hs
          obtain ⟨x37, hx38, hm⟩ := bindE hm
          obtain ⟨u40, hv41, he39⟩ := hM.atM 1 rfl hx38
          refine wl hs (y_index ht_M hs rfl rfl he39) rfl ?_; intro a hs
          refine wl hs (y_load sc_I hs rfl he39.cell) rfl ?_; intro a hs
          refine wl hs (y_move hs rfl) rfl ?_; intro a hs
          obtain ⟨y42, h43, hm⟩ := bindE hm
          refine wcall is_108 hs rfl rfl (impl_differByOne_any u40 x37 u21 x18 _ (hM.rdRow 1 rfl rfl hv41 (idx_spec hx38).2.2) (hM.rdRow 1 rfl rfl hv22 (idx_spec hx19).2.2) h43) ?_; rintro a _ w hs ⟨rfl, hX⟩
          have hM : Mem W w [aMat 24 3 v9 vs10 l11, aMat 24 3 v3 vs5 y1] := hM.call hX
          refine wpList_nil ?_
          refine x_nt ?_
          refine x_cond hs rfl (fun hb => ?_) (fun hb => ?_)
          · replace hm := condT hb hm
            refine wp_seq ?_
            refine wp_region_lit ?_
            refine wl hs (y_move hs rfl) rfl ?_; intro a hs
            refine wl hs (y_move hs rfl) rfl ?_; intro a hs
            refine wl hs (y_move hs rfl) rfl ?_; intro a hs
            refine wl hs (y_move hs rfl) rfl ?_; intro a hs
            have hM : Mem W w [aInts 3 u32 x29, aMatO 24 3 v9 vs10 l11 (setO (fun _ => false) ((j23 : Int)).toNat), aMat 24 3 v3 vs5 y1] := (hM).take rfl hv33 ((idx_spec hx30).2.2)
            obtain ⟨l45, h46, hm⟩ := bindE hm
            refine wappI hu_I he_int hs hM rfl rfl h46 rfl rfl rfl ?_; intro a v47 w u48 hs hM
            have hM : Mem W w [aInts 3 v47 l45, aMatO 24 3 v9 vs10 l11 (setO (fun _ => false) ((j23 : Int)).toNat), aMat 24 3 v3 vs5 y1] := hM
            obtain ⟨u50, hv51, he49⟩ := hM.atM 1 rfl hx30
            refine wl hs (y_index ht_M hs rfl rfl he49) rfl ?_; intro a hs
            obtain ⟨l52, h53, hm⟩ := bindE hm
            refine wstore hs rfl rfl (x_storeH (out := fun _ => false) he_I hM rfl h53) ?_; intro w hM
            have hM : Mem W w [aMat 24 3 v9 (vs10.set ((j23 : Int)).toNat v47) l52, aMat 24 3 v3 vs5 y1] := hM
            refine wpList_nil ?_
            refine x_nt ?_
            refine wp_exit ?_
            refine x_ep rfl ?_
            refine x_et ?_
            refine x_et ?_
            refine x_ep rfl ?_
            refine x_et ?_
            have hm : some (Sum.inl l52) = some s24 := hm
            cases Option.some.inj hm
            have hm := hk25
            refine x_et ?_
            refine x_eb ?_
            refine x_nt ?_
            refine wp_region_lit ?_
            refine wl hs (y_add hs rfl rfl hsj8) rfl ?_; intro a hs
            refine wl hs (y_move hs rfl) rfl ?_; intro a hs
            refine wpList_nil ?_
            exact ⟨_, by simp, q17, j8 + 1, v9, (vs10.set ((j23 : Int)).toNat v47), l52, rfl, hs.sub ⟨rfl, rfl, rfl, rfl, rfl, trivial⟩, hM, hm, drop_next hj8⟩
          · replace hm := condF hb hm
            refine wp_skip ?_
            refine x_nb ?_
            refine x_nt ?_
            refine wp_region_lit ?_
            refine wl hs (y_add hs rfl rfl hsj23) rfl ?_; intro a hs
            refine wl hs (y_move hs rfl) rfl ?_; intro a hs
            refine wpList_nil ?_
            exact ⟨_, by simp, q28, j23 + 1, rfl, hs.sub ⟨rfl, rfl, rfl, rfl, rfl, rfl, rfl, rfl, rfl, rfl, trivial⟩, hM, hm, drop_next hj23⟩
      rintro a w ⟨rfl, hs, hM⟩
      have hm := hk25
      refine x_nt ?_
      refine wp_region_lit ?_
      refine wl hs (y_move hs rfl) rfl ?_; intro a hs
      refine wl hs (y_move hs rfl) rfl ?_; intro a hs
      refine wmem hs (x_new1I hu_I he_int hs rfl hM) rfl ?_; intro a v55 w hs hM
      have hM : Mem W w [aInts 3 v55 ([(j8 : Int)]), aMat 24 3 v9 vs10 l11, aMat 24 3 v3 vs5 y1] := hM
      obtain ⟨l56, h57, hm⟩ := bindE hm
      refine wappM hu_M he_I hs (((hM.front 2 rfl).front 1 rfl).front 2 rfl) rfl rfl h57 rfl rfl rfl ?_; intro a v58 w u59 hs hM
      have hM : Mem W w [aMat 24 3 v58 (vs10 ++ [v55]) l56, aMat 24 3 v3 vs5 y1] := hM
      refine wl hs (y_assign hs rfl) rfl ?_; intro a hs
      refine wpList_nil ?_
      refine x_nb ?_
      refine x_nt ?_
      refine wp_region_lit ?_
      refine wl hs (y_add hs rfl rfl hsj8) rfl ?_; intro a hs
      refine wl hs (y_move hs rfl) rfl ?_; intro a hs
      refine wpList_nil ?_
      exact ⟨_, by simp, q17, j8 + 1, v58, (vs10 ++ [v55]), l56, rfl, hs.sub ⟨rfl, rfl, rfl, rfl, rfl, trivial⟩, hM, hm, drop_next hj8⟩
  rintro a w ⟨v12, vs13, l14, rfl, hs, hM⟩
  have hm := hk16
  refine x_nt ?_
  refine wp_seq ?_
  refine wp_region_lit ?_
  refine wl hs (y_move hs rfl) rfl ?_; intro a hs
  refine wl hs (y_assign hs rfl) rfl ?_; intro a hs
  refine wpList_nil ?_
  refine x_nt ?_
  refine wp_ret ?_
  refine x_rs ?_
  have hm : some l14 = some r := hm
  obtain rfl := Option.some.inj hm
  refine x_ret1 rfl hs rfl ⟨_, rfl, ?_⟩
  exact ⟨_, hM⟩

theorem impl_ColumnClasses_any (v_p0 : Value) (p0 : List (List Int)) (W : World) (hr_p0 : RdM W v_p0 p0) {r : (List (List Int)) × Bool} (hm : impl_ColumnClasses_m p0 = some r) : Calls Try.prog 31 [v_p0].toArray W fun e w => ∃ v, e = .returned v ∧ ∃ v0, ∃ vs0, v = .tuple #[v0, .bool r.2] ∧ Mem W w [aMat 24 3 v0 vs0 r.1] := by
  refine x_enter Try.func31 rfl Try.ntmps31 rfl ?_
  intro a hs
  have hM := Mem.start W
  unfold impl_ColumnClasses_m at hm
  refine wp_seq ?_
  refine wp_region_lit ?_
  refine wl hs (y_assign hs rfl) rfl ?_; intro a hs
  refine wl hs (y_assign hs rfl) rfl ?_; intro a hs
  refine wpList_nil ?_
  refine x_nt ?_
  refine wp_seq ?_
  refine wp_seq ?_
  refine wp_region_lit ?_
  refine wl hs (y_move hs rfl) rfl ?_; intro a hs
  obtain ⟨y1, h2, hm⟩ := bindE hm
  refine wcall is_59 hs rfl rfl (impl_isMatrix_any v_p0 p0 _ (RdM.below hr_p0 hM.bel) h2) ?_; rintro a _ w hs ⟨rfl, hX⟩
  have hM : Mem W w [] := hM.call hX
  refine wl hs (y_not hs rfl) rfl ?_; intro a hs
  refine wpList_nil ?_
  refine x_nt ?_
  refine x_cond hs rfl (fun hb => ?_) (fun hb => ?_)
  · replace hm := condT hb hm
    refine wp_seq ?_
    refine wp_region_lit ?_
    refine wl hs (y_assign hs rfl) rfl ?_; intro a hs
    refine wl hs (y_assign hs rfl) rfl ?_; intro a hs
    refine wpList_nil ?_
    refine x_nt ?_
    refine wp_ret ?_
    refine x_rt ?_
    have hm : some ([], false) = some r := hm
    obtain rfl := Option.some.inj hm
    refine x_ret2 rfl hs rfl rfl ⟨_, rfl, ?_⟩
    have hM := hM.nilM 24 3
    exact ⟨_, _, rfl, hM⟩
  · replace hm := condF hb hm
    refine wp_skip ?_
    refine x_nt ?_
    refine wp_seq ?_
    refine wp_region_lit ?_
    refine wl hs (y_move hs rfl) rfl ?_; intro a hs
    obtain ⟨y4, h5, hm⟩ := bindE hm
    refine wcall is_73 hs rfl rfl (impl_columnClasses_any v_p0 p0 _ (RdM.below hr_p0 hM.bel) h5) ?_; rintro a v6 w hs ⟨vs8, hX⟩
    have hM : Mem W w [aMat 24 3 v6 vs8 y4] := hM.call hX
    refine wl hs (y_assign hs rfl) rfl ?_; intro a hs
    refine wl hs (y_assign hs rfl) rfl ?_; intro a hs
    refine wpList_nil ?_
    refine x_nt ?_
    refine wp_ret ?_
    have hm : some (y4, true) = some r := hm
    obtain rfl := Option.some.inj hm
    refine x_ret2 rfl hs rfl rfl ⟨_, rfl, ?_⟩
    exact ⟨_, _, rfl, hM⟩

theorem spec_FactorBounds_any (v_p0 : Value) (p0 : List (List Int)) (W : World) (hr_p0 : RdM W v_p0 p0) {r : Int × Int × Bool} (hm : spec_FactorBounds_m p0 = some r) : Calls Try.prog 36 [v_p0].toArray W fun e w => ∃ v, e = .returned v ∧ v = .tuple #[.int .i64 r.1, .int .i64 r.2.1, .bool r.2.2] ∧ Mem W w [] := by
  refine x_enter Try.func36 rfl Try.ntmps36 rfl ?_
  intro a hs
  have hM := Mem.start W
  unfold spec_FactorBounds_m at hm
  refine wp_seq ?_
  refine wp_region_lit ?_
  refine wl hs (y_assign hs rfl) rfl ?_; intro a hs
  refine wl hs (y_assign hs rfl) rfl ?_; intro a hs
  refine wl hs (y_assign hs rfl) rfl ?_; intro a hs
  refine wpList_nil ?_
  refine x_nt ?_
  refine wp_seq ?_
  refine wp_seq ?_
  refine wp_region_lit ?_
  refine wl hs (y_move hs rfl) rfl ?_; intro a hs
  obtain ⟨y1, h2, hm⟩ := bindE hm
  refine wcall is_57 hs rfl rfl (spec_mxGood_any v_p0 p0 _ (RdM.below hr_p0 hM.bel) h2) ?_; rintro a _ w hs ⟨rfl, hX⟩
  have hM : Mem W w [] := hM.call hX
  refine wl hs (y_not hs rfl) rfl ?_; intro a hs
  refine wpList_nil ?_
  refine x_nt ?_
  refine x_cond hs rfl (fun hb => ?_) (fun hb => ?_)
  · replace hm := condT hb hm
    refine wp_seq ?_
    refine wp_region_lit ?_
    refine wl hs (y_assign hs rfl) rfl ?_; intro a hs
    refine wl hs (y_assign hs rfl) rfl ?_; intro a hs
    refine wl hs (y_assign hs rfl) rfl ?_; intro a hs
    refine wpList_nil ?_
    refine x_nt ?_
    refine wp_ret ?_
    refine x_rt ?_
    have hm : some (0, 0, false) = some r := hm
    obtain rfl := Option.some.inj hm
    refine x_ret3 rfl hs rfl rfl rfl ⟨_, rfl, ?_⟩
    exact ⟨rfl, hM⟩
  · replace hm := condF hb hm
    refine wp_skip ?_
    refine x_nt ?_
    refine wp_seq ?_
    refine wp_region_lit ?_
    refine wl hs (y_move hs rfl) rfl ?_; intro a hs
    obtain ⟨y3, h4, hm⟩ := bindE hm
    refine wcall is_78 hs rfl rfl (spec_rkRank_any v_p0 p0 _ (RdM.below hr_p0 hM.bel) h4) ?_; rintro a _ w hs ⟨rfl, hX⟩
    have hM : Mem W w [] := hM.call hX
    refine wl hs (y_move hs rfl) rfl ?_; intro a hs
    obtain ⟨y5, h6, hm⟩ := bindE hm
    refine wcall is_72 hs rfl rfl (spec_rkClasses_any v_p0 p0 _ (RdM.below hr_p0 hM.bel) h6) ?_; rintro a v7 w hs ⟨vs9, hX⟩
    have hM : Mem W w [aMat 24 3 v7 vs9 y5] := hM.call hX
    refine wl hs (y_len hu_M hs rfl (hM.rdM 0 rfl)) rfl ?_; intro a hs
    refine wl hs (y_move hs rfl) rfl ?_; intro a hs
    obtain ⟨y10, h11, hm⟩ := bindE hm
    refine wcall is_81 hs rfl rfl (spec_mxTurn_any v_p0 p0 _ (RdM.below hr_p0 hM.bel) h11) ?_; rintro a v12 w hs ⟨vs14, hX⟩
    have hM : Mem W w [aMat 24 3 v12 vs14 y10, aMat 24 3 v7 vs9 y5] := hM.call hX
    obtain ⟨y15, h16, hm⟩ := bindE hm
    refine wcall is_72 hs rfl rfl (spec_rkClasses_any v12 y10 _ (hM.rdM 0 rfl) h16) ?_; rintro a v17 w hs ⟨vs19, hX⟩
    have hM : Mem W w [aMat 24 3 v17 vs19 y15, aMat 24 3 v12 vs14 y10, aMat 24 3 v7 vs9 y5] := hM.call hX
    refine wl hs (y_len hu_M hs rfl (hM.rdM 0 rfl)) rfl ?_; intro a hs
    obtain ⟨y20, h21, hm⟩ := bindE hm
    refine wcall is_80 hs rfl rfl (spec_l1Least_any (y5.length : Int) (y15.length : Int) _  h21) ?_; rintro a _ w hs ⟨rfl, hX⟩
    have hM : Mem W w [aMat 24 3 v17 vs19 y15, aMat 24 3 v12 vs14 y10, aMat 24 3 v7 vs9 y5] := hM.call hX
    refine wl hs (y_assign hs rfl) rfl ?_; intro a hs
    refine wl hs (y_assign hs rfl) rfl ?_; intro a hs
    refine wl hs (y_assign hs rfl) rfl ?_; intro a hs
    refine wpList_nil ?_
    refine x_nt ?_
    refine wp_ret ?_
    have hm : some (y3, y20, true) = some r := hm
    obtain rfl := Option.some.inj hm
    refine x_ret3 rfl hs rfl rfl rfl ⟨_, rfl, ?_⟩
    exact ⟨rfl, hM.none_⟩

theorem impl_FactorBounds_any (v_p0 : Value) (p0 : List (List Int)) (W : World) (hr_p0 : RdM W v_p0 p0) {r : Int × Int × Bool} (hm : impl_FactorBounds_m p0 = some r) : Calls Try.prog 37 [v_p0].toArray W fun e w => ∃ v, e = .returned v ∧ v = .tuple #[.int .i64 r.1, .int .i64 r.2.1, .bool r.2.2] ∧ Mem W w [] := by
  refine x_enter Try.func37 rfl Try.ntmps37 rfl ?_
  intro a hs
  have hM := Mem.start W
  unfold impl_FactorBounds_m at hm
  refine wp_seq ?_
  refine wp_region_lit ?_
  refine wl hs (y_assign hs rfl) rfl ?_; intro a hs
  refine wl hs (y_assign hs rfl) rfl ?_; intro a hs
  refine wl hs (y_assign hs rfl) rfl ?_; intro a hs
  refine wpList_nil ?_
  refine x_nt ?_
  refine wp_seq ?_
  refine wp_seq ?_
  refine wp_region_lit ?_
  refine wl hs (y_move hs rfl) rfl ?_; intro a hs
  obtain ⟨y1, h2, hm⟩ := bindE hm
  refine wcall is_59 hs rfl rfl (impl_isMatrix_any v_p0 p0 _ (RdM.below hr_p0 hM.bel) h2) ?_; rintro a _ w hs ⟨rfl, hX⟩
  have hM : Mem W w [] := hM.call hX
  refine wl hs (y_not hs rfl) rfl ?_; intro a hs
  refine wpList_nil ?_
  refine x_nt ?_
  refine x_cond hs rfl (fun hb => ?_) (fun hb => ?_)
  · replace hm := condT hb hm
    refine wp_seq ?_
    refine wp_region_lit ?_
    refine wl hs (y_assign hs rfl) rfl ?_; intro a hs
    refine wl hs (y_assign hs rfl) rfl ?_; intro a hs
    refine wl hs (y_assign hs rfl) rfl ?_; intro a hs
    refine wpList_nil ?_
    refine x_nt ?_
    refine wp_ret ?_
    refine x_rt ?_
    have hm : some (0, 0, false) = some r := hm
    obtain rfl := Option.some.inj hm
    refine x_ret3 rfl hs rfl rfl rfl ⟨_, rfl, ?_⟩
    exact ⟨rfl, hM⟩
  · replace hm := condF hb hm
    refine wp_skip ?_
    refine x_nt ?_
    refine wp_seq ?_
    refine wp_region_lit ?_
    refine wl hs (y_move hs rfl) rfl ?_; intro a hs
    obtain ⟨y3, h4, hm⟩ := bindE hm
    refine wcall is_79 hs rfl rfl (impl_tropicalRank_any v_p0 p0 _ (RdM.below hr_p0 hM.bel) h4) ?_; rintro a _ w hs ⟨rfl, hX⟩
    have hM : Mem W w [] := hM.call hX
    refine wl hs (y_move hs rfl) rfl ?_; intro a hs
    obtain ⟨y5, h6, hm⟩ := bindE hm
    refine wcall is_73 hs rfl rfl (impl_columnClasses_any v_p0 p0 _ (RdM.below hr_p0 hM.bel) h6) ?_; rintro a v7 w hs ⟨vs9, hX⟩
    have hM : Mem W w [aMat 24 3 v7 vs9 y5] := hM.call hX
    refine wl hs (y_len hu_M hs rfl (hM.rdM 0 rfl)) rfl ?_; intro a hs
    refine wl hs (y_move hs rfl) rfl ?_; intro a hs
    obtain ⟨y10, h11, hm⟩ := bindE hm
    refine wcall is_62 hs rfl rfl (impl_transposed_any v_p0 p0 _ (RdM.below hr_p0 hM.bel) h11) ?_; rintro a v12 w hs ⟨vs14, hX⟩
    have hM : Mem W w [aMat 24 3 v12 vs14 y10, aMat 24 3 v7 vs9 y5] := hM.call hX
    obtain ⟨y15, h16, hm⟩ := bindE hm
    refine wcall is_73 hs rfl rfl (impl_columnClasses_any v12 y10 _ (hM.rdM 0 rfl) h16) ?_; rintro a v17 w hs ⟨vs19, hX⟩
    have hM : Mem W w [aMat 24 3 v17 vs19 y15, aMat 24 3 v12 vs14 y10, aMat 24 3 v7 vs9 y5] := hM.call hX
    refine wl hs (y_len hu_M hs rfl (hM.rdM 0 rfl)) rfl ?_; intro a hs
    refine wl hs (y_min hs rfl rfl) rfl ?_; intro a hs
    refine wl hs (y_assign hs rfl) rfl ?_; intro a hs
    refine wl hs (y_assign hs rfl) rfl ?_; intro a hs
    refine wl hs (y_assign hs rfl) rfl ?_; intro a hs
    refine wpList_nil ?_
    refine x_nt ?_
    refine wp_ret ?_
    have hm : some (y3, min (y5.length : Int) (y15.length : Int), true) = some r := hm
    obtain rfl := Option.some.inj hm
    refine x_ret3 rfl hs rfl rfl rfl ⟨_, rfl, ?_⟩
    exact ⟨rfl, hM.none_⟩

end Go.Proofs.Ytaagklbiebogfaa
