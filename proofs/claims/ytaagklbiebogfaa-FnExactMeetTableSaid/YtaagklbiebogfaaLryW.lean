/- The code of this unit computes what its mirrors say. Written by program (wip/gen). -/
import Derived.Test.YtaagklbiebogfaaFacts
import Derived.Test.YtaagklbiebogfaaLryM
namespace Go.Proofs.Ytaagklbiebogfaa
open Go.RowKit
set_option linter.unusedVariables false

theorem laws_toRay_any (p0_0 : Int) (p0_1 : Int) (p0_2 : Int) (W : World)  {r : Int × Int × Int} (hm : laws_toRay_m p0_0 p0_1 p0_2 = some r) : Calls Try.prog 87 [.agg #[.int .i64 p0_0, .int .i64 p0_1, .int .i64 p0_2]].toArray W fun e w => ∃ v, e = .returned v ∧ v = .agg #[.int .i64 r.1, .int .i64 r.2.1, .int .i64 r.2.2] ∧ Mem W w [] := by
  refine x_enter Try.func87 rfl Try.ntmps87 rfl ?_
  intro a hs
  have hM := Mem.start W
  unfold laws_toRay_m at hm
  refine wp_seq ?_
  refine wp_region_lit ?_
  refine wmem hs (x_boxS (cs := [.int .i64 p0_0, .int .i64 p0_1, .int .i64 p0_2]) hs rfl hM) rfl ?_; rintro a _ w hs ⟨g2, rfl, hM⟩
  have hM : Mem W w [aBlk g2 84 [.int .i64 p0_0, .int .i64 p0_1, .int .i64 p0_2]] := hM
  refine wmem hs (x_allocS sT_82 hM) rfl ?_; rintro a _ w hs ⟨g4, rfl, hM⟩
  have hM : Mem W w [aBlk g4 82 [.int .i64 0, .int .i64 0, .int .i64 0], aBlk g2 84 [.int .i64 p0_0, .int .i64 p0_1, .int .i64 p0_2]] := hM
  refine wpList_nil ?_
  refine x_nt ?_
  refine wp_seq ?_
  refine wp_region_lit ?_
  refine wmem hs (x_allocS sT_82 hM) rfl ?_; rintro a _ w hs ⟨g6, rfl, hM⟩
  have hM : Mem W w [aBlk g6 82 [.int .i64 0, .int .i64 0, .int .i64 0], aBlk g4 82 [.int .i64 0, .int .i64 0, .int .i64 0], aBlk g2 84 [.int .i64 p0_0, .int .i64 p0_1, .int .i64 p0_2]] := hM
  refine wpList_nil ?_
  refine x_nt ?_
  refine wp_seq ?_
  refine wp_region_lit ?_
  refine wl hs (y_fieldAddr sT_84 hs rfl rfl) rfl ?_; intro a hs
  refine wl hs (y_load sc_int hs rfl (hM.cellBlk 2 rfl 0 rfl)) rfl ?_; intro a hs
  refine wl hs (y_fieldAddr sT_82 hs rfl rfl) rfl ?_; intro a hs
  refine wstore hs rfl rfl (x_storeF he_int rfl rfl (hM.front 0 rfl)) ?_; intro w hM
  have hM : Mem W w [aBlk g6 82 [.int .i64 p0_0, .int .i64 0, .int .i64 0], aBlk g4 82 [.int .i64 0, .int .i64 0, .int .i64 0], aBlk g2 84 [.int .i64 p0_0, .int .i64 p0_1, .int .i64 p0_2]] := hM
  refine wpList_nil ?_
  refine x_nt ?_
  refine wp_seq ?_
  refine wp_region_lit ?_
  refine wl hs (y_fieldAddr sT_84 hs rfl rfl) rfl ?_; intro a hs
  refine wl hs (y_load sc_int hs rfl (hM.cellBlk 2 rfl 1 rfl)) rfl ?_; intro a hs
  refine wl hs (y_fieldAddr sT_82 hs rfl rfl) rfl ?_; intro a hs
  refine wstore hs rfl rfl (x_storeF he_int rfl rfl (hM.front 0 rfl)) ?_; intro w hM
  have hM : Mem W w [aBlk g6 82 [.int .i64 p0_0, .int .i64 p0_1, .int .i64 0], aBlk g4 82 [.int .i64 0, .int .i64 0, .int .i64 0], aBlk g2 84 [.int .i64 p0_0, .int .i64 p0_1, .int .i64 p0_2]] := hM
  refine wpList_nil ?_
  refine x_nt ?_
  refine wp_seq ?_
  refine wp_region_lit ?_
  refine wl hs (y_fieldAddr sT_84 hs rfl rfl) rfl ?_; intro a hs
  refine wl hs (y_load sc_int hs rfl (hM.cellBlk 2 rfl 2 rfl)) rfl ?_; intro a hs
  refine wl hs (y_fieldAddr sT_82 hs rfl rfl) rfl ?_; intro a hs
  refine wstore hs rfl rfl (x_storeF he_int rfl rfl (hM.front 0 rfl)) ?_; intro w hM
  have hM : Mem W w [aBlk g6 82 [.int .i64 p0_0, .int .i64 p0_1, .int .i64 p0_2], aBlk g4 82 [.int .i64 0, .int .i64 0, .int .i64 0], aBlk g2 84 [.int .i64 p0_0, .int .i64 p0_1, .int .i64 p0_2]] := hM
  refine wpList_nil ?_
  refine x_nt ?_
  refine wp_seq ?_
  refine wp_region_lit ?_
  refine wl hs (y_loadS (cs := [.int .i64 p0_0, .int .i64 p0_1, .int .i64 p0_2]) sT_82 hs rfl (hM.heapBlk 0 rfl) rfl) rfl ?_; intro a hs
  refine wstore hs rfl rfl (x_storeS (cs := [.int .i64 0, .int .i64 0, .int .i64 0]) (us := [.int .i64 p0_0, .int .i64 p0_1, .int .i64 p0_2]) sT_82 ⟨rfl, rfl, rfl, trivial⟩ rfl rfl (hM.front 1 rfl)) ?_; intro w hM
  have hM : Mem W w [aBlk g4 82 [.int .i64 p0_0, .int .i64 p0_1, .int .i64 p0_2], aBlk g6 82 [.int .i64 p0_0, .int .i64 p0_1, .int .i64 p0_2], aBlk g2 84 [.int .i64 p0_0, .int .i64 p0_1, .int .i64 p0_2]] := hM
  refine wpList_nil ?_
  refine x_nt ?_
  refine wp_ret ?_
  have hm : some (p0_0, p0_1, p0_2) = some r := hm
  obtain rfl := Option.some.inj hm
  refine x_retR (rs := [.cell 2 82]) (vs := [.agg #[.int .i64 p0_0, .int .i64 p0_1, .int .i64 p0_2]]) rfl hs ⟨⟨_, rfl, loadS (cs := [.int .i64 p0_0, .int .i64 p0_1, .int .i64 p0_2]) sT_82 (hM.heapBlk 0 rfl) rfl⟩, trivial⟩ ⟨_, rfl, ?_⟩
  exact ⟨rfl, hM.none_⟩

theorem laws_toRayS_any (v_p0 : Value) (p0 : List Y3) (W : World) (hr_p0 : RdY W v_p0 p0) {r : List Y3} (hm : laws_toRayS_m p0 = some r) : Calls Try.prog 42 [v_p0].toArray W fun e w => ∃ v, e = .returned v ∧ Mem W w [aYs 82 v r] := by
  refine x_enter Try.func42 rfl Try.ntmps42 rfl ?_
  intro a hs
  have hM := Mem.start W
  unfold laws_toRayS_m at hm
  refine wp_seq ?_
  refine wp_region_lit ?_
  refine wl hs (y_assign hs rfl) rfl ?_; intro a hs
  refine wpList_nil ?_
  refine x_nt ?_
  refine wp_seq ?_
  refine wp_region_lit ?_
  refine wl hs (y_move hs rfl) rfl ?_; intro a hs
  refine wl hs (y_lenY hY_48 hs rfl (RdY.below hr_p0 hM.bel)) rfl ?_; intro a hs
  obtain ⟨_, h3, hm⟩ := bindE hm
  refine wmem hs (x_makeY hY_51 hs rfl hM h3) rfl ?_; intro a v2 w hs hM
  have hM : Mem W w [aYs 82 v2 (List.replicate ((p0.length : Int)).toNat ((0, 0, 0) : Y3))] := hM
  refine wl hs (y_assign hs rfl) rfl ?_; intro a hs
  refine wpList_nil ?_
  refine x_nt ?_
  refine wp_seq ?_
  refine wp_seq ?_
  refine wp_region_lit ?_
  refine wl hs (y_assign hs rfl) rfl ?_; intro a hs
  refine wpList_nil ?_
  refine x_nt ?_
  obtain ⟨s7, hm, hk8⟩ := bindE hm
  refine x_mid (fun a w => ∃ (l6 : List Y3), l6 = s7 ∧ Fr a 23 [(3, v2)] ∧ Mem W w [aYs 82 v2 l6]) ?_ ?_
  · refine wp_block ?_
    refine x_loop (fun k a w => ∃ (l4 : List Y3) (n5 : Int) , Fr a 23 [(0, v_p0), (3, v2), (4, .int .i64 n5)] ∧ Mem W w [aYs 82 v2 l4] ∧ laws_toRayS_l1 p0 k l4 n5 = some s7) 4000000 ⟨(List.replicate ((p0.length : Int)).toNat ((0, 0, 0) : Y3)), 0, hs.sub ⟨rfl, rfl, rfl, trivial⟩, hM, hm⟩ ?_
    rintro k a w ⟨l4, n5, hs, hM, hm⟩
    rcases k with _ | k
    · rewrite [laws_toRayS_l1] at hm; cases hm
    rewrite [laws_toRayS_l1] at hm
    refine wp_seq ?_
    refine wp_seq ?_
    refine wp_region_lit ?_
    refine wl hs (y_move hs rfl) rfl ?_; intro a hs
    refine wl hs (y_move hs rfl) rfl ?_; intro a hs
    refine wl hs (y_lenY hY_48 hs rfl (RdY.below hr_p0 hM.bel)) rfl ?_; intro a hs
    refine wl hs (y_lss hs rfl rfl) rfl ?_; intro a hs
    refine wpList_nil ?_
    refine x_nt ?_
    refine x_cond hs rfl (fun hb => ?_) (fun hb => ?_)
    · replace hm := condT hb hm
      refine wp_skip ?_
      refine x_nt ?_
      refine wp_seq ?_
      refine wp_block ?_
      refine wp_region_lit ?_
      refine wl hs (y_move hs rfl) rfl ?_; intro a hs
      refine wl hs (y_move hs rfl) rfl ?_; intro a hs
      refine wl hs (y_move hs rfl) rfl ?_; intro a hs
      refine wl hs (y_move hs rfl) rfl ?_; intro a hs
      obtain ⟨x10, hx11, hm⟩ := bindE hm
      have he12 := RdY.at_ (RdY.below hr_p0 hM.bel) hx11
      refine wl hs (y_indexY hY_48 hs rfl rfl he12) rfl ?_; intro a hs
      refine wl hs (y_loadY sT_84 rfl hs rfl he12) rfl ?_; intro a hs
      obtain ⟨y13, h14, hm⟩ := bindE hm
      refine wcall is_87 hs rfl rfl (laws_toRay_any x10.1 x10.2.1 x10.2.2 _  h14) ?_; rintro a _ w hs ⟨rfl, hX⟩
      have hM : Mem W w [aYs 82 v2 l4] := hM.call hX
      obtain ⟨x15, hx16, hm⟩ := bindE hm
      have he17 := RdY.at_ (hM.rdY 0 rfl) hx16
      refine wl hs (y_indexY hY_51 hs rfl rfl he17) rfl ?_; intro a hs
      obtain ⟨l18, h19, hm⟩ := bindE hm
      refine wstore hs rfl rfl (x_storeY sT_82 rfl (hM.front 0 rfl) h19) ?_; intro w hM
      have hM : Mem W w [aYs 82 v2 l18] := hM
      refine wpList_nil ?_
      refine x_nb ?_
      refine x_nt ?_
      refine wp_region_lit ?_
      refine wl hs (y_move hs rfl) rfl ?_; intro a hs
      obtain ⟨n20, h21, hm⟩ := bindE hm
      refine wl hs (y_add hs rfl rfl h21) rfl ?_; intro a hs
      refine wl hs (y_assign hs rfl) rfl ?_; intro a hs
      refine wpList_nil ?_
      exact ⟨k, Nat.lt_succ_self _, l18, n20, hs.sub ⟨rfl, rfl, rfl, trivial⟩, hM, hm⟩
    · replace hm := condF hb hm
      refine wp_exit ?_
      refine x_et ?_
      refine x_et ?_
      refine x_eb ?_
      have hm : some l4 = some s7 := hm
      exact ⟨l4, Option.some.inj hm, hs.sub ⟨rfl, trivial⟩, hM⟩
  rintro a w ⟨l6, rfl, hs, hM⟩
  have hm := hk8
  refine x_nt ?_
  refine wp_seq ?_
  refine wp_region_lit ?_
  refine wl hs (y_move hs rfl) rfl ?_; intro a hs
  refine wl hs (y_assign hs rfl) rfl ?_; intro a hs
  refine wpList_nil ?_
  refine x_nt ?_
  refine wp_ret ?_
  have hm : some l6 = some r := hm
  obtain rfl := Option.some.inj hm
  refine x_ret1 rfl hs rfl ⟨_, rfl, ?_⟩
  exact hM

theorem laws_szRayS_any (v_p0 : Value) (p0 : List Y3) (p1 : Int) (W : World) (hr_p0 : RdY W v_p0 p0) {r : Int} (hm : laws_szRayS_m p0 p1 = some r) : Calls Try.prog 40 [v_p0, .int .i64 p1].toArray W fun e w => ∃ v, e = .returned v ∧ v = .int .i64 r ∧ Mem W w [] := by
  refine x_enter Try.func40 rfl Try.ntmps40 rfl ?_
  intro a hs
  have hM := Mem.start W
  unfold laws_szRayS_m at hm
  refine wp_seq ?_
  refine wp_region_lit ?_
  refine wl hs (y_assign hs rfl) rfl ?_; intro a hs
  refine wpList_nil ?_
  refine x_nt ?_
  refine wp_seq ?_
  refine wp_region_lit ?_
  refine wl hs (y_move hs rfl) rfl ?_; intro a hs
  refine wl hs (y_move hs rfl) rfl ?_; intro a hs
  refine wl hs (y_lenY hY_48 hs rfl (RdY.below hr_p0 hM.bel)) rfl ?_; intro a hs
  obtain ⟨n1, h2, hm⟩ := bindE hm
  refine wl hs (y_sub hs rfl rfl h2) rfl ?_; intro a hs
  refine wl hs (y_assign hs rfl) rfl ?_; intro a hs
  refine wpList_nil ?_
  refine x_nt ?_
  refine wp_seq ?_
  refine wp_seq ?_
  refine wp_region_lit ?_
  refine wl hs (y_move hs rfl) rfl ?_; intro a hs
  refine wl hs (y_lss hs rfl rfl) rfl ?_; intro a hs
  refine wpList_nil ?_
  refine x_nt ?_
  refine x_cond hs rfl (fun hb => ?_) (fun hb => ?_)
  · replace hm := condT hb hm
    refine wp_seq ?_
    refine wp_region_lit ?_
    refine wl hs (y_assign hs rfl) rfl ?_; intro a hs
    refine wpList_nil ?_
    refine x_nt ?_
    refine wp_ret ?_
    refine x_rt ?_
    have hm : some (-1) = some r := hm
    obtain rfl := Option.some.inj hm
    refine x_ret1 rfl hs rfl ⟨_, rfl, ?_⟩
    exact ⟨rfl, hM⟩
  · replace hm := condF hb hm
    refine wp_skip ?_
    refine x_nt ?_
    refine wp_seq ?_
    refine wp_region_lit ?_
    refine wl hs (y_move hs rfl) rfl ?_; intro a hs
    refine wl hs (y_assign hs rfl) rfl ?_; intro a hs
    refine wpList_nil ?_
    refine x_nt ?_
    refine wp_ret ?_
    have hm : some n1 = some r := hm
    obtain rfl := Option.some.inj hm
    refine x_ret1 rfl hs rfl ⟨_, rfl, ?_⟩
    exact ⟨rfl, hM⟩

theorem laws_eqRay_any (p0_0 : Int) (p0_1 : Int) (p0_2 : Int) (p1_0 : Int) (p1_1 : Int) (p1_2 : Int) (W : World)  {r : Bool} (hm : laws_eqRay_m p0_0 p0_1 p0_2 p1_0 p1_1 p1_2 = some r) : Calls Try.prog 89 [.agg #[.int .i64 p0_0, .int .i64 p0_1, .int .i64 p0_2], .agg #[.int .i64 p1_0, .int .i64 p1_1, .int .i64 p1_2]].toArray W fun e w => ∃ v, e = .returned v ∧ v = .bool r ∧ Mem W w [] := by
  refine x_enter Try.func89 rfl Try.ntmps89 rfl ?_
  intro a hs
  have hM := Mem.start W
  unfold laws_eqRay_m at hm
  refine wp_seq ?_
  refine wp_region_lit ?_
  refine wmem hs (x_boxS (cs := [.int .i64 p0_0, .int .i64 p0_1, .int .i64 p0_2]) hs rfl hM) rfl ?_; rintro a _ w hs ⟨g2, rfl, hM⟩
  have hM : Mem W w [aBlk g2 82 [.int .i64 p0_0, .int .i64 p0_1, .int .i64 p0_2]] := hM
  refine wmem hs (x_boxS (cs := [.int .i64 p1_0, .int .i64 p1_1, .int .i64 p1_2]) hs rfl hM) rfl ?_; rintro a _ w hs ⟨g4, rfl, hM⟩
  have hM : Mem W w [aBlk g4 82 [.int .i64 p1_0, .int .i64 p1_1, .int .i64 p1_2], aBlk g2 82 [.int .i64 p0_0, .int .i64 p0_1, .int .i64 p0_2]] := hM
  refine wl hs (y_assign hs rfl) rfl ?_; intro a hs
  refine wpList_nil ?_
  refine x_nt ?_
  refine wp_seq ?_
  refine wp_seq ?_
  refine wp_region_lit ?_
  refine wl hs (y_fieldAddr sT_82 hs rfl rfl) rfl ?_; intro a hs
  refine wl hs (y_load sc_int hs rfl (hM.cellBlk 1 rfl 0 rfl)) rfl ?_; intro a hs
  refine wl hs (y_fieldAddr sT_82 hs rfl rfl) rfl ?_; intro a hs
  refine wl hs (y_load sc_int hs rfl (hM.cellBlk 0 rfl 0 rfl)) rfl ?_; intro a hs
  refine wl hs (y_neq hs rfl rfl) rfl ?_; intro a hs
  refine wpList_nil ?_
  refine x_nt ?_
  refine x_cond hs rfl (fun hb => ?_) (fun hb => ?_)
  · replace hm := condT hb hm
    refine wp_seq ?_
    refine wp_region_lit ?_
    refine wl hs (y_assign hs rfl) rfl ?_; intro a hs
    refine wpList_nil ?_
    refine x_nt ?_
    refine wp_ret ?_
    refine x_rt ?_
    have hm : some false = some r := hm
    obtain rfl := Option.some.inj hm
    refine x_ret1 rfl hs rfl ⟨_, rfl, ?_⟩
    exact ⟨rfl, hM.none_⟩
  · replace hm := condF hb hm
    refine wp_skip ?_
    refine x_nt ?_
    refine wp_seq ?_
    refine wp_seq ?_
    refine wp_region_lit ?_
    refine wl hs (y_fieldAddr sT_82 hs rfl rfl) rfl ?_; intro a hs
    refine wl hs (y_load sc_int hs rfl (hM.cellBlk 1 rfl 1 rfl)) rfl ?_; intro a hs
    refine wl hs (y_fieldAddr sT_82 hs rfl rfl) rfl ?_; intro a hs
    refine wl hs (y_load sc_int hs rfl (hM.cellBlk 0 rfl 1 rfl)) rfl ?_; intro a hs
    refine wl hs (y_neq hs rfl rfl) rfl ?_; intro a hs
    refine wpList_nil ?_
    refine x_nt ?_
    refine x_cond hs rfl (fun hb => ?_) (fun hb => ?_)
    · replace hm := condT hb hm
      refine wp_seq ?_
      refine wp_region_lit ?_
      refine wl hs (y_assign hs rfl) rfl ?_; intro a hs
      refine wpList_nil ?_
      refine x_nt ?_
      refine wp_ret ?_
      refine x_rt ?_
      have hm : some false = some r := hm
      obtain rfl := Option.some.inj hm
      refine x_ret1 rfl hs rfl ⟨_, rfl, ?_⟩
      exact ⟨rfl, hM.none_⟩
    · replace hm := condF hb hm
      refine wp_skip ?_
      refine x_nt ?_
      refine wp_seq ?_
      refine wp_seq ?_
      refine wp_region_lit ?_
      refine wl hs (y_fieldAddr sT_82 hs rfl rfl) rfl ?_; intro a hs
      refine wl hs (y_load sc_int hs rfl (hM.cellBlk 1 rfl 2 rfl)) rfl ?_; intro a hs
      refine wl hs (y_fieldAddr sT_82 hs rfl rfl) rfl ?_; intro a hs
      refine wl hs (y_load sc_int hs rfl (hM.cellBlk 0 rfl 2 rfl)) rfl ?_; intro a hs
      refine wl hs (y_neq hs rfl rfl) rfl ?_; intro a hs
      refine wpList_nil ?_
      refine x_nt ?_
      refine x_cond hs rfl (fun hb => ?_) (fun hb => ?_)
      · replace hm := condT hb hm
        refine wp_seq ?_
        refine wp_region_lit ?_
        refine wl hs (y_assign hs rfl) rfl ?_; intro a hs
        refine wpList_nil ?_
        refine x_nt ?_
        refine wp_ret ?_
        refine x_rt ?_
        have hm : some false = some r := hm
        obtain rfl := Option.some.inj hm
        refine x_ret1 rfl hs rfl ⟨_, rfl, ?_⟩
        exact ⟨rfl, hM.none_⟩
      · replace hm := condF hb hm
        refine wp_skip ?_
        refine x_nt ?_
        refine wp_seq ?_
        refine wp_region_lit ?_
        refine wl hs (y_assign hs rfl) rfl ?_; intro a hs
        refine wpList_nil ?_
        refine x_nt ?_
        refine wp_ret ?_
        have hm : some true = some r := hm
        obtain rfl := Option.some.inj hm
        refine x_ret1 rfl hs rfl ⟨_, rfl, ?_⟩
        exact ⟨rfl, hM.none_⟩

theorem laws_eqRayS_any (v_p0 : Value) (p0 : List Y3) (v_p1 : Value) (p1 : List Y3) (W : World) (hr_p0 : RdY W v_p0 p0) (hr_p1 : RdY W v_p1 p1) {r : Bool} (hm : laws_eqRayS_m p0 p1 = some r) : Calls Try.prog 44 [v_p0, v_p1].toArray W fun e w => ∃ v, e = .returned v ∧ v = .bool r ∧ Mem W w [] := by
  refine x_enter Try.func44 rfl Try.ntmps44 rfl ?_
  intro a hs
  have hM := Mem.start W
  unfold laws_eqRayS_m at hm
  refine wp_seq ?_
  refine wp_region_lit ?_
  refine wl hs (y_assign hs rfl) rfl ?_; intro a hs
  refine wpList_nil ?_
  refine x_nt ?_
  refine wp_seq ?_
  refine wp_seq ?_
  refine wp_region_lit ?_
  refine wl hs (y_move hs rfl) rfl ?_; intro a hs
  refine wl hs (y_lenY hY_51 hs rfl (RdY.below hr_p0 hM.bel)) rfl ?_; intro a hs
  refine wl hs (y_move hs rfl) rfl ?_; intro a hs
  refine wl hs (y_lenY hY_51 hs rfl (RdY.below hr_p1 hM.bel)) rfl ?_; intro a hs
  refine wl hs (y_neq hs rfl rfl) rfl ?_; intro a hs
  refine wpList_nil ?_
  refine x_nt ?_
  refine x_cond hs rfl (fun hb => ?_) (fun hb => ?_)
  · replace hm := condT hb hm
    refine wp_seq ?_
    refine wp_region_lit ?_
    refine wl hs (y_assign hs rfl) rfl ?_; intro a hs
    refine wpList_nil ?_
    refine x_nt ?_
    refine wp_ret ?_
    refine x_rt ?_
    have hm : some false = some r := hm
    obtain rfl := Option.some.inj hm
    refine x_ret1 rfl hs rfl ⟨_, rfl, ?_⟩
    exact ⟨rfl, hM⟩
  · replace hm := condF hb hm
    refine wp_skip ?_
    refine x_nt ?_
    refine wp_seq ?_
    refine wp_seq ?_
    refine wp_region_lit ?_
    refine wl hs (y_assign hs rfl) rfl ?_; intro a hs
    refine wpList_nil ?_
    refine x_nt ?_
    obtain ⟨s2, hm, hk3⟩ := bindE hm
    refine x_mid (fun a w => Sum.inr () = s2 ∧ Fr a 27 [] ∧ Mem W w []) ?_ ?_
    · refine wp_block ?_
      refine x_loop (fun k a w => ∃ (n1 : Int) , Fr a 27 [(0, v_p0), (1, v_p1), (5, .int .i64 n1)] ∧ Mem W w [] ∧ laws_eqRayS_l1 p0 p1 k n1 = some s2) 4000000 ⟨0, hs.sub ⟨rfl, rfl, rfl, trivial⟩, hM, hm⟩ ?_
      rintro k a w ⟨n1, hs, hM, hm⟩
      rcases k with _ | k
      · rewrite [laws_eqRayS_l1] at hm; cases hm
      rewrite [laws_eqRayS_l1] at hm
      refine wp_seq ?_
      refine wp_seq ?_
      refine wp_region_lit ?_
      refine wl hs (y_move hs rfl) rfl ?_; intro a hs
      refine wl hs (y_move hs rfl) rfl ?_; intro a hs
      refine wl hs (y_lenY hY_51 hs rfl (RdY.below hr_p0 hM.bel)) rfl ?_; intro a hs
      refine wl hs (y_lss hs rfl rfl) rfl ?_; intro a hs
      refine wpList_nil ?_
      refine x_nt ?_
      refine x_cond hs rfl (fun hb => ?_) (fun hb => ?_)
      · replace hm := condT hb hm
        refine wp_skip ?_
        refine x_nt ?_
        refine wp_seq ?_
        refine wp_block ?_
        refine wp_seq ?_
        refine x_regq hmix (by kernel_rfl) ?_
        refine wq hs (fun w1 hw1 => y_move hs rfl) rfl ?_; intro a hs
        refine wq hs (fun w1 hw1 => y_move hs rfl) rfl ?_; intro a hs
        obtain ⟨x5, hx6, hm⟩ := bindE hm
        have he7 := RdY.at_ (RdY.below hr_p0 hM.bel) hx6
        refine wq hs (fun w1 hw1 => y_indexY hY_51 hs rfl rfl (he7.below hw1)) rfl ?_; intro a hs
        refine wq hs (fun w1 hw1 => y_loadY sT_82 rfl hs rfl (he7.below hw1)) rfl ?_; intro a hs
        refine wq hs (fun w1 hw1 => y_move hs rfl) rfl ?_; intro a hs
        refine wq hs (fun w1 hw1 => y_move hs rfl) rfl ?_; intro a hs
        obtain ⟨x8, hx9, hm⟩ := bindE hm
        have he10 := RdY.at_ (RdY.below hr_p1 hM.bel) hx9
        refine wq hs (fun w1 hw1 => y_indexY hY_51 hs rfl rfl (he10.below hw1)) rfl ?_; intro a hs
        refine wq hs (fun w1 hw1 => y_loadY sT_82 rfl hs rfl (he10.below hw1)) rfl ?_; intro a hs
        obtain ⟨y11, h12, hm⟩ := bindE hm
        refine qcall (v := .bool y11) is_89 hs rfl rfl (fun w1 hw1 => q_of hw1 (laws_eqRay_any x5.1 x5.2.1 x5.2.2 x8.1 x8.2.1 x8.2.2 w1  h12)) ?_; intro a hs
        refine wq hs (fun w1 hw1 => y_not hs rfl) rfl ?_; intro a hs
        refine wpQuiet_nil ?_
        intro w hw
        replace hM := hM.quiet hw
        refine x_nt ?_
        refine x_cond hs rfl (fun hb => ?_) (fun hb => ?_)
        · replace hm := condT hb hm
          refine wp_seq ?_
          refine wp_region_lit ?_
          refine wl hs (y_assign hs rfl) rfl ?_; intro a hs
          refine wpList_nil ?_
          refine x_nt ?_
          refine wp_ret ?_
          refine x_rb ?_
          refine x_rt ?_
          refine x_rt ?_
          refine x_rb ?_
          refine x_rt ?_
          refine x_rt ?_
          have hm : some (Sum.inl false) = some s2 := hm
          cases Option.some.inj hm
          have hm := hk3
          have hm : some false = some r := hm
          obtain rfl := Option.some.inj hm
          refine x_ret1 rfl hs rfl ⟨_, rfl, ?_⟩
          exact ⟨rfl, hM⟩
        · replace hm := condF hb hm
          refine wp_skip ?_
          refine x_nb ?_
          refine x_nt ?_
          refine wp_region_lit ?_
          refine wl hs (y_move hs rfl) rfl ?_; intro a hs
          obtain ⟨n13, h14, hm⟩ := bindE hm
          refine wl hs (y_add hs rfl rfl h14) rfl ?_; intro a hs
          refine wl hs (y_assign hs rfl) rfl ?_; intro a hs
          refine wpList_nil ?_
          exact ⟨k, Nat.lt_succ_self _, n13, hs.sub ⟨rfl, rfl, rfl, trivial⟩, hM, hm⟩
      · replace hm := condF hb hm
        refine wp_exit ?_
        refine x_et ?_
        refine x_et ?_
        refine x_eb ?_
        have hm : some (Sum.inr ()) = some s2 := hm
        exact ⟨Option.some.inj hm, hs.sub trivial, hM⟩
    rintro a w ⟨rfl, hs, hM⟩
    have hm := hk3
    refine x_nt ?_
    refine wp_seq ?_
    refine wp_region_lit ?_
    refine wl hs (y_assign hs rfl) rfl ?_; intro a hs
    refine wpList_nil ?_
    refine x_nt ?_
    refine wp_ret ?_
    have hm : some true = some r := hm
    obtain rfl := Option.some.inj hm
    refine x_ret1 rfl hs rfl ⟨_, rfl, ?_⟩
    exact ⟨rfl, hM⟩

theorem laws_markRayS_any (v_p0 : Value) (p0 : List Y3)  (p1 : Int) (W w : World) (As : List Atom)  (hM : Mem W w (aYs 82 v_p0 p0 :: As)) {r : Int × (List Y3)} (hm : laws_markRayS_m p0 p1 = some r) : Calls Try.prog 49 [v_p0, .int .i64 p1].toArray w fun e w' => ∃ v, e = .returned v ∧ v = .int .i64 r.1 ∧ Mem W w' (aYs 82 v_p0 r.2 :: As) := by
  refine x_enter Try.func49 rfl Try.ntmps49 rfl ?_
  intro a hs
  unfold laws_markRayS_m at hm
  refine wp_seq ?_
  refine wp_region_lit ?_
  refine wl hs (y_assign hs rfl) rfl ?_; intro a hs
  refine wpList_nil ?_
  refine x_nt ?_
  refine wp_seq ?_
  refine wp_seq ?_
  refine wp_region_lit ?_
  refine wl hs (y_assign hs rfl) rfl ?_; intro a hs
  refine wpList_nil ?_
  refine x_nt ?_
  obtain ⟨s6, hm, hk7⟩ := bindE hm
  refine x_mid (fun a w => ∃ (l4 : List Y3), ∃ (n5 : Int), (l4, n5) = s6 ∧ Fr a 34 [(1, .int .i64 n5)] ∧ Mem W w (aYs 82 v_p0 l4 :: As)) ?_ ?_
  · refine wp_block ?_
    refine x_loop (fun k a w => ∃ (l1 : List Y3) (n2 : Int) (n3 : Int) , Fr a 34 [(0, v_p0), (1, .int .i64 n2), (5, .int .i64 n3)] ∧ Mem W w (aYs 82 v_p0 l1 :: As) ∧ laws_markRayS_l1 k l1 n2 n3 = some s6) 4000000 ⟨p0, p1, 0, hs.sub ⟨rfl, rfl, rfl, trivial⟩, hM, hm⟩ ?_
    rintro k a w ⟨l1, n2, n3, hs, hM, hm⟩
    rcases k with _ | k
    · rewrite [laws_markRayS_l1] at hm; cases hm
    rewrite [laws_markRayS_l1] at hm
    refine wp_seq ?_
    refine wp_seq ?_
    refine wp_region_lit ?_
    refine wl hs (y_move hs rfl) rfl ?_; intro a hs
    refine wl hs (y_move hs rfl) rfl ?_; intro a hs
    refine wl hs (y_lenY hY_51 hs rfl (hM.rdY 0 rfl)) rfl ?_; intro a hs
    refine wl hs (y_lss hs rfl rfl) rfl ?_; intro a hs
    refine wpList_nil ?_
    refine x_nt ?_
    refine x_cond hs rfl (fun hb => ?_) (fun hb => ?_)
    · replace hm := condT hb hm
      refine wp_skip ?_
      refine x_nt ?_
      refine wp_seq ?_
      refine wp_block ?_
      refine wp_seq ?_
      refine wp_region_lit ?_
      refine wl hs (y_move hs rfl) rfl ?_; intro a hs
      refine wl hs (y_move hs rfl) rfl ?_; intro a hs
      refine wl hs (y_move hs rfl) rfl ?_; intro a hs
      obtain ⟨x9, hx10, hm⟩ := bindE hm
      have he11 := RdY.at_ (hM.rdY 0 rfl) hx10
      refine wl hs (y_indexY hY_51 hs rfl rfl he11) rfl ?_; intro a hs
      refine wl hs (y_fieldAddrY sT_82 rfl rfl hs rfl he11) rfl ?_; intro a hs
      obtain ⟨l12, h13, hm⟩ := bindE hm
      refine wstore hs rfl rfl (x_storeYF he_int rfl hx10 (hM.front 0 rfl) h13) ?_; intro w hM
      have hM : Mem W w (aYs 82 v_p0 l12 :: As) := hM
      refine wpList_nil ?_
      refine x_nt ?_
      refine wp_seq ?_
      refine wp_region_lit ?_
      refine wl hs (y_move hs rfl) rfl ?_; intro a hs
      obtain ⟨n14, h15, hm⟩ := bindE hm
      refine wl hs (y_add hs rfl rfl h15) rfl ?_; intro a hs
      refine wl hs (y_assign hs rfl) rfl ?_; intro a hs
      refine wpList_nil ?_
      refine x_nt ?_
      refine wp_seq ?_
      refine wp_region_lit ?_
      refine wl hs (y_move hs rfl) rfl ?_; intro a hs
      refine wl hs (y_move hs rfl) rfl ?_; intro a hs
      refine wl hs (y_move hs rfl) rfl ?_; intro a hs
      obtain ⟨x16, hx17, hm⟩ := bindE hm
      have he18 := RdY.at_ (hM.rdY 0 rfl) hx17
      refine wl hs (y_indexY hY_51 hs rfl rfl he18) rfl ?_; intro a hs
      refine wl hs (y_fieldAddrY sT_82 rfl rfl hs rfl he18) rfl ?_; intro a hs
      obtain ⟨l19, h20, hm⟩ := bindE hm
      refine wstore hs rfl rfl (x_storeYF he_int rfl hx17 (hM.front 0 rfl) h20) ?_; intro w hM
      have hM : Mem W w (aYs 82 v_p0 l19 :: As) := hM
      refine wpList_nil ?_
      refine x_nt ?_
      refine wp_seq ?_
      refine wp_region_lit ?_
      refine wl hs (y_move hs rfl) rfl ?_; intro a hs
      obtain ⟨n21, h22, hm⟩ := bindE hm
      refine wl hs (y_add hs rfl rfl h22) rfl ?_; intro a hs
      refine wl hs (y_assign hs rfl) rfl ?_; intro a hs
      refine wpList_nil ?_
      refine x_nt ?_
      refine wp_seq ?_
      refine wp_region_lit ?_
      refine wl hs (y_move hs rfl) rfl ?_; intro a hs
      refine wl hs (y_move hs rfl) rfl ?_; intro a hs
      refine wl hs (y_move hs rfl) rfl ?_; intro a hs
      obtain ⟨x23, hx24, hm⟩ := bindE hm
      have he25 := RdY.at_ (hM.rdY 0 rfl) hx24
      refine wl hs (y_indexY hY_51 hs rfl rfl he25) rfl ?_; intro a hs
      refine wl hs (y_fieldAddrY sT_82 rfl rfl hs rfl he25) rfl ?_; intro a hs
      obtain ⟨l26, h27, hm⟩ := bindE hm
      refine wstore hs rfl rfl (x_storeYF he_int rfl hx24 (hM.front 0 rfl) h27) ?_; intro w hM
      have hM : Mem W w (aYs 82 v_p0 l26 :: As) := hM
      refine wpList_nil ?_
      refine x_nt ?_
      refine wp_region_lit ?_
      refine wl hs (y_move hs rfl) rfl ?_; intro a hs
      obtain ⟨n28, h29, hm⟩ := bindE hm
      refine wl hs (y_add hs rfl rfl h29) rfl ?_; intro a hs
      refine wl hs (y_assign hs rfl) rfl ?_; intro a hs
      refine wpList_nil ?_
      refine x_nb ?_
      refine x_nt ?_
      refine wp_region_lit ?_
      refine wl hs (y_move hs rfl) rfl ?_; intro a hs
      obtain ⟨n30, h31, hm⟩ := bindE hm
      refine wl hs (y_add hs rfl rfl h31) rfl ?_; intro a hs
      refine wl hs (y_assign hs rfl) rfl ?_; intro a hs
      refine wpList_nil ?_
      exact ⟨k, Nat.lt_succ_self _, l26, n28, n30, hs.sub ⟨rfl, rfl, rfl, trivial⟩, hM, hm⟩
    · replace hm := condF hb hm
      refine wp_exit ?_
      refine x_et ?_
      refine x_et ?_
      refine x_eb ?_
      have hm : some (l1, n2) = some s6 := hm
      exact ⟨l1, n2, Option.some.inj hm, hs.sub ⟨rfl, trivial⟩, hM⟩
  rintro a w ⟨l4, n5, rfl, hs, hM⟩
  have hm := hk7
  refine x_nt ?_
  refine wp_seq ?_
  refine wp_region_lit ?_
  refine wl hs (y_move hs rfl) rfl ?_; intro a hs
  refine wl hs (y_assign hs rfl) rfl ?_; intro a hs
  refine wpList_nil ?_
  refine x_nt ?_
  refine wp_ret ?_
  have hm : some (n5, l4) = some r := hm
  obtain rfl := Option.some.inj hm
  refine x_ret1 rfl hs rfl ⟨_, rfl, ?_⟩
  exact ⟨rfl, hM⟩

theorem laws_szRaySS_any (v_p0 : Value) (p0 : List (List Y3)) (p1 : Int) (W : World) (hr_p0 : RdYY W v_p0 p0) {r : Int} (hm : laws_szRaySS_m p0 p1 = some r) : Calls Try.prog 50 [v_p0, .int .i64 p1].toArray W fun e w => ∃ v, e = .returned v ∧ v = .int .i64 r ∧ Mem W w [] := by
  refine x_enter Try.func50 rfl Try.ntmps50 rfl ?_
  intro a hs
  have hM := Mem.start W
  unfold laws_szRaySS_m at hm
  refine wp_seq ?_
  refine wp_region_lit ?_
  refine wl hs (y_assign hs rfl) rfl ?_; intro a hs
  refine wpList_nil ?_
  refine x_nt ?_
  refine wp_seq ?_
  refine wp_region_lit ?_
  refine wl hs (y_move hs rfl) rfl ?_; intro a hs
  refine wl hs (y_move hs rfl) rfl ?_; intro a hs
  refine wl hs (y_len hu_58 hs rfl (RdYY.below hr_p0 hM.bel)) rfl ?_; intro a hs
  obtain ⟨n1, h2, hm⟩ := bindE hm
  refine wl hs (y_sub hs rfl rfl h2) rfl ?_; intro a hs
  refine wl hs (y_assign hs rfl) rfl ?_; intro a hs
  refine wpList_nil ?_
  refine x_nt ?_
  refine wp_seq ?_
  refine wp_seq ?_
  refine wp_region_lit ?_
  refine wl hs (y_move hs rfl) rfl ?_; intro a hs
  refine wl hs (y_lss hs rfl rfl) rfl ?_; intro a hs
  refine wpList_nil ?_
  refine x_nt ?_
  refine x_cond hs rfl (fun hb => ?_) (fun hb => ?_)
  · replace hm := condT hb hm
    refine wp_seq ?_
    refine wp_region_lit ?_
    refine wl hs (y_assign hs rfl) rfl ?_; intro a hs
    refine wpList_nil ?_
    refine x_nt ?_
    refine wp_ret ?_
    refine x_rt ?_
    have hm : some (-1) = some r := hm
    obtain rfl := Option.some.inj hm
    refine x_ret1 rfl hs rfl ⟨_, rfl, ?_⟩
    exact ⟨rfl, hM⟩
  · replace hm := condF hb hm
    refine wp_skip ?_
    refine x_nt ?_
    refine wp_seq ?_
    refine wp_seq ?_
    refine wp_region_lit ?_
    refine wl hs (y_assign hs rfl) rfl ?_; intro a hs
    refine wpList_nil ?_
    refine x_nt ?_
    obtain ⟨s6, hm, hk7⟩ := bindE hm
    refine x_mid (fun a w => ∃ (n5 : Int), Sum.inr n5 = s6 ∧ Fr a 27 [(1, .int .i64 n5)] ∧ Mem W w []) ?_ ?_
    · refine wp_block ?_
      refine x_loop (fun k a w => ∃ (n3 : Int) (n4 : Int) , Fr a 27 [(0, v_p0), (1, .int .i64 n3), (5, .int .i64 n4)] ∧ Mem W w [] ∧ laws_szRaySS_l1 p0 k n3 n4 = some s6) 4000000 ⟨n1, 0, hs.sub ⟨rfl, rfl, rfl, trivial⟩, hM, hm⟩ ?_
      rintro k a w ⟨n3, n4, hs, hM, hm⟩
      rcases k with _ | k
      · rewrite [laws_szRaySS_l1] at hm; cases hm
      rewrite [laws_szRaySS_l1] at hm
      refine wp_seq ?_
      refine wp_seq ?_
      refine wp_region_lit ?_
      refine wl hs (y_move hs rfl) rfl ?_; intro a hs
      refine wl hs (y_move hs rfl) rfl ?_; intro a hs
      refine wl hs (y_len hu_58 hs rfl (RdYY.below hr_p0 hM.bel)) rfl ?_; intro a hs
      refine wl hs (y_lss hs rfl rfl) rfl ?_; intro a hs
      refine wpList_nil ?_
      refine x_nt ?_
      refine x_cond hs rfl (fun hb => ?_) (fun hb => ?_)
      · replace hm := condT hb hm
        refine wp_skip ?_
        refine x_nt ?_
        refine wp_seq ?_
        refine wp_block ?_
        refine wp_seq ?_
        refine wp_region_lit ?_
        refine wl hs (y_move hs rfl) rfl ?_; intro a hs
        refine wl hs (y_move hs rfl) rfl ?_; intro a hs
        obtain ⟨x9, hx10, hm⟩ := bindE hm
        obtain ⟨u12, he11, hr13⟩ := RdYY.at_ hr_p0 hx10
        replace he11 := he11.below hM.bel
        refine wl hs (y_index ht_58 hs rfl rfl he11) rfl ?_; intro a hs
        refine wl hs (y_load sc_48 hs rfl he11.cell) rfl ?_; intro a hs
        refine wl hs (y_move hs rfl) rfl ?_; intro a hs
        obtain ⟨y14, h15, hm⟩ := bindE hm
        refine wcall is_40 hs rfl rfl (laws_szRayS_any u12 x9 n3 _ (RdY.below hr13 hM.bel) h15) ?_; rintro a _ w hs ⟨rfl, hX⟩
        have hM : Mem W w [] := hM.call hX
        refine wl hs (y_assign hs rfl) rfl ?_; intro a hs
        refine wpList_nil ?_
        refine x_nt ?_
        refine wp_seq ?_
        refine wp_region_lit ?_
        refine wl hs (y_move hs rfl) rfl ?_; intro a hs
        refine wl hs (y_lss hs rfl rfl) rfl ?_; intro a hs
        refine wpList_nil ?_
        refine x_nt ?_
        refine x_cond hs rfl (fun hb => ?_) (fun hb => ?_)
        · replace hm := condT hb hm
          refine wp_seq ?_
          refine wp_region_lit ?_
          refine wl hs (y_assign hs rfl) rfl ?_; intro a hs
          refine wpList_nil ?_
          refine x_nt ?_
          refine wp_ret ?_
          refine x_rb ?_
          refine x_rt ?_
          refine x_rt ?_
          refine x_rb ?_
          refine x_rt ?_
          refine x_rt ?_
          have hm : some (Sum.inl (-1)) = some s6 := hm
          cases Option.some.inj hm
          have hm := hk7
          have hm : some (-1) = some r := hm
          obtain rfl := Option.some.inj hm
          refine x_ret1 rfl hs rfl ⟨_, rfl, ?_⟩
          exact ⟨rfl, hM⟩
        · replace hm := condF hb hm
          refine wp_skip ?_
          refine x_nb ?_
          refine x_nt ?_
          refine wp_region_lit ?_
          refine wl hs (y_move hs rfl) rfl ?_; intro a hs
          obtain ⟨n16, h17, hm⟩ := bindE hm
          refine wl hs (y_add hs rfl rfl h17) rfl ?_; intro a hs
          refine wl hs (y_assign hs rfl) rfl ?_; intro a hs
          refine wpList_nil ?_
          exact ⟨k, Nat.lt_succ_self _, y14, n16, hs.sub ⟨rfl, rfl, rfl, trivial⟩, hM, hm⟩
      · replace hm := condF hb hm
        refine wp_exit ?_
        refine x_et ?_
        refine x_et ?_
        refine x_eb ?_
        have hm : some (Sum.inr n3) = some s6 := hm
        exact ⟨n3, Option.some.inj hm, hs.sub ⟨rfl, trivial⟩, hM⟩
    rintro a w ⟨n5, rfl, hs, hM⟩
    have hm := hk7
    refine x_nt ?_
    refine wp_seq ?_
    refine wp_region_lit ?_
    refine wl hs (y_move hs rfl) rfl ?_; intro a hs
    refine wl hs (y_assign hs rfl) rfl ?_; intro a hs
    refine wpList_nil ?_
    refine x_nt ?_
    refine wp_ret ?_
    have hm : some n5 = some r := hm
    obtain rfl := Option.some.inj hm
    refine x_ret1 rfl hs rfl ⟨_, rfl, ?_⟩
    exact ⟨rfl, hM⟩

theorem laws_toRaySS_any (v_p0 : Value) (p0 : List (List Y3)) (W : World) (hr_p0 : RdYY W v_p0 p0) {r : List (List Y3)} (hm : laws_toRaySS_m p0 = some r) : Calls Try.prog 52 [v_p0].toArray W fun e w => ∃ v, e = .returned v ∧ ∃ vs0, Mem W w [aMatY 51 82 v vs0 r] := by
  refine x_enter Try.func52 rfl Try.ntmps52 rfl ?_
  intro a hs
  have hM := Mem.start W
  unfold laws_toRaySS_m at hm
  refine wp_seq ?_
  refine wp_region_lit ?_
  refine wl hs (y_assign hs rfl) rfl ?_; intro a hs
  refine wpList_nil ?_
  refine x_nt ?_
  refine wp_seq ?_
  refine wp_region_lit ?_
  refine wl hs (y_move hs rfl) rfl ?_; intro a hs
  refine wl hs (y_len hu_58 hs rfl (RdYY.below hr_p0 hM.bel)) rfl ?_; intro a hs
  obtain ⟨_, h3, hm⟩ := bindE hm
  refine wmem hs (x_makeYY (ti := 82) hu_61 he_51 hs rfl hM h3) rfl ?_; intro a v2 w hs hM
  have hM : Mem W w [aMatY 51 82 v2 (List.replicate ((p0.length : Int)).toNat (.slice none 0 0)) (List.replicate ((p0.length : Int)).toNat ([] : List Y3))] := hM
  refine wl hs (y_assign hs rfl) rfl ?_; intro a hs
  refine wpList_nil ?_
  refine x_nt ?_
  refine wp_seq ?_
  refine wp_seq ?_
  refine wp_region_lit ?_
  refine wl hs (y_assign hs rfl) rfl ?_; intro a hs
  refine wpList_nil ?_
  refine x_nt ?_
  obtain ⟨s9, hm, hk10⟩ := bindE hm
  refine x_mid (fun a w => ∃ (vs7 : List Value), ∃ (l8 : List (List Y3)), l8 = s9 ∧ Fr a 23 [(3, v2)] ∧ Mem W w [aMatY 51 82 v2 vs7 l8]) ?_ ?_
  · refine wp_block ?_
    refine x_loop (fun k a w => ∃ (vs4 : List Value) (l5 : List (List Y3)) (n6 : Int) , Fr a 23 [(0, v_p0), (3, v2), (4, .int .i64 n6)] ∧ Mem W w [aMatY 51 82 v2 vs4 l5] ∧ laws_toRaySS_l1 p0 k l5 n6 = some s9) 4000000 ⟨(List.replicate ((p0.length : Int)).toNat (.slice none 0 0)), (List.replicate ((p0.length : Int)).toNat ([] : List Y3)), 0, hs.sub ⟨rfl, rfl, rfl, trivial⟩, hM, hm⟩ ?_
    rintro k a w ⟨vs4, l5, n6, hs, hM, hm⟩
    rcases k with _ | k
    · rewrite [laws_toRaySS_l1] at hm; cases hm
    rewrite [laws_toRaySS_l1] at hm
    refine wp_seq ?_
    refine wp_seq ?_
    refine wp_region_lit ?_
    refine wl hs (y_move hs rfl) rfl ?_; intro a hs
    refine wl hs (y_move hs rfl) rfl ?_; intro a hs
    refine wl hs (y_len hu_58 hs rfl (RdYY.below hr_p0 hM.bel)) rfl ?_; intro a hs
    refine wl hs (y_lss hs rfl rfl) rfl ?_; intro a hs
    refine wpList_nil ?_
    refine x_nt ?_
    refine x_cond hs rfl (fun hb => ?_) (fun hb => ?_)
    · replace hm := condT hb hm
      refine wp_skip ?_
      refine x_nt ?_
      refine wp_seq ?_
      refine wp_block ?_
      refine wp_region_lit ?_
      refine wl hs (y_move hs rfl) rfl ?_; intro a hs
      refine wl hs (y_move hs rfl) rfl ?_; intro a hs
      refine wl hs (y_move hs rfl) rfl ?_; intro a hs
      refine wl hs (y_move hs rfl) rfl ?_; intro a hs
      obtain ⟨x12, hx13, hm⟩ := bindE hm
      obtain ⟨u15, he14, hr16⟩ := RdYY.at_ hr_p0 hx13
      replace he14 := he14.below hM.bel
      refine wl hs (y_index ht_58 hs rfl rfl he14) rfl ?_; intro a hs
      refine wl hs (y_load sc_48 hs rfl he14.cell) rfl ?_; intro a hs
      obtain ⟨y17, h18, hm⟩ := bindE hm
      refine wcall is_42 hs rfl rfl (laws_toRayS_any u15 x12 _ (RdY.below hr16 hM.bel) h18) ?_; rintro a v19 w hs hX
      have hM : Mem W w [aYs 82 v19 y17, aMatY 51 82 v2 vs4 l5] := hM.call hX
      obtain ⟨x21, hx22, hm⟩ := bindE hm
      obtain ⟨u24, hv25, he23⟩ := hM.atYY 1 rfl hx22
      refine wl hs (y_index ht_61 hs rfl rfl he23) rfl ?_; intro a hs
      obtain ⟨l26, h27, hm⟩ := bindE hm
      refine wstore hs rfl rfl (x_storeYR he_51 (hM.front 1 rfl) h27) ?_; intro w hM
      have hM : Mem W w [aMatY 51 82 v2 (vs4.set (n6).toNat v19) l26] := hM
      refine wpList_nil ?_
      refine x_nb ?_
      refine x_nt ?_
      refine wp_region_lit ?_
      refine wl hs (y_move hs rfl) rfl ?_; intro a hs
      obtain ⟨n28, h29, hm⟩ := bindE hm
      refine wl hs (y_add hs rfl rfl h29) rfl ?_; intro a hs
      refine wl hs (y_assign hs rfl) rfl ?_; intro a hs
      refine wpList_nil ?_
      exact ⟨k, Nat.lt_succ_self _, (vs4.set (n6).toNat v19), l26, n28, hs.sub ⟨rfl, rfl, rfl, trivial⟩, hM, hm⟩
    · replace hm := condF hb hm
      refine wp_exit ?_
      refine x_et ?_
      refine x_et ?_
      refine x_eb ?_
      have hm : some l5 = some s9 := hm
      exact ⟨vs4, l5, Option.some.inj hm, hs.sub ⟨rfl, trivial⟩, hM⟩
  rintro a w ⟨vs7, l8, rfl, hs, hM⟩
  have hm := hk10
  refine x_nt ?_
  refine wp_seq ?_
  refine wp_region_lit ?_
  refine wl hs (y_move hs rfl) rfl ?_; intro a hs
  refine wl hs (y_assign hs rfl) rfl ?_; intro a hs
  refine wpList_nil ?_
  refine x_nt ?_
  refine wp_ret ?_
  have hm : some l8 = some r := hm
  obtain rfl := Option.some.inj hm
  refine x_ret1 rfl hs rfl ⟨_, rfl, ?_⟩
  exact ⟨_, hM⟩

theorem laws_eqRaySS_any (v_p0 : Value) (p0 : List (List Y3)) (v_p1 : Value) (p1 : List (List Y3)) (W : World) (hr_p0 : RdYY W v_p0 p0) (hr_p1 : RdYY W v_p1 p1) {r : Bool} (hm : laws_eqRaySS_m p0 p1 = some r) : Calls Try.prog 54 [v_p0, v_p1].toArray W fun e w => ∃ v, e = .returned v ∧ v = .bool r ∧ Mem W w [] := by
  refine x_enter Try.func54 rfl Try.ntmps54 rfl ?_
  intro a hs
  have hM := Mem.start W
  unfold laws_eqRaySS_m at hm
  refine wp_seq ?_
  refine wp_region_lit ?_
  refine wl hs (y_assign hs rfl) rfl ?_; intro a hs
  refine wpList_nil ?_
  refine x_nt ?_
  refine wp_seq ?_
  refine wp_seq ?_
  refine wp_region_lit ?_
  refine wl hs (y_move hs rfl) rfl ?_; intro a hs
  refine wl hs (y_len hu_61 hs rfl (RdYY.below hr_p0 hM.bel)) rfl ?_; intro a hs
  refine wl hs (y_move hs rfl) rfl ?_; intro a hs
  refine wl hs (y_len hu_61 hs rfl (RdYY.below hr_p1 hM.bel)) rfl ?_; intro a hs
  refine wl hs (y_neq hs rfl rfl) rfl ?_; intro a hs
  refine wpList_nil ?_
  refine x_nt ?_
  refine x_cond hs rfl (fun hb => ?_) (fun hb => ?_)
  · replace hm := condT hb hm
    refine wp_seq ?_
    refine wp_region_lit ?_
    refine wl hs (y_assign hs rfl) rfl ?_; intro a hs
    refine wpList_nil ?_
    refine x_nt ?_
    refine wp_ret ?_
    refine x_rt ?_
    have hm : some false = some r := hm
    obtain rfl := Option.some.inj hm
    refine x_ret1 rfl hs rfl ⟨_, rfl, ?_⟩
    exact ⟨rfl, hM⟩
  · replace hm := condF hb hm
    refine wp_skip ?_
    refine x_nt ?_
    refine wp_seq ?_
    refine wp_seq ?_
    refine wp_region_lit ?_
    refine wl hs (y_assign hs rfl) rfl ?_; intro a hs
    refine wpList_nil ?_
    refine x_nt ?_
    obtain ⟨s2, hm, hk3⟩ := bindE hm
    refine x_mid (fun a w => Sum.inr () = s2 ∧ Fr a 27 [] ∧ Mem W w []) ?_ ?_
    · refine wp_block ?_
      refine x_loop (fun k a w => ∃ (n1 : Int) , Fr a 27 [(0, v_p0), (1, v_p1), (5, .int .i64 n1)] ∧ Mem W w [] ∧ laws_eqRaySS_l1 p0 p1 k n1 = some s2) 4000000 ⟨0, hs.sub ⟨rfl, rfl, rfl, trivial⟩, hM, hm⟩ ?_
      rintro k a w ⟨n1, hs, hM, hm⟩
      rcases k with _ | k
      · rewrite [laws_eqRaySS_l1] at hm; cases hm
      rewrite [laws_eqRaySS_l1] at hm
      refine wp_seq ?_
      refine wp_seq ?_
      refine wp_region_lit ?_
      refine wl hs (y_move hs rfl) rfl ?_; intro a hs
      refine wl hs (y_move hs rfl) rfl ?_; intro a hs
      refine wl hs (y_len hu_61 hs rfl (RdYY.below hr_p0 hM.bel)) rfl ?_; intro a hs
      refine wl hs (y_lss hs rfl rfl) rfl ?_; intro a hs
      refine wpList_nil ?_
      refine x_nt ?_
      refine x_cond hs rfl (fun hb => ?_) (fun hb => ?_)
      · replace hm := condT hb hm
        refine wp_skip ?_
        refine x_nt ?_
        refine wp_seq ?_
        refine wp_block ?_
        refine wp_seq ?_
        refine x_regq hmix (by kernel_rfl) ?_
        refine wq hs (fun w1 hw1 => y_move hs rfl) rfl ?_; intro a hs
        refine wq hs (fun w1 hw1 => y_move hs rfl) rfl ?_; intro a hs
        obtain ⟨x5, hx6, hm⟩ := bindE hm
        obtain ⟨u8, he7, hr9⟩ := RdYY.at_ hr_p0 hx6
        replace he7 := he7.below hM.bel
        refine wq hs (fun w1 hw1 => y_index ht_61 hs rfl rfl (he7.below hw1)) rfl ?_; intro a hs
        refine wq hs (fun w1 hw1 => y_load sc_51 hs rfl (he7.below hw1).cell) rfl ?_; intro a hs
        refine wq hs (fun w1 hw1 => y_move hs rfl) rfl ?_; intro a hs
        refine wq hs (fun w1 hw1 => y_move hs rfl) rfl ?_; intro a hs
        obtain ⟨x10, hx11, hm⟩ := bindE hm
        obtain ⟨u13, he12, hr14⟩ := RdYY.at_ hr_p1 hx11
        replace he12 := he12.below hM.bel
        refine wq hs (fun w1 hw1 => y_index ht_61 hs rfl rfl (he12.below hw1)) rfl ?_; intro a hs
        refine wq hs (fun w1 hw1 => y_load sc_51 hs rfl (he12.below hw1).cell) rfl ?_; intro a hs
        obtain ⟨y15, h16, hm⟩ := bindE hm
        refine qcall (v := .bool y15) is_44 hs rfl rfl (fun w1 hw1 => q_of hw1 (laws_eqRayS_any u8 x5 u13 x10 w1 (RdY.below hr9 (hM.quiet hw1).bel) (RdY.below hr14 (hM.quiet hw1).bel) h16)) ?_; intro a hs
        refine wq hs (fun w1 hw1 => y_not hs rfl) rfl ?_; intro a hs
        refine wpQuiet_nil ?_
        intro w hw
        replace hM := hM.quiet hw
        refine x_nt ?_
        refine x_cond hs rfl (fun hb => ?_) (fun hb => ?_)
        · replace hm := condT hb hm
          refine wp_seq ?_
          refine wp_region_lit ?_
          refine wl hs (y_assign hs rfl) rfl ?_; intro a hs
          refine wpList_nil ?_
          refine x_nt ?_
          refine wp_ret ?_
          refine x_rb ?_
          refine x_rt ?_
          refine x_rt ?_
          refine x_rb ?_
          refine x_rt ?_
          refine x_rt ?_
          have hm : some (Sum.inl false) = some s2 := hm
          cases Option.some.inj hm
          have hm := hk3
          have hm : some false = some r := hm
          obtain rfl := Option.some.inj hm
          refine x_ret1 rfl hs rfl ⟨_, rfl, ?_⟩
          exact ⟨rfl, hM⟩
        · replace hm := condF hb hm
          refine wp_skip ?_
          refine x_nb ?_
          refine x_nt ?_
          refine wp_region_lit ?_
          refine wl hs (y_move hs rfl) rfl ?_; intro a hs
          obtain ⟨n17, h18, hm⟩ := bindE hm
          refine wl hs (y_add hs rfl rfl h18) rfl ?_; intro a hs
          refine wl hs (y_assign hs rfl) rfl ?_; intro a hs
          refine wpList_nil ?_
          exact ⟨k, Nat.lt_succ_self _, n17, hs.sub ⟨rfl, rfl, rfl, trivial⟩, hM, hm⟩
      · replace hm := condF hb hm
        refine wp_exit ?_
        refine x_et ?_
        refine x_et ?_
        refine x_eb ?_
        have hm : some (Sum.inr ()) = some s2 := hm
        exact ⟨Option.some.inj hm, hs.sub trivial, hM⟩
    rintro a w ⟨rfl, hs, hM⟩
    have hm := hk3
    refine x_nt ?_
    refine wp_seq ?_
    refine wp_region_lit ?_
    refine wl hs (y_assign hs rfl) rfl ?_; intro a hs
    refine wpList_nil ?_
    refine x_nt ?_
    refine wp_ret ?_
    have hm : some true = some r := hm
    obtain rfl := Option.some.inj hm
    refine x_ret1 rfl hs rfl ⟨_, rfl, ?_⟩
    exact ⟨rfl, hM⟩

theorem laws_markRaySS_any (v_p0 : Value) (p0 : List (List Y3)) (vs_p0 : List Value)  (p1 : Int) (W w : World) (As : List Atom)  (hM : Mem W w (aMatY 51 82 v_p0 vs_p0 p0 :: As)) {r : Int × (List (List Y3))} (hm : laws_markRaySS_m p0 p1 = some r) : Calls Try.prog 55 [v_p0, .int .i64 p1].toArray w fun e w' => ∃ v, e = .returned v ∧ ∃ vs0, v = .int .i64 r.1 ∧ Mem W w' (aMatY 51 82 v_p0 vs0 r.2 :: As) := by
  refine x_enter Try.func55 rfl Try.ntmps55 rfl ?_
  intro a hs
  unfold laws_markRaySS_m at hm
  refine wp_seq ?_
  refine wp_region_lit ?_
  refine wl hs (y_assign hs rfl) rfl ?_; intro a hs
  refine wpList_nil ?_
  refine x_nt ?_
  refine wp_seq ?_
  refine wp_seq ?_
  refine wp_region_lit ?_
  refine wl hs (y_assign hs rfl) rfl ?_; intro a hs
  refine wpList_nil ?_
  refine x_nt ?_
  obtain ⟨s6, hm, hk7⟩ := bindE hm
  refine x_mid (fun a w => ∃ (l4 : List (List Y3)), ∃ (n5 : Int), (l4, n5) = s6 ∧ Fr a 19 [(1, .int .i64 n5)] ∧ Mem W w (aMatY 51 82 v_p0 vs_p0 l4 :: As)) ?_ ?_
  · refine wp_block ?_
    refine x_loop (fun k a w => ∃ (l1 : List (List Y3)) (n2 : Int) (n3 : Int) , Fr a 19 [(0, v_p0), (1, .int .i64 n2), (5, .int .i64 n3)] ∧ Mem W w (aMatY 51 82 v_p0 vs_p0 l1 :: As) ∧ laws_markRaySS_l1 k l1 n2 n3 = some s6) 4000000 ⟨p0, p1, 0, hs.sub ⟨rfl, rfl, rfl, trivial⟩, hM, hm⟩ ?_
    rintro k a w ⟨l1, n2, n3, hs, hM, hm⟩
    rcases k with _ | k
    · rewrite [laws_markRaySS_l1] at hm; cases hm
    rewrite [laws_markRaySS_l1] at hm
    refine wp_seq ?_
    refine wp_seq ?_
    refine wp_region_lit ?_
    refine wl hs (y_move hs rfl) rfl ?_; intro a hs
    refine wl hs (y_move hs rfl) rfl ?_; intro a hs
    refine wl hs (y_len hu_61 hs rfl (hM.rdYY 0 rfl)) rfl ?_; intro a hs
    refine wl hs (y_lss hs rfl rfl) rfl ?_; intro a hs
    refine wpList_nil ?_
    refine x_nt ?_
    refine x_cond hs rfl (fun hb => ?_) (fun hb => ?_)
    · replace hm := condT hb hm
      refine wp_skip ?_
      refine x_nt ?_
      refine wp_seq ?_
      refine wp_block ?_
      refine wp_region_lit ?_
      refine wl hs (y_move hs rfl) rfl ?_; intro a hs
      refine wl hs (y_move hs rfl) rfl ?_; intro a hs
      obtain ⟨x9, hx10, hm⟩ := bindE hm
      obtain ⟨u12, hv13, he11⟩ := hM.atYY 0 rfl hx10
      refine wl hs (y_index ht_61 hs rfl rfl he11) rfl ?_; intro a hs
      refine wl hs (y_load sc_51 hs rfl he11.cell) rfl ?_; intro a hs
      refine wl hs (y_move hs rfl) rfl ?_; intro a hs
      have hM : Mem W w (aYs 82 u12 x9 :: aMatYO 51 82 v_p0 vs_p0 l1 (setO (fun _ => false) (n3).toNat) :: As) := (hM).takeY rfl hv13 ((idx_spec hx10).2.2)
      obtain ⟨y15, h16, hm⟩ := bindE hm
      refine wcall is_49 hs rfl rfl (laws_markRayS_any u12 x9 n2 _ _ _  hM h16) ?_; rintro a _ w hs ⟨rfl, hM⟩
      have hM : Mem W w (aYs 82 u12 y15.2 :: aMatYO 51 82 v_p0 vs_p0 l1 (setO (fun _ => false) (n3).toNat) :: As) := hM
      have hM : Mem W w (aMatY 51 82 v_p0 vs_p0 (l1.set (n3).toNat y15.2) :: As) := hM.putY rfl hv13
      refine wl hs (y_assign hs rfl) rfl ?_; intro a hs
      refine wpList_nil ?_
      refine x_nb ?_
      refine x_nt ?_
      refine wp_region_lit ?_
      refine wl hs (y_move hs rfl) rfl ?_; intro a hs
      obtain ⟨n17, h18, hm⟩ := bindE hm
      refine wl hs (y_add hs rfl rfl h18) rfl ?_; intro a hs
      refine wl hs (y_assign hs rfl) rfl ?_; intro a hs
      refine wpList_nil ?_
      exact ⟨k, Nat.lt_succ_self _, (l1.set (n3).toNat y15.2), y15.1, n17, hs.sub ⟨rfl, rfl, rfl, trivial⟩, hM, hm⟩
    · replace hm := condF hb hm
      refine wp_exit ?_
      refine x_et ?_
      refine x_et ?_
      refine x_eb ?_
      have hm : some (l1, n2) = some s6 := hm
      exact ⟨l1, n2, Option.some.inj hm, hs.sub ⟨rfl, trivial⟩, hM⟩
  rintro a w ⟨l4, n5, rfl, hs, hM⟩
  have hm := hk7
  refine x_nt ?_
  refine wp_seq ?_
  refine wp_region_lit ?_
  refine wl hs (y_move hs rfl) rfl ?_; intro a hs
  refine wl hs (y_assign hs rfl) rfl ?_; intro a hs
  refine wpList_nil ?_
  refine x_nt ?_
  refine wp_ret ?_
  have hm : some (n5, l4) = some r := hm
  obtain rfl := Option.some.inj hm
  refine x_ret1 rfl hs rfl ⟨_, rfl, ?_⟩
  exact ⟨_, rfl, hM⟩

end Go.Proofs.Ytaagklbiebogfaa
