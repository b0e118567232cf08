/- The code of this unit computes what its mirrors say. Written by program (wip/gen). -/
import Derived.Test.YtaagklbiebogfaaFacts
import Derived.Test.YtaagklbiebogfaaRay1M
import Derived.Test.YtaagklbiebogfaaNumW
import Derived.Test.YtaagklbiebogfaaFracW
namespace Go.Proofs.Ytaagklbiebogfaa
open Go.RowKit
set_option linter.unusedVariables false

theorem spec_stCommon_any (p0 : Int) (p1 : Int) (W : World)  {r : Int} (hm : spec_stCommon_m p0 p1 = some r) : Calls Try.prog 159 [.int .i64 p0, .int .i64 p1].toArray W fun e w => ∃ v, e = .returned v ∧ v = .int .i64 r ∧ Mem W w [] := by
  refine x_enter Try.func159 rfl Try.ntmps159 rfl ?_
  intro a hs
  have hM := Mem.start W
  unfold spec_stCommon_m at hm
  refine wp_seq ?_
  refine wp_region_lit ?_
  refine wl hs (y_assign hs rfl) rfl ?_; intro a hs
  refine wpList_nil ?_
  refine x_nt ?_
  refine wp_seq ?_
  obtain ⟨s4, hm, hk5⟩ := bindE hm
  refine x_mid (fun a w => ∃ (n3 : Int), n3 = s4 ∧ Fr a 14 [(0, .int .i64 n3)] ∧ Mem W w []) ?_ ?_
  · refine wp_block ?_
    refine x_loop (fun k a w => ∃ (n1 : Int) (n2 : Int) , Fr a 14 [(0, .int .i64 n1), (1, .int .i64 n2)] ∧ Mem W w [] ∧ spec_stCommon_l1 k n1 n2 = some s4) 4000000 ⟨p0, p1, hs.sub ⟨rfl, rfl, trivial⟩, hM, hm⟩ ?_
    rintro k a w ⟨n1, n2, hs, hM, hm⟩
    rcases k with _ | k
    · rewrite [spec_stCommon_l1] at hm; cases hm
    rewrite [spec_stCommon_l1] at hm
    refine wp_seq ?_
    refine wp_seq ?_
    refine wp_region_lit ?_
    refine wl hs (y_move hs rfl) rfl ?_; intro a hs
    refine wl hs (y_gtr hs rfl rfl) rfl ?_; intro a hs
    refine wpList_nil ?_
    refine x_nt ?_
    refine x_cond hs rfl (fun hb => ?_) (fun hb => ?_)
    · replace hm := condT hb hm
      refine wp_skip ?_
      refine x_nt ?_
      refine wp_block ?_
      refine wp_seq ?_
      refine wp_region_lit ?_
      refine wl hs (y_move hs rfl) rfl ?_; intro a hs
      refine wl hs (y_move hs rfl) rfl ?_; intro a hs
      obtain ⟨n7, h8, hm⟩ := bindE hm
      refine wl hs (y_rem hs rfl rfl h8) rfl ?_; intro a hs
      refine wl hs (y_assign hs rfl) rfl ?_; intro a hs
      refine wpList_nil ?_
      refine x_nt ?_
      refine wp_seq ?_
      refine wp_region_lit ?_
      refine wl hs (y_move hs rfl) rfl ?_; intro a hs
      refine wl hs (y_assign hs rfl) rfl ?_; intro a hs
      refine wpList_nil ?_
      refine x_nt ?_
      refine wp_region_lit ?_
      refine wl hs (y_move hs rfl) rfl ?_; intro a hs
      refine wl hs (y_assign hs rfl) rfl ?_; intro a hs
      refine wpList_nil ?_
      refine x_nb ?_
      exact ⟨k, Nat.lt_succ_self _, n2, n7, hs.sub ⟨rfl, rfl, trivial⟩, hM, hm⟩
    · replace hm := condF hb hm
      refine wp_exit ?_
      refine x_et ?_
      refine x_et ?_
      refine x_eb ?_
      have hm : some n1 = some s4 := hm
      exact ⟨n1, Option.some.inj hm, hs.sub ⟨rfl, trivial⟩, hM⟩
  rintro a w ⟨n3, rfl, hs, hM⟩
  have hm := hk5
  refine x_nt ?_
  refine wp_seq ?_
  refine wp_region_lit ?_
  refine wl hs (y_move hs rfl) rfl ?_; intro a hs
  refine wl hs (y_assign hs rfl) rfl ?_; intro a hs
  refine wpList_nil ?_
  refine x_nt ?_
  refine wp_ret ?_
  have hm : some n3 = some r := hm
  obtain rfl := Option.some.inj hm
  refine x_ret1 rfl hs rfl ⟨_, rfl, ?_⟩
  exact ⟨rfl, hM⟩

theorem spec_stRay_any (p0_0 : Int) (p0_1 : Int) (p0_2 : Int) (W : World)  {r : Bool} (hm : spec_stRay_m p0_0 p0_1 p0_2 = some r) : Calls Try.prog 145 [.agg #[.int .i64 p0_0, .int .i64 p0_1, .int .i64 p0_2]].toArray W fun e w => ∃ v, e = .returned v ∧ v = .bool r ∧ Mem W w [] := by
  refine x_enter Try.func145 rfl Try.ntmps145 rfl ?_
  intro a hs
  have hM := Mem.start W
  unfold spec_stRay_m at hm
  refine wp_seq ?_
  refine wp_region_lit ?_
  refine wmem hs (x_boxS (cs := [.int .i64 p0_0, .int .i64 p0_1, .int .i64 p0_2]) hs rfl hM) rfl ?_; rintro a _ w hs ⟨g2, rfl, hM⟩
  have hM : Mem W w [aBlk g2 82 [.int .i64 p0_0, .int .i64 p0_1, .int .i64 p0_2]] := hM
  refine wl hs (y_assign hs rfl) rfl ?_; intro a hs
  refine wpList_nil ?_
  refine x_nt ?_
  refine wp_seq ?_
  refine x_regq hmix (by kernel_rfl) ?_
  refine wq hs (fun w1 hw1 => y_fieldAddr sT_82 hs rfl rfl) rfl ?_; intro a hs
  refine wq hs (fun w1 hw1 => y_load sc_int hs rfl ((hM.quiet hw1).cellBlk 0 rfl 0 rfl)) rfl ?_; intro a hs
  obtain ⟨y3, h4, hm⟩ := bindE hm
  refine qcall (v := .bool y3) is_74 hs rfl rfl (fun w1 hw1 => q_of hw1 (spec_l1In_any p0_0 (-20) 20 w1  h4)) ?_; intro a hs
  refine wq hs (fun w1 hw1 => y_move hs rfl) rfl ?_; intro a hs
  obtain ⟨b5, hb6, hm⟩ := bindE hm
  refine wqguard (N := 26) (L' := [(10, .bool b5), (1, .pointer (some ⟨g2, 0, none⟩)), (2, .bool false)]) 4 ?_ ?_
  · intro K; rcases Bool.eq_false_or_eq_true y3 with hg7 | hg7
    · have hm := condT hg7 hb6
      refine wqg hs rfl hg7 (fun w1 hw1 => y_fieldAddr sT_82 hs rfl rfl) rfl ?_; intro a hs
      refine wqg hs rfl hg7 (fun w1 hw1 => y_load sc_int hs rfl ((hM.quiet hw1).cellBlk 0 rfl 1 rfl)) rfl ?_; intro a hs
      obtain ⟨y8, h9, hm⟩ := bindE hm
      refine qcallg (v := .bool y8) is_74 hs rfl hg7 rfl rfl (fun w1 hw1 => q_of hw1 (spec_l1In_any p0_1 (-20) 20 w1  h9)) ?_; intro a hs
      have hm : some y8 = some b5 := hm
      cases Option.some.inj hm
      refine wq hs (fun w1 hw1 => y_pickT hs rfl hg7 rfl) rfl ?_; intro a hs
      exact K _ (hs.sub ⟨rfl, rfl, rfl, trivial⟩)
    · have hm := condF hg7 hb6
      refine wqs hs rfl hg7 rfl ?_; intro a hs
      refine wqs hs rfl hg7 rfl ?_; intro a hs
      refine wqs hs rfl hg7 rfl ?_; intro a hs
      have hm : some false = some b5 := hm
      cases Option.some.inj hm
      refine wq hs (fun w1 hw1 => y_pickF hs rfl hg7 rfl) rfl ?_; intro a hs
      exact K _ (hs.sub ⟨rfl, rfl, rfl, trivial⟩)
  intro a hs
  simp only [List.drop_succ_cons, List.drop_zero]
  refine wq hs (fun w1 hw1 => y_move hs rfl) rfl ?_; intro a hs
  obtain ⟨b10, hb11, hm⟩ := bindE hm
  refine wqguard (N := 26) (L' := [(20, .bool b10), (1, .pointer (some ⟨g2, 0, none⟩)), (2, .bool false)]) 9 ?_ ?_
  · intro K; rcases Bool.eq_false_or_eq_true b5 with hg12 | hg12
    · have hm := condT hg12 hb11
      refine wqg hs rfl hg12 (fun w1 hw1 => y_fieldAddr sT_82 hs rfl rfl) rfl ?_; intro a hs
      refine wqg hs rfl hg12 (fun w1 hw1 => y_load sc_int hs rfl ((hM.quiet hw1).cellBlk 0 rfl 0 rfl)) rfl ?_; intro a hs
      obtain ⟨y13, h14, hm⟩ := bindE hm
      refine qcallg (v := .int .i64 y13) is_160 hs rfl hg12 rfl rfl (fun w1 hw1 => q_of hw1 (spec_l1Abs_any p0_0 w1  h14)) ?_; intro a hs
      refine wqg hs rfl hg12 (fun w1 hw1 => y_fieldAddr sT_82 hs rfl rfl) rfl ?_; intro a hs
      refine wqg hs rfl hg12 (fun w1 hw1 => y_load sc_int hs rfl ((hM.quiet hw1).cellBlk 0 rfl 1 rfl)) rfl ?_; intro a hs
      obtain ⟨y15, h16, hm⟩ := bindE hm
      refine qcallg (v := .int .i64 y15) is_160 hs rfl hg12 rfl rfl (fun w1 hw1 => q_of hw1 (spec_l1Abs_any p0_1 w1  h16)) ?_; intro a hs
      obtain ⟨y17, h18, hm⟩ := bindE hm
      refine qcallg (v := .int .i64 y17) is_159 hs rfl hg12 rfl rfl (fun w1 hw1 => q_of hw1 (spec_stCommon_any y13 y15 w1  h18)) ?_; intro a hs
      refine wqg hs rfl hg12 (fun w1 hw1 => y_eql hs rfl rfl) rfl ?_; intro a hs
      have hm : some (y17 == 1) = some b10 := hm
      cases Option.some.inj hm
      refine wq hs (fun w1 hw1 => y_pickT hs rfl hg12 rfl) rfl ?_; intro a hs
      exact K _ (hs.sub ⟨rfl, rfl, rfl, trivial⟩)
    · have hm := condF hg12 hb11
      refine wqs hs rfl hg12 rfl ?_; intro a hs
      refine wqs hs rfl hg12 rfl ?_; intro a hs
      refine wqs hs rfl hg12 rfl ?_; intro a hs
      refine wqs hs rfl hg12 rfl ?_; intro a hs
      refine wqs hs rfl hg12 rfl ?_; intro a hs
      refine wqs hs rfl hg12 rfl ?_; intro a hs
      refine wqs hs rfl hg12 rfl ?_; intro a hs
      refine wqs hs rfl hg12 rfl ?_; intro a hs
      have hm : some false = some b10 := hm
      cases Option.some.inj hm
      refine wq hs (fun w1 hw1 => y_pickF hs rfl hg12 rfl) rfl ?_; intro a hs
      exact K _ (hs.sub ⟨rfl, rfl, rfl, trivial⟩)
  intro a hs
  simp only [List.drop_succ_cons, List.drop_zero]
  refine wq hs (fun w1 hw1 => y_move hs rfl) rfl ?_; intro a hs
  obtain ⟨b19, hb20, hm⟩ := bindE hm
  refine wqguard (N := 26) (L' := [(25, .bool b19), (2, .bool false)]) 4 ?_ ?_
  · intro K; rcases Bool.eq_false_or_eq_true b10 with hg21 | hg21
    · have hm := condT hg21 hb20
      refine wqg hs rfl hg21 (fun w1 hw1 => y_fieldAddr sT_82 hs rfl rfl) rfl ?_; intro a hs
      refine wqg hs rfl hg21 (fun w1 hw1 => y_load sc_int hs rfl ((hM.quiet hw1).cellBlk 0 rfl 2 rfl)) rfl ?_; intro a hs
      obtain ⟨y22, h23, hm⟩ := bindE hm
      refine qcallg (v := .bool y22) is_74 hs rfl hg21 rfl rfl (fun w1 hw1 => q_of hw1 (spec_l1In_any p0_2 1 20 w1  h23)) ?_; intro a hs
      have hm : some y22 = some b19 := hm
      cases Option.some.inj hm
      refine wq hs (fun w1 hw1 => y_pickT hs rfl hg21 rfl) rfl ?_; intro a hs
      exact K _ (hs.sub ⟨rfl, rfl, trivial⟩)
    · have hm := condF hg21 hb20
      refine wqs hs rfl hg21 rfl ?_; intro a hs
      refine wqs hs rfl hg21 rfl ?_; intro a hs
      refine wqs hs rfl hg21 rfl ?_; intro a hs
      have hm : some false = some b19 := hm
      cases Option.some.inj hm
      refine wq hs (fun w1 hw1 => y_pickF hs rfl hg21 rfl) rfl ?_; intro a hs
      exact K _ (hs.sub ⟨rfl, rfl, trivial⟩)
  intro a hs
  simp only [List.drop_succ_cons, List.drop_zero]
  refine wq hs (fun w1 hw1 => y_assign hs rfl) rfl ?_; intro a hs
  refine wpQuiet_nil ?_
  intro w hw
  replace hM := hM.quiet hw
  refine x_nt ?_
  refine wp_ret ?_
  have hm : some b19 = some r := hm
  obtain rfl := Option.some.inj hm
  refine x_ret1 rfl hs rfl ⟨_, rfl, ?_⟩
  exact ⟨rfl, hM.none_⟩

theorem spec_stBefore_any (p0_0 : Int) (p0_1 : Int) (p0_2 : Int) (p1_0 : Int) (p1_1 : Int) (p1_2 : Int) (W : World)  {r : Bool} (hm : spec_stBefore_m p0_0 p0_1 p0_2 p1_0 p1_1 p1_2 = some r) : Calls Try.prog 146 [.agg #[.int .i64 p0_0, .int .i64 p0_1, .int .i64 p0_2], .agg #[.int .i64 p1_0, .int .i64 p1_1, .int .i64 p1_2]].toArray W fun e w => ∃ v, e = .returned v ∧ v = .bool r ∧ Mem W w [] := by
  refine x_enter Try.func146 rfl Try.ntmps146 rfl ?_
  intro a hs
  have hM := Mem.start W
  unfold spec_stBefore_m at hm
  refine wp_seq ?_
  refine wp_region_lit ?_
  refine wmem hs (x_boxS (cs := [.int .i64 p0_0, .int .i64 p0_1, .int .i64 p0_2]) hs rfl hM) rfl ?_; rintro a _ w hs ⟨g2, rfl, hM⟩
  have hM : Mem W w [aBlk g2 82 [.int .i64 p0_0, .int .i64 p0_1, .int .i64 p0_2]] := hM
  refine wmem hs (x_boxS (cs := [.int .i64 p1_0, .int .i64 p1_1, .int .i64 p1_2]) hs rfl hM) rfl ?_; rintro a _ w hs ⟨g4, rfl, hM⟩
  have hM : Mem W w [aBlk g4 82 [.int .i64 p1_0, .int .i64 p1_1, .int .i64 p1_2], aBlk g2 82 [.int .i64 p0_0, .int .i64 p0_1, .int .i64 p0_2]] := hM
  refine wl hs (y_assign hs rfl) rfl ?_; intro a hs
  refine wpList_nil ?_
  refine x_nt ?_
  refine wp_seq ?_
  refine wp_region_lit ?_
  refine wl hs (y_fieldAddr sT_82 hs rfl rfl) rfl ?_; intro a hs
  refine wl hs (y_load sc_int hs rfl (hM.cellBlk 1 rfl 0 rfl)) rfl ?_; intro a hs
  refine wl hs (y_fieldAddr sT_82 hs rfl rfl) rfl ?_; intro a hs
  refine wl hs (y_load sc_int hs rfl (hM.cellBlk 0 rfl 0 rfl)) rfl ?_; intro a hs
  refine wl hs (y_lss hs rfl rfl) rfl ?_; intro a hs
  refine wl hs (y_move hs rfl) rfl ?_; intro a hs
  obtain ⟨b5, hb6, hm⟩ := bindE hm
  refine wlguard (N := 24) (L' := [(23, .bool b5), (4, .bool false)]) (fun w => Mem W w [aBlk g4 82 [.int .i64 p1_0, .int .i64 p1_1, .int .i64 p1_2], aBlk g2 82 [.int .i64 p0_0, .int .i64 p0_1, .int .i64 p0_2]]) 13 ?_ ?_
  · intro K; rcases Bool.eq_false_or_eq_true (decide (p0_0 < p1_0)) with hg7 | hg7
    · have hm := condT hg7 hb6
      refine wls hs rfl hg7 rfl ?_; intro a hs
      refine wls hs rfl hg7 rfl ?_; intro a hs
      refine wls hs rfl hg7 rfl ?_; intro a hs
      refine wls hs rfl hg7 rfl ?_; intro a hs
      refine wls hs rfl hg7 rfl ?_; intro a hs
      refine wls hs rfl hg7 rfl ?_; intro a hs
      refine wlu hs rfl rfl ?_; intro a hs
      refine wlu hs rfl rfl ?_; intro a hs
      refine wlu hs rfl rfl ?_; intro a hs
      refine wlu hs rfl rfl ?_; intro a hs
      refine wlu hs rfl rfl ?_; intro a hs
      refine wls hs rfl hg7 rfl ?_; intro a hs
      have hm : some true = some b5 := hm
      cases Option.some.inj hm
      refine wl hs (y_pickT hs rfl hg7 rfl) rfl ?_; intro a hs
      exact K _ _ (hs.sub ⟨rfl, rfl, trivial⟩) hM
    · have hm := condF hg7 hb6
      refine wlg hs rfl hg7 (y_fieldAddr sT_82 hs rfl rfl) rfl ?_; intro a hs
      refine wlg hs rfl hg7 (y_load sc_int hs rfl (hM.cellBlk 1 rfl 0 rfl)) rfl ?_; intro a hs
      refine wlg hs rfl hg7 (y_fieldAddr sT_82 hs rfl rfl) rfl ?_; intro a hs
      refine wlg hs rfl hg7 (y_load sc_int hs rfl (hM.cellBlk 0 rfl 0 rfl)) rfl ?_; intro a hs
      refine wlg hs rfl hg7 (y_eql hs rfl rfl) rfl ?_; intro a hs
      refine wlg hs rfl hg7 (y_move hs rfl) rfl ?_; intro a hs
      obtain ⟨b8, hb9, hm⟩ := bindE hm
      refine wlguard (N := 24) (L' := [(22, .bool b8), (4, .bool false), (10, .bool (decide (p0_0 < p1_0)))]) (fun w => Mem W w [aBlk g4 82 [.int .i64 p1_0, .int .i64 p1_1, .int .i64 p1_2], aBlk g2 82 [.int .i64 p0_0, .int .i64 p0_1, .int .i64 p0_2]]) 6 ?_ ?_
      · intro K; rcases Bool.eq_false_or_eq_true (p0_0 == p1_0) with hg10 | hg10
        · have hm := condT hg10 hb9
          refine wlg hs rfl hg10 (y_fieldAddr sT_82 hs rfl rfl) rfl ?_; intro a hs
          refine wlg hs rfl hg10 (y_load sc_int hs rfl (hM.cellBlk 1 rfl 1 rfl)) rfl ?_; intro a hs
          refine wlg hs rfl hg10 (y_fieldAddr sT_82 hs rfl rfl) rfl ?_; intro a hs
          refine wlg hs rfl hg10 (y_load sc_int hs rfl (hM.cellBlk 0 rfl 1 rfl)) rfl ?_; intro a hs
          refine wlg hs rfl hg10 (y_lss hs rfl rfl) rfl ?_; intro a hs
          have hm : some (decide (p0_1 < p1_1)) = some b8 := hm
          cases Option.some.inj hm
          refine wlg hs rfl hg7 (y_pickT hs rfl hg10 rfl) rfl ?_; intro a hs
          exact K _ _ (hs.sub ⟨rfl, rfl, rfl, trivial⟩) hM
        · have hm := condF hg10 hb9
          refine wls hs rfl hg10 rfl ?_; intro a hs
          refine wls hs rfl hg10 rfl ?_; intro a hs
          refine wls hs rfl hg10 rfl ?_; intro a hs
          refine wls hs rfl hg10 rfl ?_; intro a hs
          refine wls hs rfl hg10 rfl ?_; intro a hs
          have hm : some false = some b8 := hm
          cases Option.some.inj hm
          refine wlg hs rfl hg7 (y_pickF hs rfl hg10 rfl) rfl ?_; intro a hs
          exact K _ _ (hs.sub ⟨rfl, rfl, rfl, trivial⟩) hM
      intro a w hs hM
      simp only [List.drop_succ_cons, List.drop_zero]
      have hm : some b8 = some b5 := hm
      cases Option.some.inj hm
      refine wl hs (y_pickF hs rfl hg7 rfl) rfl ?_; intro a hs
      exact K _ _ (hs.sub ⟨rfl, rfl, trivial⟩) hM
  intro a w hs hM
  simp only [List.drop_succ_cons, List.drop_zero]
  refine wl hs (y_assign hs rfl) rfl ?_; intro a hs
  refine wpList_nil ?_
  refine x_nt ?_
  refine wp_ret ?_
  have hm : some b5 = some r := hm
  obtain rfl := Option.some.inj hm
  refine x_ret1 rfl hs rfl ⟨_, rfl, ?_⟩
  exact ⟨rfl, hM.none_⟩

set_option maxHeartbeats 4000000 in
theorem spec_stGood_any (v_p0 : Value) (p0 : List Y3) (W : World) (hr_p0 : RdY W v_p0 p0) {r : Bool} (hm : spec_stGood_m p0 = some r) : Calls Try.prog 118 [v_p0].toArray W fun e w => ∃ v, e = .returned v ∧ v = .bool r ∧ Mem W w [] := by
  refine x_enter Try.func118 rfl Try.ntmps118 rfl ?_
  intro a hs
  have hM := Mem.start W
  unfold spec_stGood_m at hm
  refine wp_seq ?_
  refine wp_region_lit ?_
  refine wl hs (y_assign hs rfl) rfl ?_; intro a hs
  refine wpList_nil ?_
  refine x_nt ?_
  refine wp_seq ?_
  refine wp_seq ?_
  refine wp_region_lit ?_
  refine wl hs (y_move hs rfl) rfl ?_; intro a hs
  refine wl hs (y_lenY hY_51 hs rfl (RdY.below hr_p0 hM.bel)) rfl ?_; intro a hs
  refine wl hs (y_move hs rfl) rfl ?_; intro a hs
  refine wpList_nil ?_
  refine x_nt ?_
  obtain ⟨s2, hm, hk3⟩ := bindE hm
  refine x_mid (fun a w => Sum.inr () = s2 ∧ Fr a 33 [(0, v_p0)] ∧ Mem W w []) ?_ ?_
  · refine wp_block ?_
    refine x_loop (fun k a w => ∃ (q4 : List Y3) (j1 : Nat) , k = q4.length ∧ Fr a 33 [(0, v_p0), (5, v_p0), (6, .int .i64 (p0.length : Int)), (7, .int .i64 (j1 : Int))] ∧ Mem W w [] ∧ spec_stGood_l1 p0 q4 j1 = some s2 ∧ List.drop j1 p0 = q4) _ ⟨p0, 0, rfl, hs.sub ⟨rfl, rfl, rfl, rfl, trivial⟩, hM, hm, rfl⟩ ?_
    rintro k a w ⟨q4, j1, rfl, hs, hM, hm, hj1⟩
    rcases q4 with _ | ⟨x5, q4⟩
    · rewrite [spec_stGood_l1] at hm
      refine wp_seq ?_
      refine wp_region_lit ?_
      refine wl hs (y_lss hs rfl rfl) rfl ?_; intro a hs
      refine wpList_nil ?_
      refine x_nt ?_
      refine wp_seq ?_
      refine x_condF hs rfl (drop_f hj1) ?_
      refine wp_exit ?_
      refine x_et ?_
      refine x_et ?_
      refine x_eb ?_
      have hm : some (Sum.inr ()) = some s2 := hm
      exact ⟨Option.some.inj hm, hs.sub ⟨rfl, trivial⟩, hM⟩
    · rewrite [spec_stGood_l1] at hm
      have hx6 := drop_idx hj1
      have hsj1 := ck_succ hj1 (RdY.len (RdY.below hr_p0 hM.bel))
      refine wp_seq ?_
      refine wp_region_lit ?_
      refine wl hs (y_lss hs rfl rfl) rfl ?_; intro a hs
      refine wpList_nil ?_
      refine x_nt ?_
      refine wp_seq ?_
      refine x_condT hs rfl (drop_t hj1) ?_
      refine wp_skip ?_
      refine x_nt ?_
      refine wp_seq ?_
      refine wp_block ?_
      refine wp_seq ?_
      refine wp_region_lit ?_
      refine wl hs (y_move hs rfl) rfl ?_; intro a hs
      have he7 := RdY.at_ (RdY.below hr_p0 hM.bel) hx6
      refine wl hs (y_indexY hY_51 hs rfl rfl he7) rfl ?_; intro a hs
      refine wl hs (y_loadY sT_82 rfl hs rfl he7) rfl ?_; intro a hs
      refine wmem hs (x_allocS sT_82 hM) rfl ?_; rintro a _ w hs ⟨g9, rfl, hM⟩
      have hM : Mem W w [aBlk g9 82 [.int .i64 0, .int .i64 0, .int .i64 0]] := hM
      refine wl hs (y_assign hs rfl) rfl ?_; intro a hs
      refine wstore hs rfl rfl (x_storeS (cs := [.int .i64 0, .int .i64 0, .int .i64 0]) (us := [.int .i64 x5.1, .int .i64 x5.2.1, .int .i64 x5.2.2]) sT_82 ⟨rfl, rfl, rfl, trivial⟩ rfl rfl (hM.front 0 rfl)) ?_; intro w hM
      have hM : Mem W w [aBlk g9 82 [.int .i64 x5.1, .int .i64 x5.2.1, .int .i64 x5.2.2]] := hM
      refine wpList_nil ?_
      refine x_nt ?_
      refine wp_seq ?_
      refine x_regq hmix (by kernel_rfl) ?_
      refine wq hs (fun w1 hw1 => y_loadS (cs := [.int .i64 x5.1, .int .i64 x5.2.1, .int .i64 x5.2.2]) sT_82 hs rfl ((hM.quiet hw1).heapBlk 0 rfl) rfl) rfl ?_; intro a hs
      obtain ⟨y10, h11, hm⟩ := bindE hm
      refine qcall (v := .bool y10) is_145 hs rfl rfl (fun w1 hw1 => q_of hw1 (spec_stRay_any x5.1 x5.2.1 x5.2.2 w1  h11)) ?_; intro a hs
      refine wq hs (fun w1 hw1 => y_not hs rfl) rfl ?_; intro a hs
      refine wq hs (fun w1 hw1 => y_move hs rfl) rfl ?_; intro a hs
      obtain ⟨b12, hb13, hm⟩ := bindE hm
      refine wqguard (N := 33) (L' := [(28, .bool b12), (0, v_p0), (5, v_p0), (6, .int .i64 (p0.length : Int)), (7, .int .i64 (j1 : Int))]) 13 ?_ ?_
      · intro K; rcases Bool.eq_false_or_eq_true (!y10) with hg14 | hg14
        · have hm := condT hg14 hb13
          refine wqs hs rfl hg14 rfl ?_; intro a hs
          refine wqs hs rfl hg14 rfl ?_; intro a hs
          refine wqs hs rfl hg14 rfl ?_; intro a hs
          refine wqu hs rfl rfl ?_; intro a hs
          refine wqu hs rfl rfl ?_; intro a hs
          refine wqu hs rfl rfl ?_; intro a hs
          refine wqu hs rfl rfl ?_; intro a hs
          refine wqu hs rfl rfl ?_; intro a hs
          refine wqu hs rfl rfl ?_; intro a hs
          refine wqu hs rfl rfl ?_; intro a hs
          refine wqu hs rfl rfl ?_; intro a hs
          refine wqs hs rfl hg14 rfl ?_; intro a hs
          have hm : some true = some b12 := hm
          cases Option.some.inj hm
          refine wq hs (fun w1 hw1 => y_pickT hs rfl hg14 rfl) rfl ?_; intro a hs
          exact K _ (hs.sub ⟨rfl, rfl, rfl, rfl, rfl, trivial⟩)
        · have hm := condF hg14 hb13
          refine wqg hs rfl hg14 (fun w1 hw1 => y_move hs rfl) rfl ?_; intro a hs
          refine wqg hs rfl hg14 (fun w1 hw1 => y_gtr hs rfl rfl) rfl ?_; intro a hs
          refine wqg hs rfl hg14 (fun w1 hw1 => y_move hs rfl) rfl ?_; intro a hs
          obtain ⟨b15, hb16, hm⟩ := bindE hm
          refine wqguard (N := 33) (L' := [(27, .bool b15), (0, v_p0), (5, v_p0), (6, .int .i64 (p0.length : Int)), (7, .int .i64 (j1 : Int)), (15, .bool (!y10))]) 9 ?_ ?_
          · intro K; rcases Bool.eq_false_or_eq_true (decide ((j1 : Int) > 0)) with hg17 | hg17
            · have hm := condT hg17 hb16
              refine wqg hs rfl hg17 (fun w1 hw1 => y_move hs rfl) rfl ?_; intro a hs
              refine wqg hs rfl hg17 (fun w1 hw1 => y_move hs rfl) rfl ?_; intro a hs
              obtain ⟨n18, h19, hm⟩ := bindE hm
              refine wqg hs rfl hg17 (fun w1 hw1 => y_sub hs rfl rfl h19) rfl ?_; intro a hs
              obtain ⟨x20, hx21, hm⟩ := bindE hm
              have he22 := RdY.at_ (RdY.below hr_p0 hM.bel) hx21
              refine wqg hs rfl hg17 (fun w1 hw1 => y_indexY hY_51 hs rfl rfl (he22.below hw1)) rfl ?_; intro a hs
              refine wqg hs rfl hg17 (fun w1 hw1 => y_loadY sT_82 rfl hs rfl (he22.below hw1)) rfl ?_; intro a hs
              refine wqg hs rfl hg17 (fun w1 hw1 => y_loadS (cs := [.int .i64 x5.1, .int .i64 x5.2.1, .int .i64 x5.2.2]) sT_82 hs rfl ((hM.quiet hw1).heapBlk 0 rfl) rfl) rfl ?_; intro a hs
              obtain ⟨y23, h24, hm⟩ := bindE hm
              refine qcallg (v := .bool y23) is_146 hs rfl hg17 rfl rfl (fun w1 hw1 => q_of hw1 (spec_stBefore_any x20.1 x20.2.1 x20.2.2 x5.1 x5.2.1 x5.2.2 w1  h24)) ?_; intro a hs
              refine wqg hs rfl hg17 (fun w1 hw1 => y_not hs rfl) rfl ?_; intro a hs
              have hm : some (!y23) = some b15 := hm
              cases Option.some.inj hm
              refine wqg hs rfl hg14 (fun w1 hw1 => y_pickT hs rfl hg17 rfl) rfl ?_; intro a hs
              exact K _ (hs.sub ⟨rfl, rfl, rfl, rfl, rfl, rfl, trivial⟩)
            · have hm := condF hg17 hb16
              refine wqs hs rfl hg17 rfl ?_; intro a hs
              refine wqs hs rfl hg17 rfl ?_; intro a hs
              refine wqs hs rfl hg17 rfl ?_; intro a hs
              refine wqs hs rfl hg17 rfl ?_; intro a hs
              refine wqs hs rfl hg17 rfl ?_; intro a hs
              refine wqs hs rfl hg17 rfl ?_; intro a hs
              refine wqs hs rfl hg17 rfl ?_; intro a hs
              refine wqs hs rfl hg17 rfl ?_; intro a hs
              have hm : some false = some b15 := hm
              cases Option.some.inj hm
              refine wqg hs rfl hg14 (fun w1 hw1 => y_pickF hs rfl hg17 rfl) rfl ?_; intro a hs
              exact K _ (hs.sub ⟨rfl, rfl, rfl, rfl, rfl, rfl, trivial⟩)
          intro a hs
          simp only [List.drop_succ_cons, List.drop_zero]
          have hm : some b15 = some b12 := hm
          cases Option.some.inj hm
          refine wq hs (fun w1 hw1 => y_pickF hs rfl hg14 rfl) rfl ?_; intro a hs
          exact K _ (hs.sub ⟨rfl, rfl, rfl, rfl, rfl, trivial⟩)
      intro a hs
      simp only [List.drop_succ_cons, List.drop_zero]
      refine wpQuiet_nil ?_
      intro w hw
      replace hM := hM.quiet hw
      refine x_nt ?_
      refine x_cond hs rfl (fun hb => ?_) (fun hb => ?_)
      · replace hm := condT hb hm
        refine wp_seq ?_
        refine wp_region_lit ?_
        refine wl hs (y_assign hs rfl) rfl ?_; intro a hs
        refine wpList_nil ?_
        refine x_nt ?_
        refine wp_ret ?_
        refine x_rb ?_
        refine x_rt ?_
        refine x_rt ?_
        refine x_rb ?_
        refine x_rt ?_
        refine x_rt ?_
        have hm : some (Sum.inl false) = some s2 := hm
        cases Option.some.inj hm
        have hm := hk3
        have hm : some false = some r := hm
        obtain rfl := Option.some.inj hm
        refine x_ret1 rfl hs rfl ⟨_, rfl, ?_⟩
        exact ⟨rfl, hM.none_⟩
      · replace hm := condF hb hm
        refine wp_skip ?_
        refine x_nb ?_
        refine x_nt ?_
        refine wp_region_lit ?_
        refine wl hs (y_add hs rfl rfl hsj1) rfl ?_; intro a hs
        refine wl hs (y_move hs rfl) rfl ?_; intro a hs
        refine wpList_nil ?_
        exact ⟨_, by simp, q4, j1 + 1, rfl, hs.sub ⟨rfl, rfl, rfl, rfl, trivial⟩, hM.none_, hm, drop_next hj1⟩
  rintro a w ⟨rfl, hs, hM⟩
  have hm := hk3
  refine x_nt ?_
  refine wp_seq ?_
  refine wp_region_lit ?_
  refine wl hs (y_move hs rfl) rfl ?_; intro a hs
  refine wl hs (y_lenY hY_51 hs rfl (RdY.below hr_p0 hM.bel)) rfl ?_; intro a hs
  refine wl hs (y_leq hs rfl rfl) rfl ?_; intro a hs
  refine wl hs (y_assign hs rfl) rfl ?_; intro a hs
  refine wpList_nil ?_
  refine x_nt ?_
  refine wp_ret ?_
  have hm : some (decide ((p0.length : Int) ≤ 10)) = some r := hm
  obtain rfl := Option.some.inj hm
  refine x_ret1 rfl hs rfl ⟨_, rfl, ?_⟩
  exact ⟨rfl, hM⟩

theorem spec_stSum_any (v_p0 : Value) (p0 : List Y3) (W : World) (hr_p0 : RdY W v_p0 p0) {r : Int × Int} (hm : spec_stSum_m p0 = some r) : Calls Try.prog 147 [v_p0].toArray W fun e w => ∃ v, e = .returned v ∧ v = .tuple #[.int .i64 r.1, .int .i64 r.2] ∧ Mem W w [] := by
  refine x_enter Try.func147 rfl Try.ntmps147 rfl ?_
  intro a hs
  have hM := Mem.start W
  unfold spec_stSum_m at hm
  refine wp_seq ?_
  refine wp_region_lit ?_
  refine wl hs (y_assign hs rfl) rfl ?_; intro a hs
  refine wl hs (y_assign hs rfl) rfl ?_; intro a hs
  refine wpList_nil ?_
  refine x_nt ?_
  refine wp_seq ?_
  refine wp_region_lit ?_
  refine wl hs (y_assign hs rfl) rfl ?_; intro a hs
  refine wl hs (y_assign hs rfl) rfl ?_; intro a hs
  refine wpList_nil ?_
  refine x_nt ?_
  refine wp_seq ?_
  refine wp_seq ?_
  refine wp_region_lit ?_
  refine wl hs (y_move hs rfl) rfl ?_; intro a hs
  refine wl hs (y_lenY hY_51 hs rfl (RdY.below hr_p0 hM.bel)) rfl ?_; intro a hs
  refine wl hs (y_move hs rfl) rfl ?_; intro a hs
  refine wpList_nil ?_
  refine x_nt ?_
  obtain ⟨s6, hm, hk7⟩ := bindE hm
  refine x_mid (fun a w => ∃ (n4 : Int), ∃ (n5 : Int), (n4, n5) = s6 ∧ Fr a 31 [(4, .int .i64 n5), (5, .int .i64 n4)] ∧ Mem W w []) ?_ ?_
  · refine wp_block ?_
    refine x_loop (fun k a w => ∃ (q8 : List Y3) (j1 : Nat) (n2 : Int) (n3 : Int) , k = q8.length ∧ Fr a 31 [(4, .int .i64 n2), (5, .int .i64 n3), (8, v_p0), (9, .int .i64 (p0.length : Int)), (10, .int .i64 (j1 : Int))] ∧ Mem W w [] ∧ spec_stSum_l1 q8 j1 n2 n3 = some s6 ∧ List.drop j1 p0 = q8) _ ⟨p0, 0, 0, 0, rfl, hs.sub ⟨rfl, rfl, rfl, rfl, rfl, trivial⟩, hM, hm, rfl⟩ ?_
    rintro k a w ⟨q8, j1, n2, n3, rfl, hs, hM, hm, hj1⟩
    rcases q8 with _ | ⟨x9, q8⟩
    · rewrite [spec_stSum_l1] at hm
      refine wp_seq ?_
      refine wp_region_lit ?_
      refine wl hs (y_lss hs rfl rfl) rfl ?_; intro a hs
      refine wpList_nil ?_
      refine x_nt ?_
      refine wp_seq ?_
      refine x_condF hs rfl (drop_f hj1) ?_
      refine wp_exit ?_
      refine x_et ?_
      refine x_et ?_
      refine x_eb ?_
      have hm : some (n3, n2) = some s6 := hm
      exact ⟨n3, n2, Option.some.inj hm, hs.sub ⟨rfl, rfl, trivial⟩, hM⟩
    · rewrite [spec_stSum_l1] at hm
      have hx10 := drop_idx hj1
      have hsj1 := ck_succ hj1 (RdY.len (RdY.below hr_p0 hM.bel))
      refine wp_seq ?_
      refine wp_region_lit ?_
      refine wl hs (y_lss hs rfl rfl) rfl ?_; intro a hs
      refine wpList_nil ?_
      refine x_nt ?_
      refine wp_seq ?_
      refine x_condT hs rfl (drop_t hj1) ?_
      refine wp_skip ?_
      refine x_nt ?_
      refine wp_seq ?_
      refine wp_block ?_
      refine wp_seq ?_
      refine wp_region_lit ?_
      have he11 := RdY.at_ (RdY.below hr_p0 hM.bel) hx10
      refine wl hs (y_indexY hY_51 hs rfl rfl he11) rfl ?_; intro a hs
      refine wl hs (y_loadY sT_82 rfl hs rfl he11) rfl ?_; intro a hs
      refine wmem hs (x_allocS sT_82 hM) rfl ?_; rintro a _ w hs ⟨g13, rfl, hM⟩
      have hM : Mem W w [aBlk g13 82 [.int .i64 0, .int .i64 0, .int .i64 0]] := hM
      refine wstore hs rfl rfl (x_storeS (cs := [.int .i64 0, .int .i64 0, .int .i64 0]) (us := [.int .i64 x9.1, .int .i64 x9.2.1, .int .i64 x9.2.2]) sT_82 ⟨rfl, rfl, rfl, trivial⟩ rfl rfl (hM.front 0 rfl)) ?_; intro w hM
      have hM : Mem W w [aBlk g13 82 [.int .i64 x9.1, .int .i64 x9.2.1, .int .i64 x9.2.2]] := hM
      refine wpList_nil ?_
      refine x_nt ?_
      refine wp_seq ?_
      refine wp_region_lit ?_
      refine wl hs (y_move hs rfl) rfl ?_; intro a hs
      refine wl hs (y_fieldAddr sT_82 hs rfl rfl) rfl ?_; intro a hs
      refine wl hs (y_load sc_int hs rfl (hM.cellBlk 0 rfl 2 rfl)) rfl ?_; intro a hs
      refine wl hs (y_fieldAddr sT_82 hs rfl rfl) rfl ?_; intro a hs
      refine wl hs (y_load sc_int hs rfl (hM.cellBlk 0 rfl 0 rfl)) rfl ?_; intro a hs
      obtain ⟨n14, h15, hm⟩ := bindE hm
      refine wl hs (y_mul hs rfl rfl h15) rfl ?_; intro a hs
      obtain ⟨n16, h17, hm⟩ := bindE hm
      refine wl hs (y_add hs rfl rfl h17) rfl ?_; intro a hs
      refine wl hs (y_assign hs rfl) rfl ?_; intro a hs
      refine wpList_nil ?_
      refine x_nt ?_
      refine wp_region_lit ?_
      refine wl hs (y_move hs rfl) rfl ?_; intro a hs
      refine wl hs (y_fieldAddr sT_82 hs rfl rfl) rfl ?_; intro a hs
      refine wl hs (y_load sc_int hs rfl (hM.cellBlk 0 rfl 2 rfl)) rfl ?_; intro a hs
      refine wl hs (y_fieldAddr sT_82 hs rfl rfl) rfl ?_; intro a hs
      refine wl hs (y_load sc_int hs rfl (hM.cellBlk 0 rfl 1 rfl)) rfl ?_; intro a hs
      obtain ⟨n18, h19, hm⟩ := bindE hm
      refine wl hs (y_mul hs rfl rfl h19) rfl ?_; intro a hs
      obtain ⟨n20, h21, hm⟩ := bindE hm
      refine wl hs (y_add hs rfl rfl h21) rfl ?_; intro a hs
      refine wl hs (y_assign hs rfl) rfl ?_; intro a hs
      refine wpList_nil ?_
      refine x_nb ?_
      refine x_nt ?_
      refine wp_region_lit ?_
      refine wl hs (y_add hs rfl rfl hsj1) rfl ?_; intro a hs
      refine wl hs (y_move hs rfl) rfl ?_; intro a hs
      refine wpList_nil ?_
      exact ⟨_, by simp, q8, j1 + 1, n16, n20, rfl, hs.sub ⟨rfl, rfl, rfl, rfl, rfl, trivial⟩, hM.none_, hm, drop_next hj1⟩
  rintro a w ⟨n4, n5, rfl, hs, hM⟩
  have hm := hk7
  refine x_nt ?_
  refine wp_seq ?_
  refine wp_region_lit ?_
  refine wl hs (y_move hs rfl) rfl ?_; intro a hs
  refine wl hs (y_move hs rfl) rfl ?_; intro a hs
  refine wl hs (y_assign hs rfl) rfl ?_; intro a hs
  refine wl hs (y_assign hs rfl) rfl ?_; intro a hs
  refine wpList_nil ?_
  refine x_nt ?_
  refine wp_ret ?_
  have hm : some (n5, n4) = some r := hm
  obtain rfl := Option.some.inj hm
  refine x_ret2 rfl hs rfl rfl ⟨_, rfl, ?_⟩
  exact ⟨rfl, hM⟩

theorem spec_stBalanced_any (v_p0 : Value) (p0 : List Y3) (W : World) (hr_p0 : RdY W v_p0 p0) {r : Bool} (hm : spec_stBalanced_m p0 = some r) : Calls Try.prog 119 [v_p0].toArray W fun e w => ∃ v, e = .returned v ∧ v = .bool r ∧ Mem W w [] := by
  refine x_enter Try.func119 rfl Try.ntmps119 rfl ?_
  intro a hs
  have hM := Mem.start W
  unfold spec_stBalanced_m at hm
  refine wp_seq ?_
  refine wp_region_lit ?_
  refine wl hs (y_assign hs rfl) rfl ?_; intro a hs
  refine wpList_nil ?_
  refine x_nt ?_
  refine wp_seq ?_
  refine wp_region_lit ?_
  refine wl hs (y_move hs rfl) rfl ?_; intro a hs
  obtain ⟨y1, h2, hm⟩ := bindE hm
  refine wcall is_147 hs rfl rfl (spec_stSum_any v_p0 p0 _ (RdY.below hr_p0 hM.bel) h2) ?_; rintro a _ w hs ⟨rfl, hX⟩
  have hM : Mem W w [] := hM.call hX
  refine wl hs (y_move hs rfl) rfl ?_; intro a hs
  refine wl hs (y_extract hs rfl rfl) rfl ?_; intro a hs
  refine wl hs (y_extract hs rfl rfl) rfl ?_; intro a hs
  refine wl hs (y_assign hs rfl) rfl ?_; intro a hs
  refine wl hs (y_assign hs rfl) rfl ?_; intro a hs
  refine wpList_nil ?_
  refine x_nt ?_
  refine wp_seq ?_
  refine wp_region_lit ?_
  refine wl hs (y_move hs rfl) rfl ?_; intro a hs
  refine wl hs (y_eql hs rfl rfl) rfl ?_; intro a hs
  refine wl hs (y_move hs rfl) rfl ?_; intro a hs
  obtain ⟨b3, hb4, hm⟩ := bindE hm
  refine wlguard (N := 16) (L' := [(15, .bool b3), (2, .bool false)]) (fun w => Mem W w []) 3 ?_ ?_
  · intro K; rcases Bool.eq_false_or_eq_true (y1.1 == 0) with hg5 | hg5
    · have hm := condT hg5 hb4
      refine wlg hs rfl hg5 (y_move hs rfl) rfl ?_; intro a hs
      refine wlg hs rfl hg5 (y_eql hs rfl rfl) rfl ?_; intro a hs
      have hm : some (y1.2 == 0) = some b3 := hm
      cases Option.some.inj hm
      refine wl hs (y_pickT hs rfl hg5 rfl) rfl ?_; intro a hs
      exact K _ _ (hs.sub ⟨rfl, rfl, trivial⟩) hM
    · have hm := condF hg5 hb4
      refine wls hs rfl hg5 rfl ?_; intro a hs
      refine wls hs rfl hg5 rfl ?_; intro a hs
      have hm : some false = some b3 := hm
      cases Option.some.inj hm
      refine wl hs (y_pickF hs rfl hg5 rfl) rfl ?_; intro a hs
      exact K _ _ (hs.sub ⟨rfl, rfl, trivial⟩) hM
  intro a w hs hM
  simp only [List.drop_succ_cons, List.drop_zero]
  refine wl hs (y_assign hs rfl) rfl ?_; intro a hs
  refine wpList_nil ?_
  refine x_nt ?_
  refine wp_ret ?_
  have hm : some b3 = some r := hm
  obtain rfl := Option.some.inj hm
  refine x_ret1 rfl hs rfl ⟨_, rfl, ?_⟩
  exact ⟨rfl, hM⟩

theorem spec_mtDet_any (p0_0 : Int) (p0_1 : Int) (p0_2 : Int) (p1_0 : Int) (p1_1 : Int) (p1_2 : Int) (W : World)  {r : Int} (hm : spec_mtDet_m p0_0 p0_1 p0_2 p1_0 p1_1 p1_2 = some r) : Calls Try.prog 151 [.agg #[.int .i64 p0_0, .int .i64 p0_1, .int .i64 p0_2], .agg #[.int .i64 p1_0, .int .i64 p1_1, .int .i64 p1_2]].toArray W fun e w => ∃ v, e = .returned v ∧ v = .int .i64 r ∧ Mem W w [] := by
  refine x_enter Try.func151 rfl Try.ntmps151 rfl ?_
  intro a hs
  have hM := Mem.start W
  unfold spec_mtDet_m at hm
  refine wp_seq ?_
  refine wp_region_lit ?_
  refine wmem hs (x_boxS (cs := [.int .i64 p0_0, .int .i64 p0_1, .int .i64 p0_2]) hs rfl hM) rfl ?_; rintro a _ w hs ⟨g2, rfl, hM⟩
  have hM : Mem W w [aBlk g2 82 [.int .i64 p0_0, .int .i64 p0_1, .int .i64 p0_2]] := hM
  refine wmem hs (x_boxS (cs := [.int .i64 p1_0, .int .i64 p1_1, .int .i64 p1_2]) hs rfl hM) rfl ?_; rintro a _ w hs ⟨g4, rfl, hM⟩
  have hM : Mem W w [aBlk g4 82 [.int .i64 p1_0, .int .i64 p1_1, .int .i64 p1_2], aBlk g2 82 [.int .i64 p0_0, .int .i64 p0_1, .int .i64 p0_2]] := hM
  refine wl hs (y_assign hs rfl) rfl ?_; intro a hs
  refine wpList_nil ?_
  refine x_nt ?_
  refine wp_seq ?_
  refine wp_region_lit ?_
  refine wl hs (y_fieldAddr sT_82 hs rfl rfl) rfl ?_; intro a hs
  refine wl hs (y_load sc_int hs rfl (hM.cellBlk 1 rfl 0 rfl)) rfl ?_; intro a hs
  refine wl hs (y_fieldAddr sT_82 hs rfl rfl) rfl ?_; intro a hs
  refine wl hs (y_load sc_int hs rfl (hM.cellBlk 0 rfl 1 rfl)) rfl ?_; intro a hs
  obtain ⟨n5, h6, hm⟩ := bindE hm
  refine wl hs (y_mul hs rfl rfl h6) rfl ?_; intro a hs
  refine wl hs (y_fieldAddr sT_82 hs rfl rfl) rfl ?_; intro a hs
  refine wl hs (y_load sc_int hs rfl (hM.cellBlk 1 rfl 1 rfl)) rfl ?_; intro a hs
  refine wl hs (y_fieldAddr sT_82 hs rfl rfl) rfl ?_; intro a hs
  refine wl hs (y_load sc_int hs rfl (hM.cellBlk 0 rfl 0 rfl)) rfl ?_; intro a hs
  obtain ⟨n7, h8, hm⟩ := bindE hm
  refine wl hs (y_mul hs rfl rfl h8) rfl ?_; intro a hs
  obtain ⟨n9, h10, hm⟩ := bindE hm
  refine wl hs (y_sub hs rfl rfl h10) rfl ?_; intro a hs
  refine wl hs (y_assign hs rfl) rfl ?_; intro a hs
  refine wpList_nil ?_
  refine x_nt ?_
  refine wp_ret ?_
  have hm : some n9 = some r := hm
  obtain rfl := Option.some.inj hm
  refine x_ret1 rfl hs rfl ⟨_, rfl, ?_⟩
  exact ⟨rfl, hM.none_⟩

theorem spec_mtTwo_any (p0_0 : Int) (p0_1 : Int) (p0_2 : Int) (p1_0 : Int) (p1_1 : Int) (p1_2 : Int) (W : World)  {r : Int} (hm : spec_mtTwo_m p0_0 p0_1 p0_2 p1_0 p1_1 p1_2 = some r) : Calls Try.prog 148 [.agg #[.int .i64 p0_0, .int .i64 p0_1, .int .i64 p0_2], .agg #[.int .i64 p1_0, .int .i64 p1_1, .int .i64 p1_2]].toArray W fun e w => ∃ v, e = .returned v ∧ v = .int .i64 r ∧ Mem W w [] := by
  refine x_enter Try.func148 rfl Try.ntmps148 rfl ?_
  intro a hs
  have hM := Mem.start W
  unfold spec_mtTwo_m at hm
  refine wp_seq ?_
  refine wp_region_lit ?_
  refine wmem hs (x_boxS (cs := [.int .i64 p0_0, .int .i64 p0_1, .int .i64 p0_2]) hs rfl hM) rfl ?_; rintro a _ w hs ⟨g2, rfl, hM⟩
  have hM : Mem W w [aBlk g2 82 [.int .i64 p0_0, .int .i64 p0_1, .int .i64 p0_2]] := hM
  refine wmem hs (x_boxS (cs := [.int .i64 p1_0, .int .i64 p1_1, .int .i64 p1_2]) hs rfl hM) rfl ?_; rintro a _ w hs ⟨g4, rfl, hM⟩
  have hM : Mem W w [aBlk g4 82 [.int .i64 p1_0, .int .i64 p1_1, .int .i64 p1_2], aBlk g2 82 [.int .i64 p0_0, .int .i64 p0_1, .int .i64 p0_2]] := hM
  refine wl hs (y_assign hs rfl) rfl ?_; intro a hs
  refine wpList_nil ?_
  refine x_nt ?_
  refine wp_seq ?_
  refine x_regq hmix (by kernel_rfl) ?_
  refine wq hs (fun w1 hw1 => y_fieldAddr sT_82 hs rfl rfl) rfl ?_; intro a hs
  refine wq hs (fun w1 hw1 => y_load sc_int hs rfl ((hM.quiet hw1).cellBlk 1 rfl 2 rfl)) rfl ?_; intro a hs
  refine wq hs (fun w1 hw1 => y_fieldAddr sT_82 hs rfl rfl) rfl ?_; intro a hs
  refine wq hs (fun w1 hw1 => y_load sc_int hs rfl ((hM.quiet hw1).cellBlk 0 rfl 2 rfl)) rfl ?_; intro a hs
  obtain ⟨n5, h6, hm⟩ := bindE hm
  refine wq hs (fun w1 hw1 => y_mul hs rfl rfl h6) rfl ?_; intro a hs
  refine wq hs (fun w1 hw1 => y_loadS (cs := [.int .i64 p0_0, .int .i64 p0_1, .int .i64 p0_2]) sT_82 hs rfl ((hM.quiet hw1).heapBlk 1 rfl) rfl) rfl ?_; intro a hs
  refine wq hs (fun w1 hw1 => y_loadS (cs := [.int .i64 p1_0, .int .i64 p1_1, .int .i64 p1_2]) sT_82 hs rfl ((hM.quiet hw1).heapBlk 0 rfl) rfl) rfl ?_; intro a hs
  obtain ⟨y7, h8, hm⟩ := bindE hm
  refine qcall (v := .int .i64 y7) is_151 hs rfl rfl (fun w1 hw1 => q_of hw1 (spec_mtDet_any p0_0 p0_1 p0_2 p1_0 p1_1 p1_2 w1  h8)) ?_; intro a hs
  obtain ⟨y9, h10, hm⟩ := bindE hm
  refine qcall (v := .int .i64 y9) is_160 hs rfl rfl (fun w1 hw1 => q_of hw1 (spec_l1Abs_any y7 w1  h10)) ?_; intro a hs
  obtain ⟨n11, h12, hm⟩ := bindE hm
  refine wq hs (fun w1 hw1 => y_mul hs rfl rfl h12) rfl ?_; intro a hs
  refine wq hs (fun w1 hw1 => y_assign hs rfl) rfl ?_; intro a hs
  refine wpQuiet_nil ?_
  intro w hw
  replace hM := hM.quiet hw
  refine x_nt ?_
  refine wp_ret ?_
  have hm : some n11 = some r := hm
  obtain rfl := Option.some.inj hm
  refine x_ret1 rfl hs rfl ⟨_, rfl, ?_⟩
  exact ⟨rfl, hM.none_⟩

theorem spec_mtMove_any (p0 : Int) (p1 : Int) (W : World)  {r : Bool} (hm : spec_mtMove_m p0 p1 = some r) : Calls Try.prog 123 [.int .i64 p0, .int .i64 p1].toArray W fun e w => ∃ v, e = .returned v ∧ v = .bool r ∧ Mem W w [] := by
  refine x_enter Try.func123 rfl Try.ntmps123 rfl ?_
  intro a hs
  have hM := Mem.start W
  unfold spec_mtMove_m at hm
  refine wp_seq ?_
  refine wp_region_lit ?_
  refine wl hs (y_assign hs rfl) rfl ?_; intro a hs
  refine wpList_nil ?_
  refine x_nt ?_
  refine wp_seq ?_
  refine wp_region_lit ?_
  refine wl hs (y_move hs rfl) rfl ?_; intro a hs
  obtain ⟨y1, h2, hm⟩ := bindE hm
  refine wcall is_74 hs rfl rfl (spec_l1In_any p0 (-1000) 1000 _  h2) ?_; rintro a _ w hs ⟨rfl, hX⟩
  have hM : Mem W w [] := hM.call hX
  refine wl hs (y_move hs rfl) rfl ?_; intro a hs
  obtain ⟨b3, hb4, hm⟩ := bindE hm
  refine wlguard (N := 19) (L' := [(10, .bool b3), (0, .int .i64 p0), (1, .int .i64 p1), (4, .bool false)]) (fun w => Mem W w []) 3 ?_ ?_
  · intro K; rcases Bool.eq_false_or_eq_true y1 with hg5 | hg5
    · have hm := condT hg5 hb4
      refine wlg hs rfl hg5 (y_move hs rfl) rfl ?_; intro a hs
      obtain ⟨y6, h7, hm⟩ := bindE hm
      refine wcallg is_74 hs rfl hg5 rfl rfl (spec_l1In_any p1 (-1000) 1000 _  h7) ?_; rintro a _ w hs ⟨rfl, hX⟩
      have hM : Mem W w [] := hM.call hX
      have hm : some y6 = some b3 := hm
      cases Option.some.inj hm
      refine wl hs (y_pickT hs rfl hg5 rfl) rfl ?_; intro a hs
      exact K _ _ (hs.sub ⟨rfl, rfl, rfl, rfl, trivial⟩) hM
    · have hm := condF hg5 hb4
      refine wls hs rfl hg5 rfl ?_; intro a hs
      refine wls hs rfl hg5 rfl ?_; intro a hs
      have hm : some false = some b3 := hm
      cases Option.some.inj hm
      refine wl hs (y_pickF hs rfl hg5 rfl) rfl ?_; intro a hs
      exact K _ _ (hs.sub ⟨rfl, rfl, rfl, rfl, trivial⟩) hM
  intro a w hs hM
  simp only [List.drop_succ_cons, List.drop_zero]
  refine wl hs (y_move hs rfl) rfl ?_; intro a hs
  obtain ⟨b8, hb9, hm⟩ := bindE hm
  refine wlguard (N := 19) (L' := [(18, .bool b8), (4, .bool false)]) (fun w => Mem W w []) 7 ?_ ?_
  · intro K; rcases Bool.eq_false_or_eq_true b3 with hg10 | hg10
    · have hm := condT hg10 hb9
      refine wlg hs rfl hg10 (y_move hs rfl) rfl ?_; intro a hs
      refine wlg hs rfl hg10 (y_neq hs rfl rfl) rfl ?_; intro a hs
      refine wlg hs rfl hg10 (y_move hs rfl) rfl ?_; intro a hs
      obtain ⟨b11, hb12, hm⟩ := bindE hm
      refine wlguard (N := 19) (L' := [(17, .bool b11), (4, .bool false), (11, .bool b3)]) (fun w => Mem W w []) 3 ?_ ?_
      · intro K; rcases Bool.eq_false_or_eq_true (p0 != 0) with hg13 | hg13
        · have hm := condT hg13 hb12
          refine wls hs rfl hg13 rfl ?_; intro a hs
          refine wls hs rfl hg13 rfl ?_; intro a hs
          have hm : some true = some b11 := hm
          cases Option.some.inj hm
          refine wlg hs rfl hg10 (y_pickT hs rfl hg13 rfl) rfl ?_; intro a hs
          exact K _ _ (hs.sub ⟨rfl, rfl, rfl, trivial⟩) hM
        · have hm := condF hg13 hb12
          refine wlg hs rfl hg13 (y_move hs rfl) rfl ?_; intro a hs
          refine wlg hs rfl hg13 (y_neq hs rfl rfl) rfl ?_; intro a hs
          have hm : some (p1 != 0) = some b11 := hm
          cases Option.some.inj hm
          refine wlg hs rfl hg10 (y_pickF hs rfl hg13 rfl) rfl ?_; intro a hs
          exact K _ _ (hs.sub ⟨rfl, rfl, rfl, trivial⟩) hM
      intro a w hs hM
      simp only [List.drop_succ_cons, List.drop_zero]
      have hm : some b11 = some b8 := hm
      cases Option.some.inj hm
      refine wl hs (y_pickT hs rfl hg10 rfl) rfl ?_; intro a hs
      exact K _ _ (hs.sub ⟨rfl, rfl, trivial⟩) hM
    · have hm := condF hg10 hb9
      refine wls hs rfl hg10 rfl ?_; intro a hs
      refine wls hs rfl hg10 rfl ?_; intro a hs
      refine wls hs rfl hg10 rfl ?_; intro a hs
      refine wlu hs rfl rfl ?_; intro a hs
      refine wlu hs rfl rfl ?_; intro a hs
      refine wls hs rfl hg10 rfl ?_; intro a hs
      have hm : some false = some b8 := hm
      cases Option.some.inj hm
      refine wl hs (y_pickF hs rfl hg10 rfl) rfl ?_; intro a hs
      exact K _ _ (hs.sub ⟨rfl, rfl, trivial⟩) hM
  intro a w hs hM
  simp only [List.drop_succ_cons, List.drop_zero]
  refine wl hs (y_assign hs rfl) rfl ?_; intro a hs
  refine wpList_nil ?_
  refine x_nt ?_
  refine wp_ret ?_
  have hm : some b8 = some r := hm
  obtain rfl := Option.some.inj hm
  refine x_ret1 rfl hs rfl ⟨_, rfl, ?_⟩
  exact ⟨rfl, hM⟩

theorem spec_mtMeets_any (p0_0 : Int) (p0_1 : Int) (p0_2 : Int) (p1_0 : Int) (p1_1 : Int) (p1_2 : Int) (p2 : Int) (p3 : Int) (W : World)  {r : Bool} (hm : spec_mtMeets_m p0_0 p0_1 p0_2 p1_0 p1_1 p1_2 p2 p3 = some r) : Calls Try.prog 125 [.agg #[.int .i64 p0_0, .int .i64 p0_1, .int .i64 p0_2], .agg #[.int .i64 p1_0, .int .i64 p1_1, .int .i64 p1_2], .int .i64 p2, .int .i64 p3].toArray W fun e w => ∃ v, e = .returned v ∧ v = .bool r ∧ Mem W w [] := by
  refine x_enter Try.func125 rfl Try.ntmps125 rfl ?_
  intro a hs
  have hM := Mem.start W
  unfold spec_mtMeets_m at hm
  refine wp_seq ?_
  refine wp_region_lit ?_
  refine wmem hs (x_boxS (cs := [.int .i64 p0_0, .int .i64 p0_1, .int .i64 p0_2]) hs rfl hM) rfl ?_; rintro a _ w hs ⟨g2, rfl, hM⟩
  have hM : Mem W w [aBlk g2 82 [.int .i64 p0_0, .int .i64 p0_1, .int .i64 p0_2]] := hM
  refine wmem hs (x_boxS (cs := [.int .i64 p1_0, .int .i64 p1_1, .int .i64 p1_2]) hs rfl hM) rfl ?_; rintro a _ w hs ⟨g4, rfl, hM⟩
  have hM : Mem W w [aBlk g4 82 [.int .i64 p1_0, .int .i64 p1_1, .int .i64 p1_2], aBlk g2 82 [.int .i64 p0_0, .int .i64 p0_1, .int .i64 p0_2]] := hM
  refine wl hs (y_assign hs rfl) rfl ?_; intro a hs
  refine wpList_nil ?_
  refine x_nt ?_
  refine wp_seq ?_
  refine wp_region_lit ?_
  refine wl hs (y_loadS (cs := [.int .i64 p0_0, .int .i64 p0_1, .int .i64 p0_2]) sT_82 hs rfl (hM.heapBlk 1 rfl) rfl) rfl ?_; intro a hs
  refine wl hs (y_loadS (cs := [.int .i64 p1_0, .int .i64 p1_1, .int .i64 p1_2]) sT_82 hs rfl (hM.heapBlk 0 rfl) rfl) rfl ?_; intro a hs
  obtain ⟨y5, h6, hm⟩ := bindE hm
  refine wcall is_151 hs rfl rfl (spec_mtDet_any p0_0 p0_1 p0_2 p1_0 p1_1 p1_2 _  h6) ?_; rintro a _ w hs ⟨rfl, hX⟩
  have hM : Mem W w [aBlk g4 82 [.int .i64 p1_0, .int .i64 p1_1, .int .i64 p1_2], aBlk g2 82 [.int .i64 p0_0, .int .i64 p0_1, .int .i64 p0_2]] := hM.call hX
  obtain ⟨y7, h8, hm⟩ := bindE hm
  refine wcall is_150 hs rfl rfl (spec_l1Sign_any y5 _  h8) ?_; rintro a _ w hs ⟨rfl, hX⟩
  have hM : Mem W w [aBlk g4 82 [.int .i64 p1_0, .int .i64 p1_1, .int .i64 p1_2], aBlk g2 82 [.int .i64 p0_0, .int .i64 p0_1, .int .i64 p0_2]] := hM.call hX
  refine wl hs (y_assign hs rfl) rfl ?_; intro a hs
  refine wpList_nil ?_
  refine x_nt ?_
  refine wp_seq ?_
  refine wp_region_lit ?_
  refine wl hs (y_move hs rfl) rfl ?_; intro a hs
  refine wl hs (y_neq hs rfl rfl) rfl ?_; intro a hs
  refine wl hs (y_move hs rfl) rfl ?_; intro a hs
  obtain ⟨b9, hb10, hm⟩ := bindE hm
  refine wlguard (N := 44) (L' := [(29, .bool b9), (2, .int .i64 p2), (3, .int .i64 p3), (4, .pointer (some ⟨g2, 0, none⟩)), (8, .bool false), (9, .int .i64 y7)]) (fun w => Mem W w [aBlk g4 82 [.int .i64 p1_0, .int .i64 p1_1, .int .i64 p1_2], aBlk g2 82 [.int .i64 p0_0, .int .i64 p0_1, .int .i64 p0_2]]) 13 ?_ ?_
  · intro K; rcases Bool.eq_false_or_eq_true (y7 != 0) with hg11 | hg11
    · have hm := condT hg11 hb10
      refine wlg hs rfl hg11 (y_move hs rfl) rfl ?_; intro a hs
      refine wlg hs rfl hg11 (y_fieldAddr sT_82 hs rfl rfl) rfl ?_; intro a hs
      refine wlg hs rfl hg11 (y_load sc_int hs rfl (hM.cellBlk 0 rfl 1 rfl)) rfl ?_; intro a hs
      obtain ⟨n12, h13, hm⟩ := bindE hm
      refine wlg hs rfl hg11 (y_mul hs rfl rfl h13) rfl ?_; intro a hs
      refine wlg hs rfl hg11 (y_move hs rfl) rfl ?_; intro a hs
      refine wlg hs rfl hg11 (y_fieldAddr sT_82 hs rfl rfl) rfl ?_; intro a hs
      refine wlg hs rfl hg11 (y_load sc_int hs rfl (hM.cellBlk 0 rfl 0 rfl)) rfl ?_; intro a hs
      obtain ⟨n14, h15, hm⟩ := bindE hm
      refine wlg hs rfl hg11 (y_mul hs rfl rfl h15) rfl ?_; intro a hs
      obtain ⟨n16, h17, hm⟩ := bindE hm
      refine wlg hs rfl hg11 (y_sub hs rfl rfl h17) rfl ?_; intro a hs
      obtain ⟨y18, h19, hm⟩ := bindE hm
      refine wcallg is_150 hs rfl hg11 rfl rfl (spec_l1Sign_any n16 _  h19) ?_; rintro a _ w hs ⟨rfl, hX⟩
      have hM : Mem W w [aBlk g4 82 [.int .i64 p1_0, .int .i64 p1_1, .int .i64 p1_2], aBlk g2 82 [.int .i64 p0_0, .int .i64 p0_1, .int .i64 p0_2]] := hM.call hX
      refine wlg hs rfl hg11 (y_move hs rfl) rfl ?_; intro a hs
      refine wlg hs rfl hg11 (y_eql hs rfl rfl) rfl ?_; intro a hs
      have hm : some (y18 == y7) = some b9 := hm
      cases Option.some.inj hm
      refine wl hs (y_pickT hs rfl hg11 rfl) rfl ?_; intro a hs
      exact K _ _ (hs.sub ⟨rfl, rfl, rfl, rfl, rfl, rfl, trivial⟩) hM
    · have hm := condF hg11 hb10
      refine wls hs rfl hg11 rfl ?_; intro a hs
      refine wls hs rfl hg11 rfl ?_; intro a hs
      refine wls hs rfl hg11 rfl ?_; intro a hs
      refine wls hs rfl hg11 rfl ?_; intro a hs
      refine wls hs rfl hg11 rfl ?_; intro a hs
      refine wls hs rfl hg11 rfl ?_; intro a hs
      refine wls hs rfl hg11 rfl ?_; intro a hs
      refine wls hs rfl hg11 rfl ?_; intro a hs
      refine wls hs rfl hg11 rfl ?_; intro a hs
      refine wls hs rfl hg11 rfl ?_; intro a hs
      refine wls hs rfl hg11 rfl ?_; intro a hs
      refine wls hs rfl hg11 rfl ?_; intro a hs
      have hm : some false = some b9 := hm
      cases Option.some.inj hm
      refine wl hs (y_pickF hs rfl hg11 rfl) rfl ?_; intro a hs
      exact K _ _ (hs.sub ⟨rfl, rfl, rfl, rfl, rfl, rfl, trivial⟩) hM
  intro a w hs hM
  simp only [List.drop_succ_cons, List.drop_zero]
  refine wl hs (y_move hs rfl) rfl ?_; intro a hs
  obtain ⟨b20, hb21, hm⟩ := bindE hm
  refine wlguard (N := 44) (L' := [(43, .bool b20), (8, .bool false)]) (fun w => Mem W w [aBlk g4 82 [.int .i64 p1_0, .int .i64 p1_1, .int .i64 p1_2], aBlk g2 82 [.int .i64 p0_0, .int .i64 p0_1, .int .i64 p0_2]]) 13 ?_ ?_
  · intro K; rcases Bool.eq_false_or_eq_true b9 with hg22 | hg22
    · have hm := condT hg22 hb21
      refine wlg hs rfl hg22 (y_move hs rfl) rfl ?_; intro a hs
      refine wlg hs rfl hg22 (y_fieldAddr sT_82 hs rfl rfl) rfl ?_; intro a hs
      refine wlg hs rfl hg22 (y_load sc_int hs rfl (hM.cellBlk 1 rfl 1 rfl)) rfl ?_; intro a hs
      obtain ⟨n23, h24, hm⟩ := bindE hm
      refine wlg hs rfl hg22 (y_mul hs rfl rfl h24) rfl ?_; intro a hs
      refine wlg hs rfl hg22 (y_move hs rfl) rfl ?_; intro a hs
      refine wlg hs rfl hg22 (y_fieldAddr sT_82 hs rfl rfl) rfl ?_; intro a hs
      refine wlg hs rfl hg22 (y_load sc_int hs rfl (hM.cellBlk 1 rfl 0 rfl)) rfl ?_; intro a hs
      obtain ⟨n25, h26, hm⟩ := bindE hm
      refine wlg hs rfl hg22 (y_mul hs rfl rfl h26) rfl ?_; intro a hs
      obtain ⟨n27, h28, hm⟩ := bindE hm
      refine wlg hs rfl hg22 (y_sub hs rfl rfl h28) rfl ?_; intro a hs
      obtain ⟨y29, h30, hm⟩ := bindE hm
      refine wcallg is_150 hs rfl hg22 rfl rfl (spec_l1Sign_any n27 _  h30) ?_; rintro a _ w hs ⟨rfl, hX⟩
      have hM : Mem W w [aBlk g4 82 [.int .i64 p1_0, .int .i64 p1_1, .int .i64 p1_2], aBlk g2 82 [.int .i64 p0_0, .int .i64 p0_1, .int .i64 p0_2]] := hM.call hX
      refine wlg hs rfl hg22 (y_move hs rfl) rfl ?_; intro a hs
      refine wlg hs rfl hg22 (y_eql hs rfl rfl) rfl ?_; intro a hs
      have hm : some (y29 == y7) = some b20 := hm
      cases Option.some.inj hm
      refine wl hs (y_pickT hs rfl hg22 rfl) rfl ?_; intro a hs
      exact K _ _ (hs.sub ⟨rfl, rfl, trivial⟩) hM
    · have hm := condF hg22 hb21
      refine wls hs rfl hg22 rfl ?_; intro a hs
      refine wls hs rfl hg22 rfl ?_; intro a hs
      refine wls hs rfl hg22 rfl ?_; intro a hs
      refine wls hs rfl hg22 rfl ?_; intro a hs
      refine wls hs rfl hg22 rfl ?_; intro a hs
      refine wls hs rfl hg22 rfl ?_; intro a hs
      refine wls hs rfl hg22 rfl ?_; intro a hs
      refine wls hs rfl hg22 rfl ?_; intro a hs
      refine wls hs rfl hg22 rfl ?_; intro a hs
      refine wls hs rfl hg22 rfl ?_; intro a hs
      refine wls hs rfl hg22 rfl ?_; intro a hs
      refine wls hs rfl hg22 rfl ?_; intro a hs
      have hm : some false = some b20 := hm
      cases Option.some.inj hm
      refine wl hs (y_pickF hs rfl hg22 rfl) rfl ?_; intro a hs
      exact K _ _ (hs.sub ⟨rfl, rfl, trivial⟩) hM
  intro a w hs hM
  simp only [List.drop_succ_cons, List.drop_zero]
  refine wl hs (y_assign hs rfl) rfl ?_; intro a hs
  refine wpList_nil ?_
  refine x_nt ?_
  refine wp_ret ?_
  have hm : some b20 = some r := hm
  obtain rfl := Option.some.inj hm
  refine x_ret1 rfl hs rfl ⟨_, rfl, ?_⟩
  exact ⟨rfl, hM.none_⟩

theorem spec_mtFree_any (v_p0 : Value) (p0 : List Y3) (p1 : Int) (p2 : Int) (W : World) (hr_p0 : RdY W v_p0 p0) {r : Bool} (hm : spec_mtFree_m p0 p1 p2 = some r) : Calls Try.prog 124 [v_p0, .int .i64 p1, .int .i64 p2].toArray W fun e w => ∃ v, e = .returned v ∧ v = .bool r ∧ Mem W w [] := by
  refine x_enter Try.func124 rfl Try.ntmps124 rfl ?_
  intro a hs
  have hM := Mem.start W
  unfold spec_mtFree_m at hm
  refine wp_seq ?_
  refine wp_region_lit ?_
  refine wl hs (y_assign hs rfl) rfl ?_; intro a hs
  refine wpList_nil ?_
  refine x_nt ?_
  refine wp_seq ?_
  refine wp_seq ?_
  refine wp_region_lit ?_
  refine wl hs (y_move hs rfl) rfl ?_; intro a hs
  refine wl hs (y_lenY hY_51 hs rfl (RdY.below hr_p0 hM.bel)) rfl ?_; intro a hs
  refine wl hs (y_move hs rfl) rfl ?_; intro a hs
  refine wpList_nil ?_
  refine x_nt ?_
  obtain ⟨s2, hm, hk3⟩ := bindE hm
  refine x_mid (fun a w => Sum.inr () = s2 ∧ Fr a 25 [] ∧ Mem W w []) ?_ ?_
  · refine wp_block ?_
    refine x_loop (fun k a w => ∃ (q4 : List Y3) (j1 : Nat) , k = q4.length ∧ Fr a 25 [(1, .int .i64 p1), (2, .int .i64 p2), (9, v_p0), (10, .int .i64 (p0.length : Int)), (11, .int .i64 (j1 : Int))] ∧ Mem W w [] ∧ spec_mtFree_l1 p1 p2 q4 j1 = some s2 ∧ List.drop j1 p0 = q4) _ ⟨p0, 0, rfl, hs.sub ⟨rfl, rfl, rfl, rfl, rfl, trivial⟩, hM, hm, rfl⟩ ?_
    rintro k a w ⟨q4, j1, rfl, hs, hM, hm, hj1⟩
    rcases q4 with _ | ⟨x5, q4⟩
    · rewrite [spec_mtFree_l1] at hm
      refine wp_seq ?_
      refine wp_region_lit ?_
      refine wl hs (y_lss hs rfl rfl) rfl ?_; intro a hs
      refine wpList_nil ?_
      refine x_nt ?_
      refine wp_seq ?_
      refine x_condF hs rfl (drop_f hj1) ?_
      refine wp_exit ?_
      refine x_et ?_
      refine x_et ?_
      refine x_eb ?_
      have hm : some (Sum.inr ()) = some s2 := hm
      exact ⟨Option.some.inj hm, hs.sub trivial, hM⟩
    · rewrite [spec_mtFree_l1] at hm
      have hx6 := drop_idx hj1
      have hsj1 := ck_succ hj1 (RdY.len (RdY.below hr_p0 hM.bel))
      refine wp_seq ?_
      refine wp_region_lit ?_
      refine wl hs (y_lss hs rfl rfl) rfl ?_; intro a hs
      refine wpList_nil ?_
      refine x_nt ?_
      refine wp_seq ?_
      refine x_condT hs rfl (drop_t hj1) ?_
      refine wp_skip ?_
      refine x_nt ?_
      refine wp_seq ?_
      refine wp_block ?_
      refine wp_seq ?_
      refine wp_region_lit ?_
      have he7 := RdY.at_ (RdY.below hr_p0 hM.bel) hx6
      refine wl hs (y_indexY hY_51 hs rfl rfl he7) rfl ?_; intro a hs
      refine wl hs (y_loadY sT_82 rfl hs rfl he7) rfl ?_; intro a hs
      refine wmem hs (x_allocS sT_82 hM) rfl ?_; rintro a _ w hs ⟨g9, rfl, hM⟩
      have hM : Mem W w [aBlk g9 82 [.int .i64 0, .int .i64 0, .int .i64 0]] := hM
      refine wstore hs rfl rfl (x_storeS (cs := [.int .i64 0, .int .i64 0, .int .i64 0]) (us := [.int .i64 x5.1, .int .i64 x5.2.1, .int .i64 x5.2.2]) sT_82 ⟨rfl, rfl, rfl, trivial⟩ rfl rfl (hM.front 0 rfl)) ?_; intro w hM
      have hM : Mem W w [aBlk g9 82 [.int .i64 x5.1, .int .i64 x5.2.1, .int .i64 x5.2.2]] := hM
      refine wpList_nil ?_
      refine x_nt ?_
      refine wp_seq ?_
      refine wp_region_lit ?_
      refine wl hs (y_move hs rfl) rfl ?_; intro a hs
      refine wl hs (y_fieldAddr sT_82 hs rfl rfl) rfl ?_; intro a hs
      refine wl hs (y_load sc_int hs rfl (hM.cellBlk 0 rfl 1 rfl)) rfl ?_; intro a hs
      obtain ⟨n10, h11, hm⟩ := bindE hm
      refine wl hs (y_mul hs rfl rfl h11) rfl ?_; intro a hs
      refine wl hs (y_move hs rfl) rfl ?_; intro a hs
      refine wl hs (y_fieldAddr sT_82 hs rfl rfl) rfl ?_; intro a hs
      refine wl hs (y_load sc_int hs rfl (hM.cellBlk 0 rfl 0 rfl)) rfl ?_; intro a hs
      obtain ⟨n12, h13, hm⟩ := bindE hm
      refine wl hs (y_mul hs rfl rfl h13) rfl ?_; intro a hs
      refine wl hs (y_eql hs rfl rfl) rfl ?_; intro a hs
      refine wpList_nil ?_
      refine x_nt ?_
      refine x_cond hs rfl (fun hb => ?_) (fun hb => ?_)
      · replace hm := condT hb hm
        refine wp_seq ?_
        refine wp_region_lit ?_
        refine wl hs (y_assign hs rfl) rfl ?_; intro a hs
        refine wpList_nil ?_
        refine x_nt ?_
        refine wp_ret ?_
        refine x_rb ?_
        refine x_rt ?_
        refine x_rt ?_
        refine x_rb ?_
        refine x_rt ?_
        refine x_rt ?_
        have hm : some (Sum.inl false) = some s2 := hm
        cases Option.some.inj hm
        have hm := hk3
        have hm : some false = some r := hm
        obtain rfl := Option.some.inj hm
        refine x_ret1 rfl hs rfl ⟨_, rfl, ?_⟩
        exact ⟨rfl, hM.none_⟩
      · replace hm := condF hb hm
        refine wp_skip ?_
        refine x_nb ?_
        refine x_nt ?_
        refine wp_region_lit ?_
        refine wl hs (y_add hs rfl rfl hsj1) rfl ?_; intro a hs
        refine wl hs (y_move hs rfl) rfl ?_; intro a hs
        refine wpList_nil ?_
        exact ⟨_, by simp, q4, j1 + 1, rfl, hs.sub ⟨rfl, rfl, rfl, rfl, rfl, trivial⟩, hM.none_, hm, drop_next hj1⟩
  rintro a w ⟨rfl, hs, hM⟩
  have hm := hk3
  refine x_nt ?_
  refine wp_seq ?_
  refine wp_region_lit ?_
  refine wl hs (y_assign hs rfl) rfl ?_; intro a hs
  refine wpList_nil ?_
  refine x_nt ?_
  refine wp_ret ?_
  have hm : some true = some r := hm
  obtain rfl := Option.some.inj hm
  refine x_ret1 rfl hs rfl ⟨_, rfl, ?_⟩
  exact ⟨rfl, hM⟩

theorem spec_mtAsked_any (v_p0 : Value) (p0 : List Y3) (v_p1 : Value) (p1 : List Y3) (p2 : Int) (p3 : Int) (W : World) (hr_p0 : RdY W v_p0 p0) (hr_p1 : RdY W v_p1 p1) {r : Bool} (hm : spec_mtAsked_m p0 p1 p2 p3 = some r) : Calls Try.prog 92 [v_p0, v_p1, .int .i64 p2, .int .i64 p3].toArray W fun e w => ∃ v, e = .returned v ∧ v = .bool r ∧ Mem W w [] := by
  refine x_enter Try.func92 rfl Try.ntmps92 rfl ?_
  intro a hs
  have hM := Mem.start W
  unfold spec_mtAsked_m at hm
  refine wp_seq ?_
  refine wp_region_lit ?_
  refine wl hs (y_assign hs rfl) rfl ?_; intro a hs
  refine wpList_nil ?_
  refine x_nt ?_
  refine wp_seq ?_
  refine wp_region_lit ?_
  refine wl hs (y_move hs rfl) rfl ?_; intro a hs
  obtain ⟨y1, h2, hm⟩ := bindE hm
  refine wcall is_118 hs rfl rfl (spec_stGood_any v_p0 p0 _ (RdY.below hr_p0 hM.bel) h2) ?_; rintro a _ w hs ⟨rfl, hX⟩
  have hM : Mem W w [] := hM.call hX
  refine wl hs (y_move hs rfl) rfl ?_; intro a hs
  obtain ⟨b3, hb4, hm⟩ := bindE hm
  refine wlguard (N := 32) (L' := [(14, .bool b3), (0, v_p0), (1, v_p1), (2, .int .i64 p2), (3, .int .i64 p3), (8, .bool false)]) (fun w => Mem W w []) 3 ?_ ?_
  · intro K; rcases Bool.eq_false_or_eq_true y1 with hg5 | hg5
    · have hm := condT hg5 hb4
      refine wlg hs rfl hg5 (y_move hs rfl) rfl ?_; intro a hs
      obtain ⟨y6, h7, hm⟩ := bindE hm
      refine wcallg is_118 hs rfl hg5 rfl rfl (spec_stGood_any v_p1 p1 _ (RdY.below hr_p1 hM.bel) h7) ?_; rintro a _ w hs ⟨rfl, hX⟩
      have hM : Mem W w [] := hM.call hX
      have hm : some y6 = some b3 := hm
      cases Option.some.inj hm
      refine wl hs (y_pickT hs rfl hg5 rfl) rfl ?_; intro a hs
      exact K _ _ (hs.sub ⟨rfl, rfl, rfl, rfl, rfl, rfl, trivial⟩) hM
    · have hm := condF hg5 hb4
      refine wls hs rfl hg5 rfl ?_; intro a hs
      refine wls hs rfl hg5 rfl ?_; intro a hs
      have hm : some false = some b3 := hm
      cases Option.some.inj hm
      refine wl hs (y_pickF hs rfl hg5 rfl) rfl ?_; intro a hs
      exact K _ _ (hs.sub ⟨rfl, rfl, rfl, rfl, rfl, rfl, trivial⟩) hM
  intro a w hs hM
  simp only [List.drop_succ_cons, List.drop_zero]
  refine wl hs (y_move hs rfl) rfl ?_; intro a hs
  obtain ⟨b8, hb9, hm⟩ := bindE hm
  refine wlguard (N := 32) (L' := [(19, .bool b8), (0, v_p0), (1, v_p1), (2, .int .i64 p2), (3, .int .i64 p3), (8, .bool false)]) (fun w => Mem W w []) 4 ?_ ?_
  · intro K; rcases Bool.eq_false_or_eq_true b3 with hg10 | hg10
    · have hm := condT hg10 hb9
      refine wlg hs rfl hg10 (y_move hs rfl) rfl ?_; intro a hs
      refine wlg hs rfl hg10 (y_move hs rfl) rfl ?_; intro a hs
      obtain ⟨y11, h12, hm⟩ := bindE hm
      refine wcallg is_123 hs rfl hg10 rfl rfl (spec_mtMove_any p2 p3 _  h12) ?_; rintro a _ w hs ⟨rfl, hX⟩
      have hM : Mem W w [] := hM.call hX
      have hm : some y11 = some b8 := hm
      cases Option.some.inj hm
      refine wl hs (y_pickT hs rfl hg10 rfl) rfl ?_; intro a hs
      exact K _ _ (hs.sub ⟨rfl, rfl, rfl, rfl, rfl, rfl, trivial⟩) hM
    · have hm := condF hg10 hb9
      refine wls hs rfl hg10 rfl ?_; intro a hs
      refine wls hs rfl hg10 rfl ?_; intro a hs
      refine wls hs rfl hg10 rfl ?_; intro a hs
      have hm : some false = some b8 := hm
      cases Option.some.inj hm
      refine wl hs (y_pickF hs rfl hg10 rfl) rfl ?_; intro a hs
      exact K _ _ (hs.sub ⟨rfl, rfl, rfl, rfl, rfl, rfl, trivial⟩) hM
  intro a w hs hM
  simp only [List.drop_succ_cons, List.drop_zero]
  refine wl hs (y_move hs rfl) rfl ?_; intro a hs
  obtain ⟨b13, hb14, hm⟩ := bindE hm
  refine wlguard (N := 32) (L' := [(25, .bool b13), (1, v_p1), (2, .int .i64 p2), (3, .int .i64 p3), (8, .bool false)]) (fun w => Mem W w []) 5 ?_ ?_
  · intro K; rcases Bool.eq_false_or_eq_true b8 with hg15 | hg15
    · have hm := condT hg15 hb14
      refine wlg hs rfl hg15 (y_move hs rfl) rfl ?_; intro a hs
      refine wlg hs rfl hg15 (y_move hs rfl) rfl ?_; intro a hs
      refine wlg hs rfl hg15 (y_move hs rfl) rfl ?_; intro a hs
      obtain ⟨y16, h17, hm⟩ := bindE hm
      refine wcallg is_124 hs rfl hg15 rfl rfl (spec_mtFree_any v_p0 p0 p2 p3 _ (RdY.below hr_p0 hM.bel) h17) ?_; rintro a _ w hs ⟨rfl, hX⟩
      have hM : Mem W w [] := hM.call hX
      have hm : some y16 = some b13 := hm
      cases Option.some.inj hm
      refine wl hs (y_pickT hs rfl hg15 rfl) rfl ?_; intro a hs
      exact K _ _ (hs.sub ⟨rfl, rfl, rfl, rfl, rfl, trivial⟩) hM
    · have hm := condF hg15 hb14
      refine wls hs rfl hg15 rfl ?_; intro a hs
      refine wls hs rfl hg15 rfl ?_; intro a hs
      refine wls hs rfl hg15 rfl ?_; intro a hs
      refine wls hs rfl hg15 rfl ?_; intro a hs
      have hm : some false = some b13 := hm
      cases Option.some.inj hm
      refine wl hs (y_pickF hs rfl hg15 rfl) rfl ?_; intro a hs
      exact K _ _ (hs.sub ⟨rfl, rfl, rfl, rfl, rfl, trivial⟩) hM
  intro a w hs hM
  simp only [List.drop_succ_cons, List.drop_zero]
  refine wl hs (y_move hs rfl) rfl ?_; intro a hs
  obtain ⟨b18, hb19, hm⟩ := bindE hm
  refine wlguard (N := 32) (L' := [(31, .bool b18), (8, .bool false)]) (fun w => Mem W w []) 5 ?_ ?_
  · intro K; rcases Bool.eq_false_or_eq_true b13 with hg20 | hg20
    · have hm := condT hg20 hb19
      refine wlg hs rfl hg20 (y_move hs rfl) rfl ?_; intro a hs
      refine wlg hs rfl hg20 (y_move hs rfl) rfl ?_; intro a hs
      refine wlg hs rfl hg20 (y_move hs rfl) rfl ?_; intro a hs
      obtain ⟨y21, h22, hm⟩ := bindE hm
      refine wcallg is_124 hs rfl hg20 rfl rfl (spec_mtFree_any v_p1 p1 p2 p3 _ (RdY.below hr_p1 hM.bel) h22) ?_; rintro a _ w hs ⟨rfl, hX⟩
      have hM : Mem W w [] := hM.call hX
      have hm : some y21 = some b18 := hm
      cases Option.some.inj hm
      refine wl hs (y_pickT hs rfl hg20 rfl) rfl ?_; intro a hs
      exact K _ _ (hs.sub ⟨rfl, rfl, trivial⟩) hM
    · have hm := condF hg20 hb19
      refine wls hs rfl hg20 rfl ?_; intro a hs
      refine wls hs rfl hg20 rfl ?_; intro a hs
      refine wls hs rfl hg20 rfl ?_; intro a hs
      refine wls hs rfl hg20 rfl ?_; intro a hs
      have hm : some false = some b18 := hm
      cases Option.some.inj hm
      refine wl hs (y_pickF hs rfl hg20 rfl) rfl ?_; intro a hs
      exact K _ _ (hs.sub ⟨rfl, rfl, trivial⟩) hM
  intro a w hs hM
  simp only [List.drop_succ_cons, List.drop_zero]
  refine wl hs (y_assign hs rfl) rfl ?_; intro a hs
  refine wpList_nil ?_
  refine x_nt ?_
  refine wp_ret ?_
  have hm : some b18 = some r := hm
  obtain rfl := Option.some.inj hm
  refine x_ret1 rfl hs rfl ⟨_, rfl, ?_⟩
  exact ⟨rfl, hM⟩

set_option maxHeartbeats 4000000 in
theorem spec_mtPairs_any (v_p0 : Value) (p0 : List Y3) (v_p1 : Value) (p1 : List Y3) (p2 : Int) (p3 : Int) (W : World) (hr_p0 : RdY W v_p0 p0) (hr_p1 : RdY W v_p1 p1) {r : List (List Int)} (hm : spec_mtPairs_m p0 p1 p2 p3 = some r) : Calls Try.prog 93 [v_p0, v_p1, .int .i64 p2, .int .i64 p3].toArray W fun e w => ∃ v, e = .returned v ∧ ∃ vs0, Mem W w [aMat 24 3 v vs0 r] := by
  refine x_enter Try.func93 rfl Try.ntmps93 rfl ?_
  intro a hs
  have hM := Mem.start W
  unfold spec_mtPairs_m at hm
  refine wp_seq ?_
  refine wp_region_lit ?_
  refine wl hs (y_assign hs rfl) rfl ?_; intro a hs
  refine wpList_nil ?_
  refine x_nt ?_
  refine wp_seq ?_
  refine wp_region_lit ?_
  refine wl hs (y_assign hs rfl) rfl ?_; intro a hs
  have hM := hM.nilM 24 3
  refine wpList_nil ?_
  refine x_nt ?_
  refine wp_seq ?_
  refine wp_seq ?_
  refine wp_region_lit ?_
  refine wl hs (y_move hs rfl) rfl ?_; intro a hs
  refine wl hs (y_lenY hY_51 hs rfl (RdY.below hr_p0 hM.bel)) rfl ?_; intro a hs
  refine wl hs (y_move hs rfl) rfl ?_; intro a hs
  refine wpList_nil ?_
  refine x_nt ?_
  obtain ⟨s9, hm, hk10⟩ := bindE hm
  refine x_mid (fun a w => ∃ (v6 : Value), ∃ (vs7 : List Value), ∃ (l8 : List (List Int)), l8 = s9 ∧ Fr a 42 [(9, v6)] ∧ Mem W w [aMat 24 3 v6 vs7 l8]) ?_ ?_
  · refine wp_block ?_
    refine x_loop (fun k a w => ∃ (q11 : List Y3) (j2 : Nat) (v3 : Value) (vs4 : List Value) (l5 : List (List Int)) , k = q11.length ∧ Fr a 42 [(1, v_p1), (2, .int .i64 p2), (3, .int .i64 p3), (9, v3), (14, v_p0), (15, .int .i64 (p0.length : Int)), (16, .int .i64 (j2 : Int))] ∧ Mem W w [aMat 24 3 v3 vs4 l5] ∧ spec_mtPairs_l1 p1 p2 p3 q11 j2 l5 = some s9 ∧ List.drop j2 p0 = q11) _ ⟨p0, 0, (.slice none 0 0), [], [], rfl, hs.sub ⟨rfl, rfl, rfl, rfl, rfl, rfl, rfl, trivial⟩, hM, hm, rfl⟩ ?_
    rintro k a w ⟨q11, j2, v3, vs4, l5, rfl, hs, hM, hm, hj2⟩
    rcases q11 with _ | ⟨x12, q11⟩
    · rewrite [spec_mtPairs_l1] at hm
      refine wp_seq ?_
      refine wp_region_lit ?_
      refine wl hs (y_lss hs rfl rfl) rfl ?_; intro a hs
      refine wpList_nil ?_
      refine x_nt ?_
      refine wp_seq ?_
      refine x_condF hs rfl (drop_f hj2) ?_
      refine wp_exit ?_
      refine x_et ?_
      refine x_et ?_
      refine x_eb ?_
      have hm : some l5 = some s9 := hm
      exact ⟨v3, vs4, l5, Option.some.inj hm, hs.sub ⟨rfl, trivial⟩, hM⟩
    · rewrite [spec_mtPairs_l1] at hm
      have hx13 := drop_idx hj2
      have hsj2 := ck_succ hj2 (RdY.len (RdY.below hr_p0 hM.bel))
      refine wp_seq ?_
      refine wp_region_lit ?_
      refine wl hs (y_lss hs rfl rfl) rfl ?_; intro a hs
      refine wpList_nil ?_
      refine x_nt ?_
      refine wp_seq ?_
      refine x_condT hs rfl (drop_t hj2) ?_
      refine wp_skip ?_
      refine x_nt ?_
      refine wp_seq ?_
      refine wp_block ?_
      refine wp_seq ?_
      refine wp_region_lit ?_
      refine wl hs (y_move hs rfl) rfl ?_; intro a hs
      have he14 := RdY.at_ (RdY.below hr_p0 hM.bel) hx13
      refine wl hs (y_indexY hY_51 hs rfl rfl he14) rfl ?_; intro a hs
      refine wl hs (y_loadY sT_82 rfl hs rfl he14) rfl ?_; intro a hs
      refine wmem hs (x_allocS sT_82 hM) rfl ?_; rintro a _ w hs ⟨g16, rfl, hM⟩
      have hM : Mem W w [aBlk g16 82 [.int .i64 0, .int .i64 0, .int .i64 0], aMat 24 3 v3 vs4 l5] := hM
      refine wl hs (y_assign hs rfl) rfl ?_; intro a hs
      refine wstore hs rfl rfl (x_storeS (cs := [.int .i64 0, .int .i64 0, .int .i64 0]) (us := [.int .i64 x12.1, .int .i64 x12.2.1, .int .i64 x12.2.2]) sT_82 ⟨rfl, rfl, rfl, trivial⟩ rfl rfl (hM.front 0 rfl)) ?_; intro w hM
      have hM : Mem W w [aBlk g16 82 [.int .i64 x12.1, .int .i64 x12.2.1, .int .i64 x12.2.2], aMat 24 3 v3 vs4 l5] := hM
      refine wpList_nil ?_
      refine x_nt ?_
      refine wp_seq ?_
      refine wp_region_lit ?_
      refine wl hs (y_move hs rfl) rfl ?_; intro a hs
      refine wl hs (y_lenY hY_51 hs rfl (RdY.below hr_p1 hM.bel)) rfl ?_; intro a hs
      refine wl hs (y_move hs rfl) rfl ?_; intro a hs
      refine wpList_nil ?_
      refine x_nt ?_
      obtain ⟨s24, hm, hk25⟩ := bindE hm
      refine x_mid (fun a w => ∃ (v21 : Value), ∃ (vs22 : List Value), ∃ (l23 : List (List Int)), l23 = s24 ∧ Fr a 42 [(1, v_p1), (2, .int .i64 p2), (3, .int .i64 p3), (9, v21), (14, v_p0), (15, .int .i64 (p0.length : Int)), (16, .int .i64 (j2 : Int))] ∧ Mem W w [aMat 24 3 v21 vs22 l23]) ?_ ?_
      · refine wp_block ?_
        refine x_loop (fun k a w => ∃ (q26 : List Y3) (j17 : Nat) (v18 : Value) (vs19 : List Value) (l20 : List (List Int)) , k = q26.length ∧ Fr a 42 [(1, v_p1), (2, .int .i64 p2), (3, .int .i64 p3), (9, v18), (10, .int .i64 (j2 : Int)), (11, .pointer (some ⟨g16, 0, none⟩)), (14, v_p0), (15, .int .i64 (p0.length : Int)), (16, .int .i64 (j2 : Int)), (21, v_p1), (22, .int .i64 (p1.length : Int)), (23, .int .i64 (j17 : Int))] ∧ Mem W w [aBlk g16 82 [.int .i64 x12.1, .int .i64 x12.2.1, .int .i64 x12.2.2], aMat 24 3 v18 vs19 l20] ∧ spec_mtPairs_l2 p2 p3 j2 x12 q26 j17 l20 = some s24 ∧ List.drop j17 p1 = q26) _ ⟨p1, 0, v3, vs4, l5, rfl, hs.sub ⟨rfl, rfl, rfl, rfl, rfl, rfl, rfl, rfl, rfl, rfl, rfl, rfl, trivial⟩, hM, hm, rfl⟩ ?_
        rintro k a w ⟨q26, j17, v18, vs19, l20, rfl, hs, hM, hm, hj17⟩
        rcases q26 with _ | ⟨x27, q26⟩
        · rewrite [spec_mtPairs_l2] at hm
          refine wp_seq ?_
          refine wp_region_lit ?_
          refine wl hs (y_lss hs rfl rfl) rfl ?_; intro a hs
          refine wpList_nil ?_
          refine x_nt ?_
          refine wp_seq ?_
          refine x_condF hs rfl (drop_f hj17) ?_
          refine wp_exit ?_
          refine x_et ?_
          refine x_et ?_
          refine x_eb ?_
          have hm : some l20 = some s24 := hm
          exact ⟨v18, vs19, l20, Option.some.inj hm, hs.sub ⟨rfl, rfl, rfl, rfl, rfl, rfl, rfl, trivial⟩, hM.drop⟩
        · rewrite [spec_mtPairs_l2] at hm
          have hx28 := drop_idx hj17
          have hsj17 := ck_succ hj17 (RdY.len (RdY.below hr_p1 hM.bel))
          refine wp_seq ?_
          refine wp_region_lit ?_
          refine wl hs (y_lss hs rfl rfl) rfl ?_; intro a hs
          refine wpList_nil ?_
          refine x_nt ?_
          refine wp_seq ?_
          refine x_condT hs rfl (drop_t hj17) ?_
          refine wp_skip ?_
          refine x_nt ?_
          refine wp_seq ?_
          refine wp_block ?_
          refine wp_seq ?_
          refine wp_region_lit ?_
          refine wl hs (y_move hs rfl) rfl ?_; intro a hs
          have he29 := RdY.at_ (RdY.below hr_p1 hM.bel) hx28
          refine wl hs (y_indexY hY_51 hs rfl rfl he29) rfl ?_; intro a hs
          refine wl hs (y_loadY sT_82 rfl hs rfl he29) rfl ?_; intro a hs
          refine wmem hs (x_allocS sT_82 hM) rfl ?_; rintro a _ w hs ⟨g31, rfl, hM⟩
          have hM : Mem W w [aBlk g31 82 [.int .i64 0, .int .i64 0, .int .i64 0], aBlk g16 82 [.int .i64 x12.1, .int .i64 x12.2.1, .int .i64 x12.2.2], aMat 24 3 v18 vs19 l20] := hM
          refine wl hs (y_assign hs rfl) rfl ?_; intro a hs
          refine wstore hs rfl rfl (x_storeS (cs := [.int .i64 0, .int .i64 0, .int .i64 0]) (us := [.int .i64 x27.1, .int .i64 x27.2.1, .int .i64 x27.2.2]) sT_82 ⟨rfl, rfl, rfl, trivial⟩ rfl rfl (hM.front 0 rfl)) ?_; intro w hM
          have hM : Mem W w [aBlk g31 82 [.int .i64 x27.1, .int .i64 x27.2.1, .int .i64 x27.2.2], aBlk g16 82 [.int .i64 x12.1, .int .i64 x12.2.1, .int .i64 x12.2.2], aMat 24 3 v18 vs19 l20] := hM
          refine wpList_nil ?_
          refine x_nt ?_
          refine wp_seq ?_
          refine wp_region_lit ?_
          refine wl hs (y_loadS (cs := [.int .i64 x12.1, .int .i64 x12.2.1, .int .i64 x12.2.2]) sT_82 hs rfl (hM.heapBlk 1 rfl) rfl) rfl ?_; intro a hs
          refine wl hs (y_loadS (cs := [.int .i64 x27.1, .int .i64 x27.2.1, .int .i64 x27.2.2]) sT_82 hs rfl (hM.heapBlk 0 rfl) rfl) rfl ?_; intro a hs
          refine wl hs (y_move hs rfl) rfl ?_; intro a hs
          refine wl hs (y_move hs rfl) rfl ?_; intro a hs
          obtain ⟨y32, h33, hm⟩ := bindE hm
          refine wcall is_125 hs rfl rfl (spec_mtMeets_any x12.1 x12.2.1 x12.2.2 x27.1 x27.2.1 x27.2.2 p2 p3 _  h33) ?_; rintro a _ w hs ⟨rfl, hX⟩
          have hM : Mem W w [aBlk g31 82 [.int .i64 x27.1, .int .i64 x27.2.1, .int .i64 x27.2.2], aBlk g16 82 [.int .i64 x12.1, .int .i64 x12.2.1, .int .i64 x12.2.2], aMat 24 3 v18 vs19 l20] := hM.call hX
          refine wpList_nil ?_
          refine x_nt ?_
          refine x_cond hs rfl (fun hb => ?_) (fun hb => ?_)
          · replace hm := condT hb hm
            refine wp_region_lit ?_
            refine wl hs (y_move hs rfl) rfl ?_; intro a hs
            refine wl hs (y_move hs rfl) rfl ?_; intro a hs
            refine wl hs (y_move hs rfl) rfl ?_; intro a hs
            refine wmem hs (x_new2I hu_I he_int hs rfl rfl hM) rfl ?_; intro a v35 w hs hM
            have hM : Mem W w [aInts 3 v35 ([(j2 : Int), (j17 : Int)]), aBlk g31 82 [.int .i64 x27.1, .int .i64 x27.2.1, .int .i64 x27.2.2], aBlk g16 82 [.int .i64 x12.1, .int .i64 x12.2.1, .int .i64 x12.2.2], aMat 24 3 v18 vs19 l20] := hM
            obtain ⟨l36, h37, hm⟩ := bindE hm
            refine wappM hu_M he_I hs ((((hM.front 2 rfl).front 2 rfl).front 2 rfl).front 3 rfl) rfl rfl h37 rfl rfl rfl ?_; intro a v38 w u39 hs hM
            have hM : Mem W w [aMat 24 3 v38 (vs19 ++ [v35]) l36, aBlk g31 82 [.int .i64 x27.1, .int .i64 x27.2.1, .int .i64 x27.2.2], aBlk g16 82 [.int .i64 x12.1, .int .i64 x12.2.1, .int .i64 x12.2.2]] := hM
            refine wl hs (y_assign hs rfl) rfl ?_; intro a hs
            refine wpList_nil ?_
            refine x_nb ?_
            refine x_nt ?_
            refine wp_region_lit ?_
            refine wl hs (y_add hs rfl rfl hsj17) rfl ?_; intro a hs
            refine wl hs (y_move hs rfl) rfl ?_; intro a hs
            refine wpList_nil ?_
            exact ⟨_, by simp, q26, j17 + 1, v38, (vs19 ++ [v35]), l36, rfl, hs.sub ⟨rfl, rfl, rfl, rfl, rfl, rfl, rfl, rfl, rfl, rfl, rfl, rfl, trivial⟩, ((hM.front 1 rfl).drop.front 1 rfl), hm, drop_next hj17⟩
          · replace hm := condF hb hm
            refine wp_skip ?_
            refine x_nb ?_
            refine x_nt ?_
            refine wp_region_lit ?_
            refine wl hs (y_add hs rfl rfl hsj17) rfl ?_; intro a hs
            refine wl hs (y_move hs rfl) rfl ?_; intro a hs
            refine wpList_nil ?_
            exact ⟨_, by simp, q26, j17 + 1, v18, vs19, l20, rfl, hs.sub ⟨rfl, rfl, rfl, rfl, rfl, rfl, rfl, rfl, rfl, rfl, rfl, rfl, trivial⟩, hM.drop, hm, drop_next hj17⟩
      rintro a w ⟨v21, vs22, l23, rfl, hs, hM⟩
      have hm := hk25
      refine x_nb ?_
      refine x_nt ?_
      refine wp_region_lit ?_
      refine wl hs (y_add hs rfl rfl hsj2) rfl ?_; intro a hs
      refine wl hs (y_move hs rfl) rfl ?_; intro a hs
      refine wpList_nil ?_
      exact ⟨_, by simp, q11, j2 + 1, v21, vs22, l23, rfl, hs.sub ⟨rfl, rfl, rfl, rfl, rfl, rfl, rfl, trivial⟩, hM, hm, drop_next hj2⟩
  rintro a w ⟨v6, vs7, l8, rfl, hs, hM⟩
  have hm := hk10
  refine x_nt ?_
  refine wp_seq ?_
  refine wp_region_lit ?_
  refine wl hs (y_move hs rfl) rfl ?_; intro a hs
  refine wl hs (y_assign hs rfl) rfl ?_; intro a hs
  refine wpList_nil ?_
  refine x_nt ?_
  refine wp_ret ?_
  have hm : some l8 = some r := hm
  obtain rfl := Option.some.inj hm
  refine x_ret1 rfl hs rfl ⟨_, rfl, ?_⟩
  exact ⟨_, hM⟩

theorem spec_mtSum_any (v_p0 : Value) (p0 : List Y3) (v_p1 : Value) (p1 : List Y3) (p2 : Int) (p3 : Int) (W : World) (hr_p0 : RdY W v_p0 p0) (hr_p1 : RdY W v_p1 p1) {r : Int} (hm : spec_mtSum_m p0 p1 p2 p3 = some r) : Calls Try.prog 121 [v_p0, v_p1, .int .i64 p2, .int .i64 p3].toArray W fun e w => ∃ v, e = .returned v ∧ v = .int .i64 r ∧ Mem W w [] := by
  refine x_enter Try.func121 rfl Try.ntmps121 rfl ?_
  intro a hs
  have hM := Mem.start W
  unfold spec_mtSum_m at hm
  refine wp_seq ?_
  refine wp_region_lit ?_
  refine wl hs (y_assign hs rfl) rfl ?_; intro a hs
  refine wpList_nil ?_
  refine x_nt ?_
  refine wp_seq ?_
  refine wp_region_lit ?_
  refine wl hs (y_assign hs rfl) rfl ?_; intro a hs
  refine wpList_nil ?_
  refine x_nt ?_
  refine wp_seq ?_
  refine wp_seq ?_
  refine wp_region_lit ?_
  refine wl hs (y_move hs rfl) rfl ?_; intro a hs
  refine wl hs (y_move hs rfl) rfl ?_; intro a hs
  refine wl hs (y_move hs rfl) rfl ?_; intro a hs
  refine wl hs (y_move hs rfl) rfl ?_; intro a hs
  obtain ⟨y1, h2, hm⟩ := bindE hm
  refine wcall is_93 hs rfl rfl (spec_mtPairs_any v_p0 p0 v_p1 p1 p2 p3 _ (RdY.below hr_p0 hM.bel) (RdY.below hr_p1 hM.bel) h2) ?_; rintro a v3 w hs ⟨vs5, hX⟩
  have hM : Mem W w [aMat 24 3 v3 vs5 y1] := hM.call hX
  refine wl hs (y_len hu_M hs rfl (hM.rdM 0 rfl)) rfl ?_; intro a hs
  refine wl hs (y_move hs rfl) rfl ?_; intro a hs
  refine wpList_nil ?_
  refine x_nt ?_
  obtain ⟨s9, hm, hk10⟩ := bindE hm
  refine x_mid (fun a w => ∃ (n8 : Int), n8 = s9 ∧ Fr a 39 [(9, .int .i64 n8)] ∧ Mem W w []) ?_ ?_
  · refine wp_block ?_
    refine x_loop (fun k a w => ∃ (q11 : List (List Int)) (j6 : Nat) (n7 : Int) , k = q11.length ∧ Fr a 39 [(0, v_p0), (1, v_p1), (9, .int .i64 n7), (16, v3), (17, .int .i64 (y1.length : Int)), (18, .int .i64 (j6 : Int))] ∧ Mem W w [aMat 24 3 v3 vs5 y1] ∧ spec_mtSum_l1 p0 p1 q11 j6 n7 = some s9 ∧ List.drop j6 y1 = q11) _ ⟨y1, 0, 0, rfl, hs.sub ⟨rfl, rfl, rfl, rfl, rfl, rfl, trivial⟩, hM, hm, rfl⟩ ?_
    rintro k a w ⟨q11, j6, n7, rfl, hs, hM, hm, hj6⟩
    rcases q11 with _ | ⟨x12, q11⟩
    · rewrite [spec_mtSum_l1] at hm
      refine wp_seq ?_
      refine wp_region_lit ?_
      refine wl hs (y_lss hs rfl rfl) rfl ?_; intro a hs
      refine wpList_nil ?_
      refine x_nt ?_
      refine wp_seq ?_
      refine x_condF hs rfl (drop_f hj6) ?_
      refine wp_exit ?_
      refine x_et ?_
      refine x_et ?_
      refine x_eb ?_
      have hm : some n7 = some s9 := hm
      exact ⟨n7, Option.some.inj hm, hs.sub ⟨rfl, trivial⟩, hM.none_⟩
    · rewrite [spec_mtSum_l1] at hm
      have hx13 := drop_idx hj6
      have hsj6 := ck_succ hj6 (RdS.len (hM.rdM 0 rfl))
      refine wp_seq ?_
      refine wp_region_lit ?_
      refine wl hs (y_lss hs rfl rfl) rfl ?_; intro a hs
      refine wpList_nil ?_
      refine x_nt ?_
      refine wp_seq ?_
      refine x_condT hs rfl (drop_t hj6) ?_
      refine wp_skip ?_
      refine x_nt ?_
      refine wp_seq ?_
      refine wp_block ?_
      refine wp_seq ?_
      refine wp_region_lit ?_
      obtain ⟨u15, hv16, he14⟩ := hM.atM 0 rfl hx13
      refine wl hs (y_index ht_M hs rfl rfl he14) rfl ?_; intro a hs
      refine wl hs (y_load sc_I hs rfl he14.cell) rfl ?_; intro a hs
      refine wl hs (y_assign hs rfl) rfl ?_; intro a hs
      refine wpList_nil ?_
      refine x_nt ?_
      refine x_regq hmix (by kernel_rfl) ?_
      refine wq hs (fun w1 hw1 => y_move hs rfl) rfl ?_; intro a hs
      refine wq hs (fun w1 hw1 => y_move hs rfl) rfl ?_; intro a hs
      refine wq hs (fun w1 hw1 => y_move hs rfl) rfl ?_; intro a hs
      obtain ⟨x17, hx18, hm⟩ := bindE hm
      have he19 := RdI.at_ (hM.rdRow 0 rfl rfl hv16 (idx_spec hx13).2.2) hx18
      refine wq hs (fun w1 hw1 => y_index ht_I hs rfl rfl (he19.below hw1)) rfl ?_; intro a hs
      refine wq hs (fun w1 hw1 => y_load sc_int hs rfl (he19.below hw1).cell) rfl ?_; intro a hs
      obtain ⟨x20, hx21, hm⟩ := bindE hm
      have he22 := RdY.at_ (RdY.below hr_p0 hM.bel) hx21
      refine wq hs (fun w1 hw1 => y_indexY hY_51 hs rfl rfl (he22.below hw1)) rfl ?_; intro a hs
      refine wq hs (fun w1 hw1 => y_loadY sT_82 rfl hs rfl (he22.below hw1)) rfl ?_; intro a hs
      refine wq hs (fun w1 hw1 => y_move hs rfl) rfl ?_; intro a hs
      refine wq hs (fun w1 hw1 => y_move hs rfl) rfl ?_; intro a hs
      obtain ⟨x23, hx24, hm⟩ := bindE hm
      have he25 := RdI.at_ (hM.rdRow 0 rfl rfl hv16 (idx_spec hx13).2.2) hx24
      refine wq hs (fun w1 hw1 => y_index ht_I hs rfl rfl (he25.below hw1)) rfl ?_; intro a hs
      refine wq hs (fun w1 hw1 => y_load sc_int hs rfl (he25.below hw1).cell) rfl ?_; intro a hs
      obtain ⟨x26, hx27, hm⟩ := bindE hm
      have he28 := RdY.at_ (RdY.below hr_p1 hM.bel) hx27
      refine wq hs (fun w1 hw1 => y_indexY hY_51 hs rfl rfl (he28.below hw1)) rfl ?_; intro a hs
      refine wq hs (fun w1 hw1 => y_loadY sT_82 rfl hs rfl (he28.below hw1)) rfl ?_; intro a hs
      obtain ⟨y29, h30, hm⟩ := bindE hm
      refine qcall (v := .int .i64 y29) is_148 hs rfl rfl (fun w1 hw1 => q_of hw1 (spec_mtTwo_any x20.1 x20.2.1 x20.2.2 x26.1 x26.2.1 x26.2.2 w1  h30)) ?_; intro a hs
      obtain ⟨n31, h32, hm⟩ := bindE hm
      refine wq hs (fun w1 hw1 => y_add hs rfl rfl h32) rfl ?_; intro a hs
      refine wq hs (fun w1 hw1 => y_assign hs rfl) rfl ?_; intro a hs
      refine wpQuiet_nil ?_
      intro w hw
      replace hM := hM.quiet hw
      refine x_nb ?_
      refine x_nt ?_
      refine wp_region_lit ?_
      refine wl hs (y_add hs rfl rfl hsj6) rfl ?_; intro a hs
      refine wl hs (y_move hs rfl) rfl ?_; intro a hs
      refine wpList_nil ?_
      exact ⟨_, by simp, q11, j6 + 1, n31, rfl, hs.sub ⟨rfl, rfl, rfl, rfl, rfl, rfl, trivial⟩, hM, hm, drop_next hj6⟩
  rintro a w ⟨n8, rfl, hs, hM⟩
  have hm := hk10
  refine x_nt ?_
  refine wp_seq ?_
  refine wp_region_lit ?_
  refine wl hs (y_move hs rfl) rfl ?_; intro a hs
  refine wl hs (y_assign hs rfl) rfl ?_; intro a hs
  refine wpList_nil ?_
  refine x_nt ?_
  refine wp_ret ?_
  have hm : some n8 = some r := hm
  obtain rfl := Option.some.inj hm
  refine x_ret1 rfl hs rfl ⟨_, rfl, ?_⟩
  exact ⟨rfl, hM⟩

theorem spec_mtStar_any (v_p0 : Value) (p0 : List Y3) (W : World) (hr_p0 : RdY W v_p0 p0) {r : Bool} (hm : spec_mtStar_m p0 = some r) : Calls Try.prog 85 [v_p0].toArray W fun e w => ∃ v, e = .returned v ∧ v = .bool r ∧ Mem W w [] := by
  refine x_enter Try.func85 rfl Try.ntmps85 rfl ?_
  intro a hs
  have hM := Mem.start W
  unfold spec_mtStar_m at hm
  refine wp_seq ?_
  refine wp_region_lit ?_
  refine wl hs (y_assign hs rfl) rfl ?_; intro a hs
  refine wpList_nil ?_
  refine x_nt ?_
  refine wp_seq ?_
  refine wp_region_lit ?_
  refine wl hs (y_move hs rfl) rfl ?_; intro a hs
  obtain ⟨y1, h2, hm⟩ := bindE hm
  refine wcall is_118 hs rfl rfl (spec_stGood_any v_p0 p0 _ (RdY.below hr_p0 hM.bel) h2) ?_; rintro a _ w hs ⟨rfl, hX⟩
  have hM : Mem W w [] := hM.call hX
  refine wl hs (y_move hs rfl) rfl ?_; intro a hs
  obtain ⟨b3, hb4, hm⟩ := bindE hm
  refine wlguard (N := 9) (L' := [(8, .bool b3), (2, .bool false)]) (fun w => Mem W w []) 3 ?_ ?_
  · intro K; rcases Bool.eq_false_or_eq_true y1 with hg5 | hg5
    · have hm := condT hg5 hb4
      refine wlg hs rfl hg5 (y_move hs rfl) rfl ?_; intro a hs
      obtain ⟨y6, h7, hm⟩ := bindE hm
      refine wcallg is_119 hs rfl hg5 rfl rfl (spec_stBalanced_any v_p0 p0 _ (RdY.below hr_p0 hM.bel) h7) ?_; rintro a _ w hs ⟨rfl, hX⟩
      have hM : Mem W w [] := hM.call hX
      have hm : some y6 = some b3 := hm
      cases Option.some.inj hm
      refine wl hs (y_pickT hs rfl hg5 rfl) rfl ?_; intro a hs
      exact K _ _ (hs.sub ⟨rfl, rfl, trivial⟩) hM
    · have hm := condF hg5 hb4
      refine wls hs rfl hg5 rfl ?_; intro a hs
      refine wls hs rfl hg5 rfl ?_; intro a hs
      have hm : some false = some b3 := hm
      cases Option.some.inj hm
      refine wl hs (y_pickF hs rfl hg5 rfl) rfl ?_; intro a hs
      exact K _ _ (hs.sub ⟨rfl, rfl, trivial⟩) hM
  intro a w hs hM
  simp only [List.drop_succ_cons, List.drop_zero]
  refine wl hs (y_assign hs rfl) rfl ?_; intro a hs
  refine wpList_nil ?_
  refine x_nt ?_
  refine wp_ret ?_
  have hm : some b3 = some r := hm
  obtain rfl := Option.some.inj hm
  refine x_ret1 rfl hs rfl ⟨_, rfl, ?_⟩
  exact ⟨rfl, hM⟩

theorem spec_mtCount_any (v_p0 : Value) (p0 : List Y3) (v_p1 : Value) (p1 : List Y3) (W : World) (hr_p0 : RdY W v_p0 p0) (hr_p1 : RdY W v_p1 p1) {r : Int} (hm : spec_mtCount_m p0 p1 = some r) : Calls Try.prog 90 [v_p0, v_p1].toArray W fun e w => ∃ v, e = .returned v ∧ v = .int .i64 r ∧ Mem W w [] := by
  refine x_enter Try.func90 rfl Try.ntmps90 rfl ?_
  intro a hs
  have hM := Mem.start W
  unfold spec_mtCount_m at hm
  refine wp_seq ?_
  refine wp_region_lit ?_
  refine wl hs (y_assign hs rfl) rfl ?_; intro a hs
  refine wpList_nil ?_
  refine x_nt ?_
  refine wp_seq ?_
  refine wp_region_lit ?_
  refine wl hs (y_move hs rfl) rfl ?_; intro a hs
  refine wl hs (y_move hs rfl) rfl ?_; intro a hs
  obtain ⟨y1, h2, hm⟩ := bindE hm
  refine wcall is_121 hs rfl rfl (spec_mtSum_any v_p0 p0 v_p1 p1 1000 1 _ (RdY.below hr_p0 hM.bel) (RdY.below hr_p1 hM.bel) h2) ?_; rintro a _ w hs ⟨rfl, hX⟩
  have hM : Mem W w [] := hM.call hX
  refine wl hs (y_assign hs rfl) rfl ?_; intro a hs
  refine wpList_nil ?_
  refine x_nt ?_
  refine wp_ret ?_
  have hm : some y1 = some r := hm
  obtain rfl := Option.some.inj hm
  refine x_ret1 rfl hs rfl ⟨_, rfl, ?_⟩
  exact ⟨rfl, hM⟩

theorem spec_mtDegree_any (v_p0 : Value) (p0 : List Y3) (W : World) (hr_p0 : RdY W v_p0 p0) {r : Int} (hm : spec_mtDegree_m p0 = some r) : Calls Try.prog 86 [v_p0].toArray W fun e w => ∃ v, e = .returned v ∧ v = .int .i64 r ∧ Mem W w [] := by
  refine x_enter Try.func86 rfl Try.ntmps86 rfl ?_
  intro a hs
  have hM := Mem.start W
  unfold spec_mtDegree_m at hm
  refine wp_seq ?_
  refine wp_region_lit ?_
  refine wl hs (y_assign hs rfl) rfl ?_; intro a hs
  refine wpList_nil ?_
  refine x_nt ?_
  refine wp_seq ?_
  refine wp_region_lit ?_
  refine wl hs (y_build (cs := [.int .i64 (-1), .int .i64 (-1), .int .i64 1]) sT_82 hs rfl ⟨rfl, rfl, rfl, rfl, rfl, rfl, trivial⟩ rfl) rfl ?_; intro a hs
  refine wl hs (y_build (cs := [.int .i64 0, .int .i64 1, .int .i64 1]) sT_82 hs rfl ⟨rfl, rfl, rfl, rfl, rfl, rfl, trivial⟩ rfl) rfl ?_; intro a hs
  refine wl hs (y_build (cs := [.int .i64 1, .int .i64 0, .int .i64 1]) sT_82 hs rfl ⟨rfl, rfl, rfl, rfl, rfl, rfl, trivial⟩ rfl) rfl ?_; intro a hs
  refine wmem hs (x_new3Y (u1 := ((-1), (-1), 1)) (u2 := (0, 1, 1)) (u3 := (1, 0, 1)) hY_51 hs rfl rfl rfl hM) rfl ?_; intro a v2 w hs hM
  have hM : Mem W w [aYs 82 v2 ([((-1), (-1), 1), (0, 1, 1), (1, 0, 1)])] := hM
  refine wl hs (y_assign hs rfl) rfl ?_; intro a hs
  refine wpList_nil ?_
  refine x_nt ?_
  refine wp_seq ?_
  refine wp_region_lit ?_
  refine wl hs (y_move hs rfl) rfl ?_; intro a hs
  refine wl hs (y_move hs rfl) rfl ?_; intro a hs
  obtain ⟨y3, h4, hm⟩ := bindE hm
  refine wcall is_90 hs rfl rfl (spec_mtCount_any v_p0 p0 v2 ([((-1), (-1), 1), (0, 1, 1), (1, 0, 1)]) _ (RdY.below hr_p0 hM.bel) (hM.rdY 0 rfl) h4) ?_; rintro a _ w hs ⟨rfl, hX⟩
  have hM : Mem W w [aYs 82 v2 ([((-1), (-1), 1), (0, 1, 1), (1, 0, 1)])] := hM.call hX
  refine wl hs (y_assign hs rfl) rfl ?_; intro a hs
  refine wpList_nil ?_
  refine x_nt ?_
  refine wp_ret ?_
  have hm : some y3 = some r := hm
  obtain rfl := Option.some.inj hm
  refine x_ret1 rfl hs rfl ⟨_, rfl, ?_⟩
  exact ⟨rfl, hM.none_⟩

theorem spec_MeetingPairs_any (v_p0 : Value) (p0 : List Y3) (v_p1 : Value) (p1 : List Y3) (p2 : Int) (p3 : Int) (W : World) (hr_p0 : RdY W v_p0 p0) (hr_p1 : RdY W v_p1 p1) {r : (List (List Int)) × Bool} (hm : spec_MeetingPairs_m p0 p1 p2 p3 = some r) : Calls Try.prog 47 [v_p0, v_p1, .int .i64 p2, .int .i64 p3].toArray W fun e w => ∃ v, e = .returned v ∧ ∃ v0, ∃ vs0, v = .tuple #[v0, .bool r.2] ∧ Mem W w [aMat 24 3 v0 vs0 r.1] := by
  refine x_enter Try.func47 rfl Try.ntmps47 rfl ?_
  intro a hs
  have hM := Mem.start W
  unfold spec_MeetingPairs_m at hm
  refine wp_seq ?_
  refine wp_region_lit ?_
  refine wl hs (y_assign hs rfl) rfl ?_; intro a hs
  refine wl hs (y_assign hs rfl) rfl ?_; intro a hs
  refine wpList_nil ?_
  refine x_nt ?_
  refine wp_seq ?_
  refine wp_seq ?_
  refine wp_region_lit ?_
  refine wl hs (y_move hs rfl) rfl ?_; intro a hs
  refine wl hs (y_move hs rfl) rfl ?_; intro a hs
  refine wl hs (y_move hs rfl) rfl ?_; intro a hs
  refine wl hs (y_move hs rfl) rfl ?_; intro a hs
  obtain ⟨y1, h2, hm⟩ := bindE hm
  refine wcall is_92 hs rfl rfl (spec_mtAsked_any v_p0 p0 v_p1 p1 p2 p3 _ (RdY.below hr_p0 hM.bel) (RdY.below hr_p1 hM.bel) h2) ?_; rintro a _ w hs ⟨rfl, hX⟩
  have hM : Mem W w [] := hM.call hX
  refine wl hs (y_not hs rfl) rfl ?_; intro a hs
  refine wpList_nil ?_
  refine x_nt ?_
  refine x_cond hs rfl (fun hb => ?_) (fun hb => ?_)
  · replace hm := condT hb hm
    refine wp_seq ?_
    refine wp_region_lit ?_
    refine wl hs (y_assign hs rfl) rfl ?_; intro a hs
    refine wl hs (y_assign hs rfl) rfl ?_; intro a hs
    refine wpList_nil ?_
    refine x_nt ?_
    refine wp_ret ?_
    refine x_rt ?_
    have hm : some ([], false) = some r := hm
    obtain rfl := Option.some.inj hm
    refine x_ret2 rfl hs rfl rfl ⟨_, rfl, ?_⟩
    have hM := hM.nilM 24 3
    exact ⟨_, _, rfl, hM⟩
  · replace hm := condF hb hm
    refine wp_skip ?_
    refine x_nt ?_
    refine wp_seq ?_
    refine wp_region_lit ?_
    refine wl hs (y_move hs rfl) rfl ?_; intro a hs
    refine wl hs (y_move hs rfl) rfl ?_; intro a hs
    refine wl hs (y_move hs rfl) rfl ?_; intro a hs
    refine wl hs (y_move hs rfl) rfl ?_; intro a hs
    obtain ⟨y4, h5, hm⟩ := bindE hm
    refine wcall is_93 hs rfl rfl (spec_mtPairs_any v_p0 p0 v_p1 p1 p2 p3 _ (RdY.below hr_p0 hM.bel) (RdY.below hr_p1 hM.bel) h5) ?_; rintro a v6 w hs ⟨vs8, hX⟩
    have hM : Mem W w [aMat 24 3 v6 vs8 y4] := hM.call hX
    refine wl hs (y_assign hs rfl) rfl ?_; intro a hs
    refine wl hs (y_assign hs rfl) rfl ?_; intro a hs
    refine wpList_nil ?_
    refine x_nt ?_
    refine wp_ret ?_
    have hm : some (y4, true) = some r := hm
    obtain rfl := Option.some.inj hm
    refine x_ret2 rfl hs rfl rfl ⟨_, rfl, ?_⟩
    exact ⟨_, _, rfl, hM⟩

theorem spec_BezoutOf_any (v_p0 : Value) (p0 : List Y3) (v_p1 : Value) (p1 : List Y3) (W : World) (hr_p0 : RdY W v_p0 p0) (hr_p1 : RdY W v_p1 p1) {r : Int × Bool} (hm : spec_BezoutOf_m p0 p1 = some r) : Calls Try.prog 41 [v_p0, v_p1].toArray W fun e w => ∃ v, e = .returned v ∧ v = .tuple #[.int .i64 r.1, .bool r.2] ∧ Mem W w [] := by
  refine x_enter Try.func41 rfl Try.ntmps41 rfl ?_
  intro a hs
  have hM := Mem.start W
  unfold spec_BezoutOf_m at hm
  refine wp_seq ?_
  refine wp_region_lit ?_
  refine wl hs (y_assign hs rfl) rfl ?_; intro a hs
  refine wl hs (y_assign hs rfl) rfl ?_; intro a hs
  refine wpList_nil ?_
  refine x_nt ?_
  refine wp_seq ?_
  refine wp_seq ?_
  refine wp_region_lit ?_
  refine wl hs (y_move hs rfl) rfl ?_; intro a hs
  obtain ⟨y1, h2, hm⟩ := bindE hm
  refine wcall is_85 hs rfl rfl (spec_mtStar_any v_p0 p0 _ (RdY.below hr_p0 hM.bel) h2) ?_; rintro a _ w hs ⟨rfl, hX⟩
  have hM : Mem W w [] := hM.call hX
  refine wl hs (y_not hs rfl) rfl ?_; intro a hs
  refine wl hs (y_move hs rfl) rfl ?_; intro a hs
  obtain ⟨b3, hb4, hm⟩ := bindE hm
  refine wlguard (N := 19) (L' := [(13, .bool b3), (0, v_p0), (1, v_p1)]) (fun w => Mem W w []) 4 ?_ ?_
  · intro K; rcases Bool.eq_false_or_eq_true (!y1) with hg5 | hg5
    · have hm := condT hg5 hb4
      refine wls hs rfl hg5 rfl ?_; intro a hs
      refine wls hs rfl hg5 rfl ?_; intro a hs
      refine wls hs rfl hg5 rfl ?_; intro a hs
      have hm : some true = some b3 := hm
      cases Option.some.inj hm
      refine wl hs (y_pickT hs rfl hg5 rfl) rfl ?_; intro a hs
      exact K _ _ (hs.sub ⟨rfl, rfl, rfl, trivial⟩) hM
    · have hm := condF hg5 hb4
      refine wlg hs rfl hg5 (y_move hs rfl) rfl ?_; intro a hs
      obtain ⟨y6, h7, hm⟩ := bindE hm
      refine wcallg is_85 hs rfl hg5 rfl rfl (spec_mtStar_any v_p1 p1 _ (RdY.below hr_p1 hM.bel) h7) ?_; rintro a _ w hs ⟨rfl, hX⟩
      have hM : Mem W w [] := hM.call hX
      refine wlg hs rfl hg5 (y_not hs rfl) rfl ?_; intro a hs
      have hm : some (!y6) = some b3 := hm
      cases Option.some.inj hm
      refine wl hs (y_pickF hs rfl hg5 rfl) rfl ?_; intro a hs
      exact K _ _ (hs.sub ⟨rfl, rfl, rfl, trivial⟩) hM
  intro a w hs hM
  simp only [List.drop_succ_cons, List.drop_zero]
  refine wpList_nil ?_
  refine x_nt ?_
  refine x_cond hs rfl (fun hb => ?_) (fun hb => ?_)
  · replace hm := condT hb hm
    refine wp_seq ?_
    refine wp_region_lit ?_
    refine wl hs (y_assign hs rfl) rfl ?_; intro a hs
    refine wl hs (y_assign hs rfl) rfl ?_; intro a hs
    refine wpList_nil ?_
    refine x_nt ?_
    refine wp_ret ?_
    refine x_rt ?_
    have hm : some (0, false) = some r := hm
    obtain rfl := Option.some.inj hm
    refine x_ret2 rfl hs rfl rfl ⟨_, rfl, ?_⟩
    exact ⟨rfl, hM⟩
  · replace hm := condF hb hm
    refine wp_skip ?_
    refine x_nt ?_
    refine wp_seq ?_
    refine wp_region_lit ?_
    refine wl hs (y_move hs rfl) rfl ?_; intro a hs
    obtain ⟨y8, h9, hm⟩ := bindE hm
    refine wcall is_86 hs rfl rfl (spec_mtDegree_any v_p0 p0 _ (RdY.below hr_p0 hM.bel) h9) ?_; rintro a _ w hs ⟨rfl, hX⟩
    have hM : Mem W w [] := hM.call hX
    refine wl hs (y_move hs rfl) rfl ?_; intro a hs
    obtain ⟨y10, h11, hm⟩ := bindE hm
    refine wcall is_86 hs rfl rfl (spec_mtDegree_any v_p1 p1 _ (RdY.below hr_p1 hM.bel) h11) ?_; rintro a _ w hs ⟨rfl, hX⟩
    have hM : Mem W w [] := hM.call hX
    obtain ⟨n12, h13, hm⟩ := bindE hm
    refine wl hs (y_mul hs rfl rfl h13) rfl ?_; intro a hs
    refine wl hs (y_assign hs rfl) rfl ?_; intro a hs
    refine wl hs (y_assign hs rfl) rfl ?_; intro a hs
    refine wpList_nil ?_
    refine x_nt ?_
    refine wp_ret ?_
    have hm : some (n12, true) = some r := hm
    obtain rfl := Option.some.inj hm
    refine x_ret2 rfl hs rfl rfl ⟨_, rfl, ?_⟩
    exact ⟨rfl, hM⟩

theorem spec_MeetDefect_any (v_p0 : Value) (p0 : List Y3) (v_p1 : Value) (p1 : List Y3) (W : World) (hr_p0 : RdY W v_p0 p0) (hr_p1 : RdY W v_p1 p1) {r : Int × Bool} (hm : spec_MeetDefect_m p0 p1 = some r) : Calls Try.prog 45 [v_p0, v_p1].toArray W fun e w => ∃ v, e = .returned v ∧ v = .tuple #[.int .i64 r.1, .bool r.2] ∧ Mem W w [] := by
  refine x_enter Try.func45 rfl Try.ntmps45 rfl ?_
  intro a hs
  have hM := Mem.start W
  unfold spec_MeetDefect_m at hm
  refine wp_seq ?_
  refine wp_region_lit ?_
  refine wl hs (y_assign hs rfl) rfl ?_; intro a hs
  refine wl hs (y_assign hs rfl) rfl ?_; intro a hs
  refine wpList_nil ?_
  refine x_nt ?_
  refine wp_seq ?_
  refine wp_seq ?_
  refine wp_region_lit ?_
  refine wl hs (y_move hs rfl) rfl ?_; intro a hs
  obtain ⟨y1, h2, hm⟩ := bindE hm
  refine wcall is_85 hs rfl rfl (spec_mtStar_any v_p0 p0 _ (RdY.below hr_p0 hM.bel) h2) ?_; rintro a _ w hs ⟨rfl, hX⟩
  have hM : Mem W w [] := hM.call hX
  refine wl hs (y_not hs rfl) rfl ?_; intro a hs
  refine wl hs (y_move hs rfl) rfl ?_; intro a hs
  obtain ⟨b3, hb4, hm⟩ := bindE hm
  refine wlguard (N := 23) (L' := [(13, .bool b3), (0, v_p0), (1, v_p1)]) (fun w => Mem W w []) 4 ?_ ?_
  · intro K; rcases Bool.eq_false_or_eq_true (!y1) with hg5 | hg5
    · have hm := condT hg5 hb4
      refine wls hs rfl hg5 rfl ?_; intro a hs
      refine wls hs rfl hg5 rfl ?_; intro a hs
      refine wls hs rfl hg5 rfl ?_; intro a hs
      have hm : some true = some b3 := hm
      cases Option.some.inj hm
      refine wl hs (y_pickT hs rfl hg5 rfl) rfl ?_; intro a hs
      exact K _ _ (hs.sub ⟨rfl, rfl, rfl, trivial⟩) hM
    · have hm := condF hg5 hb4
      refine wlg hs rfl hg5 (y_move hs rfl) rfl ?_; intro a hs
      obtain ⟨y6, h7, hm⟩ := bindE hm
      refine wcallg is_85 hs rfl hg5 rfl rfl (spec_mtStar_any v_p1 p1 _ (RdY.below hr_p1 hM.bel) h7) ?_; rintro a _ w hs ⟨rfl, hX⟩
      have hM : Mem W w [] := hM.call hX
      refine wlg hs rfl hg5 (y_not hs rfl) rfl ?_; intro a hs
      have hm : some (!y6) = some b3 := hm
      cases Option.some.inj hm
      refine wl hs (y_pickF hs rfl hg5 rfl) rfl ?_; intro a hs
      exact K _ _ (hs.sub ⟨rfl, rfl, rfl, trivial⟩) hM
  intro a w hs hM
  simp only [List.drop_succ_cons, List.drop_zero]
  refine wpList_nil ?_
  refine x_nt ?_
  refine x_cond hs rfl (fun hb => ?_) (fun hb => ?_)
  · replace hm := condT hb hm
    refine wp_seq ?_
    refine wp_region_lit ?_
    refine wl hs (y_assign hs rfl) rfl ?_; intro a hs
    refine wl hs (y_assign hs rfl) rfl ?_; intro a hs
    refine wpList_nil ?_
    refine x_nt ?_
    refine wp_ret ?_
    refine x_rt ?_
    have hm : some (0, false) = some r := hm
    obtain rfl := Option.some.inj hm
    refine x_ret2 rfl hs rfl rfl ⟨_, rfl, ?_⟩
    exact ⟨rfl, hM⟩
  · replace hm := condF hb hm
    refine wp_skip ?_
    refine x_nt ?_
    refine wp_seq ?_
    refine wp_region_lit ?_
    refine wl hs (y_move hs rfl) rfl ?_; intro a hs
    obtain ⟨y8, h9, hm⟩ := bindE hm
    refine wcall is_86 hs rfl rfl (spec_mtDegree_any v_p0 p0 _ (RdY.below hr_p0 hM.bel) h9) ?_; rintro a _ w hs ⟨rfl, hX⟩
    have hM : Mem W w [] := hM.call hX
    refine wl hs (y_move hs rfl) rfl ?_; intro a hs
    obtain ⟨y10, h11, hm⟩ := bindE hm
    refine wcall is_86 hs rfl rfl (spec_mtDegree_any v_p1 p1 _ (RdY.below hr_p1 hM.bel) h11) ?_; rintro a _ w hs ⟨rfl, hX⟩
    have hM : Mem W w [] := hM.call hX
    obtain ⟨n12, h13, hm⟩ := bindE hm
    refine wl hs (y_mul hs rfl rfl h13) rfl ?_; intro a hs
    refine wl hs (y_move hs rfl) rfl ?_; intro a hs
    refine wl hs (y_move hs rfl) rfl ?_; intro a hs
    obtain ⟨y14, h15, hm⟩ := bindE hm
    refine wcall is_90 hs rfl rfl (spec_mtCount_any v_p0 p0 v_p1 p1 _ (RdY.below hr_p0 hM.bel) (RdY.below hr_p1 hM.bel) h15) ?_; rintro a _ w hs ⟨rfl, hX⟩
    have hM : Mem W w [] := hM.call hX
    obtain ⟨n16, h17, hm⟩ := bindE hm
    refine wl hs (y_sub hs rfl rfl h17) rfl ?_; intro a hs
    refine wl hs (y_assign hs rfl) rfl ?_; intro a hs
    refine wl hs (y_assign hs rfl) rfl ?_; intro a hs
    refine wpList_nil ?_
    refine x_nt ?_
    refine wp_ret ?_
    have hm : some (n16, true) = some r := hm
    obtain rfl := Option.some.inj hm
    refine x_ret2 rfl hs rfl rfl ⟨_, rfl, ?_⟩
    exact ⟨rfl, hM⟩

set_option maxHeartbeats 4000000 in
theorem spec_MeetTable_any (v_p0 : Value) (p0 : List (List Y3)) (W : World) (hr_p0 : RdYY W v_p0 p0) {r : (List (List Int)) × Bool} (hm : spec_MeetTable_m p0 = some r) : Calls Try.prog 51 [v_p0].toArray W fun e w => ∃ v, e = .returned v ∧ ∃ v0, ∃ vs0, v = .tuple #[v0, .bool r.2] ∧ Mem W w [aMat 24 3 v0 vs0 r.1] := by
  refine x_enter Try.func51 rfl Try.ntmps51 rfl ?_
  intro a hs
  have hM := Mem.start W
  unfold spec_MeetTable_m at hm
  refine wp_seq ?_
  refine wp_region_lit ?_
  refine wl hs (y_assign hs rfl) rfl ?_; intro a hs
  refine wl hs (y_assign hs rfl) rfl ?_; intro a hs
  refine wpList_nil ?_
  refine x_nt ?_
  refine wp_seq ?_
  refine wp_seq ?_
  refine wp_region_lit ?_
  refine wl hs (y_move hs rfl) rfl ?_; intro a hs
  refine wl hs (y_len hu_61 hs rfl (RdYY.below hr_p0 hM.bel)) rfl ?_; intro a hs
  refine wl hs (y_gtr hs rfl rfl) rfl ?_; intro a hs
  refine wpList_nil ?_
  refine x_nt ?_
  refine x_cond hs rfl (fun hb => ?_) (fun hb => ?_)
  · replace hm := condT hb hm
    refine wp_seq ?_
    refine wp_region_lit ?_
    refine wl hs (y_assign hs rfl) rfl ?_; intro a hs
    refine wl hs (y_assign hs rfl) rfl ?_; intro a hs
    refine wpList_nil ?_
    refine x_nt ?_
    refine wp_ret ?_
    refine x_rt ?_
    have hm : some ([], false) = some r := hm
    obtain rfl := Option.some.inj hm
    refine x_ret2 rfl hs rfl rfl ⟨_, rfl, ?_⟩
    have hM := hM.nilM 24 3
    exact ⟨_, _, rfl, hM⟩
  · replace hm := condF hb hm
    refine wp_skip ?_
    refine x_nt ?_
    refine wp_seq ?_
    refine wp_seq ?_
    refine wp_region_lit ?_
    refine wl hs (y_move hs rfl) rfl ?_; intro a hs
    refine wl hs (y_len hu_61 hs rfl (RdYY.below hr_p0 hM.bel)) rfl ?_; intro a hs
    refine wl hs (y_move hs rfl) rfl ?_; intro a hs
    refine wpList_nil ?_
    refine x_nt ?_
    obtain ⟨s3, hm, hk4⟩ := bindE hm
    refine x_mid (fun a w => Sum.inr () = s3 ∧ Fr a 50 [(0, v_p0)] ∧ Mem W w []) ?_ ?_
    · refine wp_block ?_
      refine x_loop (fun k a w => ∃ (q5 : List (List Y3)) (j2 : Nat) , k = q5.length ∧ Fr a 50 [(0, v_p0), (15, v_p0), (16, .int .i64 (p0.length : Int)), (17, .int .i64 (j2 : Int))] ∧ Mem W w [] ∧ spec_MeetTable_l1 q5 j2 = some s3 ∧ List.drop j2 p0 = q5) _ ⟨p0, 0, rfl, hs.sub ⟨rfl, rfl, rfl, rfl, trivial⟩, hM, hm, rfl⟩ ?_
      rintro k a w ⟨q5, j2, rfl, hs, hM, hm, hj2⟩
      rcases q5 with _ | ⟨x6, q5⟩
      · rewrite [spec_MeetTable_l1] at hm
        refine wp_seq ?_
        refine wp_region_lit ?_
        refine wl hs (y_lss hs rfl rfl) rfl ?_; intro a hs
        refine wpList_nil ?_
        refine x_nt ?_
        refine wp_seq ?_
        refine x_condF hs rfl (drop_f hj2) ?_
        refine wp_exit ?_
        refine x_et ?_
        refine x_et ?_
        refine x_eb ?_
        have hm : some (Sum.inr ()) = some s3 := hm
        exact ⟨Option.some.inj hm, hs.sub ⟨rfl, trivial⟩, hM⟩
      · rewrite [spec_MeetTable_l1] at hm
        have hx7 := drop_idx hj2
        have hsj2 := ck_succ hj2 (RdS.len (RdYY.below hr_p0 hM.bel))
        refine wp_seq ?_
        refine wp_region_lit ?_
        refine wl hs (y_lss hs rfl rfl) rfl ?_; intro a hs
        refine wpList_nil ?_
        refine x_nt ?_
        refine wp_seq ?_
        refine x_condT hs rfl (drop_t hj2) ?_
        refine wp_skip ?_
        refine x_nt ?_
        refine wp_seq ?_
        refine wp_block ?_
        refine wp_seq ?_
        refine wp_region_lit ?_
        obtain ⟨u9, he8, hr10⟩ := RdYY.at_ hr_p0 hx7
        replace he8 := he8.below hM.bel
        refine wl hs (y_index ht_61 hs rfl rfl he8) rfl ?_; intro a hs
        refine wl hs (y_load sc_51 hs rfl he8.cell) rfl ?_; intro a hs
        refine wl hs (y_assign hs rfl) rfl ?_; intro a hs
        refine wpList_nil ?_
        refine x_nt ?_
        refine wp_seq ?_
        refine wp_region_lit ?_
        refine wl hs (y_move hs rfl) rfl ?_; intro a hs
        obtain ⟨y11, h12, hm⟩ := bindE hm
        refine wcall is_85 hs rfl rfl (spec_mtStar_any u9 x6 _ (RdY.below hr10 hM.bel) h12) ?_; rintro a _ w hs ⟨rfl, hX⟩
        have hM : Mem W w [] := hM.call hX
        refine wl hs (y_not hs rfl) rfl ?_; intro a hs
        refine wpList_nil ?_
        refine x_nt ?_
        refine x_cond hs rfl (fun hb => ?_) (fun hb => ?_)
        · replace hm := condT hb hm
          refine wp_seq ?_
          refine wp_region_lit ?_
          refine wl hs (y_assign hs rfl) rfl ?_; intro a hs
          refine wl hs (y_assign hs rfl) rfl ?_; intro a hs
          refine wpList_nil ?_
          refine x_nt ?_
          refine wp_ret ?_
          refine x_rb ?_
          refine x_rt ?_
          refine x_rt ?_
          refine x_rb ?_
          refine x_rt ?_
          refine x_rt ?_
          have hm : some (Sum.inl ([], false)) = some s3 := hm
          cases Option.some.inj hm
          have hm := hk4
          have hm : some ([], false) = some r := hm
          obtain rfl := Option.some.inj hm
          refine x_ret2 rfl hs rfl rfl ⟨_, rfl, ?_⟩
          have hM := hM.nilM 24 3
          exact ⟨_, _, rfl, hM⟩
        · replace hm := condF hb hm
          refine wp_skip ?_
          refine x_nb ?_
          refine x_nt ?_
          refine wp_region_lit ?_
          refine wl hs (y_add hs rfl rfl hsj2) rfl ?_; intro a hs
          refine wl hs (y_move hs rfl) rfl ?_; intro a hs
          refine wpList_nil ?_
          exact ⟨_, by simp, q5, j2 + 1, rfl, hs.sub ⟨rfl, rfl, rfl, rfl, trivial⟩, hM, hm, drop_next hj2⟩
    rintro a w ⟨rfl, hs, hM⟩
    have hm := hk4
    refine x_nt ?_
    refine wp_seq ?_
    refine wp_region_lit ?_
    refine wl hs (y_assign hs rfl) rfl ?_; intro a hs
    have hM := hM.nilM 24 3
    refine wpList_nil ?_
    refine x_nt ?_
    refine wp_seq ?_
    refine wp_seq ?_
    refine wp_region_lit ?_
    refine wl hs (y_move hs rfl) rfl ?_; intro a hs
    refine wl hs (y_len hu_61 hs rfl (RdYY.below hr_p0 hM.bel)) rfl ?_; intro a hs
    refine wl hs (y_move hs rfl) rfl ?_; intro a hs
    refine wpList_nil ?_
    refine x_nt ?_
    obtain ⟨s22, hm, hk23⟩ := bindE hm
    refine x_mid (fun a w => ∃ (v19 : Value), ∃ (vs20 : List Value), ∃ (l21 : List (List Int)), l21 = s22 ∧ Fr a 50 [(6, v19)] ∧ Mem W w [aMat 24 3 v19 vs20 l21]) ?_ ?_
    · refine wp_block ?_
      refine x_loop (fun k a w => ∃ (q24 : List (List Y3)) (j15 : Nat) (v16 : Value) (vs17 : List Value) (l18 : List (List Int)) , k = q24.length ∧ Fr a 50 [(0, v_p0), (6, v16), (25, v_p0), (26, .int .i64 (p0.length : Int)), (27, .int .i64 (j15 : Int))] ∧ Mem W w [aMat 24 3 v16 vs17 l18] ∧ spec_MeetTable_l2 p0 q24 j15 l18 = some s22 ∧ List.drop j15 p0 = q24) _ ⟨p0, 0, (.slice none 0 0), [], [], rfl, hs.sub ⟨rfl, rfl, rfl, rfl, rfl, trivial⟩, hM, hm, rfl⟩ ?_
      rintro k a w ⟨q24, j15, v16, vs17, l18, rfl, hs, hM, hm, hj15⟩
      rcases q24 with _ | ⟨x25, q24⟩
      · rewrite [spec_MeetTable_l2] at hm
        refine wp_seq ?_
        refine wp_region_lit ?_
        refine wl hs (y_lss hs rfl rfl) rfl ?_; intro a hs
        refine wpList_nil ?_
        refine x_nt ?_
        refine wp_seq ?_
        refine x_condF hs rfl (drop_f hj15) ?_
        refine wp_exit ?_
        refine x_et ?_
        refine x_et ?_
        refine x_eb ?_
        have hm : some l18 = some s22 := hm
        exact ⟨v16, vs17, l18, Option.some.inj hm, hs.sub ⟨rfl, trivial⟩, hM⟩
      · rewrite [spec_MeetTable_l2] at hm
        have hx26 := drop_idx hj15
        have hsj15 := ck_succ hj15 (RdS.len (RdYY.below hr_p0 hM.bel))
        refine wp_seq ?_
        refine wp_region_lit ?_
        refine wl hs (y_lss hs rfl rfl) rfl ?_; intro a hs
        refine wpList_nil ?_
        refine x_nt ?_
        refine wp_seq ?_
        refine x_condT hs rfl (drop_t hj15) ?_
        refine wp_skip ?_
        refine x_nt ?_
        refine wp_seq ?_
        refine wp_block ?_
        refine wp_seq ?_
        refine wp_region_lit ?_
        obtain ⟨u28, he27, hr29⟩ := RdYY.at_ hr_p0 hx26
        replace he27 := he27.below hM.bel
        refine wl hs (y_index ht_61 hs rfl rfl he27) rfl ?_; intro a hs
        refine wl hs (y_load sc_51 hs rfl he27.cell) rfl ?_; intro a hs
        refine wl hs (y_assign hs rfl) rfl ?_; intro a hs
        refine wpList_nil ?_
        refine x_nt ?_
        refine wp_seq ?_
        refine wp_region_lit ?_
        refine wl hs (y_assign hs rfl) rfl ?_; intro a hs
        have hM := hM.nilI 3
        refine wpList_nil ?_
        refine x_nt ?_
        refine wp_seq ?_
        refine wp_seq ?_
        refine wp_region_lit ?_
        refine wl hs (y_move hs rfl) rfl ?_; intro a hs
        refine wl hs (y_len hu_61 hs rfl (RdYY.below hr_p0 hM.bel)) rfl ?_; intro a hs
        refine wl hs (y_move hs rfl) rfl ?_; intro a hs
        refine wpList_nil ?_
        refine x_nt ?_
        obtain ⟨s36, hm, hk37⟩ := bindE hm
        refine x_mid (fun a w => ∃ (v34 : Value), ∃ (l35 : List Int), l35 = s36 ∧ Fr a 50 [(0, v_p0), (6, v16), (9, v34), (25, v_p0), (26, .int .i64 (p0.length : Int)), (27, .int .i64 (j15 : Int))] ∧ Mem W w [aInts 3 v34 l35, aMat 24 3 v16 vs17 l18]) ?_ ?_
        · refine wp_block ?_
          refine x_loop (fun k a w => ∃ (q38 : List (List Y3)) (j31 : Nat) (v32 : Value) (l33 : List Int) , k = q38.length ∧ Fr a 50 [(0, v_p0), (6, v16), (8, u28), (9, v32), (25, v_p0), (26, .int .i64 (p0.length : Int)), (27, .int .i64 (j15 : Int)), (31, v_p0), (32, .int .i64 (p0.length : Int)), (33, .int .i64 (j31 : Int))] ∧ Mem W w [aInts 3 v32 l33, aMat 24 3 v16 vs17 l18] ∧ spec_MeetTable_l3 x25 q38 j31 l33 = some s36 ∧ List.drop j31 p0 = q38) _ ⟨p0, 0, (.slice none 0 0), [], rfl, hs.sub ⟨rfl, rfl, rfl, rfl, rfl, rfl, rfl, rfl, rfl, rfl, trivial⟩, hM, hm, rfl⟩ ?_
          rintro k a w ⟨q38, j31, v32, l33, rfl, hs, hM, hm, hj31⟩
          rcases q38 with _ | ⟨x39, q38⟩
          · rewrite [spec_MeetTable_l3] at hm
            refine wp_seq ?_
            refine wp_region_lit ?_
            refine wl hs (y_lss hs rfl rfl) rfl ?_; intro a hs
            refine wpList_nil ?_
            refine x_nt ?_
            refine wp_seq ?_
            refine x_condF hs rfl (drop_f hj31) ?_
            refine wp_exit ?_
            refine x_et ?_
            refine x_et ?_
            refine x_eb ?_
            have hm : some l33 = some s36 := hm
            exact ⟨v32, l33, Option.some.inj hm, hs.sub ⟨rfl, rfl, rfl, rfl, rfl, rfl, trivial⟩, hM⟩
          · rewrite [spec_MeetTable_l3] at hm
            have hx40 := drop_idx hj31
            have hsj31 := ck_succ hj31 (RdS.len (RdYY.below hr_p0 hM.bel))
            refine wp_seq ?_
            refine wp_region_lit ?_
            refine wl hs (y_lss hs rfl rfl) rfl ?_; intro a hs
            refine wpList_nil ?_
            refine x_nt ?_
            refine wp_seq ?_
            refine x_condT hs rfl (drop_t hj31) ?_
            refine wp_skip ?_
            refine x_nt ?_
            refine wp_seq ?_
            refine wp_block ?_
            refine wp_seq ?_
            refine wp_region_lit ?_
            obtain ⟨u42, he41, hr43⟩ := RdYY.at_ hr_p0 hx40
            replace he41 := he41.below hM.bel
            refine wl hs (y_index ht_61 hs rfl rfl he41) rfl ?_; intro a hs
            refine wl hs (y_load sc_51 hs rfl he41.cell) rfl ?_; intro a hs
            refine wl hs (y_assign hs rfl) rfl ?_; intro a hs
            refine wpList_nil ?_
            refine x_nt ?_
            refine wp_region_lit ?_
            refine wl hs (y_move hs rfl) rfl ?_; intro a hs
            refine wl hs (y_move hs rfl) rfl ?_; intro a hs
            refine wl hs (y_move hs rfl) rfl ?_; intro a hs
            obtain ⟨y44, h45, hm⟩ := bindE hm
            refine wcall is_90 hs rfl rfl (spec_mtCount_any u28 x25 u42 x39 _ (RdY.below hr29 hM.bel) (RdY.below hr43 hM.bel) h45) ?_; rintro a _ w hs ⟨rfl, hX⟩
            have hM : Mem W w [aInts 3 v32 l33, aMat 24 3 v16 vs17 l18] := hM.call hX
            obtain ⟨l46, h47, hm⟩ := bindE hm
            refine wappI hu_I he_int hs hM rfl rfl h47 rfl rfl rfl ?_; intro a v48 w u49 hs hM
            have hM : Mem W w [aInts 3 v48 l46, aMat 24 3 v16 vs17 l18] := hM
            refine wl hs (y_assign hs rfl) rfl ?_; intro a hs
            refine wpList_nil ?_
            refine x_nb ?_
            refine x_nt ?_
            refine wp_region_lit ?_
            refine wl hs (y_add hs rfl rfl hsj31) rfl ?_; intro a hs
            refine wl hs (y_move hs rfl) rfl ?_; intro a hs
            refine wpList_nil ?_
            exact ⟨_, by simp, q38, j31 + 1, v48, l46, rfl, hs.sub ⟨rfl, rfl, rfl, rfl, rfl, rfl, rfl, rfl, rfl, rfl, trivial⟩, hM, hm, drop_next hj31⟩
        rintro a w ⟨v34, l35, rfl, hs, hM⟩
        have hm := hk37
        refine x_nt ?_
        refine wp_region_lit ?_
        refine wl hs (y_move hs rfl) rfl ?_; intro a hs
        refine wl hs (y_move hs rfl) rfl ?_; intro a hs
        obtain ⟨l50, h51, hm⟩ := bindE hm
        refine wappM hu_M he_I hs (hM.front 1 rfl) rfl rfl h51 rfl rfl rfl ?_; intro a v52 w u53 hs hM
        have hM : Mem W w [aMat 24 3 v52 (vs17 ++ [v34]) l50] := hM
        refine wl hs (y_assign hs rfl) rfl ?_; intro a hs
        refine wpList_nil ?_
        refine x_nb ?_
        refine x_nt ?_
        refine wp_region_lit ?_
        refine wl hs (y_add hs rfl rfl hsj15) rfl ?_; intro a hs
        refine wl hs (y_move hs rfl) rfl ?_; intro a hs
        refine wpList_nil ?_
        exact ⟨_, by simp, q24, j15 + 1, v52, (vs17 ++ [v34]), l50, rfl, hs.sub ⟨rfl, rfl, rfl, rfl, rfl, trivial⟩, hM, hm, drop_next hj15⟩
    rintro a w ⟨v19, vs20, l21, rfl, hs, hM⟩
    have hm := hk23
    refine x_nt ?_
    refine wp_seq ?_
    refine wp_region_lit ?_
    refine wl hs (y_move hs rfl) rfl ?_; intro a hs
    refine wl hs (y_assign hs rfl) rfl ?_; intro a hs
    refine wl hs (y_assign hs rfl) rfl ?_; intro a hs
    refine wpList_nil ?_
    refine x_nt ?_
    refine wp_ret ?_
    have hm : some (l21, true) = some r := hm
    obtain rfl := Option.some.inj hm
    refine x_ret2 rfl hs rfl rfl ⟨_, rfl, ?_⟩
    exact ⟨_, _, rfl, hM⟩

theorem impl_areSteps_any (p0 : Int) (p1 : Int) (W : World)  {r : Bool} (hm : impl_areSteps_m p0 p1 = some r) : Calls Try.prog 152 [.int .i64 p0, .int .i64 p1].toArray W fun e w => ∃ v, e = .returned v ∧ v = .bool r ∧ Mem W w [] := by
  refine x_enter Try.func152 rfl Try.ntmps152 rfl ?_
  intro a hs
  have hM := Mem.start W
  unfold impl_areSteps_m at hm
  refine wp_seq ?_
  refine wp_region_lit ?_
  refine wl hs (y_assign hs rfl) rfl ?_; intro a hs
  refine wpList_nil ?_
  refine x_nt ?_
  refine wp_seq ?_
  refine wp_region_lit ?_
  refine wl hs (y_move hs rfl) rfl ?_; intro a hs
  obtain ⟨y1, h2, hm⟩ := bindE hm
  refine wcall is_76 hs rfl rfl (impl_within_any p0 (-20) 20 _  h2) ?_; rintro a _ w hs ⟨rfl, hX⟩
  have hM : Mem W w [] := hM.call hX
  refine wl hs (y_move hs rfl) rfl ?_; intro a hs
  obtain ⟨b3, hb4, hm⟩ := bindE hm
  refine wlguard (N := 19) (L' := [(10, .bool b3), (0, .int .i64 p0), (1, .int .i64 p1), (4, .bool false)]) (fun w => Mem W w []) 3 ?_ ?_
  · intro K; rcases Bool.eq_false_or_eq_true y1 with hg5 | hg5
    · have hm := condT hg5 hb4
      refine wlg hs rfl hg5 (y_move hs rfl) rfl ?_; intro a hs
      obtain ⟨y6, h7, hm⟩ := bindE hm
      refine wcallg is_76 hs rfl hg5 rfl rfl (impl_within_any p1 (-20) 20 _  h7) ?_; rintro a _ w hs ⟨rfl, hX⟩
      have hM : Mem W w [] := hM.call hX
      have hm : some y6 = some b3 := hm
      cases Option.some.inj hm
      refine wl hs (y_pickT hs rfl hg5 rfl) rfl ?_; intro a hs
      exact K _ _ (hs.sub ⟨rfl, rfl, rfl, rfl, trivial⟩) hM
    · have hm := condF hg5 hb4
      refine wls hs rfl hg5 rfl ?_; intro a hs
      refine wls hs rfl hg5 rfl ?_; intro a hs
      have hm : some false = some b3 := hm
      cases Option.some.inj hm
      refine wl hs (y_pickF hs rfl hg5 rfl) rfl ?_; intro a hs
      exact K _ _ (hs.sub ⟨rfl, rfl, rfl, rfl, trivial⟩) hM
  intro a w hs hM
  simp only [List.drop_succ_cons, List.drop_zero]
  refine wl hs (y_move hs rfl) rfl ?_; intro a hs
  obtain ⟨b8, hb9, hm⟩ := bindE hm
  refine wlguard (N := 19) (L' := [(18, .bool b8), (4, .bool false)]) (fun w => Mem W w []) 7 ?_ ?_
  · intro K; rcases Bool.eq_false_or_eq_true b3 with hg10 | hg10
    · have hm := condT hg10 hb9
      refine wlg hs rfl hg10 (y_move hs rfl) rfl ?_; intro a hs
      refine wlg hs rfl hg10 (y_neq hs rfl rfl) rfl ?_; intro a hs
      refine wlg hs rfl hg10 (y_move hs rfl) rfl ?_; intro a hs
      obtain ⟨b11, hb12, hm⟩ := bindE hm
      refine wlguard (N := 19) (L' := [(17, .bool b11), (4, .bool false), (11, .bool b3)]) (fun w => Mem W w []) 3 ?_ ?_
      · intro K; rcases Bool.eq_false_or_eq_true (p0 != 0) with hg13 | hg13
        · have hm := condT hg13 hb12
          refine wls hs rfl hg13 rfl ?_; intro a hs
          refine wls hs rfl hg13 rfl ?_; intro a hs
          have hm : some true = some b11 := hm
          cases Option.some.inj hm
          refine wlg hs rfl hg10 (y_pickT hs rfl hg13 rfl) rfl ?_; intro a hs
          exact K _ _ (hs.sub ⟨rfl, rfl, rfl, trivial⟩) hM
        · have hm := condF hg13 hb12
          refine wlg hs rfl hg13 (y_move hs rfl) rfl ?_; intro a hs
          refine wlg hs rfl hg13 (y_neq hs rfl rfl) rfl ?_; intro a hs
          have hm : some (p1 != 0) = some b11 := hm
          cases Option.some.inj hm
          refine wlg hs rfl hg10 (y_pickF hs rfl hg13 rfl) rfl ?_; intro a hs
          exact K _ _ (hs.sub ⟨rfl, rfl, rfl, trivial⟩) hM
      intro a w hs hM
      simp only [List.drop_succ_cons, List.drop_zero]
      have hm : some b11 = some b8 := hm
      cases Option.some.inj hm
      refine wl hs (y_pickT hs rfl hg10 rfl) rfl ?_; intro a hs
      exact K _ _ (hs.sub ⟨rfl, rfl, trivial⟩) hM
    · have hm := condF hg10 hb9
      refine wls hs rfl hg10 rfl ?_; intro a hs
      refine wls hs rfl hg10 rfl ?_; intro a hs
      refine wls hs rfl hg10 rfl ?_; intro a hs
      refine wlu hs rfl rfl ?_; intro a hs
      refine wlu hs rfl rfl ?_; intro a hs
      refine wls hs rfl hg10 rfl ?_; intro a hs
      have hm : some false = some b8 := hm
      cases Option.some.inj hm
      refine wl hs (y_pickF hs rfl hg10 rfl) rfl ?_; intro a hs
      exact K _ _ (hs.sub ⟨rfl, rfl, trivial⟩) hM
  intro a w hs hM
  simp only [List.drop_succ_cons, List.drop_zero]
  refine wl hs (y_assign hs rfl) rfl ?_; intro a hs
  refine wpList_nil ?_
  refine x_nt ?_
  refine wp_ret ?_
  have hm : some b8 = some r := hm
  obtain rfl := Option.some.inj hm
  refine x_ret1 rfl hs rfl ⟨_, rfl, ?_⟩
  exact ⟨rfl, hM⟩

theorem impl_Ray_steps_any (p0_0 : Int) (p0_1 : Int) (p0_2 : Int) (W : World)  {r : Int × Int} (hm : impl_Ray_steps_m p0_0 p0_1 p0_2 = some r) : Calls Try.prog 129 [.agg #[.int .i64 p0_0, .int .i64 p0_1, .int .i64 p0_2]].toArray W fun e w => ∃ v, e = .returned v ∧ v = .agg #[.int .i64 r.1, .int .i64 r.2] ∧ Mem W w [] := by
  refine x_enter Try.func129 rfl Try.ntmps129 rfl ?_
  intro a hs
  have hM := Mem.start W
  unfold impl_Ray_steps_m at hm
  refine wp_seq ?_
  refine wp_region_lit ?_
  refine wmem hs (x_boxS (cs := [.int .i64 p0_0, .int .i64 p0_1, .int .i64 p0_2]) hs rfl hM) rfl ?_; rintro a _ w hs ⟨g2, rfl, hM⟩
  have hM : Mem W w [aBlk g2 82 [.int .i64 p0_0, .int .i64 p0_1, .int .i64 p0_2]] := hM
  refine wmem hs (x_allocS sT_91 hM) rfl ?_; rintro a _ w hs ⟨g4, rfl, hM⟩
  have hM : Mem W w [aBlk g4 91 [.int .i64 0, .int .i64 0], aBlk g2 82 [.int .i64 p0_0, .int .i64 p0_1, .int .i64 p0_2]] := hM
  refine wpList_nil ?_
  refine x_nt ?_
  refine wp_seq ?_
  refine wp_region_lit ?_
  refine wl hs (y_fieldAddr sT_82 hs rfl rfl) rfl ?_; intro a hs
  refine wl hs (y_load sc_int hs rfl (hM.cellBlk 1 rfl 0 rfl)) rfl ?_; intro a hs
  refine wl hs (y_fieldAddr sT_82 hs rfl rfl) rfl ?_; intro a hs
  refine wl hs (y_load sc_int hs rfl (hM.cellBlk 1 rfl 1 rfl)) rfl ?_; intro a hs
  refine wl hs (y_build (cs := [.int .i64 p0_0, .int .i64 p0_1]) sT_91 hs rfl ⟨rfl, rfl, rfl, rfl, trivial⟩ rfl) rfl ?_; intro a hs
  refine wstore hs rfl rfl (x_storeS (cs := [.int .i64 0, .int .i64 0]) (us := [.int .i64 p0_0, .int .i64 p0_1]) sT_91 ⟨rfl, rfl, trivial⟩ rfl rfl (hM.front 0 rfl)) ?_; intro w hM
  have hM : Mem W w [aBlk g4 91 [.int .i64 p0_0, .int .i64 p0_1], aBlk g2 82 [.int .i64 p0_0, .int .i64 p0_1, .int .i64 p0_2]] := hM
  refine wpList_nil ?_
  refine x_nt ?_
  refine wp_ret ?_
  have hm : some (p0_0, p0_1) = some r := hm
  obtain rfl := Option.some.inj hm
  refine x_retR (rs := [.cell 2 91]) (vs := [.agg #[.int .i64 p0_0, .int .i64 p0_1]]) rfl hs ⟨⟨_, rfl, loadS (cs := [.int .i64 p0_0, .int .i64 p0_1]) sT_91 (hM.heapBlk 0 rfl) rfl⟩, trivial⟩ ⟨_, rfl, ?_⟩
  exact ⟨rfl, hM.none_⟩

theorem impl_comparePoints_any (p0_0 : Int) (p0_1 : Int) (p1_0 : Int) (p1_1 : Int) (W : World)  {r : Int} (hm : impl_comparePoints_m p0_0 p0_1 p1_0 p1_1 = some r) : Calls Try.prog 154 [.agg #[.int .i64 p0_0, .int .i64 p0_1], .agg #[.int .i64 p1_0, .int .i64 p1_1]].toArray W fun e w => ∃ v, e = .returned v ∧ v = .int .i64 r ∧ Mem W w [] := by
  refine x_enter Try.func154 rfl Try.ntmps154 rfl ?_
  intro a hs
  have hM := Mem.start W
  unfold impl_comparePoints_m at hm
  refine wp_seq ?_
  refine wp_region_lit ?_
  refine wmem hs (x_boxS (cs := [.int .i64 p0_0, .int .i64 p0_1]) hs rfl hM) rfl ?_; rintro a _ w hs ⟨g2, rfl, hM⟩
  have hM : Mem W w [aBlk g2 91 [.int .i64 p0_0, .int .i64 p0_1]] := hM
  refine wmem hs (x_boxS (cs := [.int .i64 p1_0, .int .i64 p1_1]) hs rfl hM) rfl ?_; rintro a _ w hs ⟨g4, rfl, hM⟩
  have hM : Mem W w [aBlk g4 91 [.int .i64 p1_0, .int .i64 p1_1], aBlk g2 91 [.int .i64 p0_0, .int .i64 p0_1]] := hM
  refine wl hs (y_assign hs rfl) rfl ?_; intro a hs
  refine wpList_nil ?_
  refine x_nt ?_
  refine wp_seq ?_
  refine wp_seq ?_
  refine wp_region_lit ?_
  refine wl hs (y_fieldAddr sT_91 hs rfl rfl) rfl ?_; intro a hs
  refine wl hs (y_load sc_int hs rfl (hM.cellBlk 1 rfl 0 rfl)) rfl ?_; intro a hs
  refine wl hs (y_fieldAddr sT_91 hs rfl rfl) rfl ?_; intro a hs
  refine wl hs (y_load sc_int hs rfl (hM.cellBlk 0 rfl 0 rfl)) rfl ?_; intro a hs
  refine wl hs (y_neq hs rfl rfl) rfl ?_; intro a hs
  refine wpList_nil ?_
  refine x_nt ?_
  refine x_cond hs rfl (fun hb => ?_) (fun hb => ?_)
  · replace hm := condT hb hm
    refine wp_seq ?_
    refine wp_region_lit ?_
    refine wl hs (y_fieldAddr sT_91 hs rfl rfl) rfl ?_; intro a hs
    refine wl hs (y_load sc_int hs rfl (hM.cellBlk 1 rfl 0 rfl)) rfl ?_; intro a hs
    refine wl hs (y_fieldAddr sT_91 hs rfl rfl) rfl ?_; intro a hs
    refine wl hs (y_load sc_int hs rfl (hM.cellBlk 0 rfl 0 rfl)) rfl ?_; intro a hs
    obtain ⟨n5, h6, hm⟩ := bindE hm
    refine wl hs (y_sub hs rfl rfl h6) rfl ?_; intro a hs
    refine wl hs (y_assign hs rfl) rfl ?_; intro a hs
    refine wpList_nil ?_
    refine x_nt ?_
    refine wp_ret ?_
    refine x_rt ?_
    have hm : some n5 = some r := hm
    obtain rfl := Option.some.inj hm
    refine x_ret1 rfl hs rfl ⟨_, rfl, ?_⟩
    exact ⟨rfl, hM.none_⟩
  · replace hm := condF hb hm
    refine wp_skip ?_
    refine x_nt ?_
    refine wp_seq ?_
    refine wp_region_lit ?_
    refine wl hs (y_fieldAddr sT_91 hs rfl rfl) rfl ?_; intro a hs
    refine wl hs (y_load sc_int hs rfl (hM.cellBlk 1 rfl 1 rfl)) rfl ?_; intro a hs
    refine wl hs (y_fieldAddr sT_91 hs rfl rfl) rfl ?_; intro a hs
    refine wl hs (y_load sc_int hs rfl (hM.cellBlk 0 rfl 1 rfl)) rfl ?_; intro a hs
    obtain ⟨n7, h8, hm⟩ := bindE hm
    refine wl hs (y_sub hs rfl rfl h8) rfl ?_; intro a hs
    refine wl hs (y_assign hs rfl) rfl ?_; intro a hs
    refine wpList_nil ?_
    refine x_nt ?_
    refine wp_ret ?_
    have hm : some n7 = some r := hm
    obtain rfl := Option.some.inj hm
    refine x_ret1 rfl hs rfl ⟨_, rfl, ?_⟩
    exact ⟨rfl, hM.none_⟩

theorem impl_compareRays_any (p0_0 : Int) (p0_1 : Int) (p0_2 : Int) (p1_0 : Int) (p1_1 : Int) (p1_2 : Int) (W : World)  {r : Int} (hm : impl_compareRays_m p0_0 p0_1 p0_2 p1_0 p1_1 p1_2 = some r) : Calls Try.prog 127 [.agg #[.int .i64 p0_0, .int .i64 p0_1, .int .i64 p0_2], .agg #[.int .i64 p1_0, .int .i64 p1_1, .int .i64 p1_2]].toArray W fun e w => ∃ v, e = .returned v ∧ v = .int .i64 r ∧ Mem W w [] := by
  refine x_enter Try.func127 rfl Try.ntmps127 rfl ?_
  intro a hs
  have hM := Mem.start W
  unfold impl_compareRays_m at hm
  refine wp_seq ?_
  refine wp_region_lit ?_
  refine wmem hs (x_boxS (cs := [.int .i64 p0_0, .int .i64 p0_1, .int .i64 p0_2]) hs rfl hM) rfl ?_; rintro a _ w hs ⟨g2, rfl, hM⟩
  have hM : Mem W w [aBlk g2 82 [.int .i64 p0_0, .int .i64 p0_1, .int .i64 p0_2]] := hM
  refine wmem hs (x_boxS (cs := [.int .i64 p1_0, .int .i64 p1_1, .int .i64 p1_2]) hs rfl hM) rfl ?_; rintro a _ w hs ⟨g4, rfl, hM⟩
  have hM : Mem W w [aBlk g4 82 [.int .i64 p1_0, .int .i64 p1_1, .int .i64 p1_2], aBlk g2 82 [.int .i64 p0_0, .int .i64 p0_1, .int .i64 p0_2]] := hM
  refine wl hs (y_assign hs rfl) rfl ?_; intro a hs
  refine wpList_nil ?_
  refine x_nt ?_
  refine wp_seq ?_
  refine x_regq hmix (by kernel_rfl) ?_
  refine wq hs (fun w1 hw1 => y_loadS (cs := [.int .i64 p0_0, .int .i64 p0_1, .int .i64 p0_2]) sT_82 hs rfl ((hM.quiet hw1).heapBlk 1 rfl) rfl) rfl ?_; intro a hs
  obtain ⟨y5, h6, hm⟩ := bindE hm
  refine qcall (v := .agg #[.int .i64 y5.1, .int .i64 y5.2]) is_129 hs rfl rfl (fun w1 hw1 => q_of hw1 (impl_Ray_steps_any p0_0 p0_1 p0_2 w1  h6)) ?_; intro a hs
  refine wq hs (fun w1 hw1 => y_loadS (cs := [.int .i64 p1_0, .int .i64 p1_1, .int .i64 p1_2]) sT_82 hs rfl ((hM.quiet hw1).heapBlk 0 rfl) rfl) rfl ?_; intro a hs
  obtain ⟨y7, h8, hm⟩ := bindE hm
  refine qcall (v := .agg #[.int .i64 y7.1, .int .i64 y7.2]) is_129 hs rfl rfl (fun w1 hw1 => q_of hw1 (impl_Ray_steps_any p1_0 p1_1 p1_2 w1  h8)) ?_; intro a hs
  obtain ⟨y9, h10, hm⟩ := bindE hm
  refine qcall (v := .int .i64 y9) is_154 hs rfl rfl (fun w1 hw1 => q_of hw1 (impl_comparePoints_any y5.1 y5.2 y7.1 y7.2 w1  h10)) ?_; intro a hs
  refine wq hs (fun w1 hw1 => y_assign hs rfl) rfl ?_; intro a hs
  refine wpQuiet_nil ?_
  intro w hw
  replace hM := hM.quiet hw
  refine x_nt ?_
  refine wp_ret ?_
  have hm : some y9 = some r := hm
  obtain rfl := Option.some.inj hm
  refine x_ret1 rfl hs rfl ⟨_, rfl, ?_⟩
  exact ⟨rfl, hM.none_⟩

theorem impl_isRay_any (p0_0 : Int) (p0_1 : Int) (p0_2 : Int) (W : World)  {r : Bool} (hm : impl_isRay_m p0_0 p0_1 p0_2 = some r) : Calls Try.prog 126 [.agg #[.int .i64 p0_0, .int .i64 p0_1, .int .i64 p0_2]].toArray W fun e w => ∃ v, e = .returned v ∧ v = .bool r ∧ Mem W w [] := by
  refine x_enter Try.func126 rfl Try.ntmps126 rfl ?_
  intro a hs
  have hM := Mem.start W
  unfold impl_isRay_m at hm
  refine wp_seq ?_
  refine wp_region_lit ?_
  refine wmem hs (x_boxS (cs := [.int .i64 p0_0, .int .i64 p0_1, .int .i64 p0_2]) hs rfl hM) rfl ?_; rintro a _ w hs ⟨g2, rfl, hM⟩
  have hM : Mem W w [aBlk g2 82 [.int .i64 p0_0, .int .i64 p0_1, .int .i64 p0_2]] := hM
  refine wl hs (y_assign hs rfl) rfl ?_; intro a hs
  refine wpList_nil ?_
  refine x_nt ?_
  refine wp_seq ?_
  refine wp_region_lit ?_
  refine wl hs (y_fieldAddr sT_82 hs rfl rfl) rfl ?_; intro a hs
  refine wl hs (y_load sc_int hs rfl (hM.cellBlk 0 rfl 0 rfl)) rfl ?_; intro a hs
  refine wl hs (y_fieldAddr sT_82 hs rfl rfl) rfl ?_; intro a hs
  refine wl hs (y_load sc_int hs rfl (hM.cellBlk 0 rfl 1 rfl)) rfl ?_; intro a hs
  obtain ⟨y3, h4, hm⟩ := bindE hm
  refine wcall is_152 hs rfl rfl (impl_areSteps_any p0_0 p0_1 _  h4) ?_; rintro a _ w hs ⟨rfl, hX⟩
  have hM : Mem W w [aBlk g2 82 [.int .i64 p0_0, .int .i64 p0_1, .int .i64 p0_2]] := hM.call hX
  refine wl hs (y_move hs rfl) rfl ?_; intro a hs
  obtain ⟨b5, hb6, hm⟩ := bindE hm
  refine wlguard (N := 21) (L' := [(15, .bool b5), (1, .pointer (some ⟨g2, 0, none⟩)), (2, .bool false)]) (fun w => Mem W w [aBlk g2 82 [.int .i64 p0_0, .int .i64 p0_1, .int .i64 p0_2]]) 7 ?_ ?_
  · intro K; rcases Bool.eq_false_or_eq_true y3 with hg7 | hg7
    · have hm := condT hg7 hb6
      refine wlg hs rfl hg7 (y_fieldAddr sT_82 hs rfl rfl) rfl ?_; intro a hs
      refine wlg hs rfl hg7 (y_load sc_int hs rfl (hM.cellBlk 0 rfl 0 rfl)) rfl ?_; intro a hs
      refine wlg hs rfl hg7 (y_fieldAddr sT_82 hs rfl rfl) rfl ?_; intro a hs
      refine wlg hs rfl hg7 (y_load sc_int hs rfl (hM.cellBlk 0 rfl 1 rfl)) rfl ?_; intro a hs
      obtain ⟨y8, h9, hm⟩ := bindE hm
      refine wcallg is_153 hs rfl hg7 rfl rfl (impl_gcd_any p0_0 p0_1 _  h9) ?_; rintro a _ w hs ⟨rfl, hX⟩
      have hM : Mem W w [aBlk g2 82 [.int .i64 p0_0, .int .i64 p0_1, .int .i64 p0_2]] := hM.call hX
      refine wlg hs rfl hg7 (y_eql hs rfl rfl) rfl ?_; intro a hs
      have hm : some (y8 == 1) = some b5 := hm
      cases Option.some.inj hm
      refine wl hs (y_pickT hs rfl hg7 rfl) rfl ?_; intro a hs
      exact K _ _ (hs.sub ⟨rfl, rfl, rfl, trivial⟩) hM
    · have hm := condF hg7 hb6
      refine wls hs rfl hg7 rfl ?_; intro a hs
      refine wls hs rfl hg7 rfl ?_; intro a hs
      refine wls hs rfl hg7 rfl ?_; intro a hs
      refine wls hs rfl hg7 rfl ?_; intro a hs
      refine wls hs rfl hg7 rfl ?_; intro a hs
      refine wls hs rfl hg7 rfl ?_; intro a hs
      have hm : some false = some b5 := hm
      cases Option.some.inj hm
      refine wl hs (y_pickF hs rfl hg7 rfl) rfl ?_; intro a hs
      exact K _ _ (hs.sub ⟨rfl, rfl, rfl, trivial⟩) hM
  intro a w hs hM
  simp only [List.drop_succ_cons, List.drop_zero]
  refine wl hs (y_move hs rfl) rfl ?_; intro a hs
  obtain ⟨b10, hb11, hm⟩ := bindE hm
  refine wlguard (N := 21) (L' := [(20, .bool b10), (2, .bool false)]) (fun w => Mem W w [aBlk g2 82 [.int .i64 p0_0, .int .i64 p0_1, .int .i64 p0_2]]) 4 ?_ ?_
  · intro K; rcases Bool.eq_false_or_eq_true b5 with hg12 | hg12
    · have hm := condT hg12 hb11
      refine wlg hs rfl hg12 (y_fieldAddr sT_82 hs rfl rfl) rfl ?_; intro a hs
      refine wlg hs rfl hg12 (y_load sc_int hs rfl (hM.cellBlk 0 rfl 2 rfl)) rfl ?_; intro a hs
      obtain ⟨y13, h14, hm⟩ := bindE hm
      refine wcallg is_76 hs rfl hg12 rfl rfl (impl_within_any p0_2 1 20 _  h14) ?_; rintro a _ w hs ⟨rfl, hX⟩
      have hM : Mem W w [aBlk g2 82 [.int .i64 p0_0, .int .i64 p0_1, .int .i64 p0_2]] := hM.call hX
      have hm : some y13 = some b10 := hm
      cases Option.some.inj hm
      refine wl hs (y_pickT hs rfl hg12 rfl) rfl ?_; intro a hs
      exact K _ _ (hs.sub ⟨rfl, rfl, trivial⟩) hM
    · have hm := condF hg12 hb11
      refine wls hs rfl hg12 rfl ?_; intro a hs
      refine wls hs rfl hg12 rfl ?_; intro a hs
      refine wls hs rfl hg12 rfl ?_; intro a hs
      have hm : some false = some b10 := hm
      cases Option.some.inj hm
      refine wl hs (y_pickF hs rfl hg12 rfl) rfl ?_; intro a hs
      exact K _ _ (hs.sub ⟨rfl, rfl, trivial⟩) hM
  intro a w hs hM
  simp only [List.drop_succ_cons, List.drop_zero]
  refine wl hs (y_assign hs rfl) rfl ?_; intro a hs
  refine wpList_nil ?_
  refine x_nt ?_
  refine wp_ret ?_
  have hm : some b10 = some r := hm
  obtain rfl := Option.some.inj hm
  refine x_ret1 rfl hs rfl ⟨_, rfl, ?_⟩
  exact ⟨rfl, hM.none_⟩

set_option maxHeartbeats 4000000 in
theorem impl_isStar_any (v_p0 : Value) (p0 : List Y3) (W : World) (hr_p0 : RdY W v_p0 p0) {r : Bool} (hm : impl_isStar_m p0 = some r) : Calls Try.prog 94 [v_p0].toArray W fun e w => ∃ v, e = .returned v ∧ v = .bool r ∧ Mem W w [] := by
  refine x_enter Try.func94 rfl Try.ntmps94 rfl ?_
  intro a hs
  have hM := Mem.start W
  unfold impl_isStar_m at hm
  refine wp_seq ?_
  refine wp_region_lit ?_
  refine wl hs (y_assign hs rfl) rfl ?_; intro a hs
  refine wpList_nil ?_
  refine x_nt ?_
  refine wp_seq ?_
  refine wp_seq ?_
  refine wp_region_lit ?_
  refine wl hs (y_move hs rfl) rfl ?_; intro a hs
  refine wl hs (y_lenY hY_51 hs rfl (RdY.below hr_p0 hM.bel)) rfl ?_; intro a hs
  refine wl hs (y_gtr hs rfl rfl) rfl ?_; intro a hs
  refine wpList_nil ?_
  refine x_nt ?_
  refine x_cond hs rfl (fun hb => ?_) (fun hb => ?_)
  · replace hm := condT hb hm
    refine wp_seq ?_
    refine wp_region_lit ?_
    refine wl hs (y_assign hs rfl) rfl ?_; intro a hs
    refine wpList_nil ?_
    refine x_nt ?_
    refine wp_ret ?_
    refine x_rt ?_
    have hm : some false = some r := hm
    obtain rfl := Option.some.inj hm
    refine x_ret1 rfl hs rfl ⟨_, rfl, ?_⟩
    exact ⟨rfl, hM⟩
  · replace hm := condF hb hm
    refine wp_skip ?_
    refine x_nt ?_
    refine wp_seq ?_
    refine wp_seq ?_
    refine wp_region_lit ?_
    refine wl hs (y_move hs rfl) rfl ?_; intro a hs
    refine wl hs (y_lenY hY_51 hs rfl (RdY.below hr_p0 hM.bel)) rfl ?_; intro a hs
    refine wl hs (y_move hs rfl) rfl ?_; intro a hs
    refine wpList_nil ?_
    refine x_nt ?_
    obtain ⟨s2, hm, hk3⟩ := bindE hm
    refine x_mid (fun a w => Sum.inr () = s2 ∧ Fr a 33 [] ∧ Mem W w []) ?_ ?_
    · refine wp_block ?_
      refine x_loop (fun k a w => ∃ (q4 : List Y3) (j1 : Nat) , k = q4.length ∧ Fr a 33 [(0, v_p0), (8, v_p0), (9, .int .i64 (p0.length : Int)), (10, .int .i64 (j1 : Int))] ∧ Mem W w [] ∧ impl_isStar_l1 p0 q4 j1 = some s2 ∧ List.drop j1 p0 = q4) _ ⟨p0, 0, rfl, hs.sub ⟨rfl, rfl, rfl, rfl, trivial⟩, hM, hm, rfl⟩ ?_
      rintro k a w ⟨q4, j1, rfl, hs, hM, hm, hj1⟩
      rcases q4 with _ | ⟨x5, q4⟩
      · rewrite [impl_isStar_l1] at hm
        refine wp_seq ?_
        refine wp_region_lit ?_
        refine wl hs (y_lss hs rfl rfl) rfl ?_; intro a hs
        refine wpList_nil ?_
        refine x_nt ?_
        refine wp_seq ?_
        refine x_condF hs rfl (drop_f hj1) ?_
        refine wp_exit ?_
        refine x_et ?_
        refine x_et ?_
        refine x_eb ?_
        have hm : some (Sum.inr ()) = some s2 := hm
        exact ⟨Option.some.inj hm, hs.sub trivial, hM⟩
      · rewrite [impl_isStar_l1] at hm
        have hx6 := drop_idx hj1
        have hsj1 := ck_succ hj1 (RdY.len (RdY.below hr_p0 hM.bel))
        refine wp_seq ?_
        refine wp_region_lit ?_
        refine wl hs (y_lss hs rfl rfl) rfl ?_; intro a hs
        refine wpList_nil ?_
        refine x_nt ?_
        refine wp_seq ?_
        refine x_condT hs rfl (drop_t hj1) ?_
        refine wp_skip ?_
        refine x_nt ?_
        refine wp_seq ?_
        refine wp_block ?_
        refine wp_seq ?_
        refine wp_region_lit ?_
        refine wl hs (y_move hs rfl) rfl ?_; intro a hs
        have he7 := RdY.at_ (RdY.below hr_p0 hM.bel) hx6
        refine wl hs (y_indexY hY_51 hs rfl rfl he7) rfl ?_; intro a hs
        refine wl hs (y_loadY sT_82 rfl hs rfl he7) rfl ?_; intro a hs
        refine wmem hs (x_allocS sT_82 hM) rfl ?_; rintro a _ w hs ⟨g9, rfl, hM⟩
        have hM : Mem W w [aBlk g9 82 [.int .i64 0, .int .i64 0, .int .i64 0]] := hM
        refine wl hs (y_assign hs rfl) rfl ?_; intro a hs
        refine wstore hs rfl rfl (x_storeS (cs := [.int .i64 0, .int .i64 0, .int .i64 0]) (us := [.int .i64 x5.1, .int .i64 x5.2.1, .int .i64 x5.2.2]) sT_82 ⟨rfl, rfl, rfl, trivial⟩ rfl rfl (hM.front 0 rfl)) ?_; intro w hM
        have hM : Mem W w [aBlk g9 82 [.int .i64 x5.1, .int .i64 x5.2.1, .int .i64 x5.2.2]] := hM
        refine wpList_nil ?_
        refine x_nt ?_
        refine wp_seq ?_
        refine x_regq hmix (by kernel_rfl) ?_
        refine wq hs (fun w1 hw1 => y_loadS (cs := [.int .i64 x5.1, .int .i64 x5.2.1, .int .i64 x5.2.2]) sT_82 hs rfl ((hM.quiet hw1).heapBlk 0 rfl) rfl) rfl ?_; intro a hs
        obtain ⟨y10, h11, hm⟩ := bindE hm
        refine qcall (v := .bool y10) is_126 hs rfl rfl (fun w1 hw1 => q_of hw1 (impl_isRay_any x5.1 x5.2.1 x5.2.2 w1  h11)) ?_; intro a hs
        refine wq hs (fun w1 hw1 => y_not hs rfl) rfl ?_; intro a hs
        refine wq hs (fun w1 hw1 => y_move hs rfl) rfl ?_; intro a hs
        obtain ⟨b12, hb13, hm⟩ := bindE hm
        refine wqguard (N := 33) (L' := [(31, .bool b12), (0, v_p0), (8, v_p0), (9, .int .i64 (p0.length : Int)), (10, .int .i64 (j1 : Int))]) 13 ?_ ?_
        · intro K; rcases Bool.eq_false_or_eq_true (!y10) with hg14 | hg14
          · have hm := condT hg14 hb13
            refine wqs hs rfl hg14 rfl ?_; intro a hs
            refine wqs hs rfl hg14 rfl ?_; intro a hs
            refine wqs hs rfl hg14 rfl ?_; intro a hs
            refine wqu hs rfl rfl ?_; intro a hs
            refine wqu hs rfl rfl ?_; intro a hs
            refine wqu hs rfl rfl ?_; intro a hs
            refine wqu hs rfl rfl ?_; intro a hs
            refine wqu hs rfl rfl ?_; intro a hs
            refine wqu hs rfl rfl ?_; intro a hs
            refine wqu hs rfl rfl ?_; intro a hs
            refine wqu hs rfl rfl ?_; intro a hs
            refine wqs hs rfl hg14 rfl ?_; intro a hs
            have hm : some true = some b12 := hm
            cases Option.some.inj hm
            refine wq hs (fun w1 hw1 => y_pickT hs rfl hg14 rfl) rfl ?_; intro a hs
            exact K _ (hs.sub ⟨rfl, rfl, rfl, rfl, rfl, trivial⟩)
          · have hm := condF hg14 hb13
            refine wqg hs rfl hg14 (fun w1 hw1 => y_move hs rfl) rfl ?_; intro a hs
            refine wqg hs rfl hg14 (fun w1 hw1 => y_gtr hs rfl rfl) rfl ?_; intro a hs
            refine wqg hs rfl hg14 (fun w1 hw1 => y_move hs rfl) rfl ?_; intro a hs
            obtain ⟨b15, hb16, hm⟩ := bindE hm
            refine wqguard (N := 33) (L' := [(30, .bool b15), (0, v_p0), (8, v_p0), (9, .int .i64 (p0.length : Int)), (10, .int .i64 (j1 : Int)), (18, .bool (!y10))]) 9 ?_ ?_
            · intro K; rcases Bool.eq_false_or_eq_true (decide ((j1 : Int) > 0)) with hg17 | hg17
              · have hm := condT hg17 hb16
                refine wqg hs rfl hg17 (fun w1 hw1 => y_move hs rfl) rfl ?_; intro a hs
                refine wqg hs rfl hg17 (fun w1 hw1 => y_move hs rfl) rfl ?_; intro a hs
                obtain ⟨n18, h19, hm⟩ := bindE hm
                refine wqg hs rfl hg17 (fun w1 hw1 => y_sub hs rfl rfl h19) rfl ?_; intro a hs
                obtain ⟨x20, hx21, hm⟩ := bindE hm
                have he22 := RdY.at_ (RdY.below hr_p0 hM.bel) hx21
                refine wqg hs rfl hg17 (fun w1 hw1 => y_indexY hY_51 hs rfl rfl (he22.below hw1)) rfl ?_; intro a hs
                refine wqg hs rfl hg17 (fun w1 hw1 => y_loadY sT_82 rfl hs rfl (he22.below hw1)) rfl ?_; intro a hs
                refine wqg hs rfl hg17 (fun w1 hw1 => y_loadS (cs := [.int .i64 x5.1, .int .i64 x5.2.1, .int .i64 x5.2.2]) sT_82 hs rfl ((hM.quiet hw1).heapBlk 0 rfl) rfl) rfl ?_; intro a hs
                obtain ⟨y23, h24, hm⟩ := bindE hm
                refine qcallg (v := .int .i64 y23) is_127 hs rfl hg17 rfl rfl (fun w1 hw1 => q_of hw1 (impl_compareRays_any x20.1 x20.2.1 x20.2.2 x5.1 x5.2.1 x5.2.2 w1  h24)) ?_; intro a hs
                refine wqg hs rfl hg17 (fun w1 hw1 => y_geq hs rfl rfl) rfl ?_; intro a hs
                have hm : some (decide (y23 ≥ 0)) = some b15 := hm
                cases Option.some.inj hm
                refine wqg hs rfl hg14 (fun w1 hw1 => y_pickT hs rfl hg17 rfl) rfl ?_; intro a hs
                exact K _ (hs.sub ⟨rfl, rfl, rfl, rfl, rfl, rfl, trivial⟩)
              · have hm := condF hg17 hb16
                refine wqs hs rfl hg17 rfl ?_; intro a hs
                refine wqs hs rfl hg17 rfl ?_; intro a hs
                refine wqs hs rfl hg17 rfl ?_; intro a hs
                refine wqs hs rfl hg17 rfl ?_; intro a hs
                refine wqs hs rfl hg17 rfl ?_; intro a hs
                refine wqs hs rfl hg17 rfl ?_; intro a hs
                refine wqs hs rfl hg17 rfl ?_; intro a hs
                refine wqs hs rfl hg17 rfl ?_; intro a hs
                have hm : some false = some b15 := hm
                cases Option.some.inj hm
                refine wqg hs rfl hg14 (fun w1 hw1 => y_pickF hs rfl hg17 rfl) rfl ?_; intro a hs
                exact K _ (hs.sub ⟨rfl, rfl, rfl, rfl, rfl, rfl, trivial⟩)
            intro a hs
            simp only [List.drop_succ_cons, List.drop_zero]
            have hm : some b15 = some b12 := hm
            cases Option.some.inj hm
            refine wq hs (fun w1 hw1 => y_pickF hs rfl hg14 rfl) rfl ?_; intro a hs
            exact K _ (hs.sub ⟨rfl, rfl, rfl, rfl, rfl, trivial⟩)
        intro a hs
        simp only [List.drop_succ_cons, List.drop_zero]
        refine wpQuiet_nil ?_
        intro w hw
        replace hM := hM.quiet hw
        refine x_nt ?_
        refine x_cond hs rfl (fun hb => ?_) (fun hb => ?_)
        · replace hm := condT hb hm
          refine wp_seq ?_
          refine wp_region_lit ?_
          refine wl hs (y_assign hs rfl) rfl ?_; intro a hs
          refine wpList_nil ?_
          refine x_nt ?_
          refine wp_ret ?_
          refine x_rb ?_
          refine x_rt ?_
          refine x_rt ?_
          refine x_rb ?_
          refine x_rt ?_
          refine x_rt ?_
          have hm : some (Sum.inl false) = some s2 := hm
          cases Option.some.inj hm
          have hm := hk3
          have hm : some false = some r := hm
          obtain rfl := Option.some.inj hm
          refine x_ret1 rfl hs rfl ⟨_, rfl, ?_⟩
          exact ⟨rfl, hM.none_⟩
        · replace hm := condF hb hm
          refine wp_skip ?_
          refine x_nb ?_
          refine x_nt ?_
          refine wp_region_lit ?_
          refine wl hs (y_add hs rfl rfl hsj1) rfl ?_; intro a hs
          refine wl hs (y_move hs rfl) rfl ?_; intro a hs
          refine wpList_nil ?_
          exact ⟨_, by simp, q4, j1 + 1, rfl, hs.sub ⟨rfl, rfl, rfl, rfl, trivial⟩, hM.none_, hm, drop_next hj1⟩
    rintro a w ⟨rfl, hs, hM⟩
    have hm := hk3
    refine x_nt ?_
    refine wp_seq ?_
    refine wp_region_lit ?_
    refine wl hs (y_assign hs rfl) rfl ?_; intro a hs
    refine wpList_nil ?_
    refine x_nt ?_
    refine wp_ret ?_
    have hm : some true = some r := hm
    obtain rfl := Option.some.inj hm
    refine x_ret1 rfl hs rfl ⟨_, rfl, ?_⟩
    exact ⟨rfl, hM⟩

theorem impl_cross_any (p0_0 : Int) (p0_1 : Int) (p1_0 : Int) (p1_1 : Int) (W : World)  {r : Int} (hm : impl_cross_m p0_0 p0_1 p1_0 p1_1 = some r) : Calls Try.prog 128 [.agg #[.int .i64 p0_0, .int .i64 p0_1], .agg #[.int .i64 p1_0, .int .i64 p1_1]].toArray W fun e w => ∃ v, e = .returned v ∧ v = .int .i64 r ∧ Mem W w [] := by
  refine x_enter Try.func128 rfl Try.ntmps128 rfl ?_
  intro a hs
  have hM := Mem.start W
  unfold impl_cross_m at hm
  refine wp_seq ?_
  refine wp_region_lit ?_
  refine wmem hs (x_boxS (cs := [.int .i64 p0_0, .int .i64 p0_1]) hs rfl hM) rfl ?_; rintro a _ w hs ⟨g2, rfl, hM⟩
  have hM : Mem W w [aBlk g2 91 [.int .i64 p0_0, .int .i64 p0_1]] := hM
  refine wmem hs (x_boxS (cs := [.int .i64 p1_0, .int .i64 p1_1]) hs rfl hM) rfl ?_; rintro a _ w hs ⟨g4, rfl, hM⟩
  have hM : Mem W w [aBlk g4 91 [.int .i64 p1_0, .int .i64 p1_1], aBlk g2 91 [.int .i64 p0_0, .int .i64 p0_1]] := hM
  refine wl hs (y_assign hs rfl) rfl ?_; intro a hs
  refine wpList_nil ?_
  refine x_nt ?_
  refine wp_seq ?_
  refine wp_region_lit ?_
  refine wl hs (y_fieldAddr sT_91 hs rfl rfl) rfl ?_; intro a hs
  refine wl hs (y_load sc_int hs rfl (hM.cellBlk 1 rfl 0 rfl)) rfl ?_; intro a hs
  refine wl hs (y_fieldAddr sT_91 hs rfl rfl) rfl ?_; intro a hs
  refine wl hs (y_load sc_int hs rfl (hM.cellBlk 0 rfl 1 rfl)) rfl ?_; intro a hs
  obtain ⟨n5, h6, hm⟩ := bindE hm
  refine wl hs (y_mul hs rfl rfl h6) rfl ?_; intro a hs
  refine wl hs (y_fieldAddr sT_91 hs rfl rfl) rfl ?_; intro a hs
  refine wl hs (y_load sc_int hs rfl (hM.cellBlk 1 rfl 1 rfl)) rfl ?_; intro a hs
  refine wl hs (y_fieldAddr sT_91 hs rfl rfl) rfl ?_; intro a hs
  refine wl hs (y_load sc_int hs rfl (hM.cellBlk 0 rfl 0 rfl)) rfl ?_; intro a hs
  obtain ⟨n7, h8, hm⟩ := bindE hm
  refine wl hs (y_mul hs rfl rfl h8) rfl ?_; intro a hs
  obtain ⟨n9, h10, hm⟩ := bindE hm
  refine wl hs (y_sub hs rfl rfl h10) rfl ?_; intro a hs
  refine wl hs (y_assign hs rfl) rfl ?_; intro a hs
  refine wpList_nil ?_
  refine x_nt ?_
  refine wp_ret ?_
  have hm : some n9 = some r := hm
  obtain rfl := Option.some.inj hm
  refine x_ret1 rfl hs rfl ⟨_, rfl, ?_⟩
  exact ⟨rfl, hM.none_⟩

theorem impl_sign_any (p0 : Int) (W : World)  {r : Int} (hm : impl_sign_m p0 = some r) : Calls Try.prog 155 [.int .i64 p0].toArray W fun e w => ∃ v, e = .returned v ∧ v = .int .i64 r ∧ Mem W w [] := by
  refine x_enter Try.func155 rfl Try.ntmps155 rfl ?_
  intro a hs
  have hM := Mem.start W
  unfold impl_sign_m at hm
  refine wp_seq ?_
  refine wp_region_lit ?_
  refine wl hs (y_assign hs rfl) rfl ?_; intro a hs
  refine wpList_nil ?_
  refine x_nt ?_
  refine wp_seq ?_
  refine wp_region_lit ?_
  refine wl hs (y_move hs rfl) rfl ?_; intro a hs
  refine wl hs (y_min hs rfl rfl) rfl ?_; intro a hs
  refine wl hs (y_max hs rfl rfl) rfl ?_; intro a hs
  refine wl hs (y_assign hs rfl) rfl ?_; intro a hs
  refine wpList_nil ?_
  refine x_nt ?_
  refine wp_ret ?_
  have hm : some (max (-1) (min 1 p0)) = some r := hm
  obtain rfl := Option.some.inj hm
  refine x_ret1 rfl hs rfl ⟨_, rfl, ?_⟩
  exact ⟨rfl, hM⟩

theorem impl_isMove_any (p0 : Int) (p1 : Int) (W : World)  {r : Bool} (hm : impl_isMove_m p0 p1 = some r) : Calls Try.prog 95 [.int .i64 p0, .int .i64 p1].toArray W fun e w => ∃ v, e = .returned v ∧ v = .bool r ∧ Mem W w [] := by
  refine x_enter Try.func95 rfl Try.ntmps95 rfl ?_
  intro a hs
  have hM := Mem.start W
  unfold impl_isMove_m at hm
  refine wp_seq ?_
  refine wp_region_lit ?_
  refine wl hs (y_assign hs rfl) rfl ?_; intro a hs
  refine wpList_nil ?_
  refine x_nt ?_
  refine wp_seq ?_
  refine wp_region_lit ?_
  refine wl hs (y_move hs rfl) rfl ?_; intro a hs
  obtain ⟨y1, h2, hm⟩ := bindE hm
  refine wcall is_76 hs rfl rfl (impl_within_any p0 (-1000) 1000 _  h2) ?_; rintro a _ w hs ⟨rfl, hX⟩
  have hM : Mem W w [] := hM.call hX
  refine wl hs (y_move hs rfl) rfl ?_; intro a hs
  obtain ⟨b3, hb4, hm⟩ := bindE hm
  refine wlguard (N := 19) (L' := [(10, .bool b3), (0, .int .i64 p0), (1, .int .i64 p1), (4, .bool false)]) (fun w => Mem W w []) 3 ?_ ?_
  · intro K; rcases Bool.eq_false_or_eq_true y1 with hg5 | hg5
    · have hm := condT hg5 hb4
      refine wlg hs rfl hg5 (y_move hs rfl) rfl ?_; intro a hs
      obtain ⟨y6, h7, hm⟩ := bindE hm
      refine wcallg is_76 hs rfl hg5 rfl rfl (impl_within_any p1 (-1000) 1000 _  h7) ?_; rintro a _ w hs ⟨rfl, hX⟩
      have hM : Mem W w [] := hM.call hX
      have hm : some y6 = some b3 := hm
      cases Option.some.inj hm
      refine wl hs (y_pickT hs rfl hg5 rfl) rfl ?_; intro a hs
      exact K _ _ (hs.sub ⟨rfl, rfl, rfl, rfl, trivial⟩) hM
    · have hm := condF hg5 hb4
      refine wls hs rfl hg5 rfl ?_; intro a hs
      refine wls hs rfl hg5 rfl ?_; intro a hs
      have hm : some false = some b3 := hm
      cases Option.some.inj hm
      refine wl hs (y_pickF hs rfl hg5 rfl) rfl ?_; intro a hs
      exact K _ _ (hs.sub ⟨rfl, rfl, rfl, rfl, trivial⟩) hM
  intro a w hs hM
  simp only [List.drop_succ_cons, List.drop_zero]
  refine wl hs (y_move hs rfl) rfl ?_; intro a hs
  obtain ⟨b8, hb9, hm⟩ := bindE hm
  refine wlguard (N := 19) (L' := [(18, .bool b8), (4, .bool false)]) (fun w => Mem W w []) 7 ?_ ?_
  · intro K; rcases Bool.eq_false_or_eq_true b3 with hg10 | hg10
    · have hm := condT hg10 hb9
      refine wlg hs rfl hg10 (y_move hs rfl) rfl ?_; intro a hs
      refine wlg hs rfl hg10 (y_neq hs rfl rfl) rfl ?_; intro a hs
      refine wlg hs rfl hg10 (y_move hs rfl) rfl ?_; intro a hs
      obtain ⟨b11, hb12, hm⟩ := bindE hm
      refine wlguard (N := 19) (L' := [(17, .bool b11), (4, .bool false), (11, .bool b3)]) (fun w => Mem W w []) 3 ?_ ?_
      · intro K; rcases Bool.eq_false_or_eq_true (p0 != 0) with hg13 | hg13
        · have hm := condT hg13 hb12
          refine wls hs rfl hg13 rfl ?_; intro a hs
          refine wls hs rfl hg13 rfl ?_; intro a hs
          have hm : some true = some b11 := hm
          cases Option.some.inj hm
          refine wlg hs rfl hg10 (y_pickT hs rfl hg13 rfl) rfl ?_; intro a hs
          exact K _ _ (hs.sub ⟨rfl, rfl, rfl, trivial⟩) hM
        · have hm := condF hg13 hb12
          refine wlg hs rfl hg13 (y_move hs rfl) rfl ?_; intro a hs
          refine wlg hs rfl hg13 (y_neq hs rfl rfl) rfl ?_; intro a hs
          have hm : some (p1 != 0) = some b11 := hm
          cases Option.some.inj hm
          refine wlg hs rfl hg10 (y_pickF hs rfl hg13 rfl) rfl ?_; intro a hs
          exact K _ _ (hs.sub ⟨rfl, rfl, rfl, trivial⟩) hM
      intro a w hs hM
      simp only [List.drop_succ_cons, List.drop_zero]
      have hm : some b11 = some b8 := hm
      cases Option.some.inj hm
      refine wl hs (y_pickT hs rfl hg10 rfl) rfl ?_; intro a hs
      exact K _ _ (hs.sub ⟨rfl, rfl, trivial⟩) hM
    · have hm := condF hg10 hb9
      refine wls hs rfl hg10 rfl ?_; intro a hs
      refine wls hs rfl hg10 rfl ?_; intro a hs
      refine wls hs rfl hg10 rfl ?_; intro a hs
      refine wlu hs rfl rfl ?_; intro a hs
      refine wlu hs rfl rfl ?_; intro a hs
      refine wls hs rfl hg10 rfl ?_; intro a hs
      have hm : some false = some b8 := hm
      cases Option.some.inj hm
      refine wl hs (y_pickF hs rfl hg10 rfl) rfl ?_; intro a hs
      exact K _ _ (hs.sub ⟨rfl, rfl, trivial⟩) hM
  intro a w hs hM
  simp only [List.drop_succ_cons, List.drop_zero]
  refine wl hs (y_assign hs rfl) rfl ?_; intro a hs
  refine wpList_nil ?_
  refine x_nt ?_
  refine wp_ret ?_
  have hm : some b8 = some r := hm
  obtain rfl := Option.some.inj hm
  refine x_ret1 rfl hs rfl ⟨_, rfl, ?_⟩
  exact ⟨rfl, hM⟩

theorem impl_isGeneral_any (v_p0 : Value) (p0 : List Y3) (p1_0 : Int) (p1_1 : Int) (W : World) (hr_p0 : RdY W v_p0 p0) {r : Bool} (hm : impl_isGeneral_m p0 p1_0 p1_1 = some r) : Calls Try.prog 96 [v_p0, .agg #[.int .i64 p1_0, .int .i64 p1_1]].toArray W fun e w => ∃ v, e = .returned v ∧ v = .bool r ∧ Mem W w [] := by
  refine x_enter Try.func96 rfl Try.ntmps96 rfl ?_
  intro a hs
  have hM := Mem.start W
  unfold impl_isGeneral_m at hm
  refine wp_seq ?_
  refine wp_region_lit ?_
  refine wmem hs (x_boxS (cs := [.int .i64 p1_0, .int .i64 p1_1]) hs rfl hM) rfl ?_; rintro a _ w hs ⟨g2, rfl, hM⟩
  have hM : Mem W w [aBlk g2 91 [.int .i64 p1_0, .int .i64 p1_1]] := hM
  refine wl hs (y_assign hs rfl) rfl ?_; intro a hs
  refine wpList_nil ?_
  refine x_nt ?_
  refine wp_seq ?_
  refine wp_seq ?_
  refine wp_region_lit ?_
  refine wl hs (y_move hs rfl) rfl ?_; intro a hs
  refine wl hs (y_lenY hY_51 hs rfl (RdY.below hr_p0 hM.bel)) rfl ?_; intro a hs
  refine wl hs (y_move hs rfl) rfl ?_; intro a hs
  refine wpList_nil ?_
  refine x_nt ?_
  obtain ⟨s4, hm, hk5⟩ := bindE hm
  refine x_mid (fun a w => Sum.inr () = s4 ∧ Fr a 19 [] ∧ Mem W w []) ?_ ?_
  · refine wp_block ?_
    refine x_loop (fun k a w => ∃ (q6 : List Y3) (j3 : Nat) , k = q6.length ∧ Fr a 19 [(3, .pointer (some ⟨g2, 0, none⟩)), (7, v_p0), (8, .int .i64 (p0.length : Int)), (9, .int .i64 (j3 : Int))] ∧ Mem W w [aBlk g2 91 [.int .i64 p1_0, .int .i64 p1_1]] ∧ impl_isGeneral_l1 p1_0 p1_1 q6 j3 = some s4 ∧ List.drop j3 p0 = q6) _ ⟨p0, 0, rfl, hs.sub ⟨rfl, rfl, rfl, rfl, trivial⟩, hM, hm, rfl⟩ ?_
    rintro k a w ⟨q6, j3, rfl, hs, hM, hm, hj3⟩
    rcases q6 with _ | ⟨x7, q6⟩
    · rewrite [impl_isGeneral_l1] at hm
      refine wp_seq ?_
      refine wp_region_lit ?_
      refine wl hs (y_lss hs rfl rfl) rfl ?_; intro a hs
      refine wpList_nil ?_
      refine x_nt ?_
      refine wp_seq ?_
      refine x_condF hs rfl (drop_f hj3) ?_
      refine wp_exit ?_
      refine x_et ?_
      refine x_et ?_
      refine x_eb ?_
      have hm : some (Sum.inr ()) = some s4 := hm
      exact ⟨Option.some.inj hm, hs.sub trivial, hM.none_⟩
    · rewrite [impl_isGeneral_l1] at hm
      have hx8 := drop_idx hj3
      have hsj3 := ck_succ hj3 (RdY.len (RdY.below hr_p0 hM.bel))
      refine wp_seq ?_
      refine wp_region_lit ?_
      refine wl hs (y_lss hs rfl rfl) rfl ?_; intro a hs
      refine wpList_nil ?_
      refine x_nt ?_
      refine wp_seq ?_
      refine x_condT hs rfl (drop_t hj3) ?_
      refine wp_skip ?_
      refine x_nt ?_
      refine wp_seq ?_
      refine wp_block ?_
      refine wp_seq ?_
      refine wp_region_lit ?_
      have he9 := RdY.at_ (RdY.below hr_p0 hM.bel) hx8
      refine wl hs (y_indexY hY_51 hs rfl rfl he9) rfl ?_; intro a hs
      refine wl hs (y_loadY sT_82 rfl hs rfl he9) rfl ?_; intro a hs
      refine wmem hs (x_allocS sT_82 hM) rfl ?_; rintro a _ w hs ⟨g11, rfl, hM⟩
      have hM : Mem W w [aBlk g11 82 [.int .i64 0, .int .i64 0, .int .i64 0], aBlk g2 91 [.int .i64 p1_0, .int .i64 p1_1]] := hM
      refine wstore hs rfl rfl (x_storeS (cs := [.int .i64 0, .int .i64 0, .int .i64 0]) (us := [.int .i64 x7.1, .int .i64 x7.2.1, .int .i64 x7.2.2]) sT_82 ⟨rfl, rfl, rfl, trivial⟩ rfl rfl (hM.front 0 rfl)) ?_; intro w hM
      have hM : Mem W w [aBlk g11 82 [.int .i64 x7.1, .int .i64 x7.2.1, .int .i64 x7.2.2], aBlk g2 91 [.int .i64 p1_0, .int .i64 p1_1]] := hM
      refine wpList_nil ?_
      refine x_nt ?_
      refine wp_seq ?_
      refine x_regq hmix (by kernel_rfl) ?_
      refine wq hs (fun w1 hw1 => y_loadS (cs := [.int .i64 x7.1, .int .i64 x7.2.1, .int .i64 x7.2.2]) sT_82 hs rfl ((hM.quiet hw1).heapBlk 0 rfl) rfl) rfl ?_; intro a hs
      obtain ⟨y12, h13, hm⟩ := bindE hm
      refine qcall (v := .agg #[.int .i64 y12.1, .int .i64 y12.2]) is_129 hs rfl rfl (fun w1 hw1 => q_of hw1 (impl_Ray_steps_any x7.1 x7.2.1 x7.2.2 w1  h13)) ?_; intro a hs
      refine wq hs (fun w1 hw1 => y_loadS (cs := [.int .i64 p1_0, .int .i64 p1_1]) sT_91 hs rfl ((hM.quiet hw1).heapBlk 1 rfl) rfl) rfl ?_; intro a hs
      obtain ⟨y14, h15, hm⟩ := bindE hm
      refine qcall (v := .int .i64 y14) is_128 hs rfl rfl (fun w1 hw1 => q_of hw1 (impl_cross_any y12.1 y12.2 p1_0 p1_1 w1  h15)) ?_; intro a hs
      refine wq hs (fun w1 hw1 => y_eql hs rfl rfl) rfl ?_; intro a hs
      refine wpQuiet_nil ?_
      intro w hw
      replace hM := hM.quiet hw
      refine x_nt ?_
      refine x_cond hs rfl (fun hb => ?_) (fun hb => ?_)
      · replace hm := condT hb hm
        refine wp_seq ?_
        refine wp_region_lit ?_
        refine wl hs (y_assign hs rfl) rfl ?_; intro a hs
        refine wpList_nil ?_
        refine x_nt ?_
        refine wp_ret ?_
        refine x_rb ?_
        refine x_rt ?_
        refine x_rt ?_
        refine x_rb ?_
        refine x_rt ?_
        refine x_rt ?_
        have hm : some (Sum.inl false) = some s4 := hm
        cases Option.some.inj hm
        have hm := hk5
        have hm : some false = some r := hm
        obtain rfl := Option.some.inj hm
        refine x_ret1 rfl hs rfl ⟨_, rfl, ?_⟩
        exact ⟨rfl, hM.none_⟩
      · replace hm := condF hb hm
        refine wp_skip ?_
        refine x_nb ?_
        refine x_nt ?_
        refine wp_region_lit ?_
        refine wl hs (y_add hs rfl rfl hsj3) rfl ?_; intro a hs
        refine wl hs (y_move hs rfl) rfl ?_; intro a hs
        refine wpList_nil ?_
        exact ⟨_, by simp, q6, j3 + 1, rfl, hs.sub ⟨rfl, rfl, rfl, rfl, trivial⟩, hM.drop, hm, drop_next hj3⟩
  rintro a w ⟨rfl, hs, hM⟩
  have hm := hk5
  refine x_nt ?_
  refine wp_seq ?_
  refine wp_region_lit ?_
  refine wl hs (y_assign hs rfl) rfl ?_; intro a hs
  refine wpList_nil ?_
  refine x_nt ?_
  refine wp_ret ?_
  have hm : some true = some r := hm
  obtain rfl := Option.some.inj hm
  refine x_ret1 rfl hs rfl ⟨_, rfl, ?_⟩
  exact ⟨rfl, hM⟩

theorem impl_meets_any (p0_0 : Int) (p0_1 : Int) (p0_2 : Int) (p1_0 : Int) (p1_1 : Int) (p1_2 : Int) (p2_0 : Int) (p2_1 : Int) (W : World)  {r : Bool} (hm : impl_meets_m p0_0 p0_1 p0_2 p1_0 p1_1 p1_2 p2_0 p2_1 = some r) : Calls Try.prog 130 [.agg #[.int .i64 p0_0, .int .i64 p0_1, .int .i64 p0_2], .agg #[.int .i64 p1_0, .int .i64 p1_1, .int .i64 p1_2], .agg #[.int .i64 p2_0, .int .i64 p2_1]].toArray W fun e w => ∃ v, e = .returned v ∧ v = .bool r ∧ Mem W w [] := by
  refine x_enter Try.func130 rfl Try.ntmps130 rfl ?_
  intro a hs
  have hM := Mem.start W
  unfold impl_meets_m at hm
  refine wp_seq ?_
  refine wp_region_lit ?_
  refine wmem hs (x_boxS (cs := [.int .i64 p0_0, .int .i64 p0_1, .int .i64 p0_2]) hs rfl hM) rfl ?_; rintro a _ w hs ⟨g2, rfl, hM⟩
  have hM : Mem W w [aBlk g2 82 [.int .i64 p0_0, .int .i64 p0_1, .int .i64 p0_2]] := hM
  refine wmem hs (x_boxS (cs := [.int .i64 p1_0, .int .i64 p1_1, .int .i64 p1_2]) hs rfl hM) rfl ?_; rintro a _ w hs ⟨g4, rfl, hM⟩
  have hM : Mem W w [aBlk g4 82 [.int .i64 p1_0, .int .i64 p1_1, .int .i64 p1_2], aBlk g2 82 [.int .i64 p0_0, .int .i64 p0_1, .int .i64 p0_2]] := hM
  refine wmem hs (x_boxS (cs := [.int .i64 p2_0, .int .i64 p2_1]) hs rfl hM) rfl ?_; rintro a _ w hs ⟨g6, rfl, hM⟩
  have hM : Mem W w [aBlk g6 91 [.int .i64 p2_0, .int .i64 p2_1], aBlk g4 82 [.int .i64 p1_0, .int .i64 p1_1, .int .i64 p1_2], aBlk g2 82 [.int .i64 p0_0, .int .i64 p0_1, .int .i64 p0_2]] := hM
  refine wl hs (y_assign hs rfl) rfl ?_; intro a hs
  refine wpList_nil ?_
  refine x_nt ?_
  refine wp_seq ?_
  refine x_regq hmix (by kernel_rfl) ?_
  refine wq hs (fun w1 hw1 => y_loadS (cs := [.int .i64 p0_0, .int .i64 p0_1, .int .i64 p0_2]) sT_82 hs rfl ((hM.quiet hw1).heapBlk 2 rfl) rfl) rfl ?_; intro a hs
  obtain ⟨y7, h8, hm⟩ := bindE hm
  refine qcall (v := .agg #[.int .i64 y7.1, .int .i64 y7.2]) is_129 hs rfl rfl (fun w1 hw1 => q_of hw1 (impl_Ray_steps_any p0_0 p0_1 p0_2 w1  h8)) ?_; intro a hs
  refine wq hs (fun w1 hw1 => y_loadS (cs := [.int .i64 p1_0, .int .i64 p1_1, .int .i64 p1_2]) sT_82 hs rfl ((hM.quiet hw1).heapBlk 1 rfl) rfl) rfl ?_; intro a hs
  obtain ⟨y9, h10, hm⟩ := bindE hm
  refine qcall (v := .agg #[.int .i64 y9.1, .int .i64 y9.2]) is_129 hs rfl rfl (fun w1 hw1 => q_of hw1 (impl_Ray_steps_any p1_0 p1_1 p1_2 w1  h10)) ?_; intro a hs
  obtain ⟨y11, h12, hm⟩ := bindE hm
  refine qcall (v := .int .i64 y11) is_128 hs rfl rfl (fun w1 hw1 => q_of hw1 (impl_cross_any y7.1 y7.2 y9.1 y9.2 w1  h12)) ?_; intro a hs
  obtain ⟨y13, h14, hm⟩ := bindE hm
  refine qcall (v := .int .i64 y13) is_155 hs rfl rfl (fun w1 hw1 => q_of hw1 (impl_sign_any y11 w1  h14)) ?_; intro a hs
  refine wq hs (fun w1 hw1 => y_assign hs rfl) rfl ?_; intro a hs
  refine wpQuiet_nil ?_
  intro w hw
  replace hM := hM.quiet hw
  refine x_nt ?_
  refine wp_seq ?_
  refine x_regq hmix (by kernel_rfl) ?_
  refine wq hs (fun w1 hw1 => y_move hs rfl) rfl ?_; intro a hs
  refine wq hs (fun w1 hw1 => y_neq hs rfl rfl) rfl ?_; intro a hs
  refine wq hs (fun w1 hw1 => y_move hs rfl) rfl ?_; intro a hs
  obtain ⟨b15, hb16, hm⟩ := bindE hm
  refine wqguard (N := 34) (L' := [(24, .bool b15), (3, .pointer (some ⟨g2, 0, none⟩)), (5, .pointer (some ⟨g6, 0, none⟩)), (6, .bool false), (7, .int .i64 y13)]) 8 ?_ ?_
  · intro K; rcases Bool.eq_false_or_eq_true (y13 != 0) with hg17 | hg17
    · have hm := condT hg17 hb16
      refine wqg hs rfl hg17 (fun w1 hw1 => y_loadS (cs := [.int .i64 p2_0, .int .i64 p2_1]) sT_91 hs rfl ((hM.quiet hw1).heapBlk 0 rfl) rfl) rfl ?_; intro a hs
      refine wqg hs rfl hg17 (fun w1 hw1 => y_loadS (cs := [.int .i64 p1_0, .int .i64 p1_1, .int .i64 p1_2]) sT_82 hs rfl ((hM.quiet hw1).heapBlk 1 rfl) rfl) rfl ?_; intro a hs
      obtain ⟨y18, h19, hm⟩ := bindE hm
      refine qcallg (v := .agg #[.int .i64 y18.1, .int .i64 y18.2]) is_129 hs rfl hg17 rfl rfl (fun w1 hw1 => q_of hw1 (impl_Ray_steps_any p1_0 p1_1 p1_2 w1  h19)) ?_; intro a hs
      obtain ⟨y20, h21, hm⟩ := bindE hm
      refine qcallg (v := .int .i64 y20) is_128 hs rfl hg17 rfl rfl (fun w1 hw1 => q_of hw1 (impl_cross_any p2_0 p2_1 y18.1 y18.2 w1  h21)) ?_; intro a hs
      obtain ⟨y22, h23, hm⟩ := bindE hm
      refine qcallg (v := .int .i64 y22) is_155 hs rfl hg17 rfl rfl (fun w1 hw1 => q_of hw1 (impl_sign_any y20 w1  h23)) ?_; intro a hs
      refine wqg hs rfl hg17 (fun w1 hw1 => y_move hs rfl) rfl ?_; intro a hs
      refine wqg hs rfl hg17 (fun w1 hw1 => y_eql hs rfl rfl) rfl ?_; intro a hs
      have hm : some (y22 == y13) = some b15 := hm
      cases Option.some.inj hm
      refine wq hs (fun w1 hw1 => y_pickT hs rfl hg17 rfl) rfl ?_; intro a hs
      exact K _ (hs.sub ⟨rfl, rfl, rfl, rfl, rfl, trivial⟩)
    · have hm := condF hg17 hb16
      refine wqs hs rfl hg17 rfl ?_; intro a hs
      refine wqs hs rfl hg17 rfl ?_; intro a hs
      refine wqs hs rfl hg17 rfl ?_; intro a hs
      refine wqs hs rfl hg17 rfl ?_; intro a hs
      refine wqs hs rfl hg17 rfl ?_; intro a hs
      refine wqs hs rfl hg17 rfl ?_; intro a hs
      refine wqs hs rfl hg17 rfl ?_; intro a hs
      have hm : some false = some b15 := hm
      cases Option.some.inj hm
      refine wq hs (fun w1 hw1 => y_pickF hs rfl hg17 rfl) rfl ?_; intro a hs
      exact K _ (hs.sub ⟨rfl, rfl, rfl, rfl, rfl, trivial⟩)
  intro a hs
  simp only [List.drop_succ_cons, List.drop_zero]
  refine wq hs (fun w1 hw1 => y_move hs rfl) rfl ?_; intro a hs
  obtain ⟨b24, hb25, hm⟩ := bindE hm
  refine wqguard (N := 34) (L' := [(33, .bool b24), (6, .bool false)]) 8 ?_ ?_
  · intro K; rcases Bool.eq_false_or_eq_true b15 with hg26 | hg26
    · have hm := condT hg26 hb25
      refine wqg hs rfl hg26 (fun w1 hw1 => y_loadS (cs := [.int .i64 p2_0, .int .i64 p2_1]) sT_91 hs rfl ((hM.quiet hw1).heapBlk 0 rfl) rfl) rfl ?_; intro a hs
      refine wqg hs rfl hg26 (fun w1 hw1 => y_loadS (cs := [.int .i64 p0_0, .int .i64 p0_1, .int .i64 p0_2]) sT_82 hs rfl ((hM.quiet hw1).heapBlk 2 rfl) rfl) rfl ?_; intro a hs
      obtain ⟨y27, h28, hm⟩ := bindE hm
      refine qcallg (v := .agg #[.int .i64 y27.1, .int .i64 y27.2]) is_129 hs rfl hg26 rfl rfl (fun w1 hw1 => q_of hw1 (impl_Ray_steps_any p0_0 p0_1 p0_2 w1  h28)) ?_; intro a hs
      obtain ⟨y29, h30, hm⟩ := bindE hm
      refine qcallg (v := .int .i64 y29) is_128 hs rfl hg26 rfl rfl (fun w1 hw1 => q_of hw1 (impl_cross_any p2_0 p2_1 y27.1 y27.2 w1  h30)) ?_; intro a hs
      obtain ⟨y31, h32, hm⟩ := bindE hm
      refine qcallg (v := .int .i64 y31) is_155 hs rfl hg26 rfl rfl (fun w1 hw1 => q_of hw1 (impl_sign_any y29 w1  h32)) ?_; intro a hs
      refine wqg hs rfl hg26 (fun w1 hw1 => y_move hs rfl) rfl ?_; intro a hs
      refine wqg hs rfl hg26 (fun w1 hw1 => y_eql hs rfl rfl) rfl ?_; intro a hs
      have hm : some (y31 == y13) = some b24 := hm
      cases Option.some.inj hm
      refine wq hs (fun w1 hw1 => y_pickT hs rfl hg26 rfl) rfl ?_; intro a hs
      exact K _ (hs.sub ⟨rfl, rfl, trivial⟩)
    · have hm := condF hg26 hb25
      refine wqs hs rfl hg26 rfl ?_; intro a hs
      refine wqs hs rfl hg26 rfl ?_; intro a hs
      refine wqs hs rfl hg26 rfl ?_; intro a hs
      refine wqs hs rfl hg26 rfl ?_; intro a hs
      refine wqs hs rfl hg26 rfl ?_; intro a hs
      refine wqs hs rfl hg26 rfl ?_; intro a hs
      refine wqs hs rfl hg26 rfl ?_; intro a hs
      have hm : some false = some b24 := hm
      cases Option.some.inj hm
      refine wq hs (fun w1 hw1 => y_pickF hs rfl hg26 rfl) rfl ?_; intro a hs
      exact K _ (hs.sub ⟨rfl, rfl, trivial⟩)
  intro a hs
  simp only [List.drop_succ_cons, List.drop_zero]
  refine wq hs (fun w1 hw1 => y_assign hs rfl) rfl ?_; intro a hs
  refine wpQuiet_nil ?_
  intro w hw
  replace hM := hM.quiet hw
  refine x_nt ?_
  refine wp_ret ?_
  have hm : some b24 = some r := hm
  obtain rfl := Option.some.inj hm
  refine x_ret1 rfl hs rfl ⟨_, rfl, ?_⟩
  exact ⟨rfl, hM.none_⟩

set_option maxHeartbeats 4000000 in
theorem impl_meetingPairs_any (v_p0 : Value) (p0 : List Y3) (v_p1 : Value) (p1 : List Y3) (p2_0 : Int) (p2_1 : Int) (W : World) (hr_p0 : RdY W v_p0 p0) (hr_p1 : RdY W v_p1 p1) {r : List (List Int)} (hm : impl_meetingPairs_m p0 p1 p2_0 p2_1 = some r) : Calls Try.prog 97 [v_p0, v_p1, .agg #[.int .i64 p2_0, .int .i64 p2_1]].toArray W fun e w => ∃ v, e = .returned v ∧ ∃ vs0, Mem W w [aMat 24 3 v vs0 r] := by
  refine x_enter Try.func97 rfl Try.ntmps97 rfl ?_
  intro a hs
  have hM := Mem.start W
  unfold impl_meetingPairs_m at hm
  refine wp_seq ?_
  refine wp_region_lit ?_
  refine wmem hs (x_boxS (cs := [.int .i64 p2_0, .int .i64 p2_1]) hs rfl hM) rfl ?_; rintro a _ w hs ⟨g2, rfl, hM⟩
  have hM : Mem W w [aBlk g2 91 [.int .i64 p2_0, .int .i64 p2_1]] := hM
  refine wl hs (y_assign hs rfl) rfl ?_; intro a hs
  refine wpList_nil ?_
  refine x_nt ?_
  refine wp_seq ?_
  refine wp_region_lit ?_
  refine wmem hs (x_new0M (ti := 3) ht_M hM) rfl ?_; intro a v4 w hs hM
  have hM : Mem W w [aMat 24 3 v4 ([]) ([]), aBlk g2 91 [.int .i64 p2_0, .int .i64 p2_1]] := hM
  refine wl hs (y_assign hs rfl) rfl ?_; intro a hs
  refine wpList_nil ?_
  refine x_nt ?_
  refine wp_seq ?_
  refine wp_seq ?_
  refine wp_region_lit ?_
  refine wl hs (y_move hs rfl) rfl ?_; intro a hs
  refine wl hs (y_lenY hY_51 hs rfl (RdY.below hr_p0 hM.bel)) rfl ?_; intro a hs
  refine wl hs (y_move hs rfl) rfl ?_; intro a hs
  refine wpList_nil ?_
  refine x_nt ?_
  obtain ⟨s12, hm, hk13⟩ := bindE hm
  refine x_mid (fun a w => ∃ (v9 : Value), ∃ (vs10 : List Value), ∃ (l11 : List (List Int)), l11 = s12 ∧ Fr a 40 [(7, v9)] ∧ Mem W w [aMat 24 3 v9 vs10 l11]) ?_ ?_
  · refine wp_block ?_
    refine x_loop (fun k a w => ∃ (q14 : List Y3) (j5 : Nat) (v6 : Value) (vs7 : List Value) (l8 : List (List Int)) , k = q14.length ∧ Fr a 40 [(1, v_p1), (5, .pointer (some ⟨g2, 0, none⟩)), (7, v6), (13, v_p0), (14, .int .i64 (p0.length : Int)), (15, .int .i64 (j5 : Int))] ∧ Mem W w [aMat 24 3 v6 vs7 l8, aBlk g2 91 [.int .i64 p2_0, .int .i64 p2_1]] ∧ impl_meetingPairs_l1 p1 p2_0 p2_1 q14 j5 l8 = some s12 ∧ List.drop j5 p0 = q14) _ ⟨p0, 0, v4, [], [], rfl, hs.sub ⟨rfl, rfl, rfl, rfl, rfl, rfl, trivial⟩, hM, hm, rfl⟩ ?_
    rintro k a w ⟨q14, j5, v6, vs7, l8, rfl, hs, hM, hm, hj5⟩
    rcases q14 with _ | ⟨x15, q14⟩
    · rewrite [impl_meetingPairs_l1] at hm
      refine wp_seq ?_
      refine wp_region_lit ?_
      refine wl hs (y_lss hs rfl rfl) rfl ?_; intro a hs
      refine wpList_nil ?_
      refine x_nt ?_
      refine wp_seq ?_
      refine x_condF hs rfl (drop_f hj5) ?_
      refine wp_exit ?_
      refine x_et ?_
      refine x_et ?_
      refine x_eb ?_
      have hm : some l8 = some s12 := hm
      exact ⟨v6, vs7, l8, Option.some.inj hm, hs.sub ⟨rfl, trivial⟩, (hM.keep_ 1)⟩
    · rewrite [impl_meetingPairs_l1] at hm
      have hx16 := drop_idx hj5
      have hsj5 := ck_succ hj5 (RdY.len (RdY.below hr_p0 hM.bel))
      refine wp_seq ?_
      refine wp_region_lit ?_
      refine wl hs (y_lss hs rfl rfl) rfl ?_; intro a hs
      refine wpList_nil ?_
      refine x_nt ?_
      refine wp_seq ?_
      refine x_condT hs rfl (drop_t hj5) ?_
      refine wp_skip ?_
      refine x_nt ?_
      refine wp_seq ?_
      refine wp_block ?_
      refine wp_seq ?_
      refine wp_region_lit ?_
      refine wl hs (y_move hs rfl) rfl ?_; intro a hs
      have he17 := RdY.at_ (RdY.below hr_p0 hM.bel) hx16
      refine wl hs (y_indexY hY_51 hs rfl rfl he17) rfl ?_; intro a hs
      refine wl hs (y_loadY sT_82 rfl hs rfl he17) rfl ?_; intro a hs
      refine wmem hs (x_allocS sT_82 hM) rfl ?_; rintro a _ w hs ⟨g19, rfl, hM⟩
      have hM : Mem W w [aBlk g19 82 [.int .i64 0, .int .i64 0, .int .i64 0], aMat 24 3 v6 vs7 l8, aBlk g2 91 [.int .i64 p2_0, .int .i64 p2_1]] := hM
      refine wl hs (y_assign hs rfl) rfl ?_; intro a hs
      refine wstore hs rfl rfl (x_storeS (cs := [.int .i64 0, .int .i64 0, .int .i64 0]) (us := [.int .i64 x15.1, .int .i64 x15.2.1, .int .i64 x15.2.2]) sT_82 ⟨rfl, rfl, rfl, trivial⟩ rfl rfl (hM.front 0 rfl)) ?_; intro w hM
      have hM : Mem W w [aBlk g19 82 [.int .i64 x15.1, .int .i64 x15.2.1, .int .i64 x15.2.2], aMat 24 3 v6 vs7 l8, aBlk g2 91 [.int .i64 p2_0, .int .i64 p2_1]] := hM
      refine wpList_nil ?_
      refine x_nt ?_
      refine wp_seq ?_
      refine wp_region_lit ?_
      refine wl hs (y_move hs rfl) rfl ?_; intro a hs
      refine wl hs (y_lenY hY_51 hs rfl (RdY.below hr_p1 hM.bel)) rfl ?_; intro a hs
      refine wl hs (y_move hs rfl) rfl ?_; intro a hs
      refine wpList_nil ?_
      refine x_nt ?_
      obtain ⟨s27, hm, hk28⟩ := bindE hm
      refine x_mid (fun a w => ∃ (v24 : Value), ∃ (vs25 : List Value), ∃ (l26 : List (List Int)), l26 = s27 ∧ Fr a 40 [(1, v_p1), (5, .pointer (some ⟨g2, 0, none⟩)), (7, v24), (13, v_p0), (14, .int .i64 (p0.length : Int)), (15, .int .i64 (j5 : Int))] ∧ Mem W w [aMat 24 3 v24 vs25 l26, aBlk g2 91 [.int .i64 p2_0, .int .i64 p2_1]]) ?_ ?_
      · refine wp_block ?_
        refine x_loop (fun k a w => ∃ (q29 : List Y3) (j20 : Nat) (v21 : Value) (vs22 : List Value) (l23 : List (List Int)) , k = q29.length ∧ Fr a 40 [(1, v_p1), (5, .pointer (some ⟨g2, 0, none⟩)), (7, v21), (8, .int .i64 (j5 : Int)), (9, .pointer (some ⟨g19, 0, none⟩)), (13, v_p0), (14, .int .i64 (p0.length : Int)), (15, .int .i64 (j5 : Int)), (20, v_p1), (21, .int .i64 (p1.length : Int)), (22, .int .i64 (j20 : Int))] ∧ Mem W w [aBlk g19 82 [.int .i64 x15.1, .int .i64 x15.2.1, .int .i64 x15.2.2], aMat 24 3 v21 vs22 l23, aBlk g2 91 [.int .i64 p2_0, .int .i64 p2_1]] ∧ impl_meetingPairs_l2 p2_0 p2_1 j5 x15 q29 j20 l23 = some s27 ∧ List.drop j20 p1 = q29) _ ⟨p1, 0, v6, vs7, l8, rfl, hs.sub ⟨rfl, rfl, rfl, rfl, rfl, rfl, rfl, rfl, rfl, rfl, rfl, trivial⟩, hM, hm, rfl⟩ ?_
        rintro k a w ⟨q29, j20, v21, vs22, l23, rfl, hs, hM, hm, hj20⟩
        rcases q29 with _ | ⟨x30, q29⟩
        · rewrite [impl_meetingPairs_l2] at hm
          refine wp_seq ?_
          refine wp_region_lit ?_
          refine wl hs (y_lss hs rfl rfl) rfl ?_; intro a hs
          refine wpList_nil ?_
          refine x_nt ?_
          refine wp_seq ?_
          refine x_condF hs rfl (drop_f hj20) ?_
          refine wp_exit ?_
          refine x_et ?_
          refine x_et ?_
          refine x_eb ?_
          have hm : some l23 = some s27 := hm
          exact ⟨v21, vs22, l23, Option.some.inj hm, hs.sub ⟨rfl, rfl, rfl, rfl, rfl, rfl, trivial⟩, hM.drop⟩
        · rewrite [impl_meetingPairs_l2] at hm
          have hx31 := drop_idx hj20
          have hsj20 := ck_succ hj20 (RdY.len (RdY.below hr_p1 hM.bel))
          refine wp_seq ?_
          refine wp_region_lit ?_
          refine wl hs (y_lss hs rfl rfl) rfl ?_; intro a hs
          refine wpList_nil ?_
          refine x_nt ?_
          refine wp_seq ?_
          refine x_condT hs rfl (drop_t hj20) ?_
          refine wp_skip ?_
          refine x_nt ?_
          refine wp_seq ?_
          refine wp_block ?_
          refine wp_seq ?_
          refine wp_region_lit ?_
          refine wl hs (y_move hs rfl) rfl ?_; intro a hs
          have he32 := RdY.at_ (RdY.below hr_p1 hM.bel) hx31
          refine wl hs (y_indexY hY_51 hs rfl rfl he32) rfl ?_; intro a hs
          refine wl hs (y_loadY sT_82 rfl hs rfl he32) rfl ?_; intro a hs
          refine wmem hs (x_allocS sT_82 hM) rfl ?_; rintro a _ w hs ⟨g34, rfl, hM⟩
          have hM : Mem W w [aBlk g34 82 [.int .i64 0, .int .i64 0, .int .i64 0], aBlk g19 82 [.int .i64 x15.1, .int .i64 x15.2.1, .int .i64 x15.2.2], aMat 24 3 v21 vs22 l23, aBlk g2 91 [.int .i64 p2_0, .int .i64 p2_1]] := hM
          refine wl hs (y_assign hs rfl) rfl ?_; intro a hs
          refine wstore hs rfl rfl (x_storeS (cs := [.int .i64 0, .int .i64 0, .int .i64 0]) (us := [.int .i64 x30.1, .int .i64 x30.2.1, .int .i64 x30.2.2]) sT_82 ⟨rfl, rfl, rfl, trivial⟩ rfl rfl (hM.front 0 rfl)) ?_; intro w hM
          have hM : Mem W w [aBlk g34 82 [.int .i64 x30.1, .int .i64 x30.2.1, .int .i64 x30.2.2], aBlk g19 82 [.int .i64 x15.1, .int .i64 x15.2.1, .int .i64 x15.2.2], aMat 24 3 v21 vs22 l23, aBlk g2 91 [.int .i64 p2_0, .int .i64 p2_1]] := hM
          refine wpList_nil ?_
          refine x_nt ?_
          refine wp_seq ?_
          refine wp_region_lit ?_
          refine wl hs (y_loadS (cs := [.int .i64 x15.1, .int .i64 x15.2.1, .int .i64 x15.2.2]) sT_82 hs rfl (hM.heapBlk 1 rfl) rfl) rfl ?_; intro a hs
          refine wl hs (y_loadS (cs := [.int .i64 x30.1, .int .i64 x30.2.1, .int .i64 x30.2.2]) sT_82 hs rfl (hM.heapBlk 0 rfl) rfl) rfl ?_; intro a hs
          refine wl hs (y_loadS (cs := [.int .i64 p2_0, .int .i64 p2_1]) sT_91 hs rfl (hM.heapBlk 3 rfl) rfl) rfl ?_; intro a hs
          obtain ⟨y35, h36, hm⟩ := bindE hm
          refine wcall is_130 hs rfl rfl (impl_meets_any x15.1 x15.2.1 x15.2.2 x30.1 x30.2.1 x30.2.2 p2_0 p2_1 _  h36) ?_; rintro a _ w hs ⟨rfl, hX⟩
          have hM : Mem W w [aBlk g34 82 [.int .i64 x30.1, .int .i64 x30.2.1, .int .i64 x30.2.2], aBlk g19 82 [.int .i64 x15.1, .int .i64 x15.2.1, .int .i64 x15.2.2], aMat 24 3 v21 vs22 l23, aBlk g2 91 [.int .i64 p2_0, .int .i64 p2_1]] := hM.call hX
          refine wpList_nil ?_
          refine x_nt ?_
          refine x_cond hs rfl (fun hb => ?_) (fun hb => ?_)
          · replace hm := condT hb hm
            refine wp_region_lit ?_
            refine wl hs (y_move hs rfl) rfl ?_; intro a hs
            refine wl hs (y_move hs rfl) rfl ?_; intro a hs
            refine wl hs (y_move hs rfl) rfl ?_; intro a hs
            refine wmem hs (x_new2I hu_I he_int hs rfl rfl hM) rfl ?_; intro a v38 w hs hM
            have hM : Mem W w [aInts 3 v38 ([(j5 : Int), (j20 : Int)]), aBlk g34 82 [.int .i64 x30.1, .int .i64 x30.2.1, .int .i64 x30.2.2], aBlk g19 82 [.int .i64 x15.1, .int .i64 x15.2.1, .int .i64 x15.2.2], aMat 24 3 v21 vs22 l23, aBlk g2 91 [.int .i64 p2_0, .int .i64 p2_1]] := hM
            obtain ⟨l39, h40, hm⟩ := bindE hm
            refine wappM hu_M he_I hs (((((hM.front 4 rfl).front 3 rfl).front 3 rfl).front 3 rfl).front 4 rfl) rfl rfl h40 rfl rfl rfl ?_; intro a v41 w u42 hs hM
            have hM : Mem W w [aMat 24 3 v41 (vs22 ++ [v38]) l39, aBlk g34 82 [.int .i64 x30.1, .int .i64 x30.2.1, .int .i64 x30.2.2], aBlk g19 82 [.int .i64 x15.1, .int .i64 x15.2.1, .int .i64 x15.2.2], aBlk g2 91 [.int .i64 p2_0, .int .i64 p2_1]] := hM
            refine wl hs (y_assign hs rfl) rfl ?_; intro a hs
            refine wpList_nil ?_
            refine x_nb ?_
            refine x_nt ?_
            refine wp_region_lit ?_
            refine wl hs (y_add hs rfl rfl hsj20) rfl ?_; intro a hs
            refine wl hs (y_move hs rfl) rfl ?_; intro a hs
            refine wpList_nil ?_
            exact ⟨_, by simp, q29, j20 + 1, v41, (vs22 ++ [v38]), l39, rfl, hs.sub ⟨rfl, rfl, rfl, rfl, rfl, rfl, rfl, rfl, rfl, rfl, rfl, trivial⟩, ((((hM.front 1 rfl).drop.front 2 rfl).front 1 rfl).front 2 rfl), hm, drop_next hj20⟩
          · replace hm := condF hb hm
            refine wp_skip ?_
            refine x_nb ?_
            refine x_nt ?_
            refine wp_region_lit ?_
            refine wl hs (y_add hs rfl rfl hsj20) rfl ?_; intro a hs
            refine wl hs (y_move hs rfl) rfl ?_; intro a hs
            refine wpList_nil ?_
            exact ⟨_, by simp, q29, j20 + 1, v21, vs22, l23, rfl, hs.sub ⟨rfl, rfl, rfl, rfl, rfl, rfl, rfl, rfl, rfl, rfl, rfl, trivial⟩, hM.drop, hm, drop_next hj20⟩
      rintro a w ⟨v24, vs25, l26, rfl, hs, hM⟩
      have hm := hk28
      refine x_nb ?_
      refine x_nt ?_
      refine wp_region_lit ?_
      refine wl hs (y_add hs rfl rfl hsj5) rfl ?_; intro a hs
      refine wl hs (y_move hs rfl) rfl ?_; intro a hs
      refine wpList_nil ?_
      exact ⟨_, by simp, q14, j5 + 1, v24, vs25, l26, rfl, hs.sub ⟨rfl, rfl, rfl, rfl, rfl, rfl, trivial⟩, hM, hm, drop_next hj5⟩
  rintro a w ⟨v9, vs10, l11, rfl, hs, hM⟩
  have hm := hk13
  refine x_nt ?_
  refine wp_seq ?_
  refine wp_region_lit ?_
  refine wl hs (y_move hs rfl) rfl ?_; intro a hs
  refine wl hs (y_assign hs rfl) rfl ?_; intro a hs
  refine wpList_nil ?_
  refine x_nt ?_
  refine wp_ret ?_
  have hm : some l11 = some r := hm
  obtain rfl := Option.some.inj hm
  refine x_ret1 rfl hs rfl ⟨_, rfl, ?_⟩
  exact ⟨_, hM⟩

theorem impl_multiplicity_any (p0_0 : Int) (p0_1 : Int) (p0_2 : Int) (p1_0 : Int) (p1_1 : Int) (p1_2 : Int) (W : World)  {r : Int} (hm : impl_multiplicity_m p0_0 p0_1 p0_2 p1_0 p1_1 p1_2 = some r) : Calls Try.prog 149 [.agg #[.int .i64 p0_0, .int .i64 p0_1, .int .i64 p0_2], .agg #[.int .i64 p1_0, .int .i64 p1_1, .int .i64 p1_2]].toArray W fun e w => ∃ v, e = .returned v ∧ v = .int .i64 r ∧ Mem W w [] := by
  refine x_enter Try.func149 rfl Try.ntmps149 rfl ?_
  intro a hs
  have hM := Mem.start W
  unfold impl_multiplicity_m at hm
  refine wp_seq ?_
  refine wp_region_lit ?_
  refine wmem hs (x_boxS (cs := [.int .i64 p0_0, .int .i64 p0_1, .int .i64 p0_2]) hs rfl hM) rfl ?_; rintro a _ w hs ⟨g2, rfl, hM⟩
  have hM : Mem W w [aBlk g2 82 [.int .i64 p0_0, .int .i64 p0_1, .int .i64 p0_2]] := hM
  refine wmem hs (x_boxS (cs := [.int .i64 p1_0, .int .i64 p1_1, .int .i64 p1_2]) hs rfl hM) rfl ?_; rintro a _ w hs ⟨g4, rfl, hM⟩
  have hM : Mem W w [aBlk g4 82 [.int .i64 p1_0, .int .i64 p1_1, .int .i64 p1_2], aBlk g2 82 [.int .i64 p0_0, .int .i64 p0_1, .int .i64 p0_2]] := hM
  refine wl hs (y_assign hs rfl) rfl ?_; intro a hs
  refine wpList_nil ?_
  refine x_nt ?_
  refine wp_seq ?_
  refine x_regq hmix (by kernel_rfl) ?_
  refine wq hs (fun w1 hw1 => y_fieldAddr sT_82 hs rfl rfl) rfl ?_; intro a hs
  refine wq hs (fun w1 hw1 => y_load sc_int hs rfl ((hM.quiet hw1).cellBlk 1 rfl 2 rfl)) rfl ?_; intro a hs
  refine wq hs (fun w1 hw1 => y_fieldAddr sT_82 hs rfl rfl) rfl ?_; intro a hs
  refine wq hs (fun w1 hw1 => y_load sc_int hs rfl ((hM.quiet hw1).cellBlk 0 rfl 2 rfl)) rfl ?_; intro a hs
  obtain ⟨n5, h6, hm⟩ := bindE hm
  refine wq hs (fun w1 hw1 => y_mul hs rfl rfl h6) rfl ?_; intro a hs
  refine wq hs (fun w1 hw1 => y_loadS (cs := [.int .i64 p0_0, .int .i64 p0_1, .int .i64 p0_2]) sT_82 hs rfl ((hM.quiet hw1).heapBlk 1 rfl) rfl) rfl ?_; intro a hs
  obtain ⟨y7, h8, hm⟩ := bindE hm
  refine qcall (v := .agg #[.int .i64 y7.1, .int .i64 y7.2]) is_129 hs rfl rfl (fun w1 hw1 => q_of hw1 (impl_Ray_steps_any p0_0 p0_1 p0_2 w1  h8)) ?_; intro a hs
  refine wq hs (fun w1 hw1 => y_loadS (cs := [.int .i64 p1_0, .int .i64 p1_1, .int .i64 p1_2]) sT_82 hs rfl ((hM.quiet hw1).heapBlk 0 rfl) rfl) rfl ?_; intro a hs
  obtain ⟨y9, h10, hm⟩ := bindE hm
  refine qcall (v := .agg #[.int .i64 y9.1, .int .i64 y9.2]) is_129 hs rfl rfl (fun w1 hw1 => q_of hw1 (impl_Ray_steps_any p1_0 p1_1 p1_2 w1  h10)) ?_; intro a hs
  obtain ⟨y11, h12, hm⟩ := bindE hm
  refine qcall (v := .int .i64 y11) is_128 hs rfl rfl (fun w1 hw1 => q_of hw1 (impl_cross_any y7.1 y7.2 y9.1 y9.2 w1  h12)) ?_; intro a hs
  obtain ⟨y13, h14, hm⟩ := bindE hm
  refine qcall (v := .int .i64 y13) is_161 hs rfl rfl (fun w1 hw1 => q_of hw1 (impl_abs_any y11 w1  h14)) ?_; intro a hs
  obtain ⟨n15, h16, hm⟩ := bindE hm
  refine wq hs (fun w1 hw1 => y_mul hs rfl rfl h16) rfl ?_; intro a hs
  refine wq hs (fun w1 hw1 => y_assign hs rfl) rfl ?_; intro a hs
  refine wpQuiet_nil ?_
  intro w hw
  replace hM := hM.quiet hw
  refine x_nt ?_
  refine wp_ret ?_
  have hm : some n15 = some r := hm
  obtain rfl := Option.some.inj hm
  refine x_ret1 rfl hs rfl ⟨_, rfl, ?_⟩
  exact ⟨rfl, hM.none_⟩

theorem impl_meetSum_any (v_p0 : Value) (p0 : List Y3) (v_p1 : Value) (p1 : List Y3) (v_p2 : Value) (p2 : List (List Int)) (W : World) (hr_p0 : RdY W v_p0 p0) (hr_p1 : RdY W v_p1 p1) (hr_p2 : RdM W v_p2 p2) {r : Int} (hm : impl_meetSum_m p0 p1 p2 = some r) : Calls Try.prog 122 [v_p0, v_p1, v_p2].toArray W fun e w => ∃ v, e = .returned v ∧ v = .int .i64 r ∧ Mem W w [] := by
  refine x_enter Try.func122 rfl Try.ntmps122 rfl ?_
  intro a hs
  have hM := Mem.start W
  unfold impl_meetSum_m at hm
  refine wp_seq ?_
  refine wp_region_lit ?_
  refine wl hs (y_assign hs rfl) rfl ?_; intro a hs
  refine wpList_nil ?_
  refine x_nt ?_
  refine wp_seq ?_
  refine wp_region_lit ?_
  refine wl hs (y_assign hs rfl) rfl ?_; intro a hs
  refine wpList_nil ?_
  refine x_nt ?_
  refine wp_seq ?_
  refine wp_seq ?_
  refine wp_region_lit ?_
  refine wl hs (y_move hs rfl) rfl ?_; intro a hs
  refine wl hs (y_len hu_M hs rfl (RdM.below hr_p2 hM.bel)) rfl ?_; intro a hs
  refine wl hs (y_move hs rfl) rfl ?_; intro a hs
  refine wpList_nil ?_
  refine x_nt ?_
  obtain ⟨s4, hm, hk5⟩ := bindE hm
  refine x_mid (fun a w => ∃ (n3 : Int), n3 = s4 ∧ Fr a 33 [(7, .int .i64 n3)] ∧ Mem W w []) ?_ ?_
  · refine wp_block ?_
    refine x_loop (fun k a w => ∃ (q6 : List (List Int)) (j1 : Nat) (n2 : Int) , k = q6.length ∧ Fr a 33 [(0, v_p0), (1, v_p1), (7, .int .i64 n2), (10, v_p2), (11, .int .i64 (p2.length : Int)), (12, .int .i64 (j1 : Int))] ∧ Mem W w [] ∧ impl_meetSum_l1 p0 p1 q6 j1 n2 = some s4 ∧ List.drop j1 p2 = q6) _ ⟨p2, 0, 0, rfl, hs.sub ⟨rfl, rfl, rfl, rfl, rfl, rfl, trivial⟩, hM, hm, rfl⟩ ?_
    rintro k a w ⟨q6, j1, n2, rfl, hs, hM, hm, hj1⟩
    rcases q6 with _ | ⟨x7, q6⟩
    · rewrite [impl_meetSum_l1] at hm
      refine wp_seq ?_
      refine wp_region_lit ?_
      refine wl hs (y_lss hs rfl rfl) rfl ?_; intro a hs
      refine wpList_nil ?_
      refine x_nt ?_
      refine wp_seq ?_
      refine x_condF hs rfl (drop_f hj1) ?_
      refine wp_exit ?_
      refine x_et ?_
      refine x_et ?_
      refine x_eb ?_
      have hm : some n2 = some s4 := hm
      exact ⟨n2, Option.some.inj hm, hs.sub ⟨rfl, trivial⟩, hM⟩
    · rewrite [impl_meetSum_l1] at hm
      have hx8 := drop_idx hj1
      have hsj1 := ck_succ hj1 (RdS.len (RdM.below hr_p2 hM.bel))
      refine wp_seq ?_
      refine wp_region_lit ?_
      refine wl hs (y_lss hs rfl rfl) rfl ?_; intro a hs
      refine wpList_nil ?_
      refine x_nt ?_
      refine wp_seq ?_
      refine x_condT hs rfl (drop_t hj1) ?_
      refine wp_skip ?_
      refine x_nt ?_
      refine wp_seq ?_
      refine wp_block ?_
      refine wp_seq ?_
      refine wp_region_lit ?_
      obtain ⟨u10, he9, hr11⟩ := RdM.at_ hr_p2 hx8
      replace he9 := he9.below hM.bel
      refine wl hs (y_index ht_M hs rfl rfl he9) rfl ?_; intro a hs
      refine wl hs (y_load sc_I hs rfl he9.cell) rfl ?_; intro a hs
      refine wl hs (y_assign hs rfl) rfl ?_; intro a hs
      refine wpList_nil ?_
      refine x_nt ?_
      refine x_regq hmix (by kernel_rfl) ?_
      refine wq hs (fun w1 hw1 => y_move hs rfl) rfl ?_; intro a hs
      refine wq hs (fun w1 hw1 => y_move hs rfl) rfl ?_; intro a hs
      refine wq hs (fun w1 hw1 => y_move hs rfl) rfl ?_; intro a hs
      obtain ⟨x12, hx13, hm⟩ := bindE hm
      have he14 := RdI.at_ (RdI.below hr11 hM.bel) hx13
      refine wq hs (fun w1 hw1 => y_index ht_I hs rfl rfl (he14.below hw1)) rfl ?_; intro a hs
      refine wq hs (fun w1 hw1 => y_load sc_int hs rfl (he14.below hw1).cell) rfl ?_; intro a hs
      obtain ⟨x15, hx16, hm⟩ := bindE hm
      have he17 := RdY.at_ (RdY.below hr_p0 hM.bel) hx16
      refine wq hs (fun w1 hw1 => y_indexY hY_51 hs rfl rfl (he17.below hw1)) rfl ?_; intro a hs
      refine wq hs (fun w1 hw1 => y_loadY sT_82 rfl hs rfl (he17.below hw1)) rfl ?_; intro a hs
      refine wq hs (fun w1 hw1 => y_move hs rfl) rfl ?_; intro a hs
      refine wq hs (fun w1 hw1 => y_move hs rfl) rfl ?_; intro a hs
      obtain ⟨x18, hx19, hm⟩ := bindE hm
      have he20 := RdI.at_ (RdI.below hr11 hM.bel) hx19
      refine wq hs (fun w1 hw1 => y_index ht_I hs rfl rfl (he20.below hw1)) rfl ?_; intro a hs
      refine wq hs (fun w1 hw1 => y_load sc_int hs rfl (he20.below hw1).cell) rfl ?_; intro a hs
      obtain ⟨x21, hx22, hm⟩ := bindE hm
      have he23 := RdY.at_ (RdY.below hr_p1 hM.bel) hx22
      refine wq hs (fun w1 hw1 => y_indexY hY_51 hs rfl rfl (he23.below hw1)) rfl ?_; intro a hs
      refine wq hs (fun w1 hw1 => y_loadY sT_82 rfl hs rfl (he23.below hw1)) rfl ?_; intro a hs
      obtain ⟨y24, h25, hm⟩ := bindE hm
      refine qcall (v := .int .i64 y24) is_149 hs rfl rfl (fun w1 hw1 => q_of hw1 (impl_multiplicity_any x15.1 x15.2.1 x15.2.2 x21.1 x21.2.1 x21.2.2 w1  h25)) ?_; intro a hs
      obtain ⟨n26, h27, hm⟩ := bindE hm
      refine wq hs (fun w1 hw1 => y_add hs rfl rfl h27) rfl ?_; intro a hs
      refine wq hs (fun w1 hw1 => y_assign hs rfl) rfl ?_; intro a hs
      refine wpQuiet_nil ?_
      intro w hw
      replace hM := hM.quiet hw
      refine x_nb ?_
      refine x_nt ?_
      refine wp_region_lit ?_
      refine wl hs (y_add hs rfl rfl hsj1) rfl ?_; intro a hs
      refine wl hs (y_move hs rfl) rfl ?_; intro a hs
      refine wpList_nil ?_
      exact ⟨_, by simp, q6, j1 + 1, n26, rfl, hs.sub ⟨rfl, rfl, rfl, rfl, rfl, rfl, trivial⟩, hM, hm, drop_next hj1⟩
  rintro a w ⟨n3, rfl, hs, hM⟩
  have hm := hk5
  refine x_nt ?_
  refine wp_seq ?_
  refine wp_region_lit ?_
  refine wl hs (y_move hs rfl) rfl ?_; intro a hs
  refine wl hs (y_assign hs rfl) rfl ?_; intro a hs
  refine wpList_nil ?_
  refine x_nt ?_
  refine wp_ret ?_
  have hm : some n3 = some r := hm
  obtain rfl := Option.some.inj hm
  refine x_ret1 rfl hs rfl ⟨_, rfl, ?_⟩
  exact ⟨rfl, hM⟩

theorem impl_Point_plus_any (p0_0 : Int) (p0_1 : Int) (p1_0 : Int) (p1_1 : Int) (W : World)  {r : Int × Int} (hm : impl_Point_plus_m p0_0 p0_1 p1_0 p1_1 = some r) : Calls Try.prog 162 [.agg #[.int .i64 p0_0, .int .i64 p0_1], .agg #[.int .i64 p1_0, .int .i64 p1_1]].toArray W fun e w => ∃ v, e = .returned v ∧ v = .agg #[.int .i64 r.1, .int .i64 r.2] ∧ Mem W w [] := by
  refine x_enter Try.func162 rfl Try.ntmps162 rfl ?_
  intro a hs
  have hM := Mem.start W
  unfold impl_Point_plus_m at hm
  refine wp_seq ?_
  refine wp_region_lit ?_
  refine wmem hs (x_boxS (cs := [.int .i64 p0_0, .int .i64 p0_1]) hs rfl hM) rfl ?_; rintro a _ w hs ⟨g2, rfl, hM⟩
  have hM : Mem W w [aBlk g2 91 [.int .i64 p0_0, .int .i64 p0_1]] := hM
  refine wmem hs (x_boxS (cs := [.int .i64 p1_0, .int .i64 p1_1]) hs rfl hM) rfl ?_; rintro a _ w hs ⟨g4, rfl, hM⟩
  have hM : Mem W w [aBlk g4 91 [.int .i64 p1_0, .int .i64 p1_1], aBlk g2 91 [.int .i64 p0_0, .int .i64 p0_1]] := hM
  refine wmem hs (x_allocS sT_91 hM) rfl ?_; rintro a _ w hs ⟨g6, rfl, hM⟩
  have hM : Mem W w [aBlk g6 91 [.int .i64 0, .int .i64 0], aBlk g4 91 [.int .i64 p1_0, .int .i64 p1_1], aBlk g2 91 [.int .i64 p0_0, .int .i64 p0_1]] := hM
  refine wpList_nil ?_
  refine x_nt ?_
  refine wp_seq ?_
  refine wp_region_lit ?_
  refine wl hs (y_fieldAddr sT_91 hs rfl rfl) rfl ?_; intro a hs
  refine wl hs (y_load sc_int hs rfl (hM.cellBlk 2 rfl 0 rfl)) rfl ?_; intro a hs
  refine wl hs (y_fieldAddr sT_91 hs rfl rfl) rfl ?_; intro a hs
  refine wl hs (y_load sc_int hs rfl (hM.cellBlk 1 rfl 0 rfl)) rfl ?_; intro a hs
  obtain ⟨n7, h8, hm⟩ := bindE hm
  refine wl hs (y_add hs rfl rfl h8) rfl ?_; intro a hs
  refine wl hs (y_fieldAddr sT_91 hs rfl rfl) rfl ?_; intro a hs
  refine wl hs (y_load sc_int hs rfl (hM.cellBlk 2 rfl 1 rfl)) rfl ?_; intro a hs
  refine wl hs (y_fieldAddr sT_91 hs rfl rfl) rfl ?_; intro a hs
  refine wl hs (y_load sc_int hs rfl (hM.cellBlk 1 rfl 1 rfl)) rfl ?_; intro a hs
  obtain ⟨n9, h10, hm⟩ := bindE hm
  refine wl hs (y_add hs rfl rfl h10) rfl ?_; intro a hs
  refine wl hs (y_build (cs := [.int .i64 n7, .int .i64 n9]) sT_91 hs rfl ⟨rfl, rfl, rfl, rfl, trivial⟩ rfl) rfl ?_; intro a hs
  refine wstore hs rfl rfl (x_storeS (cs := [.int .i64 0, .int .i64 0]) (us := [.int .i64 n7, .int .i64 n9]) sT_91 ⟨rfl, rfl, trivial⟩ rfl rfl (hM.front 0 rfl)) ?_; intro w hM
  have hM : Mem W w [aBlk g6 91 [.int .i64 n7, .int .i64 n9], aBlk g4 91 [.int .i64 p1_0, .int .i64 p1_1], aBlk g2 91 [.int .i64 p0_0, .int .i64 p0_1]] := hM
  refine wpList_nil ?_
  refine x_nt ?_
  refine wp_ret ?_
  have hm : some (n7, n9) = some r := hm
  obtain rfl := Option.some.inj hm
  refine x_retR (rs := [.cell 4 91]) (vs := [.agg #[.int .i64 n7, .int .i64 n9]]) rfl hs ⟨⟨_, rfl, loadS (cs := [.int .i64 n7, .int .i64 n9]) sT_91 (hM.heapBlk 0 rfl) rfl⟩, trivial⟩ ⟨_, rfl, ?_⟩
  exact ⟨rfl, hM.none_⟩

theorem impl_starSum_any (v_p0 : Value) (p0 : List Y3) (W : World) (hr_p0 : RdY W v_p0 p0) {r : Int × Int} (hm : impl_starSum_m p0 = some r) : Calls Try.prog 156 [v_p0].toArray W fun e w => ∃ v, e = .returned v ∧ v = .agg #[.int .i64 r.1, .int .i64 r.2] ∧ Mem W w [] := by
  refine x_enter Try.func156 rfl Try.ntmps156 rfl ?_
  intro a hs
  have hM := Mem.start W
  unfold impl_starSum_m at hm
  refine wp_seq ?_
  refine wp_region_lit ?_
  refine wmem hs (x_allocS sT_91 hM) rfl ?_; rintro a _ w hs ⟨g2, rfl, hM⟩
  have hM : Mem W w [aBlk g2 91 [.int .i64 0, .int .i64 0]] := hM
  refine wpList_nil ?_
  refine x_nt ?_
  refine wp_seq ?_
  refine wp_region_lit ?_
  refine wl hs (y_build (cs := [.int .i64 0, .int .i64 0]) sT_91 hs rfl trivial rfl) rfl ?_; intro a hs
  refine wmem hs (x_allocS sT_91 hM) rfl ?_; rintro a _ w hs ⟨g4, rfl, hM⟩
  have hM : Mem W w [aBlk g4 91 [.int .i64 0, .int .i64 0], aBlk g2 91 [.int .i64 0, .int .i64 0]] := hM
  refine wstore hs rfl rfl (x_storeS (cs := [.int .i64 0, .int .i64 0]) (us := [.int .i64 0, .int .i64 0]) sT_91 ⟨rfl, rfl, trivial⟩ rfl rfl (hM.front 0 rfl)) ?_; intro w hM
  have hM : Mem W w [aBlk g4 91 [.int .i64 0, .int .i64 0], aBlk g2 91 [.int .i64 0, .int .i64 0]] := hM
  refine wpList_nil ?_
  refine x_nt ?_
  refine wp_seq ?_
  refine wp_seq ?_
  refine wp_region_lit ?_
  refine wl hs (y_move hs rfl) rfl ?_; intro a hs
  refine wl hs (y_lenY hY_51 hs rfl (RdY.below hr_p0 hM.bel)) rfl ?_; intro a hs
  refine wl hs (y_move hs rfl) rfl ?_; intro a hs
  refine wpList_nil ?_
  refine x_nt ?_
  obtain ⟨s10, hm, hk11⟩ := bindE hm
  refine x_mid (fun a w => ∃ (n8 : Int), ∃ (n9 : Int), (n8, n9) = s10 ∧ Fr a 28 [(2, .pointer (some ⟨g2, 0, none⟩)), (3, .pointer (some ⟨g4, 0, none⟩))] ∧ Mem W w [aBlk g4 91 [.int .i64 n8, .int .i64 n9], aBlk g2 91 [.int .i64 0, .int .i64 0]]) ?_ ?_
  · refine wp_block ?_
    refine x_loop (fun k a w => ∃ (q12 : List Y3) (j5 : Nat) (n6 : Int) (n7 : Int) , k = q12.length ∧ Fr a 28 [(2, .pointer (some ⟨g2, 0, none⟩)), (3, .pointer (some ⟨g4, 0, none⟩)), (7, v_p0), (8, .int .i64 (p0.length : Int)), (9, .int .i64 (j5 : Int))] ∧ Mem W w [aBlk g4 91 [.int .i64 n6, .int .i64 n7], aBlk g2 91 [.int .i64 0, .int .i64 0]] ∧ impl_starSum_l1 q12 j5 n6 n7 = some s10 ∧ List.drop j5 p0 = q12) _ ⟨p0, 0, 0, 0, rfl, hs.sub ⟨rfl, rfl, rfl, rfl, rfl, trivial⟩, hM, hm, rfl⟩ ?_
    rintro k a w ⟨q12, j5, n6, n7, rfl, hs, hM, hm, hj5⟩
    rcases q12 with _ | ⟨x13, q12⟩
    · rewrite [impl_starSum_l1] at hm
      refine wp_seq ?_
      refine wp_region_lit ?_
      refine wl hs (y_lss hs rfl rfl) rfl ?_; intro a hs
      refine wpList_nil ?_
      refine x_nt ?_
      refine wp_seq ?_
      refine x_condF hs rfl (drop_f hj5) ?_
      refine wp_exit ?_
      refine x_et ?_
      refine x_et ?_
      refine x_eb ?_
      have hm : some (n6, n7) = some s10 := hm
      exact ⟨n6, n7, Option.some.inj hm, hs.sub ⟨rfl, rfl, trivial⟩, hM⟩
    · rewrite [impl_starSum_l1] at hm
      have hx14 := drop_idx hj5
      have hsj5 := ck_succ hj5 (RdY.len (RdY.below hr_p0 hM.bel))
      refine wp_seq ?_
      refine wp_region_lit ?_
      refine wl hs (y_lss hs rfl rfl) rfl ?_; intro a hs
      refine wpList_nil ?_
      refine x_nt ?_
      refine wp_seq ?_
      refine x_condT hs rfl (drop_t hj5) ?_
      refine wp_skip ?_
      refine x_nt ?_
      refine wp_seq ?_
      refine wp_block ?_
      refine wp_seq ?_
      refine wp_region_lit ?_
      have he15 := RdY.at_ (RdY.below hr_p0 hM.bel) hx14
      refine wl hs (y_indexY hY_51 hs rfl rfl he15) rfl ?_; intro a hs
      refine wl hs (y_loadY sT_82 rfl hs rfl he15) rfl ?_; intro a hs
      refine wmem hs (x_allocS sT_82 hM) rfl ?_; rintro a _ w hs ⟨g17, rfl, hM⟩
      have hM : Mem W w [aBlk g17 82 [.int .i64 0, .int .i64 0, .int .i64 0], aBlk g4 91 [.int .i64 n6, .int .i64 n7], aBlk g2 91 [.int .i64 0, .int .i64 0]] := hM
      refine wstore hs rfl rfl (x_storeS (cs := [.int .i64 0, .int .i64 0, .int .i64 0]) (us := [.int .i64 x13.1, .int .i64 x13.2.1, .int .i64 x13.2.2]) sT_82 ⟨rfl, rfl, rfl, trivial⟩ rfl rfl (hM.front 0 rfl)) ?_; intro w hM
      have hM : Mem W w [aBlk g17 82 [.int .i64 x13.1, .int .i64 x13.2.1, .int .i64 x13.2.2], aBlk g4 91 [.int .i64 n6, .int .i64 n7], aBlk g2 91 [.int .i64 0, .int .i64 0]] := hM
      refine wpList_nil ?_
      refine x_nt ?_
      refine wp_region_lit ?_
      refine wl hs (y_loadS (cs := [.int .i64 n6, .int .i64 n7]) sT_91 hs rfl (hM.heapBlk 1 rfl) rfl) rfl ?_; intro a hs
      refine wl hs (y_fieldAddr sT_82 hs rfl rfl) rfl ?_; intro a hs
      refine wl hs (y_load sc_int hs rfl (hM.cellBlk 0 rfl 2 rfl)) rfl ?_; intro a hs
      refine wl hs (y_fieldAddr sT_82 hs rfl rfl) rfl ?_; intro a hs
      refine wl hs (y_load sc_int hs rfl (hM.cellBlk 0 rfl 0 rfl)) rfl ?_; intro a hs
      obtain ⟨n18, h19, hm⟩ := bindE hm
      refine wl hs (y_mul hs rfl rfl h19) rfl ?_; intro a hs
      refine wl hs (y_fieldAddr sT_82 hs rfl rfl) rfl ?_; intro a hs
      refine wl hs (y_load sc_int hs rfl (hM.cellBlk 0 rfl 2 rfl)) rfl ?_; intro a hs
      refine wl hs (y_fieldAddr sT_82 hs rfl rfl) rfl ?_; intro a hs
      refine wl hs (y_load sc_int hs rfl (hM.cellBlk 0 rfl 1 rfl)) rfl ?_; intro a hs
      obtain ⟨n20, h21, hm⟩ := bindE hm
      refine wl hs (y_mul hs rfl rfl h21) rfl ?_; intro a hs
      refine wl hs (y_build (cs := [.int .i64 n18, .int .i64 n20]) sT_91 hs rfl ⟨rfl, rfl, rfl, rfl, trivial⟩ rfl) rfl ?_; intro a hs
      obtain ⟨y22, h23, hm⟩ := bindE hm
      refine wcall is_162 hs rfl rfl (impl_Point_plus_any n6 n7 n18 n20 _  h23) ?_; rintro a _ w hs ⟨rfl, hX⟩
      have hM : Mem W w [aBlk g17 82 [.int .i64 x13.1, .int .i64 x13.2.1, .int .i64 x13.2.2], aBlk g4 91 [.int .i64 n6, .int .i64 n7], aBlk g2 91 [.int .i64 0, .int .i64 0]] := hM.call hX
      refine wstore hs rfl rfl (x_storeS (cs := [.int .i64 n6, .int .i64 n7]) (us := [.int .i64 y22.1, .int .i64 y22.2]) sT_91 ⟨rfl, rfl, trivial⟩ rfl rfl (hM.front 1 rfl)) ?_; intro w hM
      have hM : Mem W w [aBlk g4 91 [.int .i64 y22.1, .int .i64 y22.2], aBlk g17 82 [.int .i64 x13.1, .int .i64 x13.2.1, .int .i64 x13.2.2], aBlk g2 91 [.int .i64 0, .int .i64 0]] := hM
      refine wpList_nil ?_
      refine x_nb ?_
      refine x_nt ?_
      refine wp_region_lit ?_
      refine wl hs (y_add hs rfl rfl hsj5) rfl ?_; intro a hs
      refine wl hs (y_move hs rfl) rfl ?_; intro a hs
      refine wpList_nil ?_
      exact ⟨_, by simp, q12, j5 + 1, y22.1, y22.2, rfl, hs.sub ⟨rfl, rfl, rfl, rfl, rfl, trivial⟩, (hM.front 1 rfl).drop, hm, drop_next hj5⟩
  rintro a w ⟨n8, n9, rfl, hs, hM⟩
  have hm := hk11
  refine x_nt ?_
  refine wp_seq ?_
  refine wp_region_lit ?_
  refine wl hs (y_loadS (cs := [.int .i64 n8, .int .i64 n9]) sT_91 hs rfl (hM.heapBlk 0 rfl) rfl) rfl ?_; intro a hs
  refine wstore hs rfl rfl (x_storeS (cs := [.int .i64 0, .int .i64 0]) (us := [.int .i64 n8, .int .i64 n9]) sT_91 ⟨rfl, rfl, trivial⟩ rfl rfl (hM.front 1 rfl)) ?_; intro w hM
  have hM : Mem W w [aBlk g2 91 [.int .i64 n8, .int .i64 n9], aBlk g4 91 [.int .i64 n8, .int .i64 n9]] := hM
  refine wpList_nil ?_
  refine x_nt ?_
  refine wp_ret ?_
  have hm : some (n8, n9) = some r := hm
  obtain rfl := Option.some.inj hm
  refine x_retR (rs := [.cell 2 91]) (vs := [.agg #[.int .i64 n8, .int .i64 n9]]) rfl hs ⟨⟨_, rfl, loadS (cs := [.int .i64 n8, .int .i64 n9]) sT_91 (hM.heapBlk 0 rfl) rfl⟩, trivial⟩ ⟨_, rfl, ?_⟩
  exact ⟨rfl, hM.none_⟩

theorem impl_isBalanced_any (v_p0 : Value) (p0 : List Y3) (W : World) (hr_p0 : RdY W v_p0 p0) {r : Bool} (hm : impl_isBalanced_m p0 = some r) : Calls Try.prog 131 [v_p0].toArray W fun e w => ∃ v, e = .returned v ∧ v = .bool r ∧ Mem W w [] := by
  refine x_enter Try.func131 rfl Try.ntmps131 rfl ?_
  intro a hs
  have hM := Mem.start W
  unfold impl_isBalanced_m at hm
  refine wp_seq ?_
  refine wp_region_lit ?_
  refine wl hs (y_assign hs rfl) rfl ?_; intro a hs
  refine wpList_nil ?_
  refine x_nt ?_
  refine wp_seq ?_
  refine wp_region_lit ?_
  refine wl hs (y_move hs rfl) rfl ?_; intro a hs
  obtain ⟨y1, h2, hm⟩ := bindE hm
  refine wcall is_94 hs rfl rfl (impl_isStar_any v_p0 p0 _ (RdY.below hr_p0 hM.bel) h2) ?_; rintro a _ w hs ⟨rfl, hX⟩
  have hM : Mem W w [] := hM.call hX
  refine wl hs (y_move hs rfl) rfl ?_; intro a hs
  obtain ⟨b3, hb4, hm⟩ := bindE hm
  refine wlguard (N := 11) (L' := [(10, .bool b3), (2, .bool false)]) (fun w => Mem W w []) 5 ?_ ?_
  · intro K; rcases Bool.eq_false_or_eq_true y1 with hg5 | hg5
    · have hm := condT hg5 hb4
      refine wlg hs rfl hg5 (y_move hs rfl) rfl ?_; intro a hs
      obtain ⟨y6, h7, hm⟩ := bindE hm
      refine wcallg is_156 hs rfl hg5 rfl rfl (impl_starSum_any v_p0 p0 _ (RdY.below hr_p0 hM.bel) h7) ?_; rintro a _ w hs ⟨rfl, hX⟩
      have hM : Mem W w [] := hM.call hX
      refine wlg hs rfl hg5 (y_build (cs := [.int .i64 0, .int .i64 0]) sT_91 hs rfl trivial rfl) rfl ?_; intro a hs
      refine wlg hs rfl hg5 (y_eqlS2 eqS_91 hs rfl rfl) rfl ?_; intro a hs
      have hm : some (y6.1 == 0 && y6.2 == 0) = some b3 := hm
      cases Option.some.inj hm
      refine wl hs (y_pickT hs rfl hg5 rfl) rfl ?_; intro a hs
      exact K _ _ (hs.sub ⟨rfl, rfl, trivial⟩) hM
    · have hm := condF hg5 hb4
      refine wls hs rfl hg5 rfl ?_; intro a hs
      refine wls hs rfl hg5 rfl ?_; intro a hs
      refine wls hs rfl hg5 rfl ?_; intro a hs
      refine wls hs rfl hg5 rfl ?_; intro a hs
      have hm : some false = some b3 := hm
      cases Option.some.inj hm
      refine wl hs (y_pickF hs rfl hg5 rfl) rfl ?_; intro a hs
      exact K _ _ (hs.sub ⟨rfl, rfl, trivial⟩) hM
  intro a w hs hM
  simp only [List.drop_succ_cons, List.drop_zero]
  refine wl hs (y_assign hs rfl) rfl ?_; intro a hs
  refine wpList_nil ?_
  refine x_nt ?_
  refine wp_ret ?_
  have hm : some b3 = some r := hm
  obtain rfl := Option.some.inj hm
  refine x_ret1 rfl hs rfl ⟨_, rfl, ?_⟩
  exact ⟨rfl, hM⟩

theorem impl_meetCount_any (v_p0 : Value) (p0 : List Y3) (v_p1 : Value) (p1 : List Y3) (W : World) (hr_p0 : RdY W v_p0 p0) (hr_p1 : RdY W v_p1 p1) {r : Int} (hm : impl_meetCount_m p0 p1 = some r) : Calls Try.prog 91 [v_p0, v_p1].toArray W fun e w => ∃ v, e = .returned v ∧ v = .int .i64 r ∧ Mem W w [] := by
  refine x_enter Try.func91 rfl Try.ntmps91 rfl ?_
  intro a hs
  have hM := Mem.start W
  unfold impl_meetCount_m at hm
  refine wp_seq ?_
  refine wp_region_lit ?_
  refine wl hs (y_assign hs rfl) rfl ?_; intro a hs
  refine wpList_nil ?_
  refine x_nt ?_
  refine wp_seq ?_
  refine wp_region_lit ?_
  refine wl hs (y_move hs rfl) rfl ?_; intro a hs
  refine wl hs (y_move hs rfl) rfl ?_; intro a hs
  refine wl hs (y_move hs rfl) rfl ?_; intro a hs
  refine wl hs (y_move hs rfl) rfl ?_; intro a hs
  refine wl hs (y_build (cs := [.int .i64 1000, .int .i64 1]) sT_91 hs rfl ⟨rfl, rfl, rfl, rfl, trivial⟩ rfl) rfl ?_; intro a hs
  obtain ⟨y1, h2, hm⟩ := bindE hm
  refine wcall is_97 hs rfl rfl (impl_meetingPairs_any v_p0 p0 v_p1 p1 1000 1 _ (RdY.below hr_p0 hM.bel) (RdY.below hr_p1 hM.bel) h2) ?_; rintro a v3 w hs ⟨vs5, hX⟩
  have hM : Mem W w [aMat 24 3 v3 vs5 y1] := hM.call hX
  obtain ⟨y6, h7, hm⟩ := bindE hm
  refine wcall is_122 hs rfl rfl (impl_meetSum_any v_p0 p0 v_p1 p1 v3 y1 _ (RdY.below hr_p0 hM.bel) (RdY.below hr_p1 hM.bel) (hM.rdM 0 rfl) h7) ?_; rintro a _ w hs ⟨rfl, hX⟩
  have hM : Mem W w [aMat 24 3 v3 vs5 y1] := hM.call hX
  refine wl hs (y_assign hs rfl) rfl ?_; intro a hs
  refine wpList_nil ?_
  refine x_nt ?_
  refine wp_ret ?_
  have hm : some y6 = some r := hm
  obtain rfl := Option.some.inj hm
  refine x_ret1 rfl hs rfl ⟨_, rfl, ?_⟩
  exact ⟨rfl, hM.none_⟩

theorem impl_MeetCount_any (v_p0 : Value) (p0 : List Y3) (v_p1 : Value) (p1 : List Y3) (W : World) (hr_p0 : RdY W v_p0 p0) (hr_p1 : RdY W v_p1 p1) {r : Int × Bool} (hm : impl_MeetCount_m p0 p1 = some r) : Calls Try.prog 98 [v_p0, v_p1].toArray W fun e w => ∃ v, e = .returned v ∧ v = .tuple #[.int .i64 r.1, .bool r.2] ∧ Mem W w [] := by
  refine x_enter Try.func98 rfl Try.ntmps98 rfl ?_
  intro a hs
  have hM := Mem.start W
  unfold impl_MeetCount_m at hm
  refine wp_seq ?_
  refine wp_region_lit ?_
  refine wl hs (y_assign hs rfl) rfl ?_; intro a hs
  refine wl hs (y_assign hs rfl) rfl ?_; intro a hs
  refine wpList_nil ?_
  refine x_nt ?_
  refine wp_seq ?_
  refine wp_seq ?_
  refine wp_region_lit ?_
  refine wl hs (y_move hs rfl) rfl ?_; intro a hs
  obtain ⟨y1, h2, hm⟩ := bindE hm
  refine wcall is_131 hs rfl rfl (impl_isBalanced_any v_p0 p0 _ (RdY.below hr_p0 hM.bel) h2) ?_; rintro a _ w hs ⟨rfl, hX⟩
  have hM : Mem W w [] := hM.call hX
  refine wl hs (y_not hs rfl) rfl ?_; intro a hs
  refine wl hs (y_move hs rfl) rfl ?_; intro a hs
  obtain ⟨b3, hb4, hm⟩ := bindE hm
  refine wlguard (N := 17) (L' := [(13, .bool b3), (0, v_p0), (1, v_p1)]) (fun w => Mem W w []) 4 ?_ ?_
  · intro K; rcases Bool.eq_false_or_eq_true (!y1) with hg5 | hg5
    · have hm := condT hg5 hb4
      refine wls hs rfl hg5 rfl ?_; intro a hs
      refine wls hs rfl hg5 rfl ?_; intro a hs
      refine wls hs rfl hg5 rfl ?_; intro a hs
      have hm : some true = some b3 := hm
      cases Option.some.inj hm
      refine wl hs (y_pickT hs rfl hg5 rfl) rfl ?_; intro a hs
      exact K _ _ (hs.sub ⟨rfl, rfl, rfl, trivial⟩) hM
    · have hm := condF hg5 hb4
      refine wlg hs rfl hg5 (y_move hs rfl) rfl ?_; intro a hs
      obtain ⟨y6, h7, hm⟩ := bindE hm
      refine wcallg is_131 hs rfl hg5 rfl rfl (impl_isBalanced_any v_p1 p1 _ (RdY.below hr_p1 hM.bel) h7) ?_; rintro a _ w hs ⟨rfl, hX⟩
      have hM : Mem W w [] := hM.call hX
      refine wlg hs rfl hg5 (y_not hs rfl) rfl ?_; intro a hs
      have hm : some (!y6) = some b3 := hm
      cases Option.some.inj hm
      refine wl hs (y_pickF hs rfl hg5 rfl) rfl ?_; intro a hs
      exact K _ _ (hs.sub ⟨rfl, rfl, rfl, trivial⟩) hM
  intro a w hs hM
  simp only [List.drop_succ_cons, List.drop_zero]
  refine wpList_nil ?_
  refine x_nt ?_
  refine x_cond hs rfl (fun hb => ?_) (fun hb => ?_)
  · replace hm := condT hb hm
    refine wp_seq ?_
    refine wp_region_lit ?_
    refine wl hs (y_assign hs rfl) rfl ?_; intro a hs
    refine wl hs (y_assign hs rfl) rfl ?_; intro a hs
    refine wpList_nil ?_
    refine x_nt ?_
    refine wp_ret ?_
    refine x_rt ?_
    have hm : some (0, false) = some r := hm
    obtain rfl := Option.some.inj hm
    refine x_ret2 rfl hs rfl rfl ⟨_, rfl, ?_⟩
    exact ⟨rfl, hM⟩
  · replace hm := condF hb hm
    refine wp_skip ?_
    refine x_nt ?_
    refine wp_seq ?_
    refine wp_region_lit ?_
    refine wl hs (y_move hs rfl) rfl ?_; intro a hs
    refine wl hs (y_move hs rfl) rfl ?_; intro a hs
    obtain ⟨y8, h9, hm⟩ := bindE hm
    refine wcall is_91 hs rfl rfl (impl_meetCount_any v_p0 p0 v_p1 p1 _ (RdY.below hr_p0 hM.bel) (RdY.below hr_p1 hM.bel) h9) ?_; rintro a _ w hs ⟨rfl, hX⟩
    have hM : Mem W w [] := hM.call hX
    refine wl hs (y_assign hs rfl) rfl ?_; intro a hs
    refine wl hs (y_assign hs rfl) rfl ?_; intro a hs
    refine wpList_nil ?_
    refine x_nt ?_
    refine wp_ret ?_
    have hm : some (y8, true) = some r := hm
    obtain rfl := Option.some.inj hm
    refine x_ret2 rfl hs rfl rfl ⟨_, rfl, ?_⟩
    exact ⟨rfl, hM⟩

theorem impl_lineStar_any  (W : World)  {r : List Y3} (hm : impl_lineStar_m  = some r) : Calls Try.prog 120 [].toArray W fun e w => ∃ v, e = .returned v ∧ Mem W w [aYs 82 v r] := by
  refine x_enter Try.func120 rfl Try.ntmps120 rfl ?_
  intro a hs
  have hM := Mem.start W
  unfold impl_lineStar_m at hm
  refine wp_seq ?_
  refine wp_region_lit ?_
  refine wl hs (y_assign hs rfl) rfl ?_; intro a hs
  refine wpList_nil ?_
  refine x_nt ?_
  refine wp_seq ?_
  refine wp_region_lit ?_
  refine wl hs (y_build (cs := [.int .i64 (-1), .int .i64 (-1), .int .i64 1]) sT_82 hs rfl ⟨rfl, rfl, rfl, rfl, rfl, rfl, trivial⟩ rfl) rfl ?_; intro a hs
  refine wl hs (y_build (cs := [.int .i64 0, .int .i64 1, .int .i64 1]) sT_82 hs rfl ⟨rfl, rfl, rfl, rfl, rfl, rfl, trivial⟩ rfl) rfl ?_; intro a hs
  refine wl hs (y_build (cs := [.int .i64 1, .int .i64 0, .int .i64 1]) sT_82 hs rfl ⟨rfl, rfl, rfl, rfl, rfl, rfl, trivial⟩ rfl) rfl ?_; intro a hs
  refine wmem hs (x_new3Y (u1 := ((-1), (-1), 1)) (u2 := (0, 1, 1)) (u3 := (1, 0, 1)) hY_51 hs rfl rfl rfl hM) rfl ?_; intro a v2 w hs hM
  have hM : Mem W w [aYs 82 v2 ([((-1), (-1), 1), (0, 1, 1), (1, 0, 1)])] := hM
  refine wl hs (y_assign hs rfl) rfl ?_; intro a hs
  refine wpList_nil ?_
  refine x_nt ?_
  refine wp_ret ?_
  have hm : some ([((-1), (-1), 1), (0, 1, 1), (1, 0, 1)]) = some r := hm
  obtain rfl := Option.some.inj hm
  refine x_ret1 rfl hs rfl ⟨_, rfl, ?_⟩
  exact hM

theorem impl_StarDegree_any (v_p0 : Value) (p0 : List Y3) (W : World) (hr_p0 : RdY W v_p0 p0) {r : Int × Bool} (hm : impl_StarDegree_m p0 = some r) : Calls Try.prog 88 [v_p0].toArray W fun e w => ∃ v, e = .returned v ∧ v = .tuple #[.int .i64 r.1, .bool r.2] ∧ Mem W w [] := by
  refine x_enter Try.func88 rfl Try.ntmps88 rfl ?_
  intro a hs
  have hM := Mem.start W
  unfold impl_StarDegree_m at hm
  refine wp_seq ?_
  refine wp_region_lit ?_
  refine wl hs (y_assign hs rfl) rfl ?_; intro a hs
  refine wl hs (y_assign hs rfl) rfl ?_; intro a hs
  refine wpList_nil ?_
  refine x_nt ?_
  refine wp_seq ?_
  refine wp_region_lit ?_
  refine wl hs (y_move hs rfl) rfl ?_; intro a hs
  obtain ⟨y1, h2, hm⟩ := bindE hm
  refine wcall is_120 hs rfl rfl (impl_lineStar_any  _  h2) ?_; rintro a v3 w hs hX
  have hM : Mem W w [aYs 82 v3 y1] := hM.call hX
  obtain ⟨y5, h6, hm⟩ := bindE hm
  refine wcall is_98 hs rfl rfl (impl_MeetCount_any v_p0 p0 v3 y1 _ (RdY.below hr_p0 hM.bel) (hM.rdY 0 rfl) h6) ?_; rintro a _ w hs ⟨rfl, hX⟩
  have hM : Mem W w [aYs 82 v3 y1] := hM.call hX
  refine wl hs (y_extract hs rfl rfl) rfl ?_; intro a hs
  refine wl hs (y_extract hs rfl rfl) rfl ?_; intro a hs
  refine wl hs (y_assign hs rfl) rfl ?_; intro a hs
  refine wl hs (y_assign hs rfl) rfl ?_; intro a hs
  refine wpList_nil ?_
  refine x_nt ?_
  refine wp_ret ?_
  have hm : some (y5.1, y5.2) = some r := hm
  obtain rfl := Option.some.inj hm
  refine x_ret2 rfl hs rfl rfl ⟨_, rfl, ?_⟩
  exact ⟨rfl, hM.none_⟩

theorem impl_BezoutOf_any (v_p0 : Value) (p0 : List Y3) (v_p1 : Value) (p1 : List Y3) (W : World) (hr_p0 : RdY W v_p0 p0) (hr_p1 : RdY W v_p1 p1) {r : Int × Bool} (hm : impl_BezoutOf_m p0 p1 = some r) : Calls Try.prog 43 [v_p0, v_p1].toArray W fun e w => ∃ v, e = .returned v ∧ v = .tuple #[.int .i64 r.1, .bool r.2] ∧ Mem W w [] := by
  refine x_enter Try.func43 rfl Try.ntmps43 rfl ?_
  intro a hs
  have hM := Mem.start W
  unfold impl_BezoutOf_m at hm
  refine wp_seq ?_
  refine wp_region_lit ?_
  refine wl hs (y_assign hs rfl) rfl ?_; intro a hs
  refine wl hs (y_assign hs rfl) rfl ?_; intro a hs
  refine wpList_nil ?_
  refine x_nt ?_
  refine wp_seq ?_
  refine wp_region_lit ?_
  refine wl hs (y_move hs rfl) rfl ?_; intro a hs
  obtain ⟨y1, h2, hm⟩ := bindE hm
  refine wcall is_88 hs rfl rfl (impl_StarDegree_any v_p0 p0 _ (RdY.below hr_p0 hM.bel) h2) ?_; rintro a _ w hs ⟨rfl, hX⟩
  have hM : Mem W w [] := hM.call hX
  refine wl hs (y_move hs rfl) rfl ?_; intro a hs
  refine wl hs (y_extract hs rfl rfl) rfl ?_; intro a hs
  refine wl hs (y_extract hs rfl rfl) rfl ?_; intro a hs
  refine wl hs (y_assign hs rfl) rfl ?_; intro a hs
  refine wl hs (y_assign hs rfl) rfl ?_; intro a hs
  refine wpList_nil ?_
  refine x_nt ?_
  refine wp_seq ?_
  refine wp_region_lit ?_
  refine wl hs (y_move hs rfl) rfl ?_; intro a hs
  obtain ⟨y3, h4, hm⟩ := bindE hm
  refine wcall is_88 hs rfl rfl (impl_StarDegree_any v_p1 p1 _ (RdY.below hr_p1 hM.bel) h4) ?_; rintro a _ w hs ⟨rfl, hX⟩
  have hM : Mem W w [] := hM.call hX
  refine wl hs (y_move hs rfl) rfl ?_; intro a hs
  refine wl hs (y_extract hs rfl rfl) rfl ?_; intro a hs
  refine wl hs (y_extract hs rfl rfl) rfl ?_; intro a hs
  refine wl hs (y_assign hs rfl) rfl ?_; intro a hs
  refine wl hs (y_assign hs rfl) rfl ?_; intro a hs
  refine wpList_nil ?_
  refine x_nt ?_
  refine wp_seq ?_
  refine wp_region_lit ?_
  refine wl hs (y_move hs rfl) rfl ?_; intro a hs
  refine wl hs (y_move hs rfl) rfl ?_; intro a hs
  obtain ⟨n5, h6, hm⟩ := bindE hm
  refine wl hs (y_mul hs rfl rfl h6) rfl ?_; intro a hs
  refine wl hs (y_move hs rfl) rfl ?_; intro a hs
  refine wl hs (y_move hs rfl) rfl ?_; intro a hs
  obtain ⟨b7, hb8, hm⟩ := bindE hm
  refine wlguard (N := 27) (L' := [(26, .bool b7), (4, .int .i64 0), (5, .bool false), (22, .int .i64 n5)]) (fun w => Mem W w []) 2 ?_ ?_
  · intro K; rcases Bool.eq_false_or_eq_true y1.2 with hg9 | hg9
    · have hm := condT hg9 hb8
      refine wlg hs rfl hg9 (y_move hs rfl) rfl ?_; intro a hs
      have hm : some y3.2 = some b7 := hm
      cases Option.some.inj hm
      refine wl hs (y_pickT hs rfl hg9 rfl) rfl ?_; intro a hs
      exact K _ _ (hs.sub ⟨rfl, rfl, rfl, rfl, trivial⟩) hM
    · have hm := condF hg9 hb8
      refine wls hs rfl hg9 rfl ?_; intro a hs
      have hm : some false = some b7 := hm
      cases Option.some.inj hm
      refine wl hs (y_pickF hs rfl hg9 rfl) rfl ?_; intro a hs
      exact K _ _ (hs.sub ⟨rfl, rfl, rfl, rfl, trivial⟩) hM
  intro a w hs hM
  simp only [List.drop_succ_cons, List.drop_zero]
  refine wl hs (y_assign hs rfl) rfl ?_; intro a hs
  refine wl hs (y_assign hs rfl) rfl ?_; intro a hs
  refine wpList_nil ?_
  refine x_nt ?_
  refine wp_ret ?_
  have hm : some (n5, b7) = some r := hm
  obtain rfl := Option.some.inj hm
  refine x_ret2 rfl hs rfl rfl ⟨_, rfl, ?_⟩
  exact ⟨rfl, hM⟩

theorem impl_MeetDefect_any (v_p0 : Value) (p0 : List Y3) (v_p1 : Value) (p1 : List Y3) (W : World) (hr_p0 : RdY W v_p0 p0) (hr_p1 : RdY W v_p1 p1) {r : Int × Bool} (hm : impl_MeetDefect_m p0 p1 = some r) : Calls Try.prog 46 [v_p0, v_p1].toArray W fun e w => ∃ v, e = .returned v ∧ v = .tuple #[.int .i64 r.1, .bool r.2] ∧ Mem W w [] := by
  refine x_enter Try.func46 rfl Try.ntmps46 rfl ?_
  intro a hs
  have hM := Mem.start W
  unfold impl_MeetDefect_m at hm
  refine wp_seq ?_
  refine wp_region_lit ?_
  refine wl hs (y_assign hs rfl) rfl ?_; intro a hs
  refine wl hs (y_assign hs rfl) rfl ?_; intro a hs
  refine wpList_nil ?_
  refine x_nt ?_
  refine wp_seq ?_
  refine wp_region_lit ?_
  refine wl hs (y_move hs rfl) rfl ?_; intro a hs
  refine wl hs (y_move hs rfl) rfl ?_; intro a hs
  obtain ⟨y1, h2, hm⟩ := bindE hm
  refine wcall is_43 hs rfl rfl (impl_BezoutOf_any v_p0 p0 v_p1 p1 _ (RdY.below hr_p0 hM.bel) (RdY.below hr_p1 hM.bel) h2) ?_; rintro a _ w hs ⟨rfl, hX⟩
  have hM : Mem W w [] := hM.call hX
  refine wl hs (y_move hs rfl) rfl ?_; intro a hs
  refine wl hs (y_extract hs rfl rfl) rfl ?_; intro a hs
  refine wl hs (y_extract hs rfl rfl) rfl ?_; intro a hs
  refine wl hs (y_assign hs rfl) rfl ?_; intro a hs
  refine wl hs (y_assign hs rfl) rfl ?_; intro a hs
  refine wpList_nil ?_
  refine x_nt ?_
  refine wp_seq ?_
  refine wp_seq ?_
  refine wp_region_lit ?_
  refine wl hs (y_move hs rfl) rfl ?_; intro a hs
  refine wl hs (y_not hs rfl) rfl ?_; intro a hs
  refine wpList_nil ?_
  refine x_nt ?_
  refine x_cond hs rfl (fun hb => ?_) (fun hb => ?_)
  · replace hm := condT hb hm
    refine wp_seq ?_
    refine wp_region_lit ?_
    refine wl hs (y_assign hs rfl) rfl ?_; intro a hs
    refine wl hs (y_assign hs rfl) rfl ?_; intro a hs
    refine wpList_nil ?_
    refine x_nt ?_
    refine wp_ret ?_
    refine x_rt ?_
    have hm : some (0, false) = some r := hm
    obtain rfl := Option.some.inj hm
    refine x_ret2 rfl hs rfl rfl ⟨_, rfl, ?_⟩
    exact ⟨rfl, hM⟩
  · replace hm := condF hb hm
    refine wp_skip ?_
    refine x_nt ?_
    refine wp_seq ?_
    refine wp_region_lit ?_
    refine wl hs (y_move hs rfl) rfl ?_; intro a hs
    refine wl hs (y_move hs rfl) rfl ?_; intro a hs
    refine wl hs (y_move hs rfl) rfl ?_; intro a hs
    obtain ⟨y3, h4, hm⟩ := bindE hm
    refine wcall is_91 hs rfl rfl (impl_meetCount_any v_p0 p0 v_p1 p1 _ (RdY.below hr_p0 hM.bel) (RdY.below hr_p1 hM.bel) h4) ?_; rintro a _ w hs ⟨rfl, hX⟩
    have hM : Mem W w [] := hM.call hX
    obtain ⟨n5, h6, hm⟩ := bindE hm
    refine wl hs (y_sub hs rfl rfl h6) rfl ?_; intro a hs
    refine wl hs (y_assign hs rfl) rfl ?_; intro a hs
    refine wl hs (y_assign hs rfl) rfl ?_; intro a hs
    refine wpList_nil ?_
    refine x_nt ?_
    refine wp_ret ?_
    have hm : some (n5, true) = some r := hm
    obtain rfl := Option.some.inj hm
    refine x_ret2 rfl hs rfl rfl ⟨_, rfl, ?_⟩
    exact ⟨rfl, hM⟩

set_option maxHeartbeats 4000000 in
theorem impl_MeetingPairs_any (v_p0 : Value) (p0 : List Y3) (v_p1 : Value) (p1 : List Y3) (p2 : Int) (p3 : Int) (W : World) (hr_p0 : RdY W v_p0 p0) (hr_p1 : RdY W v_p1 p1) {r : (List (List Int)) × Bool} (hm : impl_MeetingPairs_m p0 p1 p2 p3 = some r) : Calls Try.prog 48 [v_p0, v_p1, .int .i64 p2, .int .i64 p3].toArray W fun e w => ∃ v, e = .returned v ∧ ∃ v0, ∃ vs0, v = .tuple #[v0, .bool r.2] ∧ Mem W w [aMat 24 3 v0 vs0 r.1] := by
  refine x_enter Try.func48 rfl Try.ntmps48 rfl ?_
  intro a hs
  have hM := Mem.start W
  unfold impl_MeetingPairs_m at hm
  refine wp_seq ?_
  refine wp_region_lit ?_
  refine wl hs (y_assign hs rfl) rfl ?_; intro a hs
  refine wl hs (y_assign hs rfl) rfl ?_; intro a hs
  refine wpList_nil ?_
  refine x_nt ?_
  refine wp_seq ?_
  refine wp_region_lit ?_
  refine wl hs (y_move hs rfl) rfl ?_; intro a hs
  refine wl hs (y_move hs rfl) rfl ?_; intro a hs
  refine wl hs (y_build (cs := [.int .i64 p2, .int .i64 p3]) sT_91 hs rfl ⟨rfl, rfl, rfl, rfl, trivial⟩ rfl) rfl ?_; intro a hs
  refine wmem hs (x_allocS sT_91 hM) rfl ?_; rintro a _ w hs ⟨g2, rfl, hM⟩
  have hM : Mem W w [aBlk g2 91 [.int .i64 0, .int .i64 0]] := hM
  refine wstore hs rfl rfl (x_storeS (cs := [.int .i64 0, .int .i64 0]) (us := [.int .i64 p2, .int .i64 p3]) sT_91 ⟨rfl, rfl, trivial⟩ rfl rfl (hM.front 0 rfl)) ?_; intro w hM
  have hM : Mem W w [aBlk g2 91 [.int .i64 p2, .int .i64 p3]] := hM
  refine wpList_nil ?_
  refine x_nt ?_
  refine wp_seq ?_
  refine wp_seq ?_
  refine wp_region_lit ?_
  refine wl hs (y_move hs rfl) rfl ?_; intro a hs
  obtain ⟨y3, h4, hm⟩ := bindE hm
  refine wcall is_94 hs rfl rfl (impl_isStar_any v_p0 p0 _ (RdY.below hr_p0 hM.bel) h4) ?_; rintro a _ w hs ⟨rfl, hX⟩
  have hM : Mem W w [aBlk g2 91 [.int .i64 p2, .int .i64 p3]] := hM.call hX
  refine wl hs (y_not hs rfl) rfl ?_; intro a hs
  refine wl hs (y_move hs rfl) rfl ?_; intro a hs
  obtain ⟨b5, hb6, hm⟩ := bindE hm
  refine wlguard (N := 44) (L' := [(21, .bool b5), (0, v_p0), (1, v_p1), (2, .int .i64 p2), (3, .int .i64 p3), (10, .pointer (some ⟨g2, 0, none⟩))]) (fun w => Mem W w [aBlk g2 91 [.int .i64 p2, .int .i64 p3]]) 4 ?_ ?_
  · intro K; rcases Bool.eq_false_or_eq_true (!y3) with hg7 | hg7
    · have hm := condT hg7 hb6
      refine wls hs rfl hg7 rfl ?_; intro a hs
      refine wls hs rfl hg7 rfl ?_; intro a hs
      refine wls hs rfl hg7 rfl ?_; intro a hs
      have hm : some true = some b5 := hm
      cases Option.some.inj hm
      refine wl hs (y_pickT hs rfl hg7 rfl) rfl ?_; intro a hs
      exact K _ _ (hs.sub ⟨rfl, rfl, rfl, rfl, rfl, rfl, trivial⟩) hM
    · have hm := condF hg7 hb6
      refine wlg hs rfl hg7 (y_move hs rfl) rfl ?_; intro a hs
      obtain ⟨y8, h9, hm⟩ := bindE hm
      refine wcallg is_94 hs rfl hg7 rfl rfl (impl_isStar_any v_p1 p1 _ (RdY.below hr_p1 hM.bel) h9) ?_; rintro a _ w hs ⟨rfl, hX⟩
      have hM : Mem W w [aBlk g2 91 [.int .i64 p2, .int .i64 p3]] := hM.call hX
      refine wlg hs rfl hg7 (y_not hs rfl) rfl ?_; intro a hs
      have hm : some (!y8) = some b5 := hm
      cases Option.some.inj hm
      refine wl hs (y_pickF hs rfl hg7 rfl) rfl ?_; intro a hs
      exact K _ _ (hs.sub ⟨rfl, rfl, rfl, rfl, rfl, rfl, trivial⟩) hM
  intro a w hs hM
  simp only [List.drop_succ_cons, List.drop_zero]
  refine wl hs (y_move hs rfl) rfl ?_; intro a hs
  obtain ⟨b10, hb11, hm⟩ := bindE hm
  refine wlguard (N := 44) (L' := [(27, .bool b10), (0, v_p0), (1, v_p1), (10, .pointer (some ⟨g2, 0, none⟩))]) (fun w => Mem W w [aBlk g2 91 [.int .i64 p2, .int .i64 p3]]) 5 ?_ ?_
  · intro K; rcases Bool.eq_false_or_eq_true b5 with hg12 | hg12
    · have hm := condT hg12 hb11
      refine wls hs rfl hg12 rfl ?_; intro a hs
      refine wls hs rfl hg12 rfl ?_; intro a hs
      refine wls hs rfl hg12 rfl ?_; intro a hs
      refine wls hs rfl hg12 rfl ?_; intro a hs
      have hm : some true = some b10 := hm
      cases Option.some.inj hm
      refine wl hs (y_pickT hs rfl hg12 rfl) rfl ?_; intro a hs
      exact K _ _ (hs.sub ⟨rfl, rfl, rfl, rfl, trivial⟩) hM
    · have hm := condF hg12 hb11
      refine wlg hs rfl hg12 (y_move hs rfl) rfl ?_; intro a hs
      refine wlg hs rfl hg12 (y_move hs rfl) rfl ?_; intro a hs
      obtain ⟨y13, h14, hm⟩ := bindE hm
      refine wcallg is_95 hs rfl hg12 rfl rfl (impl_isMove_any p2 p3 _  h14) ?_; rintro a _ w hs ⟨rfl, hX⟩
      have hM : Mem W w [aBlk g2 91 [.int .i64 p2, .int .i64 p3]] := hM.call hX
      refine wlg hs rfl hg12 (y_not hs rfl) rfl ?_; intro a hs
      have hm : some (!y13) = some b10 := hm
      cases Option.some.inj hm
      refine wl hs (y_pickF hs rfl hg12 rfl) rfl ?_; intro a hs
      exact K _ _ (hs.sub ⟨rfl, rfl, rfl, rfl, trivial⟩) hM
  intro a w hs hM
  simp only [List.drop_succ_cons, List.drop_zero]
  refine wl hs (y_move hs rfl) rfl ?_; intro a hs
  obtain ⟨b15, hb16, hm⟩ := bindE hm
  refine wlguard (N := 44) (L' := [(33, .bool b15), (0, v_p0), (1, v_p1), (10, .pointer (some ⟨g2, 0, none⟩))]) (fun w => Mem W w [aBlk g2 91 [.int .i64 p2, .int .i64 p3]]) 5 ?_ ?_
  · intro K; rcases Bool.eq_false_or_eq_true b10 with hg17 | hg17
    · have hm := condT hg17 hb16
      refine wls hs rfl hg17 rfl ?_; intro a hs
      refine wls hs rfl hg17 rfl ?_; intro a hs
      refine wls hs rfl hg17 rfl ?_; intro a hs
      refine wls hs rfl hg17 rfl ?_; intro a hs
      have hm : some true = some b15 := hm
      cases Option.some.inj hm
      refine wl hs (y_pickT hs rfl hg17 rfl) rfl ?_; intro a hs
      exact K _ _ (hs.sub ⟨rfl, rfl, rfl, rfl, trivial⟩) hM
    · have hm := condF hg17 hb16
      refine wlg hs rfl hg17 (y_move hs rfl) rfl ?_; intro a hs
      refine wlg hs rfl hg17 (y_loadS (cs := [.int .i64 p2, .int .i64 p3]) sT_91 hs rfl (hM.heapBlk 0 rfl) rfl) rfl ?_; intro a hs
      obtain ⟨y18, h19, hm⟩ := bindE hm
      refine wcallg is_96 hs rfl hg17 rfl rfl (impl_isGeneral_any v_p0 p0 p2 p3 _ (RdY.below hr_p0 hM.bel) h19) ?_; rintro a _ w hs ⟨rfl, hX⟩
      have hM : Mem W w [aBlk g2 91 [.int .i64 p2, .int .i64 p3]] := hM.call hX
      refine wlg hs rfl hg17 (y_not hs rfl) rfl ?_; intro a hs
      have hm : some (!y18) = some b15 := hm
      cases Option.some.inj hm
      refine wl hs (y_pickF hs rfl hg17 rfl) rfl ?_; intro a hs
      exact K _ _ (hs.sub ⟨rfl, rfl, rfl, rfl, trivial⟩) hM
  intro a w hs hM
  simp only [List.drop_succ_cons, List.drop_zero]
  refine wl hs (y_move hs rfl) rfl ?_; intro a hs
  obtain ⟨b20, hb21, hm⟩ := bindE hm
  refine wlguard (N := 44) (L' := [(39, .bool b20), (0, v_p0), (1, v_p1), (10, .pointer (some ⟨g2, 0, none⟩))]) (fun w => Mem W w [aBlk g2 91 [.int .i64 p2, .int .i64 p3]]) 5 ?_ ?_
  · intro K; rcases Bool.eq_false_or_eq_true b15 with hg22 | hg22
    · have hm := condT hg22 hb21
      refine wls hs rfl hg22 rfl ?_; intro a hs
      refine wls hs rfl hg22 rfl ?_; intro a hs
      refine wls hs rfl hg22 rfl ?_; intro a hs
      refine wls hs rfl hg22 rfl ?_; intro a hs
      have hm : some true = some b20 := hm
      cases Option.some.inj hm
      refine wl hs (y_pickT hs rfl hg22 rfl) rfl ?_; intro a hs
      exact K _ _ (hs.sub ⟨rfl, rfl, rfl, rfl, trivial⟩) hM
    · have hm := condF hg22 hb21
      refine wlg hs rfl hg22 (y_move hs rfl) rfl ?_; intro a hs
      refine wlg hs rfl hg22 (y_loadS (cs := [.int .i64 p2, .int .i64 p3]) sT_91 hs rfl (hM.heapBlk 0 rfl) rfl) rfl ?_; intro a hs
      obtain ⟨y23, h24, hm⟩ := bindE hm
      refine wcallg is_96 hs rfl hg22 rfl rfl (impl_isGeneral_any v_p1 p1 p2 p3 _ (RdY.below hr_p1 hM.bel) h24) ?_; rintro a _ w hs ⟨rfl, hX⟩
      have hM : Mem W w [aBlk g2 91 [.int .i64 p2, .int .i64 p3]] := hM.call hX
      refine wlg hs rfl hg22 (y_not hs rfl) rfl ?_; intro a hs
      have hm : some (!y23) = some b20 := hm
      cases Option.some.inj hm
      refine wl hs (y_pickF hs rfl hg22 rfl) rfl ?_; intro a hs
      exact K _ _ (hs.sub ⟨rfl, rfl, rfl, rfl, trivial⟩) hM
  intro a w hs hM
  simp only [List.drop_succ_cons, List.drop_zero]
  refine wpList_nil ?_
  refine x_nt ?_
  refine x_cond hs rfl (fun hb => ?_) (fun hb => ?_)
  · replace hm := condT hb hm
    refine wp_seq ?_
    refine wp_region_lit ?_
    refine wl hs (y_assign hs rfl) rfl ?_; intro a hs
    refine wl hs (y_assign hs rfl) rfl ?_; intro a hs
    refine wpList_nil ?_
    refine x_nt ?_
    refine wp_ret ?_
    refine x_rt ?_
    have hm : some ([], false) = some r := hm
    obtain rfl := Option.some.inj hm
    refine x_ret2 rfl hs rfl rfl ⟨_, rfl, ?_⟩
    have hM := hM.nilM 24 3
    exact ⟨_, _, rfl, (hM.keep_ 1)⟩
  · replace hm := condF hb hm
    refine wp_skip ?_
    refine x_nt ?_
    refine wp_seq ?_
    refine wp_region_lit ?_
    refine wl hs (y_move hs rfl) rfl ?_; intro a hs
    refine wl hs (y_move hs rfl) rfl ?_; intro a hs
    refine wl hs (y_loadS (cs := [.int .i64 p2, .int .i64 p3]) sT_91 hs rfl (hM.heapBlk 0 rfl) rfl) rfl ?_; intro a hs
    obtain ⟨y26, h27, hm⟩ := bindE hm
    refine wcall is_97 hs rfl rfl (impl_meetingPairs_any v_p0 p0 v_p1 p1 p2 p3 _ (RdY.below hr_p0 hM.bel) (RdY.below hr_p1 hM.bel) h27) ?_; rintro a v28 w hs ⟨vs30, hX⟩
    have hM : Mem W w [aMat 24 3 v28 vs30 y26, aBlk g2 91 [.int .i64 p2, .int .i64 p3]] := hM.call hX
    refine wl hs (y_assign hs rfl) rfl ?_; intro a hs
    refine wl hs (y_assign hs rfl) rfl ?_; intro a hs
    refine wpList_nil ?_
    refine x_nt ?_
    refine wp_ret ?_
    have hm : some (y26, true) = some r := hm
    obtain rfl := Option.some.inj hm
    refine x_ret2 rfl hs rfl rfl ⟨_, rfl, ?_⟩
    exact ⟨_, _, rfl, (hM.keep_ 1)⟩

set_option maxHeartbeats 4000000 in
theorem impl_MeetTable_any (v_p0 : Value) (p0 : List (List Y3)) (W : World) (hr_p0 : RdYY W v_p0 p0) {r : (List (List Int)) × Bool} (hm : impl_MeetTable_m p0 = some r) : Calls Try.prog 53 [v_p0].toArray W fun e w => ∃ v, e = .returned v ∧ ∃ v0, ∃ vs0, v = .tuple #[v0, .bool r.2] ∧ Mem W w [aMat 24 3 v0 vs0 r.1] := by
  refine x_enter Try.func53 rfl Try.ntmps53 rfl ?_
  intro a hs
  have hM := Mem.start W
  unfold impl_MeetTable_m at hm
  refine wp_seq ?_
  refine wp_region_lit ?_
  refine wl hs (y_assign hs rfl) rfl ?_; intro a hs
  refine wl hs (y_assign hs rfl) rfl ?_; intro a hs
  refine wpList_nil ?_
  refine x_nt ?_
  refine wp_seq ?_
  refine wp_seq ?_
  refine wp_region_lit ?_
  refine wl hs (y_move hs rfl) rfl ?_; intro a hs
  refine wl hs (y_len hu_61 hs rfl (RdYY.below hr_p0 hM.bel)) rfl ?_; intro a hs
  refine wl hs (y_gtr hs rfl rfl) rfl ?_; intro a hs
  refine wpList_nil ?_
  refine x_nt ?_
  refine x_cond hs rfl (fun hb => ?_) (fun hb => ?_)
  · replace hm := condT hb hm
    refine wp_seq ?_
    refine wp_region_lit ?_
    refine wl hs (y_assign hs rfl) rfl ?_; intro a hs
    refine wl hs (y_assign hs rfl) rfl ?_; intro a hs
    refine wpList_nil ?_
    refine x_nt ?_
    refine wp_ret ?_
    refine x_rt ?_
    have hm : some ([], false) = some r := hm
    obtain rfl := Option.some.inj hm
    refine x_ret2 rfl hs rfl rfl ⟨_, rfl, ?_⟩
    have hM := hM.nilM 24 3
    exact ⟨_, _, rfl, hM⟩
  · replace hm := condF hb hm
    refine wp_skip ?_
    refine x_nt ?_
    refine wp_seq ?_
    refine wp_region_lit ?_
    refine wmem hs (x_new0M (ti := 3) ht_M hM) rfl ?_; intro a v3 w hs hM
    have hM : Mem W w [aMat 24 3 v3 ([]) ([])] := hM
    refine wl hs (y_assign hs rfl) rfl ?_; intro a hs
    refine wpList_nil ?_
    refine x_nt ?_
    refine wp_seq ?_
    refine wp_seq ?_
    refine wp_region_lit ?_
    refine wl hs (y_move hs rfl) rfl ?_; intro a hs
    refine wl hs (y_len hu_61 hs rfl (RdYY.below hr_p0 hM.bel)) rfl ?_; intro a hs
    refine wl hs (y_move hs rfl) rfl ?_; intro a hs
    refine wpList_nil ?_
    refine x_nt ?_
    obtain ⟨s11, hm, hk12⟩ := bindE hm
    refine x_mid (fun a w => ∃ (v8 : Value), ∃ (vs9 : List Value), ∃ (l10 : List (List Int)), Sum.inr l10 = s11 ∧ Fr a 48 [(4, v8)] ∧ Mem W w [aMat 24 3 v8 vs9 l10]) ?_ ?_
    · refine wp_block ?_
      refine x_loop (fun k a w => ∃ (q13 : List (List Y3)) (j4 : Nat) (v5 : Value) (vs6 : List Value) (l7 : List (List Int)) , k = q13.length ∧ Fr a 48 [(0, v_p0), (4, v5), (16, v_p0), (17, .int .i64 (p0.length : Int)), (18, .int .i64 (j4 : Int))] ∧ Mem W w [aMat 24 3 v5 vs6 l7] ∧ impl_MeetTable_l1 p0 q13 j4 l7 = some s11 ∧ List.drop j4 p0 = q13) _ ⟨p0, 0, v3, [], [], rfl, hs.sub ⟨rfl, rfl, rfl, rfl, rfl, trivial⟩, hM, hm, rfl⟩ ?_
      rintro k a w ⟨q13, j4, v5, vs6, l7, rfl, hs, hM, hm, hj4⟩
      rcases q13 with _ | ⟨x14, q13⟩
      · rewrite [impl_MeetTable_l1] at hm
        refine wp_seq ?_
        refine wp_region_lit ?_
        refine wl hs (y_lss hs rfl rfl) rfl ?_; intro a hs
        refine wpList_nil ?_
        refine x_nt ?_
        refine wp_seq ?_
        refine x_condF hs rfl (drop_f hj4) ?_
        refine wp_exit ?_
        refine x_et ?_
        refine x_et ?_
        refine x_eb ?_
        have hm : some (Sum.inr l7) = some s11 := hm
        exact ⟨v5, vs6, l7, Option.some.inj hm, hs.sub ⟨rfl, trivial⟩, hM⟩
      · rewrite [impl_MeetTable_l1] at hm
        have hx15 := drop_idx hj4
        have hsj4 := ck_succ hj4 (RdS.len (RdYY.below hr_p0 hM.bel))
        refine wp_seq ?_
        refine wp_region_lit ?_
        refine wl hs (y_lss hs rfl rfl) rfl ?_; intro a hs
        refine wpList_nil ?_
        refine x_nt ?_
        refine wp_seq ?_
        refine x_condT hs rfl (drop_t hj4) ?_
        refine wp_skip ?_
        refine x_nt ?_
        refine wp_seq ?_
        refine wp_block ?_
        refine wp_seq ?_
        refine wp_region_lit ?_
        obtain ⟨u17, he16, hr18⟩ := RdYY.at_ hr_p0 hx15
        replace he16 := he16.below hM.bel
        refine wl hs (y_index ht_61 hs rfl rfl he16) rfl ?_; intro a hs
        refine wl hs (y_load sc_51 hs rfl he16.cell) rfl ?_; intro a hs
        refine wl hs (y_assign hs rfl) rfl ?_; intro a hs
        refine wpList_nil ?_
        refine x_nt ?_
        refine wp_seq ?_
        refine wp_region_lit ?_
        refine wmem hs (x_new0I ht_I hM) rfl ?_; intro a v20 w hs hM
        have hM : Mem W w [aInts 3 v20 ([]), aMat 24 3 v5 vs6 l7] := hM
        refine wl hs (y_assign hs rfl) rfl ?_; intro a hs
        refine wpList_nil ?_
        refine x_nt ?_
        refine wp_seq ?_
        refine wp_seq ?_
        refine wp_region_lit ?_
        refine wl hs (y_move hs rfl) rfl ?_; intro a hs
        refine wl hs (y_len hu_61 hs rfl (RdYY.below hr_p0 hM.bel)) rfl ?_; intro a hs
        refine wl hs (y_move hs rfl) rfl ?_; intro a hs
        refine wpList_nil ?_
        refine x_nt ?_
        obtain ⟨s26, hm, hk27⟩ := bindE hm
        refine x_mid (fun a w => ∃ (v24 : Value), ∃ (l25 : List Int), Sum.inr l25 = s26 ∧ Fr a 48 [(0, v_p0), (4, v5), (7, v24), (16, v_p0), (17, .int .i64 (p0.length : Int)), (18, .int .i64 (j4 : Int))] ∧ Mem W w [aInts 3 v24 l25, aMat 24 3 v5 vs6 l7]) ?_ ?_
        · refine wp_block ?_
          refine x_loop (fun k a w => ∃ (q28 : List (List Y3)) (j21 : Nat) (v22 : Value) (l23 : List Int) , k = q28.length ∧ Fr a 48 [(0, v_p0), (4, v5), (6, u17), (7, v22), (16, v_p0), (17, .int .i64 (p0.length : Int)), (18, .int .i64 (j4 : Int)), (23, v_p0), (24, .int .i64 (p0.length : Int)), (25, .int .i64 (j21 : Int))] ∧ Mem W w [aInts 3 v22 l23, aMat 24 3 v5 vs6 l7] ∧ impl_MeetTable_l2 x14 q28 j21 l23 = some s26 ∧ List.drop j21 p0 = q28) _ ⟨p0, 0, v20, [], rfl, hs.sub ⟨rfl, rfl, rfl, rfl, rfl, rfl, rfl, rfl, rfl, rfl, trivial⟩, hM, hm, rfl⟩ ?_
          rintro k a w ⟨q28, j21, v22, l23, rfl, hs, hM, hm, hj21⟩
          rcases q28 with _ | ⟨x29, q28⟩
          · rewrite [impl_MeetTable_l2] at hm
            refine wp_seq ?_
            refine wp_region_lit ?_
            refine wl hs (y_lss hs rfl rfl) rfl ?_; intro a hs
            refine wpList_nil ?_
            refine x_nt ?_
            refine wp_seq ?_
            refine x_condF hs rfl (drop_f hj21) ?_
            refine wp_exit ?_
            refine x_et ?_
            refine x_et ?_
            refine x_eb ?_
            have hm : some (Sum.inr l23) = some s26 := hm
            exact ⟨v22, l23, Option.some.inj hm, hs.sub ⟨rfl, rfl, rfl, rfl, rfl, rfl, trivial⟩, hM⟩
          · rewrite [impl_MeetTable_l2] at hm
            have hx30 := drop_idx hj21
            have hsj21 := ck_succ hj21 (RdS.len (RdYY.below hr_p0 hM.bel))
            refine wp_seq ?_
            refine wp_region_lit ?_
            refine wl hs (y_lss hs rfl rfl) rfl ?_; intro a hs
            refine wpList_nil ?_
            refine x_nt ?_
            refine wp_seq ?_
            refine x_condT hs rfl (drop_t hj21) ?_
            refine wp_skip ?_
            refine x_nt ?_
            refine wp_seq ?_
            refine wp_block ?_
            refine wp_seq ?_
            refine wp_region_lit ?_
            obtain ⟨u32, he31, hr33⟩ := RdYY.at_ hr_p0 hx30
            replace he31 := he31.below hM.bel
            refine wl hs (y_index ht_61 hs rfl rfl he31) rfl ?_; intro a hs
            refine wl hs (y_load sc_51 hs rfl he31.cell) rfl ?_; intro a hs
            refine wl hs (y_assign hs rfl) rfl ?_; intro a hs
            refine wpList_nil ?_
            refine x_nt ?_
            refine wp_seq ?_
            refine wp_region_lit ?_
            refine wl hs (y_move hs rfl) rfl ?_; intro a hs
            refine wl hs (y_move hs rfl) rfl ?_; intro a hs
            obtain ⟨y34, h35, hm⟩ := bindE hm
            refine wcall is_98 hs rfl rfl (impl_MeetCount_any u17 x14 u32 x29 _ (RdY.below hr18 hM.bel) (RdY.below hr33 hM.bel) h35) ?_; rintro a _ w hs ⟨rfl, hX⟩
            have hM : Mem W w [aInts 3 v22 l23, aMat 24 3 v5 vs6 l7] := hM.call hX
            refine wl hs (y_move hs rfl) rfl ?_; intro a hs
            refine wl hs (y_extract hs rfl rfl) rfl ?_; intro a hs
            refine wl hs (y_extract hs rfl rfl) rfl ?_; intro a hs
            refine wl hs (y_assign hs rfl) rfl ?_; intro a hs
            refine wl hs (y_assign hs rfl) rfl ?_; intro a hs
            refine wpList_nil ?_
            refine x_nt ?_
            refine wp_seq ?_
            refine wp_seq ?_
            refine wp_region_lit ?_
            refine wl hs (y_move hs rfl) rfl ?_; intro a hs
            refine wl hs (y_not hs rfl) rfl ?_; intro a hs
            refine wpList_nil ?_
            refine x_nt ?_
            refine x_cond hs rfl (fun hb => ?_) (fun hb => ?_)
            · replace hm := condT hb hm
              refine wp_seq ?_
              refine wp_region_lit ?_
              refine wl hs (y_assign hs rfl) rfl ?_; intro a hs
              refine wl hs (y_assign hs rfl) rfl ?_; intro a hs
              refine wpList_nil ?_
              refine x_nt ?_
              refine wp_ret ?_
              refine x_rt ?_
              refine x_rb ?_
              refine x_rt ?_
              refine x_rt ?_
              refine x_rb ?_
              refine x_rt ?_
              refine x_rt ?_
              refine x_rb ?_
              refine x_rt ?_
              refine x_rt ?_
              refine x_rb ?_
              refine x_rt ?_
              refine x_rt ?_
              have hm : some (Sum.inl ([], false)) = some s26 := hm
              cases Option.some.inj hm
              have hm := hk27
              have hm : some (Sum.inl ([], false)) = some s11 := hm
              cases Option.some.inj hm
              have hm := hk12
              have hm : some ([], false) = some r := hm
              obtain rfl := Option.some.inj hm
              refine x_ret2 rfl hs rfl rfl ⟨_, rfl, ?_⟩
              have hM := hM.nilM 24 3
              exact ⟨_, _, rfl, (hM.keep_ 1)⟩
            · replace hm := condF hb hm
              refine wp_skip ?_
              refine x_nt ?_
              refine wp_region_lit ?_
              refine wl hs (y_move hs rfl) rfl ?_; intro a hs
              refine wl hs (y_move hs rfl) rfl ?_; intro a hs
              obtain ⟨l37, h38, hm⟩ := bindE hm
              refine wappI hu_I he_int hs hM rfl rfl h38 rfl rfl rfl ?_; intro a v39 w u40 hs hM
              have hM : Mem W w [aInts 3 v39 l37, aMat 24 3 v5 vs6 l7] := hM
              refine wl hs (y_assign hs rfl) rfl ?_; intro a hs
              refine wpList_nil ?_
              refine x_nb ?_
              refine x_nt ?_
              refine wp_region_lit ?_
              refine wl hs (y_add hs rfl rfl hsj21) rfl ?_; intro a hs
              refine wl hs (y_move hs rfl) rfl ?_; intro a hs
              refine wpList_nil ?_
              exact ⟨_, by simp, q28, j21 + 1, v39, l37, rfl, hs.sub ⟨rfl, rfl, rfl, rfl, rfl, rfl, rfl, rfl, rfl, rfl, trivial⟩, hM, hm, drop_next hj21⟩
        rintro a w ⟨v24, l25, rfl, hs, hM⟩
        have hm := hk27
        refine x_nt ?_
        refine wp_region_lit ?_
        refine wl hs (y_move hs rfl) rfl ?_; intro a hs
        refine wl hs (y_move hs rfl) rfl ?_; intro a hs
        obtain ⟨l41, h42, hm⟩ := bindE hm
        refine wappM hu_M he_I hs (hM.front 1 rfl) rfl rfl h42 rfl rfl rfl ?_; intro a v43 w u44 hs hM
        have hM : Mem W w [aMat 24 3 v43 (vs6 ++ [v24]) l41] := hM
        refine wl hs (y_assign hs rfl) rfl ?_; intro a hs
        refine wpList_nil ?_
        refine x_nb ?_
        refine x_nt ?_
        refine wp_region_lit ?_
        refine wl hs (y_add hs rfl rfl hsj4) rfl ?_; intro a hs
        refine wl hs (y_move hs rfl) rfl ?_; intro a hs
        refine wpList_nil ?_
        exact ⟨_, by simp, q13, j4 + 1, v43, (vs6 ++ [v24]), l41, rfl, hs.sub ⟨rfl, rfl, rfl, rfl, rfl, trivial⟩, hM, hm, drop_next hj4⟩
    rintro a w ⟨v8, vs9, l10, rfl, hs, hM⟩
    have hm := hk12
    refine x_nt ?_
    refine wp_seq ?_
    refine wp_region_lit ?_
    refine wl hs (y_move hs rfl) rfl ?_; intro a hs
    refine wl hs (y_assign hs rfl) rfl ?_; intro a hs
    refine wl hs (y_assign hs rfl) rfl ?_; intro a hs
    refine wpList_nil ?_
    refine x_nt ?_
    refine wp_ret ?_
    have hm : some (l10, true) = some r := hm
    obtain rfl := Option.some.inj hm
    refine x_ret2 rfl hs rfl rfl ⟨_, rfl, ?_⟩
    exact ⟨_, _, rfl, hM⟩

end Go.Proofs.Ytaagklbiebogfaa
