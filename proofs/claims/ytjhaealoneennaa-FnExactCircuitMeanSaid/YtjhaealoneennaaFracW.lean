/- The code of this unit computes what its mirrors say. Written by program (wip/gen). -/
import Derived.Test.YtjhaealoneennaaFacts
import Derived.Test.YtjhaealoneennaaFracM
import Derived.Test.YtjhaealoneennaaNumW
import Derived.Test.YtjhaealoneennaaOwnW
namespace Go.Proofs.Ytjhaealoneennaa
open Go.RowKit
set_option linter.unusedVariables false

theorem spec_l1Abs_any (p0 : Int) (W : World)  {r : Int} (hm : spec_l1Abs_m p0 = some r) : Calls Try.prog 131 [.int .i64 p0].toArray W fun e w => ∃ v, e = .returned v ∧ v = .int .i64 r ∧ Mem W w [] := by
  refine x_enter Try.func131 rfl Try.ntmps131 rfl ?_
  intro a hs
  have hM := Mem.start W
  unfold spec_l1Abs_m at hm
  refine wp_seq ?_
  refine wp_region_lit ?_
  refine wl hs (y_assign hs rfl) rfl ?_; intro a hs
  refine wpList_nil ?_
  refine x_nt ?_
  refine wp_seq ?_
  refine wp_region_lit ?_
  refine wl hs (y_move hs rfl) rfl ?_; intro a hs
  refine wl hs (y_move hs rfl) rfl ?_; intro a hs
  obtain ⟨n1, h2, hm⟩ := bindE hm
  refine wl hs (y_neg hs rfl h2) rfl ?_; intro a hs
  obtain ⟨y3, h4, hm⟩ := bindE hm
  refine wcall is_133 hs rfl rfl (spec_l1Most_any p0 n1 _  h4) ?_; rintro a _ w hs ⟨rfl, hX⟩
  have hM : Mem W w [] := hM.call hX
  refine wl hs (y_assign hs rfl) rfl ?_; intro a hs
  refine wpList_nil ?_
  refine x_nt ?_
  refine wp_ret ?_
  have hm : some y3 = some r := hm
  obtain rfl := Option.some.inj hm
  refine x_ret1 rfl hs rfl ⟨_, rfl, ?_⟩
  exact ⟨rfl, hM⟩

theorem spec_frGcd_any (p0 : Int) (p1 : Int) (W : World)  {r : Int} (hm : spec_frGcd_m p0 p1 = some r) : Calls Try.prog 125 [.int .i64 p0, .int .i64 p1].toArray W fun e w => ∃ v, e = .returned v ∧ v = .int .i64 r ∧ Mem W w [] := by
  refine x_enter Try.func125 rfl Try.ntmps125 rfl ?_
  intro a hs
  have hM := Mem.start W
  unfold spec_frGcd_m at hm
  refine wp_seq ?_
  refine wp_region_lit ?_
  refine wl hs (y_assign hs rfl) rfl ?_; intro a hs
  refine wpList_nil ?_
  refine x_nt ?_
  refine wp_seq ?_
  obtain ⟨s4, hm, hk5⟩ := bindE hm
  refine x_mid (fun a w => ∃ (n3 : Int), n3 = s4 ∧ Fr a 15 [(0, .int .i64 n3)] ∧ Mem W w []) ?_ ?_
  · refine wp_block ?_
    refine x_loop (fun k a w => ∃ (n1 : Int) (n2 : Int) , Fr a 15 [(0, .int .i64 n1), (1, .int .i64 n2)] ∧ Mem W w [] ∧ spec_frGcd_l1 k n1 n2 = some s4) 4000000 ⟨p0, p1, hs.sub ⟨rfl, rfl, trivial⟩, hM, hm⟩ ?_
    rintro k a w ⟨n1, n2, hs, hM, hm⟩
    rcases k with _ | k
    · rewrite [spec_frGcd_l1] at hm; cases hm
    rewrite [spec_frGcd_l1] at hm
    refine wp_seq ?_
    refine wp_seq ?_
    refine wp_region_lit ?_
    refine wl hs (y_move hs rfl) rfl ?_; intro a hs
    refine wl hs (y_neq hs rfl rfl) rfl ?_; intro a hs
    refine wpList_nil ?_
    refine x_nt ?_
    refine x_cond hs rfl (fun hb => ?_) (fun hb => ?_)
    · replace hm := condT hb hm
      refine wp_skip ?_
      refine x_nt ?_
      refine wp_block ?_
      refine wp_seq ?_
      refine wp_region_lit ?_
      refine wl hs (y_move hs rfl) rfl ?_; intro a hs
      refine wl hs (y_move hs rfl) rfl ?_; intro a hs
      obtain ⟨n7, h8, hm⟩ := bindE hm
      refine wl hs (y_rem hs rfl rfl h8) rfl ?_; intro a hs
      refine wl hs (y_assign hs rfl) rfl ?_; intro a hs
      refine wpList_nil ?_
      refine x_nt ?_
      refine wp_seq ?_
      refine wp_region_lit ?_
      refine wl hs (y_move hs rfl) rfl ?_; intro a hs
      refine wl hs (y_assign hs rfl) rfl ?_; intro a hs
      refine wpList_nil ?_
      refine x_nt ?_
      refine wp_region_lit ?_
      refine wl hs (y_move hs rfl) rfl ?_; intro a hs
      refine wl hs (y_assign hs rfl) rfl ?_; intro a hs
      refine wpList_nil ?_
      refine x_nb ?_
      exact ⟨k, Nat.lt_succ_self _, n2, n7, hs.sub ⟨rfl, rfl, trivial⟩, hM, hm⟩
    · replace hm := condF hb hm
      refine wp_exit ?_
      refine x_et ?_
      refine x_et ?_
      refine x_eb ?_
      have hm : some n1 = some s4 := hm
      exact ⟨n1, Option.some.inj hm, hs.sub ⟨rfl, trivial⟩, hM⟩
  rintro a w ⟨n3, rfl, hs, hM⟩
  have hm := hk5
  refine x_nt ?_
  refine wp_seq ?_
  refine wp_region_lit ?_
  refine wl hs (y_move hs rfl) rfl ?_; intro a hs
  obtain ⟨y9, h10, hm⟩ := bindE hm
  refine wcall is_131 hs rfl rfl (spec_l1Abs_any n3 _  h10) ?_; rintro a _ w hs ⟨rfl, hX⟩
  have hM : Mem W w [] := hM.call hX
  refine wl hs (y_assign hs rfl) rfl ?_; intro a hs
  refine wpList_nil ?_
  refine x_nt ?_
  refine wp_ret ?_
  have hm : some y9 = some r := hm
  obtain rfl := Option.some.inj hm
  refine x_ret1 rfl hs rfl ⟨_, rfl, ?_⟩
  exact ⟨rfl, hM⟩

theorem spec_l1Sign_any (p0 : Int) (W : World)  {r : Int} (hm : spec_l1Sign_m p0 = some r) : Calls Try.prog 113 [.int .i64 p0].toArray W fun e w => ∃ v, e = .returned v ∧ v = .int .i64 r ∧ Mem W w [] := by
  refine x_enter Try.func113 rfl Try.ntmps113 rfl ?_
  intro a hs
  have hM := Mem.start W
  unfold spec_l1Sign_m at hm
  refine wp_seq ?_
  refine wp_region_lit ?_
  refine wl hs (y_assign hs rfl) rfl ?_; intro a hs
  refine wpList_nil ?_
  refine x_nt ?_
  refine wp_seq ?_
  refine wp_block ?_
  refine wp_seq ?_
  refine wp_region_lit ?_
  refine wl hs (y_move hs rfl) rfl ?_; intro a hs
  refine wl hs (y_gtr hs rfl rfl) rfl ?_; intro a hs
  refine wl hs (y_assign hs rfl) rfl ?_; intro a hs
  refine wpList_nil ?_
  refine x_nt ?_
  refine x_cond hs rfl (fun hb => ?_) (fun hb => ?_)
  · replace hm := condT hb hm
    refine wp_seq ?_
    refine wp_region_lit ?_
    refine wl hs (y_assign hs rfl) rfl ?_; intro a hs
    refine wpList_nil ?_
    refine x_nt ?_
    refine wp_ret ?_
    refine x_rb ?_
    refine x_rt ?_
    have hm : some 1 = some r := hm
    obtain rfl := Option.some.inj hm
    refine x_ret1 rfl hs rfl ⟨_, rfl, ?_⟩
    exact ⟨rfl, hM⟩
  · replace hm := condF hb hm
    refine wp_seq ?_
    refine wp_region_lit ?_
    refine wl hs (y_move hs rfl) rfl ?_; intro a hs
    refine wl hs (y_lss hs rfl rfl) rfl ?_; intro a hs
    refine wl hs (y_assign hs rfl) rfl ?_; intro a hs
    refine wpList_nil ?_
    refine x_nt ?_
    refine x_cond hs rfl (fun hb => ?_) (fun hb => ?_)
    · replace hm := condT hb hm
      refine wp_seq ?_
      refine wp_region_lit ?_
      refine wl hs (y_assign hs rfl) rfl ?_; intro a hs
      refine wpList_nil ?_
      refine x_nt ?_
      refine wp_ret ?_
      refine x_rb ?_
      refine x_rt ?_
      have hm : some (-1) = some r := hm
      obtain rfl := Option.some.inj hm
      refine x_ret1 rfl hs rfl ⟨_, rfl, ?_⟩
      exact ⟨rfl, hM⟩
    · replace hm := condF hb hm
      refine wp_skip ?_
      refine x_nb ?_
      refine x_nt ?_
      refine wp_seq ?_
      refine wp_region_lit ?_
      refine wl hs (y_assign hs rfl) rfl ?_; intro a hs
      refine wpList_nil ?_
      refine x_nt ?_
      refine wp_ret ?_
      have hm : some 0 = some r := hm
      obtain rfl := Option.some.inj hm
      refine x_ret1 rfl hs rfl ⟨_, rfl, ?_⟩
      exact ⟨rfl, hM⟩

theorem impl_abs_any (p0 : Int) (W : World)  {r : Int} (hm : impl_abs_m p0 = some r) : Calls Try.prog 132 [.int .i64 p0].toArray W fun e w => ∃ v, e = .returned v ∧ v = .int .i64 r ∧ Mem W w [] := by
  refine x_enter Try.func132 rfl Try.ntmps132 rfl ?_
  intro a hs
  have hM := Mem.start W
  unfold impl_abs_m at hm
  refine wp_seq ?_
  refine wp_region_lit ?_
  refine wl hs (y_assign hs rfl) rfl ?_; intro a hs
  refine wpList_nil ?_
  refine x_nt ?_
  refine wp_seq ?_
  refine wp_region_lit ?_
  refine wl hs (y_move hs rfl) rfl ?_; intro a hs
  refine wl hs (y_move hs rfl) rfl ?_; intro a hs
  obtain ⟨n1, h2, hm⟩ := bindE hm
  refine wl hs (y_neg hs rfl h2) rfl ?_; intro a hs
  refine wl hs (y_max hs rfl rfl) rfl ?_; intro a hs
  refine wl hs (y_assign hs rfl) rfl ?_; intro a hs
  refine wpList_nil ?_
  refine x_nt ?_
  refine wp_ret ?_
  have hm : some (max p0 n1) = some r := hm
  obtain rfl := Option.some.inj hm
  refine x_ret1 rfl hs rfl ⟨_, rfl, ?_⟩
  exact ⟨rfl, hM⟩

theorem impl_gcd_any (p0 : Int) (p1 : Int) (W : World)  {r : Int} (hm : impl_gcd_m p0 p1 = some r) : Calls Try.prog 128 [.int .i64 p0, .int .i64 p1].toArray W fun e w => ∃ v, e = .returned v ∧ v = .int .i64 r ∧ Mem W w [] := by
  refine x_enter Try.func128 rfl Try.ntmps128 rfl ?_
  intro a hs
  have hM := Mem.start W
  unfold impl_gcd_m at hm
  refine wp_seq ?_
  refine wp_region_lit ?_
  refine wl hs (y_assign hs rfl) rfl ?_; intro a hs
  refine wpList_nil ?_
  refine x_nt ?_
  refine wp_seq ?_
  refine wp_region_lit ?_
  refine wl hs (y_move hs rfl) rfl ?_; intro a hs
  obtain ⟨y1, h2, hm⟩ := bindE hm
  refine wcall is_132 hs rfl rfl (impl_abs_any p0 _  h2) ?_; rintro a _ w hs ⟨rfl, hX⟩
  have hM : Mem W w [] := hM.call hX
  refine wl hs (y_move hs rfl) rfl ?_; intro a hs
  obtain ⟨y3, h4, hm⟩ := bindE hm
  refine wcall is_132 hs rfl rfl (impl_abs_any p1 _  h4) ?_; rintro a _ w hs ⟨rfl, hX⟩
  have hM : Mem W w [] := hM.call hX
  refine wl hs (y_assign hs rfl) rfl ?_; intro a hs
  refine wl hs (y_assign hs rfl) rfl ?_; intro a hs
  refine wpList_nil ?_
  refine x_nt ?_
  refine wp_seq ?_
  obtain ⟨s8, hm, hk9⟩ := bindE hm
  refine x_mid (fun a w => ∃ (n7 : Int), n7 = s8 ∧ Fr a 16 [(0, .int .i64 n7)] ∧ Mem W w []) ?_ ?_
  · refine wp_block ?_
    refine x_loop (fun k a w => ∃ (n5 : Int) (n6 : Int) , Fr a 16 [(0, .int .i64 n5), (1, .int .i64 n6)] ∧ Mem W w [] ∧ impl_gcd_l1 k n5 n6 = some s8) 4000000 ⟨y1, y3, hs.sub ⟨rfl, rfl, trivial⟩, hM, hm⟩ ?_
    rintro k a w ⟨n5, n6, hs, hM, hm⟩
    rcases k with _ | k
    · rewrite [impl_gcd_l1] at hm; cases hm
    rewrite [impl_gcd_l1] at hm
    refine wp_seq ?_
    refine wp_seq ?_
    refine wp_region_lit ?_
    refine wl hs (y_move hs rfl) rfl ?_; intro a hs
    refine wl hs (y_neq hs rfl rfl) rfl ?_; intro a hs
    refine wpList_nil ?_
    refine x_nt ?_
    refine x_cond hs rfl (fun hb => ?_) (fun hb => ?_)
    · replace hm := condT hb hm
      refine wp_skip ?_
      refine x_nt ?_
      refine wp_block ?_
      refine x_regq hmix (by kernel_rfl) ?_
      refine wq hs (fun w1 hw1 => y_move hs rfl) rfl ?_; intro a hs
      refine wq hs (fun w1 hw1 => y_move hs rfl) rfl ?_; intro a hs
      refine wq hs (fun w1 hw1 => y_move hs rfl) rfl ?_; intro a hs
      obtain ⟨n11, h12, hm⟩ := bindE hm
      refine wq hs (fun w1 hw1 => y_rem hs rfl rfl h12) rfl ?_; intro a hs
      refine wq hs (fun w1 hw1 => y_assign hs rfl) rfl ?_; intro a hs
      refine wq hs (fun w1 hw1 => y_assign hs rfl) rfl ?_; intro a hs
      refine wpQuiet_nil ?_
      intro w hw
      replace hM := hM.quiet hw
      refine x_nb ?_
      exact ⟨k, Nat.lt_succ_self _, n6, n11, hs.sub ⟨rfl, rfl, trivial⟩, hM, hm⟩
    · replace hm := condF hb hm
      refine wp_exit ?_
      refine x_et ?_
      refine x_et ?_
      refine x_eb ?_
      have hm : some n5 = some s8 := hm
      exact ⟨n5, Option.some.inj hm, hs.sub ⟨rfl, trivial⟩, hM⟩
  rintro a w ⟨n7, rfl, hs, hM⟩
  have hm := hk9
  refine x_nt ?_
  refine wp_seq ?_
  refine wp_region_lit ?_
  refine wl hs (y_move hs rfl) rfl ?_; intro a hs
  refine wl hs (y_assign hs rfl) rfl ?_; intro a hs
  refine wpList_nil ?_
  refine x_nt ?_
  refine wp_ret ?_
  have hm : some n7 = some r := hm
  obtain rfl := Option.some.inj hm
  refine x_ret1 rfl hs rfl ⟨_, rfl, ?_⟩
  exact ⟨rfl, hM⟩

theorem spec_frGood_any (p0_0 : Int) (p0_1 : Int) (W : World)  {r : Bool} (hm : spec_frGood_m p0_0 p0_1 = some r) : Calls Try.prog 126 [.agg #[.int .i64 p0_0, .int .i64 p0_1]].toArray W fun e w => ∃ v, e = .returned v ∧ v = .bool r ∧ Mem W w [] := by
  refine x_enter Try.func126 rfl Try.ntmps126 rfl ?_
  intro a hs
  have hM := Mem.start W
  unfold spec_frGood_m at hm
  refine wp_seq ?_
  refine wp_region_lit ?_
  refine wmem hs (x_boxS (cs := [.int .i64 p0_0, .int .i64 p0_1]) hs rfl hM) rfl ?_; rintro a _ w hs ⟨g2, rfl, hM⟩
  have hM : Mem W w [aBlk g2 40 [.int .i64 p0_0, .int .i64 p0_1]] := hM
  refine wl hs (y_assign hs rfl) rfl ?_; intro a hs
  refine wpList_nil ?_
  refine x_nt ?_
  refine wp_seq ?_
  refine wp_region_lit ?_
  refine wl hs (y_fieldAddr sT_40 hs rfl rfl) rfl ?_; intro a hs
  refine wl hs (y_load sc_int hs rfl (hM.cellBlk 0 rfl 1 rfl)) rfl ?_; intro a hs
  obtain ⟨y3, h4, hm⟩ := bindE hm
  refine wcall is_55 hs rfl rfl (spec_l1In_any p0_1 1 1000000000 _  h4) ?_; rintro a _ w hs ⟨rfl, hX⟩
  have hM : Mem W w [aBlk g2 40 [.int .i64 p0_0, .int .i64 p0_1]] := hM.call hX
  refine wl hs (y_move hs rfl) rfl ?_; intro a hs
  obtain ⟨b5, hb6, hm⟩ := bindE hm
  refine wlguard (N := 19) (L' := [(10, .bool b5), (1, .pointer (some ⟨g2, 0, none⟩)), (2, .bool false)]) (fun w => Mem W w [aBlk g2 40 [.int .i64 p0_0, .int .i64 p0_1]]) 4 ?_ ?_
  · intro K; rcases Bool.eq_false_or_eq_true y3 with hg7 | hg7
    · have hm := condT hg7 hb6
      refine wlg hs rfl hg7 (y_fieldAddr sT_40 hs rfl rfl) rfl ?_; intro a hs
      refine wlg hs rfl hg7 (y_load sc_int hs rfl (hM.cellBlk 0 rfl 0 rfl)) rfl ?_; intro a hs
      obtain ⟨y8, h9, hm⟩ := bindE hm
      refine wcallg is_55 hs rfl hg7 rfl rfl (spec_l1In_any p0_0 (-1000000000) 1000000000 _  h9) ?_; rintro a _ w hs ⟨rfl, hX⟩
      have hM : Mem W w [aBlk g2 40 [.int .i64 p0_0, .int .i64 p0_1]] := hM.call hX
      have hm : some y8 = some b5 := hm
      cases Option.some.inj hm
      refine wl hs (y_pickT hs rfl hg7 rfl) rfl ?_; intro a hs
      exact K _ _ (hs.sub ⟨rfl, rfl, rfl, trivial⟩) hM
    · have hm := condF hg7 hb6
      refine wls hs rfl hg7 rfl ?_; intro a hs
      refine wls hs rfl hg7 rfl ?_; intro a hs
      refine wls hs rfl hg7 rfl ?_; intro a hs
      have hm : some false = some b5 := hm
      cases Option.some.inj hm
      refine wl hs (y_pickF hs rfl hg7 rfl) rfl ?_; intro a hs
      exact K _ _ (hs.sub ⟨rfl, rfl, rfl, trivial⟩) hM
  intro a w hs hM
  simp only [List.drop_succ_cons, List.drop_zero]
  refine wl hs (y_move hs rfl) rfl ?_; intro a hs
  obtain ⟨b10, hb11, hm⟩ := bindE hm
  refine wlguard (N := 19) (L' := [(18, .bool b10), (2, .bool false)]) (fun w => Mem W w [aBlk g2 40 [.int .i64 p0_0, .int .i64 p0_1]]) 7 ?_ ?_
  · intro K; rcases Bool.eq_false_or_eq_true b5 with hg12 | hg12
    · have hm := condT hg12 hb11
      refine wlg hs rfl hg12 (y_fieldAddr sT_40 hs rfl rfl) rfl ?_; intro a hs
      refine wlg hs rfl hg12 (y_load sc_int hs rfl (hM.cellBlk 0 rfl 0 rfl)) rfl ?_; intro a hs
      refine wlg hs rfl hg12 (y_fieldAddr sT_40 hs rfl rfl) rfl ?_; intro a hs
      refine wlg hs rfl hg12 (y_load sc_int hs rfl (hM.cellBlk 0 rfl 1 rfl)) rfl ?_; intro a hs
      obtain ⟨y13, h14, hm⟩ := bindE hm
      refine wcallg is_125 hs rfl hg12 rfl rfl (spec_frGcd_any p0_0 p0_1 _  h14) ?_; rintro a _ w hs ⟨rfl, hX⟩
      have hM : Mem W w [aBlk g2 40 [.int .i64 p0_0, .int .i64 p0_1]] := hM.call hX
      refine wlg hs rfl hg12 (y_eql hs rfl rfl) rfl ?_; intro a hs
      have hm : some (y13 == 1) = some b10 := hm
      cases Option.some.inj hm
      refine wl hs (y_pickT hs rfl hg12 rfl) rfl ?_; intro a hs
      exact K _ _ (hs.sub ⟨rfl, rfl, trivial⟩) hM
    · have hm := condF hg12 hb11
      refine wls hs rfl hg12 rfl ?_; intro a hs
      refine wls hs rfl hg12 rfl ?_; intro a hs
      refine wls hs rfl hg12 rfl ?_; intro a hs
      refine wls hs rfl hg12 rfl ?_; intro a hs
      refine wls hs rfl hg12 rfl ?_; intro a hs
      refine wls hs rfl hg12 rfl ?_; intro a hs
      have hm : some false = some b10 := hm
      cases Option.some.inj hm
      refine wl hs (y_pickF hs rfl hg12 rfl) rfl ?_; intro a hs
      exact K _ _ (hs.sub ⟨rfl, rfl, trivial⟩) hM
  intro a w hs hM
  simp only [List.drop_succ_cons, List.drop_zero]
  refine wl hs (y_assign hs rfl) rfl ?_; intro a hs
  refine wpList_nil ?_
  refine x_nt ?_
  refine wp_ret ?_
  have hm : some b10 = some r := hm
  obtain rfl := Option.some.inj hm
  refine x_ret1 rfl hs rfl ⟨_, rfl, ?_⟩
  exact ⟨rfl, hM.none_⟩

theorem impl_isFrac_any (p0_0 : Int) (p0_1 : Int) (W : World)  {r : Bool} (hm : impl_isFrac_m p0_0 p0_1 = some r) : Calls Try.prog 107 [.agg #[.int .i64 p0_0, .int .i64 p0_1]].toArray W fun e w => ∃ v, e = .returned v ∧ v = .bool r ∧ Mem W w [] := by
  refine x_enter Try.func107 rfl Try.ntmps107 rfl ?_
  intro a hs
  have hM := Mem.start W
  unfold impl_isFrac_m at hm
  refine wp_seq ?_
  refine wp_region_lit ?_
  refine wmem hs (x_boxS (cs := [.int .i64 p0_0, .int .i64 p0_1]) hs rfl hM) rfl ?_; rintro a _ w hs ⟨g2, rfl, hM⟩
  have hM : Mem W w [aBlk g2 40 [.int .i64 p0_0, .int .i64 p0_1]] := hM
  refine wl hs (y_assign hs rfl) rfl ?_; intro a hs
  refine wpList_nil ?_
  refine x_nt ?_
  refine wp_seq ?_
  refine wp_region_lit ?_
  refine wl hs (y_fieldAddr sT_40 hs rfl rfl) rfl ?_; intro a hs
  refine wl hs (y_load sc_int hs rfl (hM.cellBlk 0 rfl 0 rfl)) rfl ?_; intro a hs
  obtain ⟨y3, h4, hm⟩ := bindE hm
  refine wcall is_96 hs rfl rfl (impl_within_any p0_0 (-1000000000) 1000000000 _  h4) ?_; rintro a _ w hs ⟨rfl, hX⟩
  have hM : Mem W w [aBlk g2 40 [.int .i64 p0_0, .int .i64 p0_1]] := hM.call hX
  refine wl hs (y_move hs rfl) rfl ?_; intro a hs
  obtain ⟨b5, hb6, hm⟩ := bindE hm
  refine wlguard (N := 19) (L' := [(10, .bool b5), (1, .pointer (some ⟨g2, 0, none⟩)), (2, .bool false)]) (fun w => Mem W w [aBlk g2 40 [.int .i64 p0_0, .int .i64 p0_1]]) 4 ?_ ?_
  · intro K; rcases Bool.eq_false_or_eq_true y3 with hg7 | hg7
    · have hm := condT hg7 hb6
      refine wlg hs rfl hg7 (y_fieldAddr sT_40 hs rfl rfl) rfl ?_; intro a hs
      refine wlg hs rfl hg7 (y_load sc_int hs rfl (hM.cellBlk 0 rfl 1 rfl)) rfl ?_; intro a hs
      obtain ⟨y8, h9, hm⟩ := bindE hm
      refine wcallg is_96 hs rfl hg7 rfl rfl (impl_within_any p0_1 1 1000000000 _  h9) ?_; rintro a _ w hs ⟨rfl, hX⟩
      have hM : Mem W w [aBlk g2 40 [.int .i64 p0_0, .int .i64 p0_1]] := hM.call hX
      have hm : some y8 = some b5 := hm
      cases Option.some.inj hm
      refine wl hs (y_pickT hs rfl hg7 rfl) rfl ?_; intro a hs
      exact K _ _ (hs.sub ⟨rfl, rfl, rfl, trivial⟩) hM
    · have hm := condF hg7 hb6
      refine wls hs rfl hg7 rfl ?_; intro a hs
      refine wls hs rfl hg7 rfl ?_; intro a hs
      refine wls hs rfl hg7 rfl ?_; intro a hs
      have hm : some false = some b5 := hm
      cases Option.some.inj hm
      refine wl hs (y_pickF hs rfl hg7 rfl) rfl ?_; intro a hs
      exact K _ _ (hs.sub ⟨rfl, rfl, rfl, trivial⟩) hM
  intro a w hs hM
  simp only [List.drop_succ_cons, List.drop_zero]
  refine wl hs (y_move hs rfl) rfl ?_; intro a hs
  obtain ⟨b10, hb11, hm⟩ := bindE hm
  refine wlguard (N := 19) (L' := [(18, .bool b10), (2, .bool false)]) (fun w => Mem W w [aBlk g2 40 [.int .i64 p0_0, .int .i64 p0_1]]) 7 ?_ ?_
  · intro K; rcases Bool.eq_false_or_eq_true b5 with hg12 | hg12
    · have hm := condT hg12 hb11
      refine wlg hs rfl hg12 (y_fieldAddr sT_40 hs rfl rfl) rfl ?_; intro a hs
      refine wlg hs rfl hg12 (y_load sc_int hs rfl (hM.cellBlk 0 rfl 0 rfl)) rfl ?_; intro a hs
      refine wlg hs rfl hg12 (y_fieldAddr sT_40 hs rfl rfl) rfl ?_; intro a hs
      refine wlg hs rfl hg12 (y_load sc_int hs rfl (hM.cellBlk 0 rfl 1 rfl)) rfl ?_; intro a hs
      obtain ⟨y13, h14, hm⟩ := bindE hm
      refine wcallg is_128 hs rfl hg12 rfl rfl (impl_gcd_any p0_0 p0_1 _  h14) ?_; rintro a _ w hs ⟨rfl, hX⟩
      have hM : Mem W w [aBlk g2 40 [.int .i64 p0_0, .int .i64 p0_1]] := hM.call hX
      refine wlg hs rfl hg12 (y_eql hs rfl rfl) rfl ?_; intro a hs
      have hm : some (y13 == 1) = some b10 := hm
      cases Option.some.inj hm
      refine wl hs (y_pickT hs rfl hg12 rfl) rfl ?_; intro a hs
      exact K _ _ (hs.sub ⟨rfl, rfl, trivial⟩) hM
    · have hm := condF hg12 hb11
      refine wls hs rfl hg12 rfl ?_; intro a hs
      refine wls hs rfl hg12 rfl ?_; intro a hs
      refine wls hs rfl hg12 rfl ?_; intro a hs
      refine wls hs rfl hg12 rfl ?_; intro a hs
      refine wls hs rfl hg12 rfl ?_; intro a hs
      refine wls hs rfl hg12 rfl ?_; intro a hs
      have hm : some false = some b10 := hm
      cases Option.some.inj hm
      refine wl hs (y_pickF hs rfl hg12 rfl) rfl ?_; intro a hs
      exact K _ _ (hs.sub ⟨rfl, rfl, trivial⟩) hM
  intro a w hs hM
  simp only [List.drop_succ_cons, List.drop_zero]
  refine wl hs (y_assign hs rfl) rfl ?_; intro a hs
  refine wpList_nil ?_
  refine x_nt ?_
  refine wp_ret ?_
  have hm : some b10 = some r := hm
  obtain rfl := Option.some.inj hm
  refine x_ret1 rfl hs rfl ⟨_, rfl, ?_⟩
  exact ⟨rfl, hM.none_⟩

theorem spec_frMake_any (p0 : Int) (p1 : Int) (W : World)  {r : Int × Int × Bool} (hm : spec_frMake_m p0 p1 = some r) : Calls Try.prog 105 [.int .i64 p0, .int .i64 p1].toArray W fun e w => ∃ v, e = .returned v ∧ v = .tuple #[.agg #[.int .i64 r.1, .int .i64 r.2.1], .bool r.2.2] ∧ Mem W w [] := by
  refine x_enter Try.func105 rfl Try.ntmps105 rfl ?_
  intro a hs
  have hM := Mem.start W
  unfold spec_frMake_m at hm
  refine wp_seq ?_
  refine wp_region_lit ?_
  refine wmem hs (x_allocS sT_40 hM) rfl ?_; rintro a _ w hs ⟨g2, rfl, hM⟩
  have hM : Mem W w [aBlk g2 40 [.int .i64 0, .int .i64 0]] := hM
  refine wl hs (y_assign hs rfl) rfl ?_; intro a hs
  refine wpList_nil ?_
  refine x_nt ?_
  refine wp_seq ?_
  refine wp_seq ?_
  refine wp_region_lit ?_
  refine wl hs (y_move hs rfl) rfl ?_; intro a hs
  refine wl hs (y_eql hs rfl rfl) rfl ?_; intro a hs
  refine wpList_nil ?_
  refine x_nt ?_
  refine x_cond hs rfl (fun hb => ?_) (fun hb => ?_)
  · replace hm := condT hb hm
    refine wp_seq ?_
    refine wp_region_lit ?_
    refine wl hs (y_build (cs := [.int .i64 0, .int .i64 0]) sT_40 hs rfl trivial rfl) rfl ?_; intro a hs
    refine wstore hs rfl rfl (x_storeS (cs := [.int .i64 0, .int .i64 0]) (us := [.int .i64 0, .int .i64 0]) sT_40 ⟨rfl, rfl, trivial⟩ rfl rfl (hM.front 0 rfl)) ?_; intro w hM
    have hM : Mem W w [aBlk g2 40 [.int .i64 0, .int .i64 0]] := hM
    refine wl hs (y_assign hs rfl) rfl ?_; intro a hs
    refine wpList_nil ?_
    refine x_nt ?_
    refine wp_ret ?_
    refine x_rt ?_
    have hm : some (0, 0, false) = some r := hm
    obtain rfl := Option.some.inj hm
    refine x_retR (rs := [.cell 4 40, .tmp 5]) (vs := [.agg #[.int .i64 0, .int .i64 0], .bool false]) rfl hs ⟨⟨_, rfl, loadS (cs := [.int .i64 0, .int .i64 0]) sT_40 (hM.heapBlk 0 rfl) rfl⟩, rfl, trivial⟩ ⟨_, rfl, ?_⟩
    exact ⟨rfl, hM.none_⟩
  · replace hm := condF hb hm
    refine wp_skip ?_
    refine x_nt ?_
    refine wp_seq ?_
    refine wp_region_lit ?_
    refine wl hs (y_move hs rfl) rfl ?_; intro a hs
    refine wl hs (y_move hs rfl) rfl ?_; intro a hs
    obtain ⟨y3, h4, hm⟩ := bindE hm
    refine wcall is_125 hs rfl rfl (spec_frGcd_any p0 p1 _  h4) ?_; rintro a _ w hs ⟨rfl, hX⟩
    have hM : Mem W w [aBlk g2 40 [.int .i64 0, .int .i64 0]] := hM.call hX
    refine wl hs (y_assign hs rfl) rfl ?_; intro a hs
    refine wpList_nil ?_
    refine x_nt ?_
    refine wp_seq ?_
    refine wp_seq ?_
    refine wp_region_lit ?_
    refine wl hs (y_move hs rfl) rfl ?_; intro a hs
    refine wl hs (y_lss hs rfl rfl) rfl ?_; intro a hs
    refine wpList_nil ?_
    refine x_nt ?_
    obtain ⟨s6, hm, hk7⟩ := bindE hm
    refine x_mid (fun a w => ∃ (n5 : Int), n5 = s6 ∧ Fr a 30 [(0, .int .i64 p0), (1, .int .i64 p1), (4, .pointer (some ⟨g2, 0, none⟩)), (6, .int .i64 n5)] ∧ Mem W w [aBlk g2 40 [.int .i64 0, .int .i64 0]]) ?_ ?_
    · refine x_cond hs rfl (fun hb => ?_) (fun hb => ?_)
      · replace hm := condT hb hm
        refine wp_region_lit ?_
        refine wl hs (y_move hs rfl) rfl ?_; intro a hs
        obtain ⟨n8, h9, hm⟩ := bindE hm
        refine wl hs (y_neg hs rfl h9) rfl ?_; intro a hs
        refine wl hs (y_assign hs rfl) rfl ?_; intro a hs
        refine wpList_nil ?_
        have hm : some n8 = some s6 := hm
        exact ⟨n8, Option.some.inj hm, hs.sub ⟨rfl, rfl, rfl, rfl, trivial⟩, hM⟩
      · replace hm := condF hb hm
        refine wp_skip ?_
        have hm : some y3 = some s6 := hm
        exact ⟨y3, Option.some.inj hm, hs.sub ⟨rfl, rfl, rfl, rfl, trivial⟩, hM⟩
    rintro a w ⟨n5, rfl, hs, hM⟩
    have hm := hk7
    refine x_nt ?_
    refine wp_seq ?_
    refine wc_start hmix [0, 1, 2, 3, 4, 5, 6] (fun w => Mem W w [aBlk g2 40 [.int .i64 0, .int .i64 0]]) (by rfl) ?_
    refine wc (i := 0) (fuel := 8) rfl (by kernel_rfl) (fun w w2 hS hE => hS.quiet hE) hM hs (fun w1 hS => y_move hs rfl) rfl ?_; intro a hs
    refine wc (i := 1) (fuel := 7) rfl (by kernel_rfl) (fun w w2 hS hE => hS.quiet hE) hM hs (fun w1 hS => y_move hs rfl) rfl ?_; intro a hs
    obtain ⟨n10, h11, hm⟩ := bindE hm
    refine wc (i := 2) (fuel := 6) rfl (by kernel_rfl) (fun w w2 hS hE => hS.quiet hE) hM hs (fun w1 hS => y_quo hs rfl rfl h11) rfl ?_; intro a hs
    refine wc (i := 3) (fuel := 5) rfl (by kernel_rfl) (fun w w2 hS hE => hS.quiet hE) hM hs (fun w1 hS => y_move hs rfl) rfl ?_; intro a hs
    refine wc (i := 4) (fuel := 4) rfl (by kernel_rfl) (fun w w2 hS hE => hS.quiet hE) hM hs (fun w1 hS => y_move hs rfl) rfl ?_; intro a hs
    obtain ⟨n12, h13, hm⟩ := bindE hm
    refine wc (i := 5) (fuel := 3) rfl (by kernel_rfl) (fun w w2 hS hE => hS.quiet hE) hM hs (fun w1 hS => y_quo hs rfl rfl h13) rfl ?_; intro a hs
    refine wc (i := 6) (fuel := 2) rfl (by kernel_rfl) (fun w w2 hS hE => hS.quiet hE) hM hs (fun w1 hS => y_build (cs := [.int .i64 n10, .int .i64 n12]) sT_40 hs rfl ⟨rfl, rfl, rfl, rfl, trivial⟩ rfl) rfl ?_; intro a hs
    refine wc_oneS (fuel := 1) 7 rfl (by kernel_rfl) ?_
    intro w hw
    replace hM := hM.quiet hw
    refine wmem hs (x_allocS sT_40 hM) rfl ?_; rintro a _ w hs ⟨g15, rfl, hM⟩
    have hM : Mem W w [aBlk g15 40 [.int .i64 0, .int .i64 0], aBlk g2 40 [.int .i64 0, .int .i64 0]] := hM
    refine on_nil ⟨hM.drop, ?_⟩
    refine wc_one (fuel := 0) 8 rfl (by kernel_rfl) ?_
    intro w hw
    replace hM := hM.quiet hw
    refine wstore hs rfl rfl (x_storeS (cs := [.int .i64 0, .int .i64 0]) (us := [.int .i64 n10, .int .i64 n12]) sT_40 ⟨rfl, rfl, trivial⟩ rfl rfl (hM.front 0 rfl)) ?_; intro w hM
    have hM : Mem W w [aBlk g15 40 [.int .i64 n10, .int .i64 n12], aBlk g2 40 [.int .i64 0, .int .i64 0]] := hM
    refine on_nil ?_
    refine wc_done (by kernel_rfl) ?_
    intro w hw
    replace hM := hM.quiet hw
    refine x_nt ?_
    refine wp_seq ?_
    refine wp_seq ?_
    refine wp_region_lit ?_
    refine wl hs (y_loadS (cs := [.int .i64 n10, .int .i64 n12]) sT_40 hs rfl (hM.heapBlk 0 rfl) rfl) rfl ?_; intro a hs
    obtain ⟨y16, h17, hm⟩ := bindE hm
    refine wcall is_126 hs rfl rfl (spec_frGood_any n10 n12 _  h17) ?_; rintro a _ w hs ⟨rfl, hX⟩
    have hM : Mem W w [aBlk g15 40 [.int .i64 n10, .int .i64 n12], aBlk g2 40 [.int .i64 0, .int .i64 0]] := hM.call hX
    refine wl hs (y_not hs rfl) rfl ?_; intro a hs
    refine wpList_nil ?_
    refine x_nt ?_
    refine x_cond hs rfl (fun hb => ?_) (fun hb => ?_)
    · replace hm := condT hb hm
      refine wp_seq ?_
      refine wp_region_lit ?_
      refine wl hs (y_build (cs := [.int .i64 0, .int .i64 0]) sT_40 hs rfl trivial rfl) rfl ?_; intro a hs
      refine wstore hs rfl rfl (x_storeS (cs := [.int .i64 0, .int .i64 0]) (us := [.int .i64 0, .int .i64 0]) sT_40 ⟨rfl, rfl, trivial⟩ rfl rfl (hM.front 1 rfl)) ?_; intro w hM
      have hM : Mem W w [aBlk g2 40 [.int .i64 0, .int .i64 0], aBlk g15 40 [.int .i64 n10, .int .i64 n12]] := hM
      refine wl hs (y_assign hs rfl) rfl ?_; intro a hs
      refine wpList_nil ?_
      refine x_nt ?_
      refine wp_ret ?_
      refine x_rt ?_
      have hm : some (0, 0, false) = some r := hm
      obtain rfl := Option.some.inj hm
      refine x_retR (rs := [.cell 4 40, .tmp 5]) (vs := [.agg #[.int .i64 0, .int .i64 0], .bool false]) rfl hs ⟨⟨_, rfl, loadS (cs := [.int .i64 0, .int .i64 0]) sT_40 (hM.heapBlk 0 rfl) rfl⟩, rfl, trivial⟩ ⟨_, rfl, ?_⟩
      exact ⟨rfl, hM.none_⟩
    · replace hm := condF hb hm
      refine wp_skip ?_
      refine x_nt ?_
      refine wp_seq ?_
      refine wp_region_lit ?_
      refine wl hs (y_loadS (cs := [.int .i64 n10, .int .i64 n12]) sT_40 hs rfl (hM.heapBlk 0 rfl) rfl) rfl ?_; intro a hs
      refine wstore hs rfl rfl (x_storeS (cs := [.int .i64 0, .int .i64 0]) (us := [.int .i64 n10, .int .i64 n12]) sT_40 ⟨rfl, rfl, trivial⟩ rfl rfl (hM.front 1 rfl)) ?_; intro w hM
      have hM : Mem W w [aBlk g2 40 [.int .i64 n10, .int .i64 n12], aBlk g15 40 [.int .i64 n10, .int .i64 n12]] := hM
      refine wl hs (y_assign hs rfl) rfl ?_; intro a hs
      refine wpList_nil ?_
      refine x_nt ?_
      refine wp_ret ?_
      have hm : some (n10, n12, true) = some r := hm
      obtain rfl := Option.some.inj hm
      refine x_retR (rs := [.cell 4 40, .tmp 5]) (vs := [.agg #[.int .i64 n10, .int .i64 n12], .bool true]) rfl hs ⟨⟨_, rfl, loadS (cs := [.int .i64 n10, .int .i64 n12]) sT_40 (hM.heapBlk 0 rfl) rfl⟩, rfl, trivial⟩ ⟨_, rfl, ?_⟩
      exact ⟨rfl, hM.none_⟩

theorem impl_lowest_any (p0 : Int) (p1 : Int) (W : World)  {r : Int × Int} (hm : impl_lowest_m p0 p1 = some r) : Calls Try.prog 108 [.int .i64 p0, .int .i64 p1].toArray W fun e w => ∃ v, e = .returned v ∧ v = .agg #[.int .i64 r.1, .int .i64 r.2] ∧ Mem W w [] := by
  refine x_enter Try.func108 rfl Try.ntmps108 rfl ?_
  intro a hs
  have hM := Mem.start W
  unfold impl_lowest_m at hm
  refine wp_seq ?_
  refine wp_region_lit ?_
  refine wmem hs (x_allocS sT_40 hM) rfl ?_; rintro a _ w hs ⟨g2, rfl, hM⟩
  have hM : Mem W w [aBlk g2 40 [.int .i64 0, .int .i64 0]] := hM
  refine wpList_nil ?_
  refine x_nt ?_
  refine wp_seq ?_
  refine wp_region_lit ?_
  refine wl hs (y_move hs rfl) rfl ?_; intro a hs
  refine wl hs (y_move hs rfl) rfl ?_; intro a hs
  obtain ⟨y3, h4, hm⟩ := bindE hm
  refine wcall is_128 hs rfl rfl (impl_gcd_any p0 p1 _  h4) ?_; rintro a _ w hs ⟨rfl, hX⟩
  have hM : Mem W w [aBlk g2 40 [.int .i64 0, .int .i64 0]] := hM.call hX
  refine wl hs (y_assign hs rfl) rfl ?_; intro a hs
  refine wpList_nil ?_
  refine x_nt ?_
  refine wp_seq ?_
  refine wp_seq ?_
  refine wp_region_lit ?_
  refine wl hs (y_move hs rfl) rfl ?_; intro a hs
  refine wl hs (y_lss hs rfl rfl) rfl ?_; intro a hs
  refine wpList_nil ?_
  refine x_nt ?_
  obtain ⟨s6, hm, hk7⟩ := bindE hm
  refine x_mid (fun a w => ∃ (n5 : Int), n5 = s6 ∧ Fr a 20 [(0, .int .i64 p0), (1, .int .i64 p1), (4, .pointer (some ⟨g2, 0, none⟩)), (5, .int .i64 n5)] ∧ Mem W w [aBlk g2 40 [.int .i64 0, .int .i64 0]]) ?_ ?_
  · refine x_cond hs rfl (fun hb => ?_) (fun hb => ?_)
    · replace hm := condT hb hm
      refine wp_region_lit ?_
      refine wl hs (y_move hs rfl) rfl ?_; intro a hs
      obtain ⟨n8, h9, hm⟩ := bindE hm
      refine wl hs (y_neg hs rfl h9) rfl ?_; intro a hs
      refine wl hs (y_assign hs rfl) rfl ?_; intro a hs
      refine wpList_nil ?_
      have hm : some n8 = some s6 := hm
      exact ⟨n8, Option.some.inj hm, hs.sub ⟨rfl, rfl, rfl, rfl, trivial⟩, hM⟩
    · replace hm := condF hb hm
      refine wp_skip ?_
      have hm : some y3 = some s6 := hm
      exact ⟨y3, Option.some.inj hm, hs.sub ⟨rfl, rfl, rfl, rfl, trivial⟩, hM⟩
  rintro a w ⟨n5, rfl, hs, hM⟩
  have hm := hk7
  refine x_nt ?_
  refine wp_seq ?_
  refine wc_start hmix [0, 1, 2, 3, 4, 5, 6] (fun w => Mem W w [aBlk g2 40 [.int .i64 0, .int .i64 0]]) (by rfl) ?_
  refine wc (i := 0) (fuel := 7) rfl (by kernel_rfl) (fun w w2 hS hE => hS.quiet hE) hM hs (fun w1 hS => y_move hs rfl) rfl ?_; intro a hs
  refine wc (i := 1) (fuel := 6) rfl (by kernel_rfl) (fun w w2 hS hE => hS.quiet hE) hM hs (fun w1 hS => y_move hs rfl) rfl ?_; intro a hs
  obtain ⟨n10, h11, hm⟩ := bindE hm
  refine wc (i := 2) (fuel := 5) rfl (by kernel_rfl) (fun w w2 hS hE => hS.quiet hE) hM hs (fun w1 hS => y_quo hs rfl rfl h11) rfl ?_; intro a hs
  refine wc (i := 3) (fuel := 4) rfl (by kernel_rfl) (fun w w2 hS hE => hS.quiet hE) hM hs (fun w1 hS => y_move hs rfl) rfl ?_; intro a hs
  refine wc (i := 4) (fuel := 3) rfl (by kernel_rfl) (fun w w2 hS hE => hS.quiet hE) hM hs (fun w1 hS => y_move hs rfl) rfl ?_; intro a hs
  obtain ⟨n12, h13, hm⟩ := bindE hm
  refine wc (i := 5) (fuel := 2) rfl (by kernel_rfl) (fun w w2 hS hE => hS.quiet hE) hM hs (fun w1 hS => y_quo hs rfl rfl h13) rfl ?_; intro a hs
  refine wc (i := 6) (fuel := 1) rfl (by kernel_rfl) (fun w w2 hS hE => hS.quiet hE) hM hs (fun w1 hS => y_build (cs := [.int .i64 n10, .int .i64 n12]) sT_40 hs rfl ⟨rfl, rfl, rfl, rfl, trivial⟩ rfl) rfl ?_; intro a hs
  refine wc_one (fuel := 0) 7 rfl (by kernel_rfl) ?_
  intro w hw
  replace hM := hM.quiet hw
  refine wstore hs rfl rfl (x_storeS (cs := [.int .i64 0, .int .i64 0]) (us := [.int .i64 n10, .int .i64 n12]) sT_40 ⟨rfl, rfl, trivial⟩ rfl rfl (hM.front 0 rfl)) ?_; intro w hM
  have hM : Mem W w [aBlk g2 40 [.int .i64 n10, .int .i64 n12]] := hM
  refine on_nil ?_
  refine wc_done (by kernel_rfl) ?_
  intro w hw
  replace hM := hM.quiet hw
  refine x_nt ?_
  refine wp_ret ?_
  have hm : some (n10, n12) = some r := hm
  obtain rfl := Option.some.inj hm
  refine x_retR (rs := [.cell 4 40]) (vs := [.agg #[.int .i64 n10, .int .i64 n12]]) rfl hs ⟨⟨_, rfl, loadS (cs := [.int .i64 n10, .int .i64 n12]) sT_40 (hM.heapBlk 0 rfl) rfl⟩, trivial⟩ ⟨_, rfl, ?_⟩
  exact ⟨rfl, hM.none_⟩

theorem impl_toldFrac_any (p0_0 : Int) (p0_1 : Int) (W : World)  {r : Int × Int × Bool} (hm : impl_toldFrac_m p0_0 p0_1 = some r) : Calls Try.prog 75 [.agg #[.int .i64 p0_0, .int .i64 p0_1]].toArray W fun e w => ∃ v, e = .returned v ∧ v = .tuple #[.agg #[.int .i64 r.1, .int .i64 r.2.1], .bool r.2.2] ∧ Mem W w [] := by
  refine x_enter Try.func75 rfl Try.ntmps75 rfl ?_
  intro a hs
  have hM := Mem.start W
  unfold impl_toldFrac_m at hm
  refine wp_seq ?_
  refine wp_region_lit ?_
  refine wmem hs (x_boxS (cs := [.int .i64 p0_0, .int .i64 p0_1]) hs rfl hM) rfl ?_; rintro a _ w hs ⟨g2, rfl, hM⟩
  have hM : Mem W w [aBlk g2 40 [.int .i64 p0_0, .int .i64 p0_1]] := hM
  refine wmem hs (x_allocS sT_40 hM) rfl ?_; rintro a _ w hs ⟨g4, rfl, hM⟩
  have hM : Mem W w [aBlk g4 40 [.int .i64 0, .int .i64 0], aBlk g2 40 [.int .i64 p0_0, .int .i64 p0_1]] := hM
  refine wl hs (y_assign hs rfl) rfl ?_; intro a hs
  refine wpList_nil ?_
  refine x_nt ?_
  refine wp_seq ?_
  refine wp_seq ?_
  refine wp_region_lit ?_
  refine wl hs (y_loadS (cs := [.int .i64 p0_0, .int .i64 p0_1]) sT_40 hs rfl (hM.heapBlk 1 rfl) rfl) rfl ?_; intro a hs
  obtain ⟨y5, h6, hm⟩ := bindE hm
  refine wcall is_107 hs rfl rfl (impl_isFrac_any p0_0 p0_1 _  h6) ?_; rintro a _ w hs ⟨rfl, hX⟩
  have hM : Mem W w [aBlk g4 40 [.int .i64 0, .int .i64 0], aBlk g2 40 [.int .i64 p0_0, .int .i64 p0_1]] := hM.call hX
  refine wl hs (y_not hs rfl) rfl ?_; intro a hs
  refine wpList_nil ?_
  refine x_nt ?_
  refine x_cond hs rfl (fun hb => ?_) (fun hb => ?_)
  · replace hm := condT hb hm
    refine wp_seq ?_
    refine wp_region_lit ?_
    refine wl hs (y_build (cs := [.int .i64 0, .int .i64 0]) sT_40 hs rfl trivial rfl) rfl ?_; intro a hs
    refine wstore hs rfl rfl (x_storeS (cs := [.int .i64 0, .int .i64 0]) (us := [.int .i64 0, .int .i64 0]) sT_40 ⟨rfl, rfl, trivial⟩ rfl rfl (hM.front 0 rfl)) ?_; intro w hM
    have hM : Mem W w [aBlk g4 40 [.int .i64 0, .int .i64 0], aBlk g2 40 [.int .i64 p0_0, .int .i64 p0_1]] := hM
    refine wl hs (y_assign hs rfl) rfl ?_; intro a hs
    refine wpList_nil ?_
    refine x_nt ?_
    refine wp_ret ?_
    refine x_rt ?_
    have hm : some (0, 0, false) = some r := hm
    obtain rfl := Option.some.inj hm
    refine x_retR (rs := [.cell 2 40, .tmp 3]) (vs := [.agg #[.int .i64 0, .int .i64 0], .bool false]) rfl hs ⟨⟨_, rfl, loadS (cs := [.int .i64 0, .int .i64 0]) sT_40 (hM.heapBlk 0 rfl) rfl⟩, rfl, trivial⟩ ⟨_, rfl, ?_⟩
    exact ⟨rfl, hM.none_⟩
  · replace hm := condF hb hm
    refine wp_skip ?_
    refine x_nt ?_
    refine wp_seq ?_
    refine wp_region_lit ?_
    refine wl hs (y_loadS (cs := [.int .i64 p0_0, .int .i64 p0_1]) sT_40 hs rfl (hM.heapBlk 1 rfl) rfl) rfl ?_; intro a hs
    refine wstore hs rfl rfl (x_storeS (cs := [.int .i64 0, .int .i64 0]) (us := [.int .i64 p0_0, .int .i64 p0_1]) sT_40 ⟨rfl, rfl, trivial⟩ rfl rfl (hM.front 0 rfl)) ?_; intro w hM
    have hM : Mem W w [aBlk g4 40 [.int .i64 p0_0, .int .i64 p0_1], aBlk g2 40 [.int .i64 p0_0, .int .i64 p0_1]] := hM
    refine wl hs (y_assign hs rfl) rfl ?_; intro a hs
    refine wpList_nil ?_
    refine x_nt ?_
    refine wp_ret ?_
    have hm : some (p0_0, p0_1, true) = some r := hm
    obtain rfl := Option.some.inj hm
    refine x_retR (rs := [.cell 2 40, .tmp 3]) (vs := [.agg #[.int .i64 p0_0, .int .i64 p0_1], .bool true]) rfl hs ⟨⟨_, rfl, loadS (cs := [.int .i64 p0_0, .int .i64 p0_1]) sT_40 (hM.heapBlk 0 rfl) rfl⟩, rfl, trivial⟩ ⟨_, rfl, ?_⟩
    exact ⟨rfl, hM.none_⟩

theorem impl_Frac_compare_any (p0_0 : Int) (p0_1 : Int) (p1_0 : Int) (p1_1 : Int) (W : World)  {r : Int} (hm : impl_Frac_compare_m p0_0 p0_1 p1_0 p1_1 = some r) : Calls Try.prog 111 [.agg #[.int .i64 p0_0, .int .i64 p0_1], .agg #[.int .i64 p1_0, .int .i64 p1_1]].toArray W fun e w => ∃ v, e = .returned v ∧ v = .int .i64 r ∧ Mem W w [] := by
  refine x_enter Try.func111 rfl Try.ntmps111 rfl ?_
  intro a hs
  have hM := Mem.start W
  unfold impl_Frac_compare_m at hm
  refine wp_seq ?_
  refine wp_region_lit ?_
  refine wmem hs (x_boxS (cs := [.int .i64 p0_0, .int .i64 p0_1]) hs rfl hM) rfl ?_; rintro a _ w hs ⟨g2, rfl, hM⟩
  have hM : Mem W w [aBlk g2 40 [.int .i64 p0_0, .int .i64 p0_1]] := hM
  refine wmem hs (x_boxS (cs := [.int .i64 p1_0, .int .i64 p1_1]) hs rfl hM) rfl ?_; rintro a _ w hs ⟨g4, rfl, hM⟩
  have hM : Mem W w [aBlk g4 40 [.int .i64 p1_0, .int .i64 p1_1], aBlk g2 40 [.int .i64 p0_0, .int .i64 p0_1]] := hM
  refine wl hs (y_assign hs rfl) rfl ?_; intro a hs
  refine wpList_nil ?_
  refine x_nt ?_
  refine wp_seq ?_
  refine wp_seq ?_
  refine wp_region_lit ?_
  refine wl hs (y_fieldAddr sT_40 hs rfl rfl) rfl ?_; intro a hs
  refine wl hs (y_load sc_int hs rfl (hM.cellBlk 1 rfl 0 rfl)) rfl ?_; intro a hs
  refine wl hs (y_fieldAddr sT_40 hs rfl rfl) rfl ?_; intro a hs
  refine wl hs (y_load sc_int hs rfl (hM.cellBlk 0 rfl 1 rfl)) rfl ?_; intro a hs
  obtain ⟨n5, h6, hm⟩ := bindE hm
  refine wl hs (y_mul hs rfl rfl h6) rfl ?_; intro a hs
  refine wl hs (y_fieldAddr sT_40 hs rfl rfl) rfl ?_; intro a hs
  refine wl hs (y_load sc_int hs rfl (hM.cellBlk 0 rfl 0 rfl)) rfl ?_; intro a hs
  refine wl hs (y_fieldAddr sT_40 hs rfl rfl) rfl ?_; intro a hs
  refine wl hs (y_load sc_int hs rfl (hM.cellBlk 1 rfl 1 rfl)) rfl ?_; intro a hs
  obtain ⟨n7, h8, hm⟩ := bindE hm
  refine wl hs (y_mul hs rfl rfl h8) rfl ?_; intro a hs
  obtain ⟨n9, h10, hm⟩ := bindE hm
  refine wl hs (y_sub hs rfl rfl h10) rfl ?_; intro a hs
  refine wl hs (y_assign hs rfl) rfl ?_; intro a hs
  refine wpList_nil ?_
  refine x_nt ?_
  refine wp_block ?_
  refine wp_seq ?_
  refine wp_region_lit ?_
  refine wl hs (y_move hs rfl) rfl ?_; intro a hs
  refine wl hs (y_lss hs rfl rfl) rfl ?_; intro a hs
  refine wl hs (y_assign hs rfl) rfl ?_; intro a hs
  refine wpList_nil ?_
  refine x_nt ?_
  refine x_cond hs rfl (fun hb => ?_) (fun hb => ?_)
  · replace hm := condT hb hm
    refine wp_seq ?_
    refine wp_region_lit ?_
    refine wl hs (y_assign hs rfl) rfl ?_; intro a hs
    refine wpList_nil ?_
    refine x_nt ?_
    refine wp_ret ?_
    refine x_rb ?_
    refine x_rt ?_
    have hm : some (-1) = some r := hm
    obtain rfl := Option.some.inj hm
    refine x_ret1 rfl hs rfl ⟨_, rfl, ?_⟩
    exact ⟨rfl, hM.none_⟩
  · replace hm := condF hb hm
    refine wp_seq ?_
    refine wp_region_lit ?_
    refine wl hs (y_move hs rfl) rfl ?_; intro a hs
    refine wl hs (y_gtr hs rfl rfl) rfl ?_; intro a hs
    refine wl hs (y_assign hs rfl) rfl ?_; intro a hs
    refine wpList_nil ?_
    refine x_nt ?_
    refine x_cond hs rfl (fun hb => ?_) (fun hb => ?_)
    · replace hm := condT hb hm
      refine wp_seq ?_
      refine wp_region_lit ?_
      refine wl hs (y_assign hs rfl) rfl ?_; intro a hs
      refine wpList_nil ?_
      refine x_nt ?_
      refine wp_ret ?_
      refine x_rb ?_
      refine x_rt ?_
      have hm : some 1 = some r := hm
      obtain rfl := Option.some.inj hm
      refine x_ret1 rfl hs rfl ⟨_, rfl, ?_⟩
      exact ⟨rfl, hM.none_⟩
    · replace hm := condF hb hm
      refine wp_skip ?_
      refine x_nb ?_
      refine x_nt ?_
      refine wp_seq ?_
      refine wp_region_lit ?_
      refine wl hs (y_assign hs rfl) rfl ?_; intro a hs
      refine wpList_nil ?_
      refine x_nt ?_
      refine wp_ret ?_
      have hm : some 0 = some r := hm
      obtain rfl := Option.some.inj hm
      refine x_ret1 rfl hs rfl ⟨_, rfl, ?_⟩
      exact ⟨rfl, hM.none_⟩

theorem spec_frCmp_any (p0_0 : Int) (p0_1 : Int) (p1_0 : Int) (p1_1 : Int) (W : World)  {r : Int} (hm : spec_frCmp_m p0_0 p0_1 p1_0 p1_1 = some r) : Calls Try.prog 79 [.agg #[.int .i64 p0_0, .int .i64 p0_1], .agg #[.int .i64 p1_0, .int .i64 p1_1]].toArray W fun e w => ∃ v, e = .returned v ∧ v = .int .i64 r ∧ Mem W w [] := by
  refine x_enter Try.func79 rfl Try.ntmps79 rfl ?_
  intro a hs
  have hM := Mem.start W
  unfold spec_frCmp_m at hm
  refine wp_seq ?_
  refine wp_region_lit ?_
  refine wmem hs (x_boxS (cs := [.int .i64 p0_0, .int .i64 p0_1]) hs rfl hM) rfl ?_; rintro a _ w hs ⟨g2, rfl, hM⟩
  have hM : Mem W w [aBlk g2 40 [.int .i64 p0_0, .int .i64 p0_1]] := hM
  refine wmem hs (x_boxS (cs := [.int .i64 p1_0, .int .i64 p1_1]) hs rfl hM) rfl ?_; rintro a _ w hs ⟨g4, rfl, hM⟩
  have hM : Mem W w [aBlk g4 40 [.int .i64 p1_0, .int .i64 p1_1], aBlk g2 40 [.int .i64 p0_0, .int .i64 p0_1]] := hM
  refine wl hs (y_assign hs rfl) rfl ?_; intro a hs
  refine wpList_nil ?_
  refine x_nt ?_
  refine wp_seq ?_
  refine wp_region_lit ?_
  refine wl hs (y_fieldAddr sT_40 hs rfl rfl) rfl ?_; intro a hs
  refine wl hs (y_load sc_int hs rfl (hM.cellBlk 1 rfl 0 rfl)) rfl ?_; intro a hs
  refine wl hs (y_fieldAddr sT_40 hs rfl rfl) rfl ?_; intro a hs
  refine wl hs (y_load sc_int hs rfl (hM.cellBlk 0 rfl 1 rfl)) rfl ?_; intro a hs
  obtain ⟨n5, h6, hm⟩ := bindE hm
  refine wl hs (y_mul hs rfl rfl h6) rfl ?_; intro a hs
  refine wl hs (y_fieldAddr sT_40 hs rfl rfl) rfl ?_; intro a hs
  refine wl hs (y_load sc_int hs rfl (hM.cellBlk 0 rfl 0 rfl)) rfl ?_; intro a hs
  refine wl hs (y_fieldAddr sT_40 hs rfl rfl) rfl ?_; intro a hs
  refine wl hs (y_load sc_int hs rfl (hM.cellBlk 1 rfl 1 rfl)) rfl ?_; intro a hs
  obtain ⟨n7, h8, hm⟩ := bindE hm
  refine wl hs (y_mul hs rfl rfl h8) rfl ?_; intro a hs
  obtain ⟨n9, h10, hm⟩ := bindE hm
  refine wl hs (y_sub hs rfl rfl h10) rfl ?_; intro a hs
  obtain ⟨y11, h12, hm⟩ := bindE hm
  refine wcall is_113 hs rfl rfl (spec_l1Sign_any n9 _  h12) ?_; rintro a _ w hs ⟨rfl, hX⟩
  have hM : Mem W w [aBlk g4 40 [.int .i64 p1_0, .int .i64 p1_1], aBlk g2 40 [.int .i64 p0_0, .int .i64 p0_1]] := hM.call hX
  refine wl hs (y_assign hs rfl) rfl ?_; intro a hs
  refine wpList_nil ?_
  refine x_nt ?_
  refine wp_ret ?_
  have hm : some y11 = some r := hm
  obtain rfl := Option.some.inj hm
  refine x_ret1 rfl hs rfl ⟨_, rfl, ?_⟩
  exact ⟨rfl, hM.none_⟩

theorem spec_frInt_any (p0 : Int) (W : World)  {r : Int × Int} (hm : spec_frInt_m p0 = some r) : Calls Try.prog 80 [.int .i64 p0].toArray W fun e w => ∃ v, e = .returned v ∧ v = .agg #[.int .i64 r.1, .int .i64 r.2] ∧ Mem W w [] := by
  refine x_enter Try.func80 rfl Try.ntmps80 rfl ?_
  intro a hs
  have hM := Mem.start W
  unfold spec_frInt_m at hm
  refine wp_seq ?_
  refine wp_region_lit ?_
  refine wmem hs (x_allocS sT_40 hM) rfl ?_; rintro a _ w hs ⟨g2, rfl, hM⟩
  have hM : Mem W w [aBlk g2 40 [.int .i64 0, .int .i64 0]] := hM
  refine wpList_nil ?_
  refine x_nt ?_
  refine wp_seq ?_
  refine wp_region_lit ?_
  refine wl hs (y_move hs rfl) rfl ?_; intro a hs
  refine wl hs (y_build (cs := [.int .i64 p0, .int .i64 1]) sT_40 hs rfl ⟨rfl, rfl, rfl, rfl, trivial⟩ rfl) rfl ?_; intro a hs
  refine wstore hs rfl rfl (x_storeS (cs := [.int .i64 0, .int .i64 0]) (us := [.int .i64 p0, .int .i64 1]) sT_40 ⟨rfl, rfl, trivial⟩ rfl rfl (hM.front 0 rfl)) ?_; intro w hM
  have hM : Mem W w [aBlk g2 40 [.int .i64 p0, .int .i64 1]] := hM
  refine wpList_nil ?_
  refine x_nt ?_
  refine wp_ret ?_
  have hm : some (p0, 1) = some r := hm
  obtain rfl := Option.some.inj hm
  refine x_retR (rs := [.cell 2 40]) (vs := [.agg #[.int .i64 p0, .int .i64 1]]) rfl hs ⟨⟨_, rfl, loadS (cs := [.int .i64 p0, .int .i64 1]) sT_40 (hM.heapBlk 0 rfl) rfl⟩, trivial⟩ ⟨_, rfl, ?_⟩
  exact ⟨rfl, hM.none_⟩

end Go.Proofs.Ytjhaealoneennaa
