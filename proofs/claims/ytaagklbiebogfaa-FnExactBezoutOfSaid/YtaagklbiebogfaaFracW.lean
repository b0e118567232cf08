/- The code of this unit computes what its mirrors say. Written by program (wip/gen). -/
import Derived.Test.YtaagklbiebogfaaFacts
import Derived.Test.YtaagklbiebogfaaFracM
import Derived.Test.YtaagklbiebogfaaOwnW
namespace Go.Proofs.Ytaagklbiebogfaa
open Go.RowKit
set_option linter.unusedVariables false

theorem spec_l1Abs_any (p0 : Int) (W : World)  {r : Int} (hm : spec_l1Abs_m p0 = some r) : Calls Try.prog 160 [.int .i64 p0].toArray W fun e w => ∃ v, e = .returned v ∧ v = .int .i64 r ∧ Mem W w [] := by
  refine x_enter Try.func160 rfl Try.ntmps160 rfl ?_
  intro a hs
  have hM := Mem.start W
  unfold spec_l1Abs_m at hm
  refine wp_seq ?_
  refine wp_region_lit ?_
  refine wl hs (y_assign hs rfl) rfl ?_; intro a hs
  refine wpList_nil ?_
  refine x_nt ?_
  refine wp_seq ?_
  refine wp_region_lit ?_
  refine wl hs (y_move hs rfl) rfl ?_; intro a hs
  refine wl hs (y_move hs rfl) rfl ?_; intro a hs
  obtain ⟨n1, h2, hm⟩ := bindE hm
  refine wl hs (y_neg hs rfl h2) rfl ?_; intro a hs
  obtain ⟨y3, h4, hm⟩ := bindE hm
  refine wcall is_163 hs rfl rfl (spec_l1Most_any p0 n1 _  h4) ?_; rintro a _ w hs ⟨rfl, hX⟩
  have hM : Mem W w [] := hM.call hX
  refine wl hs (y_assign hs rfl) rfl ?_; intro a hs
  refine wpList_nil ?_
  refine x_nt ?_
  refine wp_ret ?_
  have hm : some y3 = some r := hm
  obtain rfl := Option.some.inj hm
  refine x_ret1 rfl hs rfl ⟨_, rfl, ?_⟩
  exact ⟨rfl, hM⟩

theorem spec_l1Sign_any (p0 : Int) (W : World)  {r : Int} (hm : spec_l1Sign_m p0 = some r) : Calls Try.prog 150 [.int .i64 p0].toArray W fun e w => ∃ v, e = .returned v ∧ v = .int .i64 r ∧ Mem W w [] := by
  refine x_enter Try.func150 rfl Try.ntmps150 rfl ?_
  intro a hs
  have hM := Mem.start W
  unfold spec_l1Sign_m at hm
  refine wp_seq ?_
  refine wp_region_lit ?_
  refine wl hs (y_assign hs rfl) rfl ?_; intro a hs
  refine wpList_nil ?_
  refine x_nt ?_
  refine wp_seq ?_
  refine wp_block ?_
  refine wp_seq ?_
  refine wp_region_lit ?_
  refine wl hs (y_move hs rfl) rfl ?_; intro a hs
  refine wl hs (y_gtr hs rfl rfl) rfl ?_; intro a hs
  refine wl hs (y_assign hs rfl) rfl ?_; intro a hs
  refine wpList_nil ?_
  refine x_nt ?_
  refine x_cond hs rfl (fun hb => ?_) (fun hb => ?_)
  · replace hm := condT hb hm
    refine wp_seq ?_
    refine wp_region_lit ?_
    refine wl hs (y_assign hs rfl) rfl ?_; intro a hs
    refine wpList_nil ?_
    refine x_nt ?_
    refine wp_ret ?_
    refine x_rb ?_
    refine x_rt ?_
    have hm : some 1 = some r := hm
    obtain rfl := Option.some.inj hm
    refine x_ret1 rfl hs rfl ⟨_, rfl, ?_⟩
    exact ⟨rfl, hM⟩
  · replace hm := condF hb hm
    refine wp_seq ?_
    refine wp_region_lit ?_
    refine wl hs (y_move hs rfl) rfl ?_; intro a hs
    refine wl hs (y_lss hs rfl rfl) rfl ?_; intro a hs
    refine wl hs (y_assign hs rfl) rfl ?_; intro a hs
    refine wpList_nil ?_
    refine x_nt ?_
    refine x_cond hs rfl (fun hb => ?_) (fun hb => ?_)
    · replace hm := condT hb hm
      refine wp_seq ?_
      refine wp_region_lit ?_
      refine wl hs (y_assign hs rfl) rfl ?_; intro a hs
      refine wpList_nil ?_
      refine x_nt ?_
      refine wp_ret ?_
      refine x_rb ?_
      refine x_rt ?_
      have hm : some (-1) = some r := hm
      obtain rfl := Option.some.inj hm
      refine x_ret1 rfl hs rfl ⟨_, rfl, ?_⟩
      exact ⟨rfl, hM⟩
    · replace hm := condF hb hm
      refine wp_skip ?_
      refine x_nb ?_
      refine x_nt ?_
      refine wp_seq ?_
      refine wp_region_lit ?_
      refine wl hs (y_assign hs rfl) rfl ?_; intro a hs
      refine wpList_nil ?_
      refine x_nt ?_
      refine wp_ret ?_
      have hm : some 0 = some r := hm
      obtain rfl := Option.some.inj hm
      refine x_ret1 rfl hs rfl ⟨_, rfl, ?_⟩
      exact ⟨rfl, hM⟩

theorem impl_abs_any (p0 : Int) (W : World)  {r : Int} (hm : impl_abs_m p0 = some r) : Calls Try.prog 161 [.int .i64 p0].toArray W fun e w => ∃ v, e = .returned v ∧ v = .int .i64 r ∧ Mem W w [] := by
  refine x_enter Try.func161 rfl Try.ntmps161 rfl ?_
  intro a hs
  have hM := Mem.start W
  unfold impl_abs_m at hm
  refine wp_seq ?_
  refine wp_region_lit ?_
  refine wl hs (y_assign hs rfl) rfl ?_; intro a hs
  refine wpList_nil ?_
  refine x_nt ?_
  refine wp_seq ?_
  refine wp_region_lit ?_
  refine wl hs (y_move hs rfl) rfl ?_; intro a hs
  refine wl hs (y_move hs rfl) rfl ?_; intro a hs
  obtain ⟨n1, h2, hm⟩ := bindE hm
  refine wl hs (y_neg hs rfl h2) rfl ?_; intro a hs
  refine wl hs (y_max hs rfl rfl) rfl ?_; intro a hs
  refine wl hs (y_assign hs rfl) rfl ?_; intro a hs
  refine wpList_nil ?_
  refine x_nt ?_
  refine wp_ret ?_
  have hm : some (max p0 n1) = some r := hm
  obtain rfl := Option.some.inj hm
  refine x_ret1 rfl hs rfl ⟨_, rfl, ?_⟩
  exact ⟨rfl, hM⟩

theorem impl_gcd_any (p0 : Int) (p1 : Int) (W : World)  {r : Int} (hm : impl_gcd_m p0 p1 = some r) : Calls Try.prog 153 [.int .i64 p0, .int .i64 p1].toArray W fun e w => ∃ v, e = .returned v ∧ v = .int .i64 r ∧ Mem W w [] := by
  refine x_enter Try.func153 rfl Try.ntmps153 rfl ?_
  intro a hs
  have hM := Mem.start W
  unfold impl_gcd_m at hm
  refine wp_seq ?_
  refine wp_region_lit ?_
  refine wl hs (y_assign hs rfl) rfl ?_; intro a hs
  refine wpList_nil ?_
  refine x_nt ?_
  refine wp_seq ?_
  refine wp_region_lit ?_
  refine wl hs (y_move hs rfl) rfl ?_; intro a hs
  obtain ⟨y1, h2, hm⟩ := bindE hm
  refine wcall is_161 hs rfl rfl (impl_abs_any p0 _  h2) ?_; rintro a _ w hs ⟨rfl, hX⟩
  have hM : Mem W w [] := hM.call hX
  refine wl hs (y_move hs rfl) rfl ?_; intro a hs
  obtain ⟨y3, h4, hm⟩ := bindE hm
  refine wcall is_161 hs rfl rfl (impl_abs_any p1 _  h4) ?_; rintro a _ w hs ⟨rfl, hX⟩
  have hM : Mem W w [] := hM.call hX
  refine wl hs (y_assign hs rfl) rfl ?_; intro a hs
  refine wl hs (y_assign hs rfl) rfl ?_; intro a hs
  refine wpList_nil ?_
  refine x_nt ?_
  refine wp_seq ?_
  obtain ⟨s8, hm, hk9⟩ := bindE hm
  refine x_mid (fun a w => ∃ (n7 : Int), n7 = s8 ∧ Fr a 16 [(0, .int .i64 n7)] ∧ Mem W w []) ?_ ?_
  · refine wp_block ?_
    refine x_loop (fun k a w => ∃ (n5 : Int) (n6 : Int) , Fr a 16 [(0, .int .i64 n5), (1, .int .i64 n6)] ∧ Mem W w [] ∧ impl_gcd_l1 k n5 n6 = some s8) 4000000 ⟨y1, y3, hs.sub ⟨rfl, rfl, trivial⟩, hM, hm⟩ ?_
    rintro k a w ⟨n5, n6, hs, hM, hm⟩
    rcases k with _ | k
    · rewrite [impl_gcd_l1] at hm; cases hm
    rewrite [impl_gcd_l1] at hm
    refine wp_seq ?_
    refine wp_seq ?_
    refine wp_region_lit ?_
    refine wl hs (y_move hs rfl) rfl ?_; intro a hs
    refine wl hs (y_neq hs rfl rfl) rfl ?_; intro a hs
    refine wpList_nil ?_
    refine x_nt ?_
    refine x_cond hs rfl (fun hb => ?_) (fun hb => ?_)
    · replace hm := condT hb hm
      refine wp_skip ?_
      refine x_nt ?_
      refine wp_block ?_
      refine x_regq hmix (by kernel_rfl) ?_
      refine wq hs (fun w1 hw1 => y_move hs rfl) rfl ?_; intro a hs
      refine wq hs (fun w1 hw1 => y_move hs rfl) rfl ?_; intro a hs
      refine wq hs (fun w1 hw1 => y_move hs rfl) rfl ?_; intro a hs
      obtain ⟨n11, h12, hm⟩ := bindE hm
      refine wq hs (fun w1 hw1 => y_rem hs rfl rfl h12) rfl ?_; intro a hs
      refine wq hs (fun w1 hw1 => y_assign hs rfl) rfl ?_; intro a hs
      refine wq hs (fun w1 hw1 => y_assign hs rfl) rfl ?_; intro a hs
      refine wpQuiet_nil ?_
      intro w hw
      replace hM := hM.quiet hw
      refine x_nb ?_
      exact ⟨k, Nat.lt_succ_self _, n6, n11, hs.sub ⟨rfl, rfl, trivial⟩, hM, hm⟩
    · replace hm := condF hb hm
      refine wp_exit ?_
      refine x_et ?_
      refine x_et ?_
      refine x_eb ?_
      have hm : some n5 = some s8 := hm
      exact ⟨n5, Option.some.inj hm, hs.sub ⟨rfl, trivial⟩, hM⟩
  rintro a w ⟨n7, rfl, hs, hM⟩
  have hm := hk9
  refine x_nt ?_
  refine wp_seq ?_
  refine wp_region_lit ?_
  refine wl hs (y_move hs rfl) rfl ?_; intro a hs
  refine wl hs (y_assign hs rfl) rfl ?_; intro a hs
  refine wpList_nil ?_
  refine x_nt ?_
  refine wp_ret ?_
  have hm : some n7 = some r := hm
  obtain rfl := Option.some.inj hm
  refine x_ret1 rfl hs rfl ⟨_, rfl, ?_⟩
  exact ⟨rfl, hM⟩

end Go.Proofs.Ytaagklbiebogfaa
