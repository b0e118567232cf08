/- The code of this unit computes what its mirrors say. Written by program (wip/gen). -/
import Derived.Test.YtjhaealoneennaaFacts
import Derived.Test.YtjhaealoneennaaCirM
import Derived.Test.YtjhaealoneennaaNumW
import Derived.Test.YtjhaealoneennaaWy2W
namespace Go.Proofs.Ytjhaealoneennaa
open Go.RowKit
set_option linter.unusedVariables false

theorem impl_costOfCircuit_any (v_p0 : Value) (p0 : List (List Int)) (v_p1 : Value) (p1 : List Int) (W : World) (hr_p0 : RdM W v_p0 p0) (hr_p1 : RdI W v_p1 p1) {r : Int} (hm : impl_costOfCircuit_m p0 p1 = some r) : Calls Try.prog 106 [v_p0, v_p1].toArray W fun e w => ∃ v, e = .returned v ∧ v = .int .i64 r ∧ Mem W w [] := by
  refine x_enter Try.func106 rfl Try.ntmps106 rfl ?_
  intro a hs
  have hM := Mem.start W
  unfold impl_costOfCircuit_m at hm
  refine wp_seq ?_
  refine wp_region_lit ?_
  refine wl hs (y_assign hs rfl) rfl ?_; intro a hs
  refine wpList_nil ?_
  refine x_nt ?_
  refine wp_seq ?_
  refine x_regq hmix (by kernel_rfl) ?_
  refine wq hs (fun w1 hw1 => y_move hs rfl) rfl ?_; intro a hs
  refine wq hs (fun w1 hw1 => y_move hs rfl) rfl ?_; intro a hs
  obtain ⟨y1, h2, hm⟩ := bindE hm
  refine qcall (v := .int .i64 y1) is_127 hs rfl rfl (fun w1 hw1 => q_of hw1 (impl_costOfSteps_any v_p0 p0 v_p1 p1 w1 (RdM.below hr_p0 (hM.quiet hw1).bel) (RdI.below hr_p1 (hM.quiet hw1).bel) h2)) ?_; intro a hs
  refine wq hs (fun w1 hw1 => y_move hs rfl) rfl ?_; intro a hs
  refine wq hs (fun w1 hw1 => y_move hs rfl) rfl ?_; intro a hs
  refine wq hs (fun w1 hw1 => y_move hs rfl) rfl ?_; intro a hs
  refine wq hs (fun w1 hw1 => y_len hu_I hs rfl (RdI.below hr_p1 (hM.quiet hw1).bel)) rfl ?_; intro a hs
  obtain ⟨n3, h4, hm⟩ := bindE hm
  refine wq hs (fun w1 hw1 => y_sub hs rfl rfl h4) rfl ?_; intro a hs
  obtain ⟨x5, hx6, hm⟩ := bindE hm
  have he7 := RdI.at_ (RdI.below hr_p1 hM.bel) hx6
  refine wq hs (fun w1 hw1 => y_index ht_I hs rfl rfl (he7.below hw1)) rfl ?_; intro a hs
  refine wq hs (fun w1 hw1 => y_load sc_int hs rfl (he7.below hw1).cell) rfl ?_; intro a hs
  obtain ⟨x8, hx9, hm⟩ := bindE hm
  obtain ⟨u11, he10, hr12⟩ := RdM.at_ hr_p0 hx9
  replace he10 := he10.below hM.bel
  refine wq hs (fun w1 hw1 => y_index ht_M hs rfl rfl (he10.below hw1)) rfl ?_; intro a hs
  refine wq hs (fun w1 hw1 => y_load sc_I hs rfl (he10.below hw1).cell) rfl ?_; intro a hs
  refine wq hs (fun w1 hw1 => y_move hs rfl) rfl ?_; intro a hs
  obtain ⟨x13, hx14, hm⟩ := bindE hm
  have he15 := RdI.at_ (RdI.below hr_p1 hM.bel) hx14
  refine wq hs (fun w1 hw1 => y_index ht_I hs rfl rfl (he15.below hw1)) rfl ?_; intro a hs
  refine wq hs (fun w1 hw1 => y_load sc_int hs rfl (he15.below hw1).cell) rfl ?_; intro a hs
  obtain ⟨x16, hx17, hm⟩ := bindE hm
  have he18 := RdI.at_ (RdI.below hr12 hM.bel) hx17
  refine wq hs (fun w1 hw1 => y_index ht_I hs rfl rfl (he18.below hw1)) rfl ?_; intro a hs
  refine wq hs (fun w1 hw1 => y_load sc_int hs rfl (he18.below hw1).cell) rfl ?_; intro a hs
  obtain ⟨y19, h20, hm⟩ := bindE hm
  refine qcall (v := .int .i64 y19) is_62 hs rfl rfl (fun w1 hw1 => q_of hw1 (impl_product_any y1 x16 w1  h20)) ?_; intro a hs
  refine wq hs (fun w1 hw1 => y_assign hs rfl) rfl ?_; intro a hs
  refine wpQuiet_nil ?_
  intro w hw
  replace hM := hM.quiet hw
  refine x_nt ?_
  refine wp_ret ?_
  have hm : some y19 = some r := hm
  obtain rfl := Option.some.inj hm
  refine x_ret1 rfl hs rfl ⟨_, rfl, ?_⟩
  exact ⟨rfl, hM⟩

end Go.Proofs.Ytjhaealoneennaa
