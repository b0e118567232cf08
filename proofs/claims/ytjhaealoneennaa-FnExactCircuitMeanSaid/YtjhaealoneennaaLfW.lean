/- The code of this unit computes what its mirrors say. Written by program (wip/gen). -/
import Derived.Test.YtjhaealoneennaaFacts
import Derived.Test.YtjhaealoneennaaLfM
namespace Go.Proofs.Ytjhaealoneennaa
open Go.RowKit
set_option linter.unusedVariables false

theorem laws_eqFrac_any (p0_0 : Int) (p0_1 : Int) (p1_0 : Int) (p1_1 : Int) (W : World)  {r : Bool} (hm : laws_eqFrac_m p0_0 p0_1 p1_0 p1_1 = some r) : Calls Try.prog 32 [.agg #[.int .i64 p0_0, .int .i64 p0_1], .agg #[.int .i64 p1_0, .int .i64 p1_1]].toArray W fun e w => ∃ v, e = .returned v ∧ v = .bool r ∧ Mem W w [] := by
  refine x_enter Try.func32 rfl Try.ntmps32 rfl ?_
  intro a hs
  have hM := Mem.start W
  unfold laws_eqFrac_m at hm
  refine wp_seq ?_
  refine wp_region_lit ?_
  refine wmem hs (x_boxS (cs := [.int .i64 p0_0, .int .i64 p0_1]) hs rfl hM) rfl ?_; rintro a _ w hs ⟨g2, rfl, hM⟩
  have hM : Mem W w [aBlk g2 40 [.int .i64 p0_0, .int .i64 p0_1]] := hM
  refine wmem hs (x_boxS (cs := [.int .i64 p1_0, .int .i64 p1_1]) hs rfl hM) rfl ?_; rintro a _ w hs ⟨g4, rfl, hM⟩
  have hM : Mem W w [aBlk g4 40 [.int .i64 p1_0, .int .i64 p1_1], aBlk g2 40 [.int .i64 p0_0, .int .i64 p0_1]] := hM
  refine wl hs (y_assign hs rfl) rfl ?_; intro a hs
  refine wpList_nil ?_
  refine x_nt ?_
  refine wp_seq ?_
  refine wp_seq ?_
  refine wp_region_lit ?_
  refine wl hs (y_fieldAddr sT_40 hs rfl rfl) rfl ?_; intro a hs
  refine wl hs (y_load sc_int hs rfl (hM.cellBlk 1 rfl 0 rfl)) rfl ?_; intro a hs
  refine wl hs (y_fieldAddr sT_40 hs rfl rfl) rfl ?_; intro a hs
  refine wl hs (y_load sc_int hs rfl (hM.cellBlk 0 rfl 0 rfl)) rfl ?_; intro a hs
  refine wl hs (y_neq hs rfl rfl) rfl ?_; intro a hs
  refine wpList_nil ?_
  refine x_nt ?_
  refine x_cond hs rfl (fun hb => ?_) (fun hb => ?_)
  · replace hm := condT hb hm
    refine wp_seq ?_
    refine wp_region_lit ?_
    refine wl hs (y_assign hs rfl) rfl ?_; intro a hs
    refine wpList_nil ?_
    refine x_nt ?_
    refine wp_ret ?_
    refine x_rt ?_
    have hm : some false = some r := hm
    obtain rfl := Option.some.inj hm
    refine x_ret1 rfl hs rfl ⟨_, rfl, ?_⟩
    exact ⟨rfl, hM.none_⟩
  · replace hm := condF hb hm
    refine wp_skip ?_
    refine x_nt ?_
    refine wp_seq ?_
    refine wp_seq ?_
    refine wp_region_lit ?_
    refine wl hs (y_fieldAddr sT_40 hs rfl rfl) rfl ?_; intro a hs
    refine wl hs (y_load sc_int hs rfl (hM.cellBlk 1 rfl 1 rfl)) rfl ?_; intro a hs
    refine wl hs (y_fieldAddr sT_40 hs rfl rfl) rfl ?_; intro a hs
    refine wl hs (y_load sc_int hs rfl (hM.cellBlk 0 rfl 1 rfl)) rfl ?_; intro a hs
    refine wl hs (y_neq hs rfl rfl) rfl ?_; intro a hs
    refine wpList_nil ?_
    refine x_nt ?_
    refine x_cond hs rfl (fun hb => ?_) (fun hb => ?_)
    · replace hm := condT hb hm
      refine wp_seq ?_
      refine wp_region_lit ?_
      refine wl hs (y_assign hs rfl) rfl ?_; intro a hs
      refine wpList_nil ?_
      refine x_nt ?_
      refine wp_ret ?_
      refine x_rt ?_
      have hm : some false = some r := hm
      obtain rfl := Option.some.inj hm
      refine x_ret1 rfl hs rfl ⟨_, rfl, ?_⟩
      exact ⟨rfl, hM.none_⟩
    · replace hm := condF hb hm
      refine wp_skip ?_
      refine x_nt ?_
      refine wp_seq ?_
      refine wp_region_lit ?_
      refine wl hs (y_assign hs rfl) rfl ?_; intro a hs
      refine wpList_nil ?_
      refine x_nt ?_
      refine wp_ret ?_
      have hm : some true = some r := hm
      obtain rfl := Option.some.inj hm
      refine x_ret1 rfl hs rfl ⟨_, rfl, ?_⟩
      exact ⟨rfl, hM.none_⟩

end Go.Proofs.Ytjhaealoneennaa
