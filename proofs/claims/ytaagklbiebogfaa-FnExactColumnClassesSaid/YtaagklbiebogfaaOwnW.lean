/- The code of this unit computes what its mirrors say. Written by program (wip/gen). -/
import Derived.Test.YtaagklbiebogfaaFacts
import Derived.Test.YtaagklbiebogfaaOwnM
namespace Go.Proofs.Ytaagklbiebogfaa
open Go.RowKit
set_option linter.unusedVariables false

theorem slices_Clone_int_int_any (v_p0 : Value) (p0 : List Int) (W : World) (hr_p0 : RdI W v_p0 p0) {r : List Int} (hm : slices_Clone_int_int_m p0 = some r) : Calls Try.prog 61 [v_p0].toArray W fun e w => ∃ v, e = .returned v ∧ Mem W w [aInts 3 v r] := by
  refine x_enter Try.func61 rfl Try.ntmps61 rfl ?_
  intro a hs
  have hM := Mem.start W
  unfold slices_Clone_int_int_m at hm
  refine wp_seq ?_
  refine wp_region_lit ?_
  refine wl hs (y_assign hs rfl) rfl ?_; intro a hs
  refine wpList_nil ?_
  refine x_nt ?_
  refine wp_seq ?_
  refine wp_seq ?_
  refine wp_region_lit ?_
  refine wl hs (y_move hs rfl) rfl ?_; intro a hs
  rcases RdS.isnil (RdI.below hr_p0 hM.bel) with ⟨c0, hnv, hnl⟩ | ⟨ad0, n0, c0, hnv⟩
  · subst hnv; subst hnl
    refine wl hs (y_nil_eqlT hu_I hs rfl rfl) rfl ?_; intro a hs
    refine wpList_nil ?_
    refine x_nt ?_
    refine x_condT hs rfl rfl ?_
    refine wp_seq ?_
    refine wp_region_lit ?_
    refine wl hs (y_assign hs rfl) rfl ?_; intro a hs
    refine wpList_nil ?_
    refine x_nt ?_
    refine wp_ret ?_
    refine x_rt ?_
    have hm : some ([]) = some r := hm
    obtain rfl := Option.some.inj hm
    refine x_ret1 rfl hs rfl ⟨_, rfl, ?_⟩
    have hM := hM.nilI 3
    exact hM
  · subst hnv
    refine wl hs (y_nil_eqlF hu_I hs rfl rfl) rfl ?_; intro a hs
    refine wpList_nil ?_
    refine x_nt ?_
    refine x_condF hs rfl rfl ?_
    refine wp_skip ?_
    refine x_nt ?_
    refine wp_seq ?_
    refine wp_region_lit ?_
    refine wmem hs (x_new0I ht_I hM) rfl ?_; intro a v3 w hs hM
    have hM : Mem W w [aInts 3 v3 ([])] := hM
    refine wl hs (y_move hs rfl) rfl ?_; intro a hs
    obtain ⟨l4, h5, hm⟩ := bindE hm
    refine wmem hs (x_appS hu_I he_int hs rfl (hM.front 0 rfl) (RdI.below hr_p0 hM.bel) h5) rfl ?_; intro a v6 w hs hM
    have hM : Mem W w [aInts 3 v6 l4] := hM
    refine wl hs (y_assign hs rfl) rfl ?_; intro a hs
    refine wpList_nil ?_
    refine x_nt ?_
    refine wp_ret ?_
    have hm : some l4 = some r := hm
    obtain rfl := Option.some.inj hm
    refine x_ret1 rfl hs rfl ⟨_, rfl, ?_⟩
    exact hM

theorem spec_l1Most_any (p0 : Int) (p1 : Int) (W : World)  {r : Int} (hm : spec_l1Most_m p0 p1 = some r) : Calls Try.prog 163 [.int .i64 p0, .int .i64 p1].toArray W fun e w => ∃ v, e = .returned v ∧ v = .int .i64 r ∧ Mem W w [] := by
  refine x_enter Try.func163 rfl Try.ntmps163 rfl ?_
  intro a hs
  have hM := Mem.start W
  unfold spec_l1Most_m at hm
  refine wp_seq ?_
  refine wp_region_lit ?_
  refine wl hs (y_assign hs rfl) rfl ?_; intro a hs
  refine wpList_nil ?_
  refine x_nt ?_
  refine wp_seq ?_
  refine wp_seq ?_
  refine wp_region_lit ?_
  refine wl hs (y_move hs rfl) rfl ?_; intro a hs
  refine wl hs (y_move hs rfl) rfl ?_; intro a hs
  refine wl hs (y_gtr hs rfl rfl) rfl ?_; intro a hs
  refine wpList_nil ?_
  refine x_nt ?_
  refine x_cond hs rfl (fun hb => ?_) (fun hb => ?_)
  · replace hm := condT hb hm
    refine wp_seq ?_
    refine wp_region_lit ?_
    refine wl hs (y_move hs rfl) rfl ?_; intro a hs
    refine wl hs (y_assign hs rfl) rfl ?_; intro a hs
    refine wpList_nil ?_
    refine x_nt ?_
    refine wp_ret ?_
    refine x_rt ?_
    have hm : some p0 = some r := hm
    obtain rfl := Option.some.inj hm
    refine x_ret1 rfl hs rfl ⟨_, rfl, ?_⟩
    exact ⟨rfl, hM⟩
  · replace hm := condF hb hm
    refine wp_skip ?_
    refine x_nt ?_
    refine wp_seq ?_
    refine wp_region_lit ?_
    refine wl hs (y_move hs rfl) rfl ?_; intro a hs
    refine wl hs (y_assign hs rfl) rfl ?_; intro a hs
    refine wpList_nil ?_
    refine x_nt ?_
    refine wp_ret ?_
    have hm : some p1 = some r := hm
    obtain rfl := Option.some.inj hm
    refine x_ret1 rfl hs rfl ⟨_, rfl, ?_⟩
    exact ⟨rfl, hM⟩

end Go.Proofs.Ytaagklbiebogfaa
