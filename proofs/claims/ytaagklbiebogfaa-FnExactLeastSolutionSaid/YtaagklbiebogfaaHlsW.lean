/- The code of this unit computes what its mirrors say. Written by program (wip/gen). -/
import Derived.Test.YtaagklbiebogfaaFacts
import Derived.Test.YtaagklbiebogfaaHlsM
import Derived.Test.YtaagklbiebogfaaNumW
import Derived.Test.YtaagklbiebogfaaLy1W
import Derived.Test.YtaagklbiebogfaaLinW
namespace Go.Proofs.Ytaagklbiebogfaa
open Go.RowKit
set_option linter.unusedVariables false

theorem y_nilCheckP {P : Program} {a : Act} {w : World} {N : Nat} {L : List (Nat × Value)} {d : Option Nat} {ty : TypeId} {pos : String} {af : Array Edge} {gd : Option (Nat × Bool)} {x : Operand} {p : Addr} (hs : Fr a N L) (hx : evL L x = some (.pointer (some p))) : Yld P ⟨d, .nilCheck x, ty, pos, af, gd⟩ a w (.pointer (some p)) := by
  unfold Yld
  simp [execOp, hs.ev hx]
/-- The pointer is nil, or points to a struct of the call's own, whose third field is a new list. -/
theorem impl_systemOf_any (v_p0 : Value) (p0 : List (List Int)) (v_p1 : Value) (p1 : List Int) (W : World) (hr_p0 : RdM W v_p0 p0) (hr_p1 : RdI W v_p1 p1) {r : List Int × Bool} (hm : impl_systemOf_m p0 p1 = some r) : Calls Try.prog 84 [v_p0, v_p1].toArray W fun e w => ∃ v, e = .returned v ∧
    ((r = ([], false) ∧ v = .tuple #[.pointer none, .bool false] ∧ Mem W w []) ∨ (∃ g v2, r.2 = true ∧ v = .tuple #[.pointer (some ⟨g, 0, none⟩), .bool true] ∧ Mem W w [aBlk g 78 [v_p0, v_p1, v2], aInts 3 v2 r.1])) := by
  refine x_enter Try.func84 rfl Try.ntmps84 rfl ?_
  intro a hs
  have hM := Mem.start W
  unfold impl_systemOf_m at hm
  refine wp_seq ?_
  refine wp_region_lit ?_
  refine wl hs (y_assign hs rfl) rfl ?_; intro a hs
  refine wl hs (y_assign hs rfl) rfl ?_; intro a hs
  refine wpList_nil ?_
  refine x_nt ?_
  refine wp_seq ?_
  refine wp_seq ?_
  refine wp_region_lit ?_
  refine wl hs (y_move hs rfl) rfl ?_; intro a hs
  refine wl hs (y_move hs rfl) rfl ?_; intro a hs
  obtain ⟨y1, h2, hm⟩ := bindE hm
  refine wcall is_115 hs rfl rfl (impl_isSystem_any v_p0 p0 v_p1 p1 _ (RdM.below hr_p0 hM.bel) (RdI.below hr_p1 hM.bel) h2) ?_; rintro a _ w hs ⟨rfl, hX⟩
  have hM : Mem W w [] := hM.call hX
  refine wl hs (y_not hs rfl) rfl ?_; intro a hs
  refine wpList_nil ?_
  refine x_nt ?_
  refine x_cond hs rfl (fun hb => ?_) (fun hb => ?_)
  · replace hm := condT hb hm
    refine wp_seq ?_
    refine wp_region_lit ?_
    refine wl hs (y_assign hs rfl) rfl ?_; intro a hs
    refine wl hs (y_assign hs rfl) rfl ?_; intro a hs
    refine wpList_nil ?_
    refine x_nt ?_
    refine wp_ret ?_
    refine x_rt ?_
    have hm : some ([], false) = some r := hm
    obtain rfl := Option.some.inj hm
    refine x_ret2 rfl hs rfl rfl ⟨_, rfl, .inl ⟨rfl, rfl, hM⟩⟩
  · replace hm := condF hb hm
    refine wp_skip ?_
    refine x_nt ?_
    refine wp_seq ?_
    refine wp_region_lit ?_
    refine wl hs (y_move hs rfl) rfl ?_; intro a hs
    refine wl hs (y_move hs rfl) rfl ?_; intro a hs
    obtain ⟨y2, h5, hm⟩ := bindE hm
    refine wcall is_116 hs rfl rfl (impl_leastSolution_any v_p0 p0 v_p1 p1 _ (RdM.below hr_p0 hM.bel) (RdI.below hr_p1 hM.bel) h5) ?_; rintro a v6 w hs hX
    have hM : Mem W w [aInts 3 v6 y2] := hM.call hX
    refine wl hs (y_assign hs rfl) rfl ?_; intro a hs
    refine wpList_nil ?_
    refine x_nt ?_
    refine wp_seq ?_
    refine wp_seq ?_
    refine wp_region_lit ?_
    refine wl hs (y_move hs rfl) rfl ?_; intro a hs
    obtain ⟨y3, h7, hm⟩ := bindE hm
    refine wcall is_117 hs rfl rfl (impl_areNumbers_any v6 y2 _ (hM.rdI 0 rfl) h7) ?_; rintro a _ w hs ⟨rfl, hX⟩
    have hM : Mem W w [aInts 3 v6 y2] := hM.call hX
    refine wl hs (y_not hs rfl) rfl ?_; intro a hs
    refine wpList_nil ?_
    refine x_nt ?_
    refine x_cond hs rfl (fun hb => ?_) (fun hb => ?_)
    · replace hm := condT hb hm
      refine wp_seq ?_
      refine wp_region_lit ?_
      refine wl hs (y_assign hs rfl) rfl ?_; intro a hs
      refine wl hs (y_assign hs rfl) rfl ?_; intro a hs
      refine wpList_nil ?_
      refine x_nt ?_
      refine wp_ret ?_
      refine x_rt ?_
      have hm : some ([], false) = some r := hm
      obtain rfl := Option.some.inj hm
      refine x_ret2 rfl hs rfl rfl ⟨_, rfl, .inl ⟨rfl, rfl, hM.none_⟩⟩
    · replace hm := condF hb hm
      refine wp_skip ?_
      refine x_nt ?_
      refine wp_seq ?_
      refine wp_region_lit ?_
      refine wl hs (y_move hs rfl) rfl ?_; intro a hs
      refine wl hs (y_move hs rfl) rfl ?_; intro a hs
      refine wl hs (y_move hs rfl) rfl ?_; intro a hs
      refine wl hs (y_build (cs := [v_p0, v_p1, v6]) sT_78 hs rfl ⟨rfl, (RdS.one hr_p0), rfl, (RdS.one hr_p1), rfl, (Mem.one hM), trivial⟩ rfl) rfl ?_; intro a hs
      refine wmem hs (x_boxS (cs := [v_p0, v_p1, v6]) hs rfl hM) rfl ?_; rintro a _ w hs ⟨g8, rfl, hM⟩
      refine wl hs (y_assign hs rfl) rfl ?_; intro a hs
      refine wl hs (y_assign hs rfl) rfl ?_; intro a hs
      refine wpList_nil ?_
      refine x_nt ?_
      refine wp_ret ?_
      have hm : some (y2, true) = some r := hm
      obtain rfl := Option.some.inj hm
      refine x_ret2 rfl hs rfl rfl ⟨_, rfl, .inr ⟨g8, v6, rfl, rfl, hM⟩⟩
theorem impl_LeastSolution_any (v_p0 : Value) (p0 : List (List Int)) (v_p1 : Value) (p1 : List Int) (W : World) (hr_p0 : RdM W v_p0 p0) (hr_p1 : RdI W v_p1 p1) {r : (List Int) × Bool} (hm : impl_LeastSolution_m p0 p1 = some r) : Calls Try.prog 39 [v_p0, v_p1].toArray W fun e w => ∃ v, e = .returned v ∧ ∃ v0, v = .tuple #[v0, .bool r.2] ∧ Mem W w [aInts 3 v0 r.1] := by
  refine x_enter Try.func39 rfl Try.ntmps39 rfl ?_
  intro a hs
  have hM := Mem.start W
  unfold impl_LeastSolution_m at hm
  refine wp_seq ?_
  refine wp_region_lit ?_
  refine wl hs (y_assign hs rfl) rfl ?_; intro a hs
  refine wl hs (y_assign hs rfl) rfl ?_; intro a hs
  refine wpList_nil ?_
  refine x_nt ?_
  refine wp_seq ?_
  refine wp_region_lit ?_
  refine wl hs (y_move hs rfl) rfl ?_; intro a hs
  refine wl hs (y_move hs rfl) rfl ?_; intro a hs
  obtain ⟨y1, h2, hm⟩ := bindE hm
  refine wcall is_84 hs rfl rfl (impl_systemOf_any v_p0 p0 v_p1 p1 _ (RdM.below hr_p0 hM.bel) (RdI.below hr_p1 hM.bel) h2) ?_; rintro a v3 w hs hX
  rcases hX with ⟨rfl, rfl, hX⟩ | ⟨g4, v5, h6, rfl, hX⟩
  · have hM : Mem W w [] := hM.call hX
    refine wl hs (y_move hs rfl) rfl ?_; intro a hs
    refine wl hs (y_extract hs rfl rfl) rfl ?_; intro a hs
    refine wl hs (y_extract hs rfl rfl) rfl ?_; intro a hs
    refine wl hs (y_assign hs rfl) rfl ?_; intro a hs
    refine wl hs (y_assign hs rfl) rfl ?_; intro a hs
    refine wpList_nil ?_
    refine x_nt ?_
    refine wp_seq ?_
    refine wp_seq ?_
    refine wp_region_lit ?_
    refine wl hs (y_move hs rfl) rfl ?_; intro a hs
    refine wl hs (y_not hs rfl) rfl ?_; intro a hs
    refine wpList_nil ?_
    refine x_nt ?_
    refine x_condT hs rfl rfl ?_
    refine wp_seq ?_
    refine wp_region_lit ?_
    refine wl hs (y_assign hs rfl) rfl ?_; intro a hs
    refine wl hs (y_assign hs rfl) rfl ?_; intro a hs
    refine wpList_nil ?_
    refine x_nt ?_
    refine wp_ret ?_
    refine x_rt ?_
    have hm : some ([], false) = some r := hm
    obtain rfl := Option.some.inj hm
    refine x_ret2 rfl hs rfl rfl ⟨_, rfl, ?_⟩
    have hM := hM.nilI 3
    exact ⟨_, rfl, hM⟩
  · have hM : Mem W w [aBlk g4 78 [v_p0, v_p1, v5], aInts 3 v5 y1.1] := hM.call hX
    refine wl hs (y_move hs rfl) rfl ?_; intro a hs
    refine wl hs (y_extract hs rfl rfl) rfl ?_; intro a hs
    refine wl hs (y_extract hs rfl rfl) rfl ?_; intro a hs
    refine wl hs (y_assign hs rfl) rfl ?_; intro a hs
    refine wl hs (y_assign hs rfl) rfl ?_; intro a hs
    refine wpList_nil ?_
    refine x_nt ?_
    refine wp_seq ?_
    refine wp_seq ?_
    refine wp_region_lit ?_
    refine wl hs (y_move hs rfl) rfl ?_; intro a hs
    refine wl hs (y_not hs rfl) rfl ?_; intro a hs
    refine wpList_nil ?_
    refine x_nt ?_
    refine x_condF hs rfl rfl ?_
    refine wp_skip ?_
    refine x_nt ?_
    rw [h6] at hm
    refine wp_seq ?_
    refine wp_region_lit ?_
    refine wl hs (y_move hs rfl) rfl ?_; intro a hs
    refine wl hs (y_nilCheckP hs rfl) rfl ?_; intro a hs
    refine wl hs (y_fieldAddr sT_78 hs rfl rfl) rfl ?_; intro a hs
    refine wl hs (y_load sc_I hs rfl (hM.cellBlk 0 rfl 2 rfl)) rfl ?_; intro a hs
    refine wl hs (y_assign hs rfl) rfl ?_; intro a hs
    refine wl hs (y_assign hs rfl) rfl ?_; intro a hs
    refine wpList_nil ?_
    refine x_nt ?_
    refine wp_ret ?_
    have hm : some (y1.1, true) = some r := hm
    obtain rfl := Option.some.inj hm
    refine x_ret2 rfl hs rfl rfl ⟨_, rfl, ?_⟩
    exact ⟨_, rfl, hM.drop⟩

end Go.Proofs.Ytaagklbiebogfaa
