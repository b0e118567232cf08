/- The code of this unit computes what its mirrors say. Written by program (wip/gen). -/
import Derived.Test.YtjhaealoneennaaFacts
import Derived.Test.YtjhaealoneennaaMx2M
import Derived.Test.YtjhaealoneennaaNumW
namespace Go.Proofs.Ytjhaealoneennaa
open Go.RowKit
set_option linter.unusedVariables false

theorem impl_applied_any (v_p0 : Value) (p0 : List (List Int)) (v_p1 : Value) (p1 : List Int) (W : World) (hr_p0 : RdM W v_p0 p0) (hr_p1 : RdI W v_p1 p1) {r : List Int} (hm : impl_applied_m p0 p1 = some r) : Calls Try.prog 67 [v_p0, v_p1].toArray W fun e w => ∃ v, e = .returned v ∧ Mem W w [aInts 3 v r] := by
  refine x_enter Try.func67 rfl Try.ntmps67 rfl ?_
  intro a hs
  have hM := Mem.start W
  unfold impl_applied_m at hm
  refine wp_seq ?_
  refine wp_region_lit ?_
  refine wl hs (y_assign hs rfl) rfl ?_; intro a hs
  refine wpList_nil ?_
  refine x_nt ?_
  refine wp_seq ?_
  refine wp_region_lit ?_
  refine wmem hs (x_new0I ht_I hM) rfl ?_; intro a v2 w hs hM
  have hM : Mem W w [aInts 3 v2 ([])] := hM
  refine wl hs (y_assign hs rfl) rfl ?_; intro a hs
  refine wpList_nil ?_
  refine x_nt ?_
  refine wp_seq ?_
  refine wp_seq ?_
  refine wp_region_lit ?_
  refine wl hs (y_move hs rfl) rfl ?_; intro a hs
  refine wl hs (y_len hu_M hs rfl (RdM.below hr_p0 hM.bel)) rfl ?_; intro a hs
  refine wl hs (y_move hs rfl) rfl ?_; intro a hs
  refine wpList_nil ?_
  refine x_nt ?_
  obtain ⟨s8, hm, hk9⟩ := bindE hm
  refine x_mid (fun a w => ∃ (v6 : Value), ∃ (l7 : List Int), l7 = s8 ∧ Fr a 23 [(5, v6)] ∧ Mem W w [aInts 3 v6 l7]) ?_ ?_
  · refine wp_block ?_
    refine x_loop (fun k a w => ∃ (q10 : List (List Int)) (j3 : Nat) (v4 : Value) (l5 : List Int) , k = q10.length ∧ Fr a 23 [(1, v_p1), (5, v4), (9, v_p0), (10, .int .i64 (p0.length : Int)), (11, .int .i64 (j3 : Int))] ∧ Mem W w [aInts 3 v4 l5] ∧ impl_applied_l1 p1 q10 j3 l5 = some s8 ∧ List.drop j3 p0 = q10) _ ⟨p0, 0, v2, [], rfl, hs.sub ⟨rfl, rfl, rfl, rfl, rfl, trivial⟩, hM, hm, rfl⟩ ?_
    rintro k a w ⟨q10, j3, v4, l5, rfl, hs, hM, hm, hj3⟩
    rcases q10 with _ | ⟨x11, q10⟩
    · rewrite [impl_applied_l1] at hm
      refine wp_seq ?_
      refine wp_region_lit ?_
      refine wl hs (y_lss hs rfl rfl) rfl ?_; intro a hs
      refine wpList_nil ?_
      refine x_nt ?_
      refine wp_seq ?_
      refine x_condF hs rfl (drop_f hj3) ?_
      refine wp_exit ?_
      refine x_et ?_
      refine x_et ?_
      refine x_eb ?_
      have hm : some l5 = some s8 := hm
      exact ⟨v4, l5, Option.some.inj hm, hs.sub ⟨rfl, trivial⟩, hM⟩
    · rewrite [impl_applied_l1] at hm
      have hx12 := drop_idx hj3
      have hsj3 := ck_succ hj3 (RdS.len (RdM.below hr_p0 hM.bel))
      refine wp_seq ?_
      refine wp_region_lit ?_
      refine wl hs (y_lss hs rfl rfl) rfl ?_; intro a hs
      refine wpList_nil ?_
      refine x_nt ?_
      refine wp_seq ?_
      refine x_condT hs rfl (drop_t hj3) ?_
      refine wp_skip ?_
      refine x_nt ?_
      refine wp_seq ?_
      refine wp_block ?_
      refine wp_seq ?_
      refine wp_region_lit ?_
      obtain ⟨u14, he13, hr15⟩ := RdM.at_ hr_p0 hx12
      replace he13 := he13.below hM.bel
      refine wl hs (y_index ht_M hs rfl rfl he13) rfl ?_; intro a hs
      refine wl hs (y_load sc_I hs rfl he13.cell) rfl ?_; intro a hs
      refine wl hs (y_assign hs rfl) rfl ?_; intro a hs
      refine wpList_nil ?_
      refine x_nt ?_
      refine wp_region_lit ?_
      refine wl hs (y_move hs rfl) rfl ?_; intro a hs
      refine wl hs (y_move hs rfl) rfl ?_; intro a hs
      refine wl hs (y_move hs rfl) rfl ?_; intro a hs
      obtain ⟨y16, h17, hm⟩ := bindE hm
      refine wcall is_99 hs rfl rfl (impl_dot_any u14 x11 v_p1 p1 _ (RdI.below hr15 hM.bel) (RdI.below hr_p1 hM.bel) h17) ?_; rintro a _ w hs ⟨rfl, hX⟩
      have hM : Mem W w [aInts 3 v4 l5] := hM.call hX
      obtain ⟨l18, h19, hm⟩ := bindE hm
      refine wappI hu_I he_int hs hM rfl rfl h19 rfl rfl rfl ?_; intro a v20 w u21 hs hM
      have hM : Mem W w [aInts 3 v20 l18] := hM
      refine wl hs (y_assign hs rfl) rfl ?_; intro a hs
      refine wpList_nil ?_
      refine x_nb ?_
      refine x_nt ?_
      refine wp_region_lit ?_
      refine wl hs (y_add hs rfl rfl hsj3) rfl ?_; intro a hs
      refine wl hs (y_move hs rfl) rfl ?_; intro a hs
      refine wpList_nil ?_
      exact ⟨_, by simp, q10, j3 + 1, v20, l18, rfl, hs.sub ⟨rfl, rfl, rfl, rfl, rfl, trivial⟩, hM, hm, drop_next hj3⟩
  rintro a w ⟨v6, l7, rfl, hs, hM⟩
  have hm := hk9
  refine x_nt ?_
  refine wp_seq ?_
  refine wp_region_lit ?_
  refine wl hs (y_move hs rfl) rfl ?_; intro a hs
  refine wl hs (y_assign hs rfl) rfl ?_; intro a hs
  refine wpList_nil ?_
  refine x_nt ?_
  refine wp_ret ?_
  have hm : some l7 = some r := hm
  obtain rfl := Option.some.inj hm
  refine x_ret1 rfl hs rfl ⟨_, rfl, ?_⟩
  exact hM

end Go.Proofs.Ytjhaealoneennaa
