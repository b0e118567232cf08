/- The code of this unit computes what its mirrors say. Written by program (wip/gen). -/
import Derived.Test.YtnnhbkhlipekeaaFacts
import Derived.Test.YtnnhbkhlipekeaaOwnM
import Derived.Test.YtnnhbkhlipekeaaNumW
namespace Go.Proofs.Ytnnhbkhlipekeaa
open Go.RowKit
set_option linter.unusedVariables false

theorem slices_Clone_int_int_any (v_p0 : Value) (p0 : List Int) (W : World) (hr_p0 : RdI W v_p0 p0) {r : List Int} (hm : slices_Clone_int_int_m p0 = some r) : Calls Try.prog 92 [v_p0].toArray W fun e w => ∃ v, e = .returned v ∧ Mem W w [aInts 3 v r] := by
  refine x_enter Try.func92 rfl Try.ntmps92 rfl ?_
  intro a hs
  have hM := Mem.start W
  unfold slices_Clone_int_int_m at hm
  refine wp_seq ?_
  refine wp_region_lit ?_
  refine wl hs (y_assign hs rfl) rfl ?_; intro a hs
  refine wpList_nil ?_
  refine x_nt ?_
  refine wp_seq ?_
  refine wp_seq ?_
  refine wp_region_lit ?_
  refine wl hs (y_move hs rfl) rfl ?_; intro a hs
  rcases RdS.isnil (RdI.below hr_p0 hM.bel) with ⟨c0, hnv, hnl⟩ | ⟨ad0, n0, c0, hnv⟩
  · subst hnv; subst hnl
    refine wl hs (y_nil_eqlT hu_I hs rfl rfl) rfl ?_; intro a hs
    refine wpList_nil ?_
    refine x_nt ?_
    refine x_condT hs rfl rfl ?_
    refine wp_seq ?_
    refine wp_region_lit ?_
    refine wl hs (y_assign hs rfl) rfl ?_; intro a hs
    refine wpList_nil ?_
    refine x_nt ?_
    refine wp_ret ?_
    refine x_rt ?_
    have hm : some ([]) = some r := hm
    obtain rfl := Option.some.inj hm
    refine x_ret1 rfl hs rfl ⟨_, rfl, ?_⟩
    have hM := hM.nilI 3
    exact hM
  · subst hnv
    refine wl hs (y_nil_eqlF hu_I hs rfl rfl) rfl ?_; intro a hs
    refine wpList_nil ?_
    refine x_nt ?_
    refine x_condF hs rfl rfl ?_
    refine wp_skip ?_
    refine x_nt ?_
    refine wp_seq ?_
    refine wp_region_lit ?_
    refine wmem hs (x_new0I ht_I hM) rfl ?_; intro a v3 w hs hM
    have hM : Mem W w [aInts 3 v3 ([])] := hM
    refine wl hs (y_move hs rfl) rfl ?_; intro a hs
    obtain ⟨l4, h5, hm⟩ := bindE hm
    refine wmem hs (x_appS hu_I he_int hs rfl (hM.front 0 rfl) (RdI.below hr_p0 hM.bel) h5) rfl ?_; intro a v6 w hs hM
    have hM : Mem W w [aInts 3 v6 l4] := hM
    refine wl hs (y_assign hs rfl) rfl ?_; intro a hs
    refine wpList_nil ?_
    refine x_nt ?_
    refine wp_ret ?_
    have hm : some l4 = some r := hm
    obtain rfl := Option.some.inj hm
    refine x_ret1 rfl hs rfl ⟨_, rfl, ?_⟩
    exact hM

theorem spec_mxOwn_any (v_p0 : Value) (p0 : List (List Int)) (W : World) (hr_p0 : RdM W v_p0 p0) {r : List (List Int)} (hm : spec_mxOwn_m p0 = some r) : Calls Try.prog 110 [v_p0].toArray W fun e w => ∃ v, e = .returned v ∧ ∃ vs0, Mem W w [aMat 23 3 v vs0 r] := by
  refine x_enter Try.func110 rfl Try.ntmps110 rfl ?_
  intro a hs
  have hM := Mem.start W
  unfold spec_mxOwn_m at hm
  refine wp_seq ?_
  refine wp_region_lit ?_
  refine wl hs (y_assign hs rfl) rfl ?_; intro a hs
  refine wpList_nil ?_
  refine x_nt ?_
  refine wp_seq ?_
  refine wp_region_lit ?_
  refine wl hs (y_assign hs rfl) rfl ?_; intro a hs
  have hM := hM.nilM 23 3
  refine wpList_nil ?_
  refine x_nt ?_
  refine wp_seq ?_
  refine wp_seq ?_
  refine wp_region_lit ?_
  refine wl hs (y_move hs rfl) rfl ?_; intro a hs
  refine wl hs (y_len hu_M hs rfl (RdM.below hr_p0 hM.bel)) rfl ?_; intro a hs
  refine wl hs (y_move hs rfl) rfl ?_; intro a hs
  refine wpList_nil ?_
  refine x_nt ?_
  obtain ⟨s9, hm, hk10⟩ := bindE hm
  refine x_mid (fun a w => ∃ (v6 : Value), ∃ (vs7 : List Value), ∃ (l8 : List (List Int)), l8 = s9 ∧ Fr a 19 [(3, v6)] ∧ Mem W w [aMat 23 3 v6 vs7 l8]) ?_ ?_
  · refine wp_block ?_
    refine x_loop (fun k a w => ∃ (q11 : List (List Int)) (j2 : Nat) (v3 : Value) (vs4 : List Value) (l5 : List (List Int)) , k = q11.length ∧ Fr a 19 [(3, v3), (6, v_p0), (7, .int .i64 (p0.length : Int)), (8, .int .i64 (j2 : Int))] ∧ Mem W w [aMat 23 3 v3 vs4 l5] ∧ spec_mxOwn_l1 q11 j2 l5 = some s9 ∧ List.drop j2 p0 = q11) _ ⟨p0, 0, (.slice none 0 0), [], [], rfl, hs.sub ⟨rfl, rfl, rfl, rfl, trivial⟩, hM, hm, rfl⟩ ?_
    rintro k a w ⟨q11, j2, v3, vs4, l5, rfl, hs, hM, hm, hj2⟩
    rcases q11 with _ | ⟨x12, q11⟩
    · rewrite [spec_mxOwn_l1] at hm
      refine wp_seq ?_
      refine wp_region_lit ?_
      refine wl hs (y_lss hs rfl rfl) rfl ?_; intro a hs
      refine wpList_nil ?_
      refine x_nt ?_
      refine wp_seq ?_
      refine x_condF hs rfl (drop_f hj2) ?_
      refine wp_exit ?_
      refine x_et ?_
      refine x_et ?_
      refine x_eb ?_
      have hm : some l5 = some s9 := hm
      exact ⟨v3, vs4, l5, Option.some.inj hm, hs.sub ⟨rfl, trivial⟩, hM⟩
    · rewrite [spec_mxOwn_l1] at hm
      have hx13 := drop_idx hj2
      have hsj2 := ck_succ hj2 (RdS.len (RdM.below hr_p0 hM.bel))
      refine wp_seq ?_
      refine wp_region_lit ?_
      refine wl hs (y_lss hs rfl rfl) rfl ?_; intro a hs
      refine wpList_nil ?_
      refine x_nt ?_
      refine wp_seq ?_
      refine x_condT hs rfl (drop_t hj2) ?_
      refine wp_skip ?_
      refine x_nt ?_
      refine wp_seq ?_
      refine wp_block ?_
      refine wp_seq ?_
      refine wp_region_lit ?_
      obtain ⟨u15, he14, hr16⟩ := RdM.at_ hr_p0 hx13
      replace he14 := he14.below hM.bel
      refine wl hs (y_index ht_M hs rfl rfl he14) rfl ?_; intro a hs
      refine wl hs (y_load sc_I hs rfl he14.cell) rfl ?_; intro a hs
      refine wl hs (y_assign hs rfl) rfl ?_; intro a hs
      refine wpList_nil ?_
      refine x_nt ?_
      refine wp_region_lit ?_
      refine wl hs (y_move hs rfl) rfl ?_; intro a hs
      refine wl hs (y_move hs rfl) rfl ?_; intro a hs
      obtain ⟨y17, h18, hm⟩ := bindE hm
      refine wcall is_88 hs rfl rfl (spec_l1Own_any u15 x12 _ (RdI.below hr16 hM.bel) h18) ?_; rintro a v19 w hs hX
      have hM : Mem W w [aInts 3 v19 y17, aMat 23 3 v3 vs4 l5] := hM.call hX
      obtain ⟨l21, h22, hm⟩ := bindE hm
      refine wappM hu_M he_I hs (hM.front 1 rfl) rfl rfl h22 rfl rfl rfl ?_; intro a v23 w u24 hs hM
      have hM : Mem W w [aMat 23 3 v23 (vs4 ++ [v19]) l21] := hM
      refine wl hs (y_assign hs rfl) rfl ?_; intro a hs
      refine wpList_nil ?_
      refine x_nb ?_
      refine x_nt ?_
      refine wp_region_lit ?_
      refine wl hs (y_add hs rfl rfl hsj2) rfl ?_; intro a hs
      refine wl hs (y_move hs rfl) rfl ?_; intro a hs
      refine wpList_nil ?_
      exact ⟨_, by simp, q11, j2 + 1, v23, (vs4 ++ [v19]), l21, rfl, hs.sub ⟨rfl, rfl, rfl, rfl, trivial⟩, hM, hm, drop_next hj2⟩
  rintro a w ⟨v6, vs7, l8, rfl, hs, hM⟩
  have hm := hk10
  refine x_nt ?_
  refine wp_seq ?_
  refine wp_region_lit ?_
  refine wl hs (y_move hs rfl) rfl ?_; intro a hs
  refine wl hs (y_assign hs rfl) rfl ?_; intro a hs
  refine wpList_nil ?_
  refine x_nt ?_
  refine wp_ret ?_
  have hm : some l8 = some r := hm
  obtain rfl := Option.some.inj hm
  refine x_ret1 rfl hs rfl ⟨_, rfl, ?_⟩
  exact ⟨_, hM⟩

end Go.Proofs.Ytnnhbkhlipekeaa
