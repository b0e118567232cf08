/- The code of this unit computes what its mirrors say. Written by program (wip/gen). -/
import Derived.Test.YtjhaealoneennaaFacts
import Derived.Test.YtjhaealoneennaaOwnM
import Derived.Test.YtjhaealoneennaaNumW
namespace Go.Proofs.Ytjhaealoneennaa
open Go.RowKit
set_option linter.unusedVariables false

theorem slices_Clone_int_int_any (v_p0 : Value) (p0 : List Int) (W : World) (hr_p0 : RdI W v_p0 p0) {r : List Int} (hm : slices_Clone_int_int_m p0 = some r) : Calls Try.prog 112 [v_p0].toArray W fun e w => ∃ v, e = .returned v ∧ Mem W w [aInts 3 v r] := by
  refine x_enter Try.func112 rfl Try.ntmps112 rfl ?_
  intro a hs
  have hM := Mem.start W
  unfold slices_Clone_int_int_m at hm
  refine wp_seq ?_
  refine wp_region_lit ?_
  refine wl hs (y_assign hs rfl) rfl ?_; intro a hs
  refine wpList_nil ?_
  refine x_nt ?_
  refine wp_seq ?_
  refine wp_seq ?_
  refine wp_region_lit ?_
  refine wl hs (y_move hs rfl) rfl ?_; intro a hs
  rcases RdS.isnil (RdI.below hr_p0 hM.bel) with ⟨c0, hnv, hnl⟩ | ⟨ad0, n0, c0, hnv⟩
  · subst hnv; subst hnl
    refine wl hs (y_nil_eqlT hu_I hs rfl rfl) rfl ?_; intro a hs
    refine wpList_nil ?_
    refine x_nt ?_
    refine x_condT hs rfl rfl ?_
    refine wp_seq ?_
    refine wp_region_lit ?_
    refine wl hs (y_assign hs rfl) rfl ?_; intro a hs
    refine wpList_nil ?_
    refine x_nt ?_
    refine wp_ret ?_
    refine x_rt ?_
    have hm : some ([]) = some r := hm
    obtain rfl := Option.some.inj hm
    refine x_ret1 rfl hs rfl ⟨_, rfl, ?_⟩
    have hM := hM.nilI 3
    exact hM
  · subst hnv
    refine wl hs (y_nil_eqlF hu_I hs rfl rfl) rfl ?_; intro a hs
    refine wpList_nil ?_
    refine x_nt ?_
    refine x_condF hs rfl rfl ?_
    refine wp_skip ?_
    refine x_nt ?_
    refine wp_seq ?_
    refine wp_region_lit ?_
    refine wmem hs (x_new0I ht_I hM) rfl ?_; intro a v3 w hs hM
    have hM : Mem W w [aInts 3 v3 ([])] := hM
    refine wl hs (y_move hs rfl) rfl ?_; intro a hs
    obtain ⟨l4, h5, hm⟩ := bindE hm
    refine wmem hs (x_appS hu_I he_int hs rfl (hM.front 0 rfl) (RdI.below hr_p0 hM.bel) h5) rfl ?_; intro a v6 w hs hM
    have hM : Mem W w [aInts 3 v6 l4] := hM
    refine wl hs (y_assign hs rfl) rfl ?_; intro a hs
    refine wpList_nil ?_
    refine x_nt ?_
    refine wp_ret ?_
    have hm : some l4 = some r := hm
    obtain rfl := Option.some.inj hm
    refine x_ret1 rfl hs rfl ⟨_, rfl, ?_⟩
    exact hM

theorem impl_clones_any (v_p0 : Value) (p0 : List (List Int)) (W : World) (hr_p0 : RdM W v_p0 p0) {r : List (List Int)} (hm : impl_clones_m p0 = some r) : Calls Try.prog 92 [v_p0].toArray W fun e w => ∃ v, e = .returned v ∧ ∃ vs0, Mem W w [aMat 24 3 v vs0 r] := by
  refine x_enter Try.func92 rfl Try.ntmps92 rfl ?_
  intro a hs
  have hM := Mem.start W
  unfold impl_clones_m at hm
  refine wp_seq ?_
  refine wp_region_lit ?_
  refine wl hs (y_assign hs rfl) rfl ?_; intro a hs
  refine wpList_nil ?_
  refine x_nt ?_
  refine wp_seq ?_
  refine wp_region_lit ?_
  refine wmem hs (x_new0M (ti := 3) ht_M hM) rfl ?_; intro a v2 w hs hM
  have hM : Mem W w [aMat 24 3 v2 ([]) ([])] := hM
  refine wl hs (y_assign hs rfl) rfl ?_; intro a hs
  refine wpList_nil ?_
  refine x_nt ?_
  refine wp_seq ?_
  refine wp_seq ?_
  refine wp_region_lit ?_
  refine wl hs (y_move hs rfl) rfl ?_; intro a hs
  refine wl hs (y_len hu_M hs rfl (RdM.below hr_p0 hM.bel)) rfl ?_; intro a hs
  refine wl hs (y_move hs rfl) rfl ?_; intro a hs
  refine wpList_nil ?_
  refine x_nt ?_
  obtain ⟨s10, hm, hk11⟩ := bindE hm
  refine x_mid (fun a w => ∃ (v7 : Value), ∃ (vs8 : List Value), ∃ (l9 : List (List Int)), l9 = s10 ∧ Fr a 20 [(3, v7)] ∧ Mem W w [aMat 24 3 v7 vs8 l9]) ?_ ?_
  · refine wp_block ?_
    refine x_loop (fun k a w => ∃ (q12 : List (List Int)) (j3 : Nat) (v4 : Value) (vs5 : List Value) (l6 : List (List Int)) , k = q12.length ∧ Fr a 20 [(3, v4), (7, v_p0), (8, .int .i64 (p0.length : Int)), (9, .int .i64 (j3 : Int))] ∧ Mem W w [aMat 24 3 v4 vs5 l6] ∧ impl_clones_l1 q12 j3 l6 = some s10 ∧ List.drop j3 p0 = q12) _ ⟨p0, 0, v2, [], [], rfl, hs.sub ⟨rfl, rfl, rfl, rfl, trivial⟩, hM, hm, rfl⟩ ?_
    rintro k a w ⟨q12, j3, v4, vs5, l6, rfl, hs, hM, hm, hj3⟩
    rcases q12 with _ | ⟨x13, q12⟩
    · rewrite [impl_clones_l1] at hm
      refine wp_seq ?_
      refine wp_region_lit ?_
      refine wl hs (y_lss hs rfl rfl) rfl ?_; intro a hs
      refine wpList_nil ?_
      refine x_nt ?_
      refine wp_seq ?_
      refine x_condF hs rfl (drop_f hj3) ?_
      refine wp_exit ?_
      refine x_et ?_
      refine x_et ?_
      refine x_eb ?_
      have hm : some l6 = some s10 := hm
      exact ⟨v4, vs5, l6, Option.some.inj hm, hs.sub ⟨rfl, trivial⟩, hM⟩
    · rewrite [impl_clones_l1] at hm
      have hx14 := drop_idx hj3
      have hsj3 := ck_succ hj3 (RdS.len (RdM.below hr_p0 hM.bel))
      refine wp_seq ?_
      refine wp_region_lit ?_
      refine wl hs (y_lss hs rfl rfl) rfl ?_; intro a hs
      refine wpList_nil ?_
      refine x_nt ?_
      refine wp_seq ?_
      refine x_condT hs rfl (drop_t hj3) ?_
      refine wp_skip ?_
      refine x_nt ?_
      refine wp_seq ?_
      refine wp_block ?_
      refine wp_seq ?_
      refine wp_region_lit ?_
      obtain ⟨u16, he15, hr17⟩ := RdM.at_ hr_p0 hx14
      replace he15 := he15.below hM.bel
      refine wl hs (y_index ht_M hs rfl rfl he15) rfl ?_; intro a hs
      refine wl hs (y_load sc_I hs rfl he15.cell) rfl ?_; intro a hs
      refine wl hs (y_assign hs rfl) rfl ?_; intro a hs
      refine wpList_nil ?_
      refine x_nt ?_
      refine wp_region_lit ?_
      refine wl hs (y_move hs rfl) rfl ?_; intro a hs
      refine wl hs (y_move hs rfl) rfl ?_; intro a hs
      obtain ⟨y18, h19, hm⟩ := bindE hm
      refine wcall is_112 hs rfl rfl (slices_Clone_int_int_any u16 x13 _ (RdI.below hr17 hM.bel) h19) ?_; rintro a v20 w hs hX
      have hM : Mem W w [aInts 3 v20 y18, aMat 24 3 v4 vs5 l6] := hM.call hX
      obtain ⟨l22, h23, hm⟩ := bindE hm
      refine wappM hu_M he_I hs (hM.front 1 rfl) rfl rfl h23 rfl rfl rfl ?_; intro a v24 w u25 hs hM
      have hM : Mem W w [aMat 24 3 v24 (vs5 ++ [v20]) l22] := hM
      refine wl hs (y_assign hs rfl) rfl ?_; intro a hs
      refine wpList_nil ?_
      refine x_nb ?_
      refine x_nt ?_
      refine wp_region_lit ?_
      refine wl hs (y_add hs rfl rfl hsj3) rfl ?_; intro a hs
      refine wl hs (y_move hs rfl) rfl ?_; intro a hs
      refine wpList_nil ?_
      exact ⟨_, by simp, q12, j3 + 1, v24, (vs5 ++ [v20]), l22, rfl, hs.sub ⟨rfl, rfl, rfl, rfl, trivial⟩, hM, hm, drop_next hj3⟩
  rintro a w ⟨v7, vs8, l9, rfl, hs, hM⟩
  have hm := hk11
  refine x_nt ?_
  refine wp_seq ?_
  refine wp_region_lit ?_
  refine wl hs (y_move hs rfl) rfl ?_; intro a hs
  refine wl hs (y_assign hs rfl) rfl ?_; intro a hs
  refine wpList_nil ?_
  refine x_nt ?_
  refine wp_ret ?_
  have hm : some l9 = some r := hm
  obtain rfl := Option.some.inj hm
  refine x_ret1 rfl hs rfl ⟨_, rfl, ?_⟩
  exact ⟨_, hM⟩

theorem spec_mxOwn_any (v_p0 : Value) (p0 : List (List Int)) (W : World) (hr_p0 : RdM W v_p0 p0) {r : List (List Int)} (hm : spec_mxOwn_m p0 = some r) : Calls Try.prog 117 [v_p0].toArray W fun e w => ∃ v, e = .returned v ∧ ∃ vs0, Mem W w [aMat 24 3 v vs0 r] := by
  refine x_enter Try.func117 rfl Try.ntmps117 rfl ?_
  intro a hs
  have hM := Mem.start W
  unfold spec_mxOwn_m at hm
  refine wp_seq ?_
  refine wp_region_lit ?_
  refine wl hs (y_assign hs rfl) rfl ?_; intro a hs
  refine wpList_nil ?_
  refine x_nt ?_
  refine wp_seq ?_
  refine wp_region_lit ?_
  refine wl hs (y_assign hs rfl) rfl ?_; intro a hs
  have hM := hM.nilM 24 3
  refine wpList_nil ?_
  refine x_nt ?_
  refine wp_seq ?_
  refine wp_seq ?_
  refine wp_region_lit ?_
  refine wl hs (y_move hs rfl) rfl ?_; intro a hs
  refine wl hs (y_len hu_M hs rfl (RdM.below hr_p0 hM.bel)) rfl ?_; intro a hs
  refine wl hs (y_move hs rfl) rfl ?_; intro a hs
  refine wpList_nil ?_
  refine x_nt ?_
  obtain ⟨s9, hm, hk10⟩ := bindE hm
  refine x_mid (fun a w => ∃ (v6 : Value), ∃ (vs7 : List Value), ∃ (l8 : List (List Int)), l8 = s9 ∧ Fr a 19 [(3, v6)] ∧ Mem W w [aMat 24 3 v6 vs7 l8]) ?_ ?_
  · refine wp_block ?_
    refine x_loop (fun k a w => ∃ (q11 : List (List Int)) (j2 : Nat) (v3 : Value) (vs4 : List Value) (l5 : List (List Int)) , k = q11.length ∧ Fr a 19 [(3, v3), (6, v_p0), (7, .int .i64 (p0.length : Int)), (8, .int .i64 (j2 : Int))] ∧ Mem W w [aMat 24 3 v3 vs4 l5] ∧ spec_mxOwn_l1 q11 j2 l5 = some s9 ∧ List.drop j2 p0 = q11) _ ⟨p0, 0, (.slice none 0 0), [], [], rfl, hs.sub ⟨rfl, rfl, rfl, rfl, trivial⟩, hM, hm, rfl⟩ ?_
    rintro k a w ⟨q11, j2, v3, vs4, l5, rfl, hs, hM, hm, hj2⟩
    rcases q11 with _ | ⟨x12, q11⟩
    · rewrite [spec_mxOwn_l1] at hm
      refine wp_seq ?_
      refine wp_region_lit ?_
      refine wl hs (y_lss hs rfl rfl) rfl ?_; intro a hs
      refine wpList_nil ?_
      refine x_nt ?_
      refine wp_seq ?_
      refine x_condF hs rfl (drop_f hj2) ?_
      refine wp_exit ?_
      refine x_et ?_
      refine x_et ?_
      refine x_eb ?_
      have hm : some l5 = some s9 := hm
      exact ⟨v3, vs4, l5, Option.some.inj hm, hs.sub ⟨rfl, trivial⟩, hM⟩
    · rewrite [spec_mxOwn_l1] at hm
      have hx13 := drop_idx hj2
      have hsj2 := ck_succ hj2 (RdS.len (RdM.below hr_p0 hM.bel))
      refine wp_seq ?_
      refine wp_region_lit ?_
      refine wl hs (y_lss hs rfl rfl) rfl ?_; intro a hs
      refine wpList_nil ?_
      refine x_nt ?_
      refine wp_seq ?_
      refine x_condT hs rfl (drop_t hj2) ?_
      refine wp_skip ?_
      refine x_nt ?_
      refine wp_seq ?_
      refine wp_block ?_
      refine wp_seq ?_
      refine wp_region_lit ?_
      obtain ⟨u15, he14, hr16⟩ := RdM.at_ hr_p0 hx13
      replace he14 := he14.below hM.bel
      refine wl hs (y_index ht_M hs rfl rfl he14) rfl ?_; intro a hs
      refine wl hs (y_load sc_I hs rfl he14.cell) rfl ?_; intro a hs
      refine wl hs (y_assign hs rfl) rfl ?_; intro a hs
      refine wpList_nil ?_
      refine x_nt ?_
      refine wp_region_lit ?_
      refine wl hs (y_move hs rfl) rfl ?_; intro a hs
      refine wl hs (y_move hs rfl) rfl ?_; intro a hs
      obtain ⟨y17, h18, hm⟩ := bindE hm
      refine wcall is_114 hs rfl rfl (spec_l1Own_any u15 x12 _ (RdI.below hr16 hM.bel) h18) ?_; rintro a v19 w hs hX
      have hM : Mem W w [aInts 3 v19 y17, aMat 24 3 v3 vs4 l5] := hM.call hX
      obtain ⟨l21, h22, hm⟩ := bindE hm
      refine wappM hu_M he_I hs (hM.front 1 rfl) rfl rfl h22 rfl rfl rfl ?_; intro a v23 w u24 hs hM
      have hM : Mem W w [aMat 24 3 v23 (vs4 ++ [v19]) l21] := hM
      refine wl hs (y_assign hs rfl) rfl ?_; intro a hs
      refine wpList_nil ?_
      refine x_nb ?_
      refine x_nt ?_
      refine wp_region_lit ?_
      refine wl hs (y_add hs rfl rfl hsj2) rfl ?_; intro a hs
      refine wl hs (y_move hs rfl) rfl ?_; intro a hs
      refine wpList_nil ?_
      exact ⟨_, by simp, q11, j2 + 1, v23, (vs4 ++ [v19]), l21, rfl, hs.sub ⟨rfl, rfl, rfl, rfl, trivial⟩, hM, hm, drop_next hj2⟩
  rintro a w ⟨v6, vs7, l8, rfl, hs, hM⟩
  have hm := hk10
  refine x_nt ?_
  refine wp_seq ?_
  refine wp_region_lit ?_
  refine wl hs (y_move hs rfl) rfl ?_; intro a hs
  refine wl hs (y_assign hs rfl) rfl ?_; intro a hs
  refine wpList_nil ?_
  refine x_nt ?_
  refine wp_ret ?_
  have hm : some l8 = some r := hm
  obtain rfl := Option.some.inj hm
  refine x_ret1 rfl hs rfl ⟨_, rfl, ?_⟩
  exact ⟨_, hM⟩

theorem spec_l1Most_any (p0 : Int) (p1 : Int) (W : World)  {r : Int} (hm : spec_l1Most_m p0 p1 = some r) : Calls Try.prog 133 [.int .i64 p0, .int .i64 p1].toArray W fun e w => ∃ v, e = .returned v ∧ v = .int .i64 r ∧ Mem W w [] := by
  refine x_enter Try.func133 rfl Try.ntmps133 rfl ?_
  intro a hs
  have hM := Mem.start W
  unfold spec_l1Most_m at hm
  refine wp_seq ?_
  refine wp_region_lit ?_
  refine wl hs (y_assign hs rfl) rfl ?_; intro a hs
  refine wpList_nil ?_
  refine x_nt ?_
  refine wp_seq ?_
  refine wp_seq ?_
  refine wp_region_lit ?_
  refine wl hs (y_move hs rfl) rfl ?_; intro a hs
  refine wl hs (y_move hs rfl) rfl ?_; intro a hs
  refine wl hs (y_gtr hs rfl rfl) rfl ?_; intro a hs
  refine wpList_nil ?_
  refine x_nt ?_
  refine x_cond hs rfl (fun hb => ?_) (fun hb => ?_)
  · replace hm := condT hb hm
    refine wp_seq ?_
    refine wp_region_lit ?_
    refine wl hs (y_move hs rfl) rfl ?_; intro a hs
    refine wl hs (y_assign hs rfl) rfl ?_; intro a hs
    refine wpList_nil ?_
    refine x_nt ?_
    refine wp_ret ?_
    refine x_rt ?_
    have hm : some p0 = some r := hm
    obtain rfl := Option.some.inj hm
    refine x_ret1 rfl hs rfl ⟨_, rfl, ?_⟩
    exact ⟨rfl, hM⟩
  · replace hm := condF hb hm
    refine wp_skip ?_
    refine x_nt ?_
    refine wp_seq ?_
    refine wp_region_lit ?_
    refine wl hs (y_move hs rfl) rfl ?_; intro a hs
    refine wl hs (y_assign hs rfl) rfl ?_; intro a hs
    refine wpList_nil ?_
    refine x_nt ?_
    refine wp_ret ?_
    have hm : some p1 = some r := hm
    obtain rfl := Option.some.inj hm
    refine x_ret1 rfl hs rfl ⟨_, rfl, ?_⟩
    exact ⟨rfl, hM⟩

end Go.Proofs.Ytjhaealoneennaa
