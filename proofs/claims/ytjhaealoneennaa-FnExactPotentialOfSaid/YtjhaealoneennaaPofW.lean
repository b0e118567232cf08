/- The code of this unit computes what its mirrors say. Written by program (wip/gen). -/
import Derived.Test.YtjhaealoneennaaFacts
import Derived.Test.YtjhaealoneennaaPofM
import Derived.Test.YtjhaealoneennaaNumW
import Derived.Test.YtjhaealoneennaaMatW
import Derived.Test.YtjhaealoneennaaWy4W
import Derived.Test.YtjhaealoneennaaEigW
import Derived.Test.YtjhaealoneennaaFracW
import Derived.Test.YtjhaealoneennaaMncW
namespace Go.Proofs.Ytjhaealoneennaa
open Go.RowKit
set_option linter.unusedVariables false

set_option maxHeartbeats 4000000 in
theorem spec_PotentialOf_any (v_p0 : Value) (p0 : List (List Int)) (p1 : Int) (W : World) (hr_p0 : RdM W v_p0 p0) {r : (List Int) × Bool} (hm : spec_PotentialOf_m p0 p1 = some r) : Calls Try.prog 37 [v_p0, .int .i64 p1].toArray W fun e w => ∃ v, e = .returned v ∧ ∃ v0, v = .tuple #[v0, .bool r.2] ∧ Mem W w [aInts 3 v0 r.1] := by
  refine x_enter Try.func37 rfl Try.ntmps37 rfl ?_
  intro a hs
  have hM := Mem.start W
  unfold spec_PotentialOf_m at hm
  refine wp_seq ?_
  refine wp_region_lit ?_
  refine wl hs (y_assign hs rfl) rfl ?_; intro a hs
  refine wl hs (y_assign hs rfl) rfl ?_; intro a hs
  refine wpList_nil ?_
  refine x_nt ?_
  refine wp_seq ?_
  refine wp_seq ?_
  refine wp_region_lit ?_
  refine wl hs (y_move hs rfl) rfl ?_; intro a hs
  obtain ⟨y1, h2, hm⟩ := bindE hm
  refine wcall is_46 hs rfl rfl (spec_mxSquare_any v_p0 p0 _ (RdM.below hr_p0 hM.bel) h2) ?_; rintro a _ w hs ⟨rfl, hX⟩
  have hM : Mem W w [] := hM.call hX
  refine wl hs (y_not hs rfl) rfl ?_; intro a hs
  refine wl hs (y_move hs rfl) rfl ?_; intro a hs
  obtain ⟨b3, hb4, hm⟩ := bindE hm
  refine wlguard (N := 38) (L' := [(14, .bool b3), (0, v_p0), (1, .int .i64 p1)]) (fun w => Mem W w []) 4 ?_ ?_
  · intro K; rcases Bool.eq_false_or_eq_true (!y1) with hg5 | hg5
    · have hm := condT hg5 hb4
      refine wls hs rfl hg5 rfl ?_; intro a hs
      refine wls hs rfl hg5 rfl ?_; intro a hs
      refine wls hs rfl hg5 rfl ?_; intro a hs
      have hm : some true = some b3 := hm
      cases Option.some.inj hm
      refine wl hs (y_pickT hs rfl hg5 rfl) rfl ?_; intro a hs
      exact K _ _ (hs.sub ⟨rfl, rfl, rfl, trivial⟩) hM
    · have hm := condF hg5 hb4
      refine wlg hs rfl hg5 (y_move hs rfl) rfl ?_; intro a hs
      obtain ⟨y6, h7, hm⟩ := bindE hm
      refine wcallg is_64 hs rfl hg5 rfl rfl (spec_poFinite_any p1 _  h7) ?_; rintro a _ w hs ⟨rfl, hX⟩
      have hM : Mem W w [] := hM.call hX
      refine wlg hs rfl hg5 (y_not hs rfl) rfl ?_; intro a hs
      have hm : some (!y6) = some b3 := hm
      cases Option.some.inj hm
      refine wl hs (y_pickF hs rfl hg5 rfl) rfl ?_; intro a hs
      exact K _ _ (hs.sub ⟨rfl, rfl, rfl, trivial⟩) hM
  intro a w hs hM
  simp only [List.drop_succ_cons, List.drop_zero]
  refine wpList_nil ?_
  refine x_nt ?_
  refine x_cond hs rfl (fun hb => ?_) (fun hb => ?_)
  · replace hm := condT hb hm
    refine wp_seq ?_
    refine wp_region_lit ?_
    refine wl hs (y_assign hs rfl) rfl ?_; intro a hs
    refine wl hs (y_assign hs rfl) rfl ?_; intro a hs
    refine wpList_nil ?_
    refine x_nt ?_
    refine wp_ret ?_
    refine x_rt ?_
    have hm : some ([], false) = some r := hm
    obtain rfl := Option.some.inj hm
    refine x_ret2 rfl hs rfl rfl ⟨_, rfl, ?_⟩
    have hM := hM.nilI 3
    exact ⟨_, rfl, hM⟩
  · replace hm := condF hb hm
    refine wp_skip ?_
    refine x_nt ?_
    refine wp_seq ?_
    refine wp_seq ?_
    refine wp_region_lit ?_
    refine wl hs (y_move hs rfl) rfl ?_; intro a hs
    obtain ⟨y9, h10, hm⟩ := bindE hm
    refine wcall is_77 hs rfl rfl (spec_mnLeast_any v_p0 p0 _ (RdM.below hr_p0 hM.bel) h10) ?_; rintro a v11 w hs hX
    have hM : Mem W w [aInts 3 v11 y9] := hM.call hX
    refine wl hs (y_assign hs rfl) rfl ?_; intro a hs
    refine wpList_nil ?_
    refine x_nt ?_
    refine wp_seq ?_
    refine wp_region_lit ?_
    refine wl hs (y_move hs rfl) rfl ?_; intro a hs
    refine wl hs (y_len hu_I hs rfl (hM.rdI 0 rfl)) rfl ?_; intro a hs
    refine wl hs (y_gtr hs rfl rfl) rfl ?_; intro a hs
    refine wl hs (y_move hs rfl) rfl ?_; intro a hs
    obtain ⟨b13, hb14, hm⟩ := bindE hm
    refine wlguard (N := 38) (L' := [(28, .bool b13), (0, v_p0), (1, .int .i64 p1)]) (fun w => Mem W w [aInts 3 v11 y9]) 8 ?_ ?_
    · intro K; rcases Bool.eq_false_or_eq_true (decide ((y9.length : Int) > 0)) with hg15 | hg15
      · have hm := condT hg15 hb14
        refine wlg hs rfl hg15 (y_move hs rfl) rfl ?_; intro a hs
        refine wlg hs rfl hg15 (y_move hs rfl) rfl ?_; intro a hs
        obtain ⟨y16, h17, hm⟩ := bindE hm
        refine wcallg is_73 hs rfl hg15 rfl rfl (spec_mnMean_any v_p0 p0 v11 y9 _ (RdM.below hr_p0 hM.bel) (hM.rdI 0 rfl) h17) ?_; rintro a _ w hs ⟨rfl, hX⟩
        have hM : Mem W w [aInts 3 v11 y9] := hM.call hX
        refine wlg hs rfl hg15 (y_move hs rfl) rfl ?_; intro a hs
        obtain ⟨y18, h19, hm⟩ := bindE hm
        refine wcallg is_80 hs rfl hg15 rfl rfl (spec_frInt_any p1 _  h19) ?_; rintro a _ w hs ⟨rfl, hX⟩
        have hM : Mem W w [aInts 3 v11 y9] := hM.call hX
        obtain ⟨y20, h21, hm⟩ := bindE hm
        refine wcallg is_79 hs rfl hg15 rfl rfl (spec_frCmp_any y16.1 y16.2 y18.1 y18.2 _  h21) ?_; rintro a _ w hs ⟨rfl, hX⟩
        have hM : Mem W w [aInts 3 v11 y9] := hM.call hX
        refine wlg hs rfl hg15 (y_lss hs rfl rfl) rfl ?_; intro a hs
        have hm : some (decide (y20 < 0)) = some b13 := hm
        cases Option.some.inj hm
        refine wl hs (y_pickT hs rfl hg15 rfl) rfl ?_; intro a hs
        exact K _ _ (hs.sub ⟨rfl, rfl, rfl, trivial⟩) hM
      · have hm := condF hg15 hb14
        refine wls hs rfl hg15 rfl ?_; intro a hs
        refine wls hs rfl hg15 rfl ?_; intro a hs
        refine wls hs rfl hg15 rfl ?_; intro a hs
        refine wls hs rfl hg15 rfl ?_; intro a hs
        refine wls hs rfl hg15 rfl ?_; intro a hs
        refine wls hs rfl hg15 rfl ?_; intro a hs
        refine wls hs rfl hg15 rfl ?_; intro a hs
        have hm : some false = some b13 := hm
        cases Option.some.inj hm
        refine wl hs (y_pickF hs rfl hg15 rfl) rfl ?_; intro a hs
        exact K _ _ (hs.sub ⟨rfl, rfl, rfl, trivial⟩) hM
    intro a w hs hM
    simp only [List.drop_succ_cons, List.drop_zero]
    refine wpList_nil ?_
    refine x_nt ?_
    refine x_cond hs rfl (fun hb => ?_) (fun hb => ?_)
    · replace hm := condT hb hm
      refine wp_seq ?_
      refine wp_region_lit ?_
      refine wl hs (y_assign hs rfl) rfl ?_; intro a hs
      refine wl hs (y_assign hs rfl) rfl ?_; intro a hs
      refine wpList_nil ?_
      refine x_nt ?_
      refine wp_ret ?_
      refine x_rt ?_
      have hm : some ([], false) = some r := hm
      obtain rfl := Option.some.inj hm
      refine x_ret2 rfl hs rfl rfl ⟨_, rfl, ?_⟩
      have hM := hM.nilI 3
      exact ⟨_, rfl, (hM.keep_ 1)⟩
    · replace hm := condF hb hm
      refine wp_skip ?_
      refine x_nt ?_
      refine wp_seq ?_
      refine wp_region_lit ?_
      refine wl hs (y_move hs rfl) rfl ?_; intro a hs
      refine wl hs (y_move hs rfl) rfl ?_; intro a hs
      refine wl hs (y_move hs rfl) rfl ?_; intro a hs
      refine wl hs (y_len hu_M hs rfl (RdM.below hr_p0 hM.bel)) rfl ?_; intro a hs
      obtain ⟨_, h25, hm⟩ := bindE hm
      refine wmem hs (x_makeI hu_I he_int hs rfl hM h25) rfl ?_; intro a v24 w hs hM
      have hM : Mem W w [aInts 3 v24 (List.replicate ((p0.length : Int)).toNat (0 : Int)), aInts 3 v11 y9] := hM
      obtain ⟨y26, h27, hm⟩ := bindE hm
      refine wcall is_82 hs rfl rfl (spec_mnWays_any v_p0 p0 p1 v24 (List.replicate ((p0.length : Int)).toNat (0 : Int)) _ (RdM.below hr_p0 hM.bel) (hM.rdI 0 rfl) h27) ?_; rintro a v28 w hs hX
      have hM : Mem W w [aInts 3 v28 y26, aInts 3 v24 (List.replicate ((p0.length : Int)).toNat (0 : Int)), aInts 3 v11 y9] := hM.call hX
      obtain ⟨y30, h31, hm⟩ := bindE hm
      refine wcall is_81 hs rfl rfl (spec_mnIf_any v28 y26 _ (hM.rdI 0 rfl) h31) ?_; rintro a _ w hs ⟨rfl, hX⟩
      have hM : Mem W w [aInts 3 v28 y26, aInts 3 v24 (List.replicate ((p0.length : Int)).toNat (0 : Int)), aInts 3 v11 y9] := hM.call hX
      have hM : Mem W w [aInts 3 (cond y30.1 v28 (.slice none 0 0)) (cond y30.1 y26 []), aInts 3 v24 (List.replicate ((p0.length : Int)).toNat (0 : Int)), aInts 3 v11 y9] := (hM).condI y30.1
      refine wl hs (y_extract hs rfl rfl) rfl ?_; intro a hs
      refine wl hs (y_extract hs rfl rfl) rfl ?_; intro a hs
      refine wl hs (y_assign hs rfl) rfl ?_; intro a hs
      refine wl hs (y_assign hs rfl) rfl ?_; intro a hs
      refine wpList_nil ?_
      refine x_nt ?_
      refine wp_ret ?_
      have hm : some ((cond y30.1 y26 []), y30.2) = some r := hm
      obtain rfl := Option.some.inj hm
      refine x_ret2 rfl hs rfl rfl ⟨_, rfl, ?_⟩
      exact ⟨_, rfl, (hM.keep_ 1)⟩

set_option maxHeartbeats 4000000 in
theorem impl_PotentialOf_any (v_p0 : Value) (p0 : List (List Int)) (p1 : Int) (W : World) (hr_p0 : RdM W v_p0 p0) {r : (List Int) × Bool} (hm : impl_PotentialOf_m p0 p1 = some r) : Calls Try.prog 38 [v_p0, .int .i64 p1].toArray W fun e w => ∃ v, e = .returned v ∧ ∃ v0, v = .tuple #[v0, .bool r.2] ∧ Mem W w [aInts 3 v0 r.1] := by
  refine x_enter Try.func38 rfl Try.ntmps38 rfl ?_
  intro a hs
  have hM := Mem.start W
  unfold impl_PotentialOf_m at hm
  refine wp_seq ?_
  refine wp_region_lit ?_
  refine wl hs (y_assign hs rfl) rfl ?_; intro a hs
  refine wl hs (y_assign hs rfl) rfl ?_; intro a hs
  refine wpList_nil ?_
  refine x_nt ?_
  refine wp_seq ?_
  refine wp_seq ?_
  refine wp_region_lit ?_
  refine wl hs (y_move hs rfl) rfl ?_; intro a hs
  obtain ⟨y1, h2, hm⟩ := bindE hm
  refine wcall is_50 hs rfl rfl (impl_isSquare_any v_p0 p0 _ (RdM.below hr_p0 hM.bel) h2) ?_; rintro a _ w hs ⟨rfl, hX⟩
  have hM : Mem W w [] := hM.call hX
  refine wl hs (y_not hs rfl) rfl ?_; intro a hs
  refine wl hs (y_move hs rfl) rfl ?_; intro a hs
  obtain ⟨b3, hb4, hm⟩ := bindE hm
  refine wlguard (N := 45) (L' := [(18, .bool b3), (0, v_p0), (1, .int .i64 p1)]) (fun w => Mem W w []) 4 ?_ ?_
  · intro K; rcases Bool.eq_false_or_eq_true (!y1) with hg5 | hg5
    · have hm := condT hg5 hb4
      refine wls hs rfl hg5 rfl ?_; intro a hs
      refine wls hs rfl hg5 rfl ?_; intro a hs
      refine wls hs rfl hg5 rfl ?_; intro a hs
      have hm : some true = some b3 := hm
      cases Option.some.inj hm
      refine wl hs (y_pickT hs rfl hg5 rfl) rfl ?_; intro a hs
      exact K _ _ (hs.sub ⟨rfl, rfl, rfl, trivial⟩) hM
    · have hm := condF hg5 hb4
      refine wlg hs rfl hg5 (y_move hs rfl) rfl ?_; intro a hs
      obtain ⟨y6, h7, hm⟩ := bindE hm
      refine wcallg is_83 hs rfl hg5 rfl rfl (impl_isFinite_any p1 _  h7) ?_; rintro a _ w hs ⟨rfl, hX⟩
      have hM : Mem W w [] := hM.call hX
      refine wlg hs rfl hg5 (y_not hs rfl) rfl ?_; intro a hs
      have hm : some (!y6) = some b3 := hm
      cases Option.some.inj hm
      refine wl hs (y_pickF hs rfl hg5 rfl) rfl ?_; intro a hs
      exact K _ _ (hs.sub ⟨rfl, rfl, rfl, trivial⟩) hM
  intro a w hs hM
  simp only [List.drop_succ_cons, List.drop_zero]
  refine wpList_nil ?_
  refine x_nt ?_
  refine x_cond hs rfl (fun hb => ?_) (fun hb => ?_)
  · replace hm := condT hb hm
    refine wp_seq ?_
    refine wp_region_lit ?_
    refine wl hs (y_assign hs rfl) rfl ?_; intro a hs
    refine wl hs (y_assign hs rfl) rfl ?_; intro a hs
    refine wpList_nil ?_
    refine x_nt ?_
    refine wp_ret ?_
    refine x_rt ?_
    have hm : some ([], false) = some r := hm
    obtain rfl := Option.some.inj hm
    refine x_ret2 rfl hs rfl rfl ⟨_, rfl, ?_⟩
    have hM := hM.nilI 3
    exact ⟨_, rfl, hM⟩
  · replace hm := condF hb hm
    refine wp_skip ?_
    refine x_nt ?_
    refine wp_seq ?_
    refine wp_region_lit ?_
    refine wl hs (y_move hs rfl) rfl ?_; intro a hs
    refine wl hs (y_move hs rfl) rfl ?_; intro a hs
    obtain ⟨y9, h10, hm⟩ := bindE hm
    refine wcall is_84 hs rfl rfl (impl_shorter_any v_p0 p0 p1 _ (RdM.below hr_p0 hM.bel) h10) ?_; rintro a v11 w hs ⟨vs13, hX⟩
    have hM : Mem W w [aMat 24 3 v11 vs13 y9] := hM.call hX
    obtain ⟨y14, h15, hm⟩ := bindE hm
    refine wcall is_51 hs rfl rfl (impl_wayCosts_any v11 y9 _ (hM.rdM 0 rfl) h15) ?_; rintro a _ w hs ⟨v18, vs19, rfl, hX⟩
    have hM : Mem W w [aMat 24 3 v18 vs19 y14.1, aMat 24 3 v11 vs13 y9] := hM.call hX
    refine wl hs (y_move hs rfl) rfl ?_; intro a hs
    refine wl hs (y_extract hs rfl rfl) rfl ?_; intro a hs
    refine wl hs (y_extract hs rfl rfl) rfl ?_; intro a hs
    refine wl hs (y_assign hs rfl) rfl ?_; intro a hs
    refine wl hs (y_assign hs rfl) rfl ?_; intro a hs
    refine wpList_nil ?_
    refine x_nt ?_
    refine wp_seq ?_
    refine wp_seq ?_
    refine wp_region_lit ?_
    refine wl hs (y_move hs rfl) rfl ?_; intro a hs
    refine wl hs (y_not hs rfl) rfl ?_; intro a hs
    refine wpList_nil ?_
    refine x_nt ?_
    refine x_cond hs rfl (fun hb => ?_) (fun hb => ?_)
    · replace hm := condT hb hm
      refine wp_seq ?_
      refine wp_region_lit ?_
      refine wl hs (y_assign hs rfl) rfl ?_; intro a hs
      refine wl hs (y_assign hs rfl) rfl ?_; intro a hs
      refine wpList_nil ?_
      refine x_nt ?_
      refine wp_ret ?_
      refine x_rt ?_
      have hm : some ([], false) = some r := hm
      obtain rfl := Option.some.inj hm
      refine x_ret2 rfl hs rfl rfl ⟨_, rfl, ?_⟩
      have hM := hM.nilI 3
      exact ⟨_, rfl, (hM.keep_ 1)⟩
    · replace hm := condF hb hm
      refine wp_skip ?_
      refine x_nt ?_
      refine wp_seq ?_
      refine wp_region_lit ?_
      refine wmem hs (x_new0I ht_I hM) rfl ?_; intro a v22 w hs hM
      have hM : Mem W w [aInts 3 v22 ([]), aMat 24 3 v18 vs19 y14.1, aMat 24 3 v11 vs13 y9] := hM
      refine wl hs (y_assign hs rfl) rfl ?_; intro a hs
      refine wpList_nil ?_
      refine x_nt ?_
      refine wp_seq ?_
      refine wp_seq ?_
      refine wp_region_lit ?_
      refine wl hs (y_move hs rfl) rfl ?_; intro a hs
      refine wl hs (y_len hu_M hs rfl (hM.rdM 1 rfl)) rfl ?_; intro a hs
      refine wl hs (y_move hs rfl) rfl ?_; intro a hs
      refine wpList_nil ?_
      refine x_nt ?_
      obtain ⟨s28, hm, hk29⟩ := bindE hm
      refine x_mid (fun a w => ∃ (v26 : Value), ∃ (l27 : List Int), l27 = s28 ∧ Fr a 45 [(8, v26)] ∧ Mem W w [aInts 3 v26 l27]) ?_ ?_
      · refine wp_block ?_
        refine x_loop (fun k a w => ∃ (q30 : List (List Int)) (j23 : Nat) (v24 : Value) (l25 : List Int) , k = q30.length ∧ Fr a 45 [(8, v24), (29, v18), (30, .int .i64 (y14.1.length : Int)), (31, .int .i64 (j23 : Int))] ∧ Mem W w [aInts 3 v24 l25, aMat 24 3 v18 vs19 y14.1] ∧ impl_PotentialOf_l1 q30 j23 l25 = some s28 ∧ List.drop j23 y14.1 = q30) _ ⟨y14.1, 0, v22, [], rfl, hs.sub ⟨rfl, rfl, rfl, rfl, trivial⟩, (hM.keep_ 2), hm, rfl⟩ ?_
        rintro k a w ⟨q30, j23, v24, l25, rfl, hs, hM, hm, hj⟩
        rcases q30 with _ | ⟨x31, q30⟩
        · rewrite [impl_PotentialOf_l1] at hm
          refine wp_seq ?_
          refine wp_region_lit ?_
          refine wl hs (y_lss hs rfl rfl) rfl ?_; intro a hs
          refine wpList_nil ?_
          refine x_nt ?_
          refine wp_seq ?_
          refine x_condF hs rfl (drop_f hj) ?_
          refine wp_exit ?_
          refine x_et ?_
          refine x_et ?_
          refine x_eb ?_
          have hm : some l25 = some s28 := hm
          exact ⟨v24, l25, Option.some.inj hm, hs.sub ⟨rfl, trivial⟩, (hM.keep_ 1)⟩
        · rewrite [impl_PotentialOf_l1] at hm
          have hx32 := drop_idx hj
          have hjs := ck_succ hj (RdS.len (hM.rdM 1 rfl))
          refine wp_seq ?_
          refine wp_region_lit ?_
          refine wl hs (y_lss hs rfl rfl) rfl ?_; intro a hs
          refine wpList_nil ?_
          refine x_nt ?_
          refine wp_seq ?_
          refine x_condT hs rfl (drop_t hj) ?_
          refine wp_skip ?_
          refine x_nt ?_
          refine wp_seq ?_
          refine wp_block ?_
          refine wp_seq ?_
          refine wp_region_lit ?_
          obtain ⟨u34, hv35, he33⟩ := hM.atM 1 rfl hx32
          refine wl hs (y_index ht_M hs rfl rfl he33) rfl ?_; intro a hs
          refine wl hs (y_load sc_I hs rfl he33.cell) rfl ?_; intro a hs
          refine wl hs (y_assign hs rfl) rfl ?_; intro a hs
          refine wpList_nil ?_
          refine x_nt ?_
          refine wp_region_lit ?_
          refine wl hs (y_move hs rfl) rfl ?_; intro a hs
          refine wl hs (y_move hs rfl) rfl ?_; intro a hs
          obtain ⟨y36, h37, hm⟩ := bindE hm
          refine wcall is_53 hs rfl rfl (impl_sumOf_any u34 x31 _ (hM.rdRow 1 rfl rfl hv35 (idx_spec hx32).2.2) h37) ?_; rintro a _ w hs ⟨rfl, hX⟩
          have hM : Mem W w [aInts 3 v24 l25, aMat 24 3 v18 vs19 y14.1] := hM.call hX
          obtain ⟨l38, h39, hm⟩ := bindE hm
          refine wappI hu_I he_int hs hM rfl rfl h39 rfl rfl rfl ?_; intro a v40 w u41 hs hM
          have hM : Mem W w [aInts 3 v40 l38, aMat 24 3 v18 vs19 y14.1] := hM
          refine wl hs (y_assign hs rfl) rfl ?_; intro a hs
          refine wpList_nil ?_
          refine x_nb ?_
          refine x_nt ?_
          refine wp_region_lit ?_
          refine wl hs (y_add hs rfl rfl hjs) rfl ?_; intro a hs
          refine wl hs (y_move hs rfl) rfl ?_; intro a hs
          refine wpList_nil ?_
          exact ⟨_, by simp, q30, j23 + 1, v40, l38, rfl, hs.sub ⟨rfl, rfl, rfl, rfl, trivial⟩, hM, hm, drop_next hj⟩
      rintro a w ⟨v26, l27, rfl, hs, hM⟩
      have hm := hk29
      refine x_nt ?_
      refine wp_seq ?_
      refine wp_region_lit ?_
      refine wl hs (y_move hs rfl) rfl ?_; intro a hs
      obtain ⟨y42, h43, hm⟩ := bindE hm
      refine wcall is_54 hs rfl rfl (impl_toldList_any v26 l27 _ (hM.rdI 0 rfl) h43) ?_; rintro a _ w hs ⟨rfl, hX⟩
      have hM : Mem W w [aInts 3 v26 l27] := hM.call hX
      have hM : Mem W w [aInts 3 (cond y42.1 v26 (.slice none 0 0)) (cond y42.1 l27 [])] := (hM).condI y42.1
      refine wl hs (y_extract hs rfl rfl) rfl ?_; intro a hs
      refine wl hs (y_extract hs rfl rfl) rfl ?_; intro a hs
      refine wl hs (y_assign hs rfl) rfl ?_; intro a hs
      refine wl hs (y_assign hs rfl) rfl ?_; intro a hs
      refine wpList_nil ?_
      refine x_nt ?_
      refine wp_ret ?_
      have hm : some ((cond y42.1 l27 []), y42.2) = some r := hm
      obtain rfl := Option.some.inj hm
      refine x_ret2 rfl hs rfl rfl ⟨_, rfl, ?_⟩
      exact ⟨_, rfl, hM⟩

end Go.Proofs.Ytjhaealoneennaa
