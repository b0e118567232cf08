/- The code of this unit computes what its mirrors say. Written by program (wip/gen). -/
import Derived.Test.YtnnhbkhlipekeaaFacts
import Derived.Test.YtnnhbkhlipekeaaWy4M
import Derived.Test.YtnnhbkhlipekeaaNumW
import Derived.Test.YtnnhbkhlipekeaaOwnW
namespace Go.Proofs.Ytnnhbkhlipekeaa
open Go.RowKit
set_option linter.unusedVariables false

set_option maxHeartbeats 4000000 in
theorem spec_wyStart_any (p0 : Int) (W : World)  {r : List (List Int)} (hm : spec_wyStart_m p0 = some r) : Calls Try.prog 106 [.int .i64 p0].toArray W fun e w => ∃ v, e = .returned v ∧ ∃ vs0, Mem W w [aMat 23 3 v vs0 r] := by
  refine x_enter Try.func106 rfl Try.ntmps106 rfl ?_
  intro a hs
  have hM := Mem.start W
  unfold spec_wyStart_m at hm
  refine wp_seq ?_
  refine wp_region_lit ?_
  refine wl hs (y_assign hs rfl) rfl ?_; intro a hs
  refine wpList_nil ?_
  refine x_nt ?_
  refine wp_seq ?_
  refine wp_region_lit ?_
  refine wl hs (y_assign hs rfl) rfl ?_; intro a hs
  have hM := hM.nilM 23 3
  refine wpList_nil ?_
  refine x_nt ?_
  refine wp_seq ?_
  refine wp_seq ?_
  refine wp_region_lit ?_
  refine wl hs (y_assign hs rfl) rfl ?_; intro a hs
  refine wpList_nil ?_
  refine x_nt ?_
  obtain ⟨s9, hm, hk10⟩ := bindE hm
  refine x_mid (fun a w => ∃ (v6 : Value), ∃ (vs7 : List Value), ∃ (l8 : List (List Int)), l8 = s9 ∧ Fr a 31 [(3, v6)] ∧ Mem W w [aMat 23 3 v6 vs7 l8]) ?_ ?_
  · refine wp_block ?_
    refine x_loop (fun k a w => ∃ (v2 : Value) (vs3 : List Value) (l4 : List (List Int)) (n5 : Int) , Fr a 31 [(0, .int .i64 p0), (3, v2), (4, .int .i64 n5)] ∧ Mem W w [aMat 23 3 v2 vs3 l4] ∧ spec_wyStart_l1 p0 k l4 n5 = some s9) 4000000 ⟨(.slice none 0 0), [], [], 0, hs.sub ⟨rfl, rfl, rfl, trivial⟩, hM, hm⟩ ?_
    rintro k a w ⟨v2, vs3, l4, n5, hs, hM, hm⟩
    rcases k with _ | k
    · rewrite [spec_wyStart_l1] at hm; cases hm
    rewrite [spec_wyStart_l1] at hm
    refine wp_seq ?_
    refine wp_seq ?_
    refine wp_region_lit ?_
    refine wl hs (y_move hs rfl) rfl ?_; intro a hs
    refine wl hs (y_move hs rfl) rfl ?_; intro a hs
    refine wl hs (y_lss hs rfl rfl) rfl ?_; intro a hs
    refine wpList_nil ?_
    refine x_nt ?_
    refine x_cond hs rfl (fun hb => ?_) (fun hb => ?_)
    · replace hm := condT hb hm
      refine wp_skip ?_
      refine x_nt ?_
      refine wp_seq ?_
      refine wp_block ?_
      refine wp_seq ?_
      refine wp_region_lit ?_
      refine wl hs (y_assign hs rfl) rfl ?_; intro a hs
      have hM := hM.nilI 3
      refine wpList_nil ?_
      refine x_nt ?_
      refine wp_seq ?_
      refine wp_seq ?_
      refine wp_region_lit ?_
      refine wl hs (y_assign hs rfl) rfl ?_; intro a hs
      refine wpList_nil ?_
      refine x_nt ?_
      obtain ⟨s18, hm, hk19⟩ := bindE hm
      refine x_mid (fun a w => ∃ (v16 : Value), ∃ (l17 : List Int), l17 = s18 ∧ Fr a 31 [(0, .int .i64 p0), (3, v2), (4, .int .i64 n5), (5, v16)] ∧ Mem W w [aInts 3 v16 l17, aMat 23 3 v2 vs3 l4]) ?_ ?_
      · refine wp_block ?_
        refine x_loop (fun k a w => ∃ (v13 : Value) (l14 : List Int) (n15 : Int) , Fr a 31 [(0, .int .i64 p0), (3, v2), (4, .int .i64 n5), (5, v13), (6, .int .i64 n15)] ∧ Mem W w [aInts 3 v13 l14, aMat 23 3 v2 vs3 l4] ∧ spec_wyStart_l2 p0 n5 k l14 n15 = some s18) 4000000 ⟨(.slice none 0 0), [], 0, hs.sub ⟨rfl, rfl, rfl, rfl, rfl, trivial⟩, hM, hm⟩ ?_
        rintro k a w ⟨v13, l14, n15, hs, hM, hm⟩
        rcases k with _ | k
        · rewrite [spec_wyStart_l2] at hm; cases hm
        rewrite [spec_wyStart_l2] at hm
        refine wp_seq ?_
        refine wp_seq ?_
        refine wp_region_lit ?_
        refine wl hs (y_move hs rfl) rfl ?_; intro a hs
        refine wl hs (y_move hs rfl) rfl ?_; intro a hs
        refine wl hs (y_lss hs rfl rfl) rfl ?_; intro a hs
        refine wpList_nil ?_
        refine x_nt ?_
        refine x_cond hs rfl (fun hb => ?_) (fun hb => ?_)
        · replace hm := condT hb hm
          refine wp_skip ?_
          refine x_nt ?_
          refine wp_seq ?_
          refine wp_block ?_
          refine wp_seq ?_
          refine wp_region_lit ?_
          refine wl hs (y_move hs rfl) rfl ?_; intro a hs
          refine wl hs (y_move hs rfl) rfl ?_; intro a hs
          refine wl hs (y_eql hs rfl rfl) rfl ?_; intro a hs
          refine wpList_nil ?_
          refine x_nt ?_
          refine x_cond hs rfl (fun hb => ?_) (fun hb => ?_)
          · replace hm := condT hb hm
            refine wp_region_lit ?_
            refine wl hs (y_move hs rfl) rfl ?_; intro a hs
            obtain ⟨l21, h22, hm⟩ := bindE hm
            refine wappI hu_I he_int hs hM rfl rfl h22 rfl rfl rfl ?_; intro a v23 w u24 hs hM
            have hM : Mem W w [aInts 3 v23 l21, aMat 23 3 v2 vs3 l4] := hM
            refine wl hs (y_assign hs rfl) rfl ?_; intro a hs
            refine wpList_nil ?_
            refine x_nb ?_
            refine x_nt ?_
            refine wp_region_lit ?_
            refine wl hs (y_move hs rfl) rfl ?_; intro a hs
            obtain ⟨n25, h26, hm⟩ := bindE hm
            refine wl hs (y_add hs rfl rfl h26) rfl ?_; intro a hs
            refine wl hs (y_assign hs rfl) rfl ?_; intro a hs
            refine wpList_nil ?_
            exact ⟨k, Nat.lt_succ_self _, v23, l21, n25, hs.sub ⟨rfl, rfl, rfl, rfl, rfl, trivial⟩, hM, hm⟩
          · replace hm := condF hb hm
            refine wp_region_lit ?_
            refine wl hs (y_move hs rfl) rfl ?_; intro a hs
            obtain ⟨l27, h28, hm⟩ := bindE hm
            refine wappI hu_I he_int hs hM rfl rfl h28 rfl rfl rfl ?_; intro a v29 w u30 hs hM
            have hM : Mem W w [aInts 3 v29 l27, aMat 23 3 v2 vs3 l4] := hM
            refine wl hs (y_assign hs rfl) rfl ?_; intro a hs
            refine wpList_nil ?_
            refine x_nb ?_
            refine x_nt ?_
            refine wp_region_lit ?_
            refine wl hs (y_move hs rfl) rfl ?_; intro a hs
            obtain ⟨n31, h32, hm⟩ := bindE hm
            refine wl hs (y_add hs rfl rfl h32) rfl ?_; intro a hs
            refine wl hs (y_assign hs rfl) rfl ?_; intro a hs
            refine wpList_nil ?_
            exact ⟨k, Nat.lt_succ_self _, v29, l27, n31, hs.sub ⟨rfl, rfl, rfl, rfl, rfl, trivial⟩, hM, hm⟩
        · replace hm := condF hb hm
          refine wp_exit ?_
          refine x_et ?_
          refine x_et ?_
          refine x_eb ?_
          have hm : some l14 = some s18 := hm
          exact ⟨v13, l14, Option.some.inj hm, hs.sub ⟨rfl, rfl, rfl, rfl, trivial⟩, hM⟩
      rintro a w ⟨v16, l17, rfl, hs, hM⟩
      have hm := hk19
      refine x_nt ?_
      refine wp_region_lit ?_
      refine wl hs (y_move hs rfl) rfl ?_; intro a hs
      refine wl hs (y_move hs rfl) rfl ?_; intro a hs
      obtain ⟨l33, h34, hm⟩ := bindE hm
      refine wappM hu_M he_I hs (hM.front 1 rfl) rfl rfl h34 rfl rfl rfl ?_; intro a v35 w u36 hs hM
      have hM : Mem W w [aMat 23 3 v35 (vs3 ++ [v16]) l33] := hM
      refine wl hs (y_assign hs rfl) rfl ?_; intro a hs
      refine wpList_nil ?_
      refine x_nb ?_
      refine x_nt ?_
      refine wp_region_lit ?_
      refine wl hs (y_move hs rfl) rfl ?_; intro a hs
      obtain ⟨n37, h38, hm⟩ := bindE hm
      refine wl hs (y_add hs rfl rfl h38) rfl ?_; intro a hs
      refine wl hs (y_assign hs rfl) rfl ?_; intro a hs
      refine wpList_nil ?_
      exact ⟨k, Nat.lt_succ_self _, v35, (vs3 ++ [v16]), l33, n37, hs.sub ⟨rfl, rfl, rfl, trivial⟩, hM, hm⟩
    · replace hm := condF hb hm
      refine wp_exit ?_
      refine x_et ?_
      refine x_et ?_
      refine x_eb ?_
      have hm : some l4 = some s9 := hm
      exact ⟨v2, vs3, l4, Option.some.inj hm, hs.sub ⟨rfl, trivial⟩, hM⟩
  rintro a w ⟨v6, vs7, l8, rfl, hs, hM⟩
  have hm := hk10
  refine x_nt ?_
  refine wp_seq ?_
  refine wp_region_lit ?_
  refine wl hs (y_move hs rfl) rfl ?_; intro a hs
  refine wl hs (y_assign hs rfl) rfl ?_; intro a hs
  refine wpList_nil ?_
  refine x_nt ?_
  refine wp_ret ?_
  have hm : some l8 = some r := hm
  obtain rfl := Option.some.inj hm
  refine x_ret1 rfl hs rfl ⟨_, rfl, ?_⟩
  exact ⟨_, hM⟩

set_option maxHeartbeats 4000000 in
theorem spec_wyStep_any (v_p0 : Value) (p0 : List (List Int)) (v_p1 : Value) (p1 : List (List Int)) (W : World) (hr_p0 : RdM W v_p0 p0) (hr_p1 : RdM W v_p1 p1) {r : List (List Int)} (hm : spec_wyStep_m p0 p1 = some r) : Calls Try.prog 107 [v_p0, v_p1].toArray W fun e w => ∃ v, e = .returned v ∧ ∃ vs0, Mem W w [aMat 23 3 v vs0 r] := by
  refine x_enter Try.func107 rfl Try.ntmps107 rfl ?_
  intro a hs
  have hM := Mem.start W
  unfold spec_wyStep_m at hm
  refine wp_seq ?_
  refine wp_region_lit ?_
  refine wl hs (y_assign hs rfl) rfl ?_; intro a hs
  refine wpList_nil ?_
  refine x_nt ?_
  refine wp_seq ?_
  refine wp_region_lit ?_
  refine wl hs (y_move hs rfl) rfl ?_; intro a hs
  obtain ⟨y1, h2, hm⟩ := bindE hm
  refine wcall is_110 hs rfl rfl (spec_mxOwn_any v_p1 p1 _ (RdM.below hr_p1 hM.bel) h2) ?_; rintro a v3 w hs ⟨vs5, hX⟩
  have hM : Mem W w [aMat 23 3 v3 vs5 y1] := hM.call hX
  refine wl hs (y_assign hs rfl) rfl ?_; intro a hs
  refine wpList_nil ?_
  refine x_nt ?_
  refine wp_seq ?_
  refine wp_seq ?_
  refine wp_region_lit ?_
  refine wl hs (y_move hs rfl) rfl ?_; intro a hs
  refine wl hs (y_len hu_M hs rfl (RdM.below hr_p0 hM.bel)) rfl ?_; intro a hs
  refine wl hs (y_move hs rfl) rfl ?_; intro a hs
  refine wpList_nil ?_
  refine x_nt ?_
  obtain ⟨s9, hm, hk10⟩ := bindE hm
  refine x_mid (fun a w => ∃ (l8 : List (List Int)), l8 = s9 ∧ Fr a 59 [(5, v3)] ∧ Mem W w [aMat 23 3 v3 vs5 l8]) ?_ ?_
  · refine wp_block ?_
    refine x_loop (fun k a w => ∃ (q11 : List (List Int)) (j6 : Nat) (l7 : List (List Int)) , k = q11.length ∧ Fr a 59 [(0, v_p0), (1, v_p1), (5, v3), (12, .int .i64 (p0.length : Int)), (13, .int .i64 (j6 : Int))] ∧ Mem W w [aMat 23 3 v3 vs5 l7] ∧ spec_wyStep_l1 p0 p1 q11 j6 l7 = some s9 ∧ List.drop j6 p0 = q11) _ ⟨p0, 0, y1, rfl, hs.sub ⟨rfl, rfl, rfl, rfl, rfl, trivial⟩, hM, hm, rfl⟩ ?_
    rintro k a w ⟨q11, j6, l7, rfl, hs, hM, hm, hj6⟩
    rcases q11 with _ | ⟨x12, q11⟩
    · rewrite [spec_wyStep_l1] at hm
      refine wp_seq ?_
      refine wp_region_lit ?_
      refine wl hs (y_lss hs rfl rfl) rfl ?_; intro a hs
      refine wpList_nil ?_
      refine x_nt ?_
      refine wp_seq ?_
      refine x_condF hs rfl (drop_f hj6) ?_
      refine wp_exit ?_
      refine x_et ?_
      refine x_et ?_
      refine x_eb ?_
      have hm : some l7 = some s9 := hm
      exact ⟨l7, Option.some.inj hm, hs.sub ⟨rfl, trivial⟩, hM⟩
    · rewrite [spec_wyStep_l1] at hm
      have hx13 := drop_idx hj6
      have hsj6 := ck_succ hj6 (RdS.len (RdM.below hr_p0 hM.bel))
      refine wp_seq ?_
      refine wp_region_lit ?_
      refine wl hs (y_lss hs rfl rfl) rfl ?_; intro a hs
      refine wpList_nil ?_
      refine x_nt ?_
      refine wp_seq ?_
      refine x_condT hs rfl (drop_t hj6) ?_
      refine wp_skip ?_
      refine x_nt ?_
      refine wp_seq ?_
      refine wp_block ?_
      refine wp_seq ?_
      refine wp_region_lit ?_
      refine wl hs (y_move hs rfl) rfl ?_; intro a hs
      refine wl hs (y_assign hs rfl) rfl ?_; intro a hs
      refine wpList_nil ?_
      refine x_nt ?_
      refine wp_seq ?_
      refine wp_region_lit ?_
      refine wl hs (y_move hs rfl) rfl ?_; intro a hs
      refine wl hs (y_len hu_M hs rfl (RdM.below hr_p0 hM.bel)) rfl ?_; intro a hs
      refine wl hs (y_move hs rfl) rfl ?_; intro a hs
      refine wpList_nil ?_
      refine x_nt ?_
      obtain ⟨s17, hm, hk18⟩ := bindE hm
      refine x_mid (fun a w => ∃ (l16 : List (List Int)), l16 = s17 ∧ Fr a 59 [(0, v_p0), (1, v_p1), (5, v3), (12, .int .i64 (p0.length : Int)), (13, .int .i64 (j6 : Int))] ∧ Mem W w [aMat 23 3 v3 vs5 l16]) ?_ ?_
      · refine wp_block ?_
        refine x_loop (fun k a w => ∃ (q19 : List (List Int)) (j14 : Nat) (l15 : List (List Int)) , k = q19.length ∧ Fr a 59 [(0, v_p0), (1, v_p1), (5, v3), (6, .int .i64 (j6 : Int)), (12, .int .i64 (p0.length : Int)), (13, .int .i64 (j6 : Int)), (17, .int .i64 (p0.length : Int)), (18, .int .i64 (j14 : Int))] ∧ Mem W w [aMat 23 3 v3 vs5 l15] ∧ spec_wyStep_l2 p0 p1 j6 q19 j14 l15 = some s17 ∧ List.drop j14 p0 = q19) _ ⟨p0, 0, l7, rfl, hs.sub ⟨rfl, rfl, rfl, rfl, rfl, rfl, rfl, rfl, trivial⟩, hM, hm, rfl⟩ ?_
        rintro k a w ⟨q19, j14, l15, rfl, hs, hM, hm, hj14⟩
        rcases q19 with _ | ⟨x20, q19⟩
        · rewrite [spec_wyStep_l2] at hm
          refine wp_seq ?_
          refine wp_region_lit ?_
          refine wl hs (y_lss hs rfl rfl) rfl ?_; intro a hs
          refine wpList_nil ?_
          refine x_nt ?_
          refine wp_seq ?_
          refine x_condF hs rfl (drop_f hj14) ?_
          refine wp_exit ?_
          refine x_et ?_
          refine x_et ?_
          refine x_eb ?_
          have hm : some l15 = some s17 := hm
          exact ⟨l15, Option.some.inj hm, hs.sub ⟨rfl, rfl, rfl, rfl, rfl, trivial⟩, hM⟩
        · rewrite [spec_wyStep_l2] at hm
          have hx21 := drop_idx hj14
          have hsj14 := ck_succ hj14 (RdS.len (RdM.below hr_p0 hM.bel))
          refine wp_seq ?_
          refine wp_region_lit ?_
          refine wl hs (y_lss hs rfl rfl) rfl ?_; intro a hs
          refine wpList_nil ?_
          refine x_nt ?_
          refine wp_seq ?_
          refine x_condT hs rfl (drop_t hj14) ?_
          refine wp_skip ?_
          refine x_nt ?_
          refine wp_seq ?_
          refine wp_block ?_
          refine wp_seq ?_
          refine wp_region_lit ?_
          refine wl hs (y_move hs rfl) rfl ?_; intro a hs
          refine wl hs (y_assign hs rfl) rfl ?_; intro a hs
          refine wpList_nil ?_
          refine x_nt ?_
          refine wp_seq ?_
          refine wp_region_lit ?_
          refine wl hs (y_move hs rfl) rfl ?_; intro a hs
          refine wl hs (y_len hu_M hs rfl (RdM.below hr_p0 hM.bel)) rfl ?_; intro a hs
          refine wl hs (y_move hs rfl) rfl ?_; intro a hs
          refine wpList_nil ?_
          refine x_nt ?_
          obtain ⟨s25, hm, hk26⟩ := bindE hm
          refine x_mid (fun a w => ∃ (l24 : List (List Int)), l24 = s25 ∧ Fr a 59 [(0, v_p0), (1, v_p1), (5, v3), (6, .int .i64 (j6 : Int)), (12, .int .i64 (p0.length : Int)), (13, .int .i64 (j6 : Int)), (17, .int .i64 (p0.length : Int)), (18, .int .i64 (j14 : Int))] ∧ Mem W w [aMat 23 3 v3 vs5 l24]) ?_ ?_
          · refine wp_block ?_
            refine x_loop (fun k a w => ∃ (q27 : List (List Int)) (j22 : Nat) (l23 : List (List Int)) , k = q27.length ∧ Fr a 59 [(0, v_p0), (1, v_p1), (5, v3), (6, .int .i64 (j6 : Int)), (7, .int .i64 (j14 : Int)), (12, .int .i64 (p0.length : Int)), (13, .int .i64 (j6 : Int)), (17, .int .i64 (p0.length : Int)), (18, .int .i64 (j14 : Int)), (22, .int .i64 (p0.length : Int)), (23, .int .i64 (j22 : Int))] ∧ Mem W w [aMat 23 3 v3 vs5 l23] ∧ spec_wyStep_l3 p1 j6 j14 x20 q27 j22 l23 = some s25 ∧ List.drop j22 p0 = q27) _ ⟨p0, 0, l15, rfl, hs.sub ⟨rfl, rfl, rfl, rfl, rfl, rfl, rfl, rfl, rfl, rfl, rfl, trivial⟩, hM, hm, rfl⟩ ?_
            rintro k a w ⟨q27, j22, l23, rfl, hs, hM, hm, hj22⟩
            rcases q27 with _ | ⟨x28, q27⟩
            · rewrite [spec_wyStep_l3] at hm
              refine wp_seq ?_
              refine wp_region_lit ?_
              refine wl hs (y_lss hs rfl rfl) rfl ?_; intro a hs
              refine wpList_nil ?_
              refine x_nt ?_
              refine wp_seq ?_
              refine x_condF hs rfl (drop_f hj22) ?_
              refine wp_exit ?_
              refine x_et ?_
              refine x_et ?_
              refine x_eb ?_
              have hm : some l23 = some s25 := hm
              exact ⟨l23, Option.some.inj hm, hs.sub ⟨rfl, rfl, rfl, rfl, rfl, rfl, rfl, rfl, trivial⟩, hM⟩
            · rewrite [spec_wyStep_l3] at hm
              have hx29 := drop_idx hj22
              have hsj22 := ck_succ hj22 (RdS.len (RdM.below hr_p0 hM.bel))
              refine wp_seq ?_
              refine wp_region_lit ?_
              refine wl hs (y_lss hs rfl rfl) rfl ?_; intro a hs
              refine wpList_nil ?_
              refine x_nt ?_
              refine wp_seq ?_
              refine x_condT hs rfl (drop_t hj22) ?_
              refine wp_skip ?_
              refine x_nt ?_
              refine wp_seq ?_
              refine wp_block ?_
              refine wp_seq ?_
              refine wp_region_lit ?_
              refine wl hs (y_move hs rfl) rfl ?_; intro a hs
              refine wl hs (y_assign hs rfl) rfl ?_; intro a hs
              refine wpList_nil ?_
              refine x_nt ?_
              refine wc_start hmix [0, 1, 2, 3, 4, 5, 6, 7, 8, 9, 10, 11, 12, 13, 14, 15, 16, 17, 18, 19, 20, 21, 22, 23, 24, 25, 26, 27, 28] (fun w => Mem W w [aMat 23 3 v3 vs5 l23]) (by rfl) ?_
              refine wc (i := 0) (fuel := 29) rfl (by kernel_rfl) (fun w w2 hS hE => hS.quiet hE) hM hs (fun w1 hS => y_move hs rfl) rfl ?_; intro a hs
              refine wc (i := 1) (fuel := 28) rfl (by kernel_rfl) (fun w w2 hS hE => hS.quiet hE) hM hs (fun w1 hS => y_move hs rfl) rfl ?_; intro a hs
              obtain ⟨x30, hx31, hm⟩ := bindE hm
              obtain ⟨u33, hv34, he32⟩ := hM.atM 0 rfl hx31
              have he35 := fun (w1 : World) (hS : Mem W w1 [aMat 23 3 v3 vs5 l23]) => hS.atMv 0 rfl hx31 hv34
              refine wc (i := 2) (fuel := 27) rfl (by kernel_rfl) (fun w w2 hS hE => hS.quiet hE) hM hs (fun w1 hS => y_index ht_M hs rfl rfl (he35 w1 hS)) rfl ?_; intro a hs
              refine wc (i := 3) (fuel := 26) rfl (by kernel_rfl) (fun w w2 hS hE => hS.quiet hE) hM hs (fun w1 hS => y_load sc_I hs rfl (he35 w1 hS).cell) rfl ?_; intro a hs
              refine wc (i := 4) (fuel := 25) rfl (by kernel_rfl) (fun w w2 hS hE => hS.quiet hE) hM hs (fun w1 hS => y_move hs rfl) rfl ?_; intro a hs
              refine wc (i := 5) (fuel := 24) rfl (by kernel_rfl) (fun w w2 hS hE => hS.quiet hE) hM hs (fun w1 hS => y_move hs rfl) rfl ?_; intro a hs
              refine wc (i := 6) (fuel := 23) rfl (by kernel_rfl) (fun w w2 hS hE => hS.quiet hE) hM hs (fun w1 hS => y_move hs rfl) rfl ?_; intro a hs
              obtain ⟨u37, hv38, he36⟩ := hM.atM 0 rfl hx31
              have he39 := fun (w1 : World) (hS : Mem W w1 [aMat 23 3 v3 vs5 l23]) => hS.atMv 0 rfl hx31 hv38
              refine wc (i := 7) (fuel := 22) rfl (by kernel_rfl) (fun w w2 hS hE => hS.quiet hE) hM hs (fun w1 hS => y_index ht_M hs rfl rfl (he39 w1 hS)) rfl ?_; intro a hs
              refine wc (i := 8) (fuel := 21) rfl (by kernel_rfl) (fun w w2 hS hE => hS.quiet hE) hM hs (fun w1 hS => y_load sc_I hs rfl (he39 w1 hS).cell) rfl ?_; intro a hs
              refine wc (i := 9) (fuel := 20) rfl (by kernel_rfl) (fun w w2 hS hE => hS.quiet hE) hM hs (fun w1 hS => y_move hs rfl) rfl ?_; intro a hs
              obtain ⟨x40, hx41, hm⟩ := bindE hm
              have he42 := fun (w1 : World) (hS : Mem W w1 [aMat 23 3 v3 vs5 l23]) => RdI.at_ (hS.rdRow 0 rfl rfl hv38 (idx_spec hx31).2.2) hx41
              refine wc (i := 10) (fuel := 19) rfl (by kernel_rfl) (fun w w2 hS hE => hS.quiet hE) hM hs (fun w1 hS => y_index ht_I hs rfl rfl (he42 w1 hS)) rfl ?_; intro a hs
              refine wc (i := 11) (fuel := 18) rfl (by kernel_rfl) (fun w w2 hS hE => hS.quiet hE) hM hs (fun w1 hS => y_load sc_int hs rfl (he42 w1 hS).cell) rfl ?_; intro a hs
              refine wc (i := 12) (fuel := 17) rfl (by kernel_rfl) (fun w w2 hS hE => hS.quiet hE) hM hs (fun w1 hS => y_move hs rfl) rfl ?_; intro a hs
              refine wc (i := 13) (fuel := 16) rfl (by kernel_rfl) (fun w w2 hS hE => hS.quiet hE) hM hs (fun w1 hS => y_move hs rfl) rfl ?_; intro a hs
              obtain ⟨x43, hx44, hm⟩ := bindE hm
              obtain ⟨u46, he45, hr47⟩ := RdM.at_ hr_p1 hx44
              have he48 := fun (w1 : World) (hS : Mem W w1 [aMat 23 3 v3 vs5 l23]) => he45.below hS.bel
              refine wc (i := 14) (fuel := 15) rfl (by kernel_rfl) (fun w w2 hS hE => hS.quiet hE) hM hs (fun w1 hS => y_index ht_M hs rfl rfl (he48 w1 hS)) rfl ?_; intro a hs
              refine wc (i := 15) (fuel := 14) rfl (by kernel_rfl) (fun w w2 hS hE => hS.quiet hE) hM hs (fun w1 hS => y_load sc_I hs rfl (he48 w1 hS).cell) rfl ?_; intro a hs
              refine wc (i := 16) (fuel := 13) rfl (by kernel_rfl) (fun w w2 hS hE => hS.quiet hE) hM hs (fun w1 hS => y_move hs rfl) rfl ?_; intro a hs
              obtain ⟨x49, hx50, hm⟩ := bindE hm
              have he51 := fun (w1 : World) (hS : Mem W w1 [aMat 23 3 v3 vs5 l23]) => RdI.at_ (RdI.below hr47 hS.bel) hx50
              refine wc (i := 17) (fuel := 12) rfl (by kernel_rfl) (fun w w2 hS hE => hS.quiet hE) hM hs (fun w1 hS => y_index ht_I hs rfl rfl (he51 w1 hS)) rfl ?_; intro a hs
              refine wc (i := 18) (fuel := 11) rfl (by kernel_rfl) (fun w w2 hS hE => hS.quiet hE) hM hs (fun w1 hS => y_load sc_int hs rfl (he51 w1 hS).cell) rfl ?_; intro a hs
              refine wc (i := 19) (fuel := 10) rfl (by kernel_rfl) (fun w w2 hS hE => hS.quiet hE) hM hs (fun w1 hS => y_move hs rfl) rfl ?_; intro a hs
              refine wc (i := 20) (fuel := 9) rfl (by kernel_rfl) (fun w w2 hS hE => hS.quiet hE) hM hs (fun w1 hS => y_move hs rfl) rfl ?_; intro a hs
              obtain ⟨u53, he52, hr54⟩ := RdM.at_ hr_p0 hx21
              have he55 := fun (w1 : World) (hS : Mem W w1 [aMat 23 3 v3 vs5 l23]) => he52.below hS.bel
              refine wc (i := 21) (fuel := 8) rfl (by kernel_rfl) (fun w w2 hS hE => hS.quiet hE) hM hs (fun w1 hS => y_index ht_M hs rfl rfl (he55 w1 hS)) rfl ?_; intro a hs
              refine wc (i := 22) (fuel := 7) rfl (by kernel_rfl) (fun w w2 hS hE => hS.quiet hE) hM hs (fun w1 hS => y_load sc_I hs rfl (he55 w1 hS).cell) rfl ?_; intro a hs
              refine wc (i := 23) (fuel := 6) rfl (by kernel_rfl) (fun w w2 hS hE => hS.quiet hE) hM hs (fun w1 hS => y_move hs rfl) rfl ?_; intro a hs
              obtain ⟨x56, hx57, hm⟩ := bindE hm
              have he58 := fun (w1 : World) (hS : Mem W w1 [aMat 23 3 v3 vs5 l23]) => RdI.at_ (RdI.below hr54 hS.bel) hx57
              refine wc (i := 24) (fuel := 5) rfl (by kernel_rfl) (fun w w2 hS hE => hS.quiet hE) hM hs (fun w1 hS => y_index ht_I hs rfl rfl (he58 w1 hS)) rfl ?_; intro a hs
              refine wc (i := 25) (fuel := 4) rfl (by kernel_rfl) (fun w w2 hS hE => hS.quiet hE) hM hs (fun w1 hS => y_load sc_int hs rfl (he58 w1 hS).cell) rfl ?_; intro a hs
              obtain ⟨y59, h60, hm⟩ := bindE hm
              refine ccall (i := 26) (fuel := 3) rfl (by kernel_rfl) (fun w w2 hS hE => hS.quiet hE) hM (v := .int .i64 y59) is_95 hs rfl rfl (fun w1 hS => cx_of (spec_nuPlus_any x49 x56 w1  h60)) ?_; intro a hs
              obtain ⟨y61, h62, hm⟩ := bindE hm
              refine ccall (i := 27) (fuel := 2) rfl (by kernel_rfl) (fun w w2 hS hE => hS.quiet hE) hM (v := .int .i64 y61) is_97 hs rfl rfl (fun w1 hS => cx_of (spec_l1Least_any x40 y59 w1  h62)) ?_; intro a hs
              have he63 := fun (w1 : World) (hS : Mem W w1 [aMat 23 3 v3 vs5 l23]) => RdI.at_ (hS.rdRow 0 rfl rfl hv34 (idx_spec hx31).2.2) hx41
              refine wc (i := 28) (fuel := 1) rfl (by kernel_rfl) (fun w w2 hS hE => hS.quiet hE) hM hs (fun w1 hS => y_index ht_I hs rfl rfl (he63 w1 hS)) rfl ?_; intro a hs
              refine wc_one (fuel := 0) 29 rfl (by kernel_rfl) ?_
              intro w hw
              replace hM := hM.quiet hw
              obtain ⟨l64, h65, hm⟩ := bindE hm
              refine wstore hs rfl rfl (x_storeM he_int (hM.front 0 rfl) hv34 ((idx_spec hx31).2.2) h65) ?_; intro w hM
              have hM : Mem W w [aMat 23 3 v3 vs5 (l23.set ((j6 : Int)).toNat l64)] := hM
              refine on_nil ?_
              refine wc_done (by kernel_rfl) ?_
              intro w hw
              replace hM := hM.quiet hw
              refine x_nb ?_
              refine x_nt ?_
              refine wp_region_lit ?_
              refine wl hs (y_add hs rfl rfl hsj22) rfl ?_; intro a hs
              refine wl hs (y_move hs rfl) rfl ?_; intro a hs
              refine wpList_nil ?_
              exact ⟨_, by simp, q27, j22 + 1, (l23.set ((j6 : Int)).toNat l64), rfl, hs.sub ⟨rfl, rfl, rfl, rfl, rfl, rfl, rfl, rfl, rfl, rfl, rfl, trivial⟩, hM, hm, drop_next hj22⟩
          rintro a w ⟨l24, rfl, hs, hM⟩
          have hm := hk26
          refine x_nb ?_
          refine x_nt ?_
          refine wp_region_lit ?_
          refine wl hs (y_add hs rfl rfl hsj14) rfl ?_; intro a hs
          refine wl hs (y_move hs rfl) rfl ?_; intro a hs
          refine wpList_nil ?_
          exact ⟨_, by simp, q19, j14 + 1, l24, rfl, hs.sub ⟨rfl, rfl, rfl, rfl, rfl, rfl, rfl, rfl, trivial⟩, hM, hm, drop_next hj14⟩
      rintro a w ⟨l16, rfl, hs, hM⟩
      have hm := hk18
      refine x_nb ?_
      refine x_nt ?_
      refine wp_region_lit ?_
      refine wl hs (y_add hs rfl rfl hsj6) rfl ?_; intro a hs
      refine wl hs (y_move hs rfl) rfl ?_; intro a hs
      refine wpList_nil ?_
      exact ⟨_, by simp, q11, j6 + 1, l16, rfl, hs.sub ⟨rfl, rfl, rfl, rfl, rfl, trivial⟩, hM, hm, drop_next hj6⟩
  rintro a w ⟨l8, rfl, hs, hM⟩
  have hm := hk10
  refine x_nt ?_
  refine wp_seq ?_
  refine wp_region_lit ?_
  refine wl hs (y_move hs rfl) rfl ?_; intro a hs
  refine wl hs (y_assign hs rfl) rfl ?_; intro a hs
  refine wpList_nil ?_
  refine x_nt ?_
  refine wp_ret ?_
  have hm : some l8 = some r := hm
  obtain rfl := Option.some.inj hm
  refine x_ret1 rfl hs rfl ⟨_, rfl, ?_⟩
  exact ⟨_, hM⟩

theorem spec_wySame_any (v_p0 : Value) (p0 : List (List Int)) (v_p1 : Value) (p1 : List (List Int)) (W : World) (hr_p0 : RdM W v_p0 p0) (hr_p1 : RdM W v_p1 p1) {r : Bool} (hm : spec_wySame_m p0 p1 = some r) : Calls Try.prog 108 [v_p0, v_p1].toArray W fun e w => ∃ v, e = .returned v ∧ v = .bool r ∧ Mem W w [] := by
  refine x_enter Try.func108 rfl Try.ntmps108 rfl ?_
  intro a hs
  have hM := Mem.start W
  unfold spec_wySame_m at hm
  refine wp_seq ?_
  refine wp_region_lit ?_
  refine wl hs (y_assign hs rfl) rfl ?_; intro a hs
  refine wpList_nil ?_
  refine x_nt ?_
  refine wp_seq ?_
  refine wp_seq ?_
  refine wp_region_lit ?_
  refine wl hs (y_move hs rfl) rfl ?_; intro a hs
  refine wl hs (y_len hu_M hs rfl (RdM.below hr_p0 hM.bel)) rfl ?_; intro a hs
  refine wl hs (y_move hs rfl) rfl ?_; intro a hs
  refine wpList_nil ?_
  refine x_nt ?_
  obtain ⟨s2, hm, hk3⟩ := bindE hm
  refine x_mid (fun a w => Sum.inr () = s2 ∧ Fr a 22 [] ∧ Mem W w []) ?_ ?_
  · refine wp_block ?_
    refine x_loop (fun k a w => ∃ (q4 : List (List Int)) (j1 : Nat) , k = q4.length ∧ Fr a 22 [(1, v_p1), (7, v_p0), (8, .int .i64 (p0.length : Int)), (9, .int .i64 (j1 : Int))] ∧ Mem W w [] ∧ spec_wySame_l1 p1 q4 j1 = some s2 ∧ List.drop j1 p0 = q4) _ ⟨p0, 0, rfl, hs.sub ⟨rfl, rfl, rfl, rfl, trivial⟩, hM, hm, rfl⟩ ?_
    rintro k a w ⟨q4, j1, rfl, hs, hM, hm, hj1⟩
    rcases q4 with _ | ⟨x5, q4⟩
    · rewrite [spec_wySame_l1] at hm
      refine wp_seq ?_
      refine wp_region_lit ?_
      refine wl hs (y_lss hs rfl rfl) rfl ?_; intro a hs
      refine wpList_nil ?_
      refine x_nt ?_
      refine wp_seq ?_
      refine x_condF hs rfl (drop_f hj1) ?_
      refine wp_exit ?_
      refine x_et ?_
      refine x_et ?_
      refine x_eb ?_
      have hm : some (Sum.inr ()) = some s2 := hm
      exact ⟨Option.some.inj hm, hs.sub trivial, hM⟩
    · rewrite [spec_wySame_l1] at hm
      have hx6 := drop_idx hj1
      have hsj1 := ck_succ hj1 (RdS.len (RdM.below hr_p0 hM.bel))
      refine wp_seq ?_
      refine wp_region_lit ?_
      refine wl hs (y_lss hs rfl rfl) rfl ?_; intro a hs
      refine wpList_nil ?_
      refine x_nt ?_
      refine wp_seq ?_
      refine x_condT hs rfl (drop_t hj1) ?_
      refine wp_skip ?_
      refine x_nt ?_
      refine wp_seq ?_
      refine wp_block ?_
      refine wp_seq ?_
      refine wp_region_lit ?_
      refine wl hs (y_move hs rfl) rfl ?_; intro a hs
      obtain ⟨u8, he7, hr9⟩ := RdM.at_ hr_p0 hx6
      replace he7 := he7.below hM.bel
      refine wl hs (y_index ht_M hs rfl rfl he7) rfl ?_; intro a hs
      refine wl hs (y_load sc_I hs rfl he7.cell) rfl ?_; intro a hs
      refine wl hs (y_assign hs rfl) rfl ?_; intro a hs
      refine wl hs (y_assign hs rfl) rfl ?_; intro a hs
      refine wpList_nil ?_
      refine x_nt ?_
      refine wp_seq ?_
      refine wp_region_lit ?_
      refine wl hs (y_move hs rfl) rfl ?_; intro a hs
      refine wl hs (y_move hs rfl) rfl ?_; intro a hs
      refine wl hs (y_move hs rfl) rfl ?_; intro a hs
      obtain ⟨x10, hx11, hm⟩ := bindE hm
      obtain ⟨u13, he12, hr14⟩ := RdM.at_ hr_p1 hx11
      replace he12 := he12.below hM.bel
      refine wl hs (y_index ht_M hs rfl rfl he12) rfl ?_; intro a hs
      refine wl hs (y_load sc_I hs rfl he12.cell) rfl ?_; intro a hs
      obtain ⟨y15, h16, hm⟩ := bindE hm
      refine wcall is_68 hs rfl rfl (spec_l1Same_any u8 x5 u13 x10 _ (RdI.below hr9 hM.bel) (RdI.below hr14 hM.bel) h16) ?_; rintro a _ w hs ⟨rfl, hX⟩
      have hM : Mem W w [] := hM.call hX
      refine wl hs (y_not hs rfl) rfl ?_; intro a hs
      refine wpList_nil ?_
      refine x_nt ?_
      refine x_cond hs rfl (fun hb => ?_) (fun hb => ?_)
      · replace hm := condT hb hm
        refine wp_seq ?_
        refine wp_region_lit ?_
        refine wl hs (y_assign hs rfl) rfl ?_; intro a hs
        refine wpList_nil ?_
        refine x_nt ?_
        refine wp_ret ?_
        refine x_rb ?_
        refine x_rt ?_
        refine x_rt ?_
        refine x_rb ?_
        refine x_rt ?_
        refine x_rt ?_
        have hm : some (Sum.inl false) = some s2 := hm
        cases Option.some.inj hm
        have hm := hk3
        have hm : some false = some r := hm
        obtain rfl := Option.some.inj hm
        refine x_ret1 rfl hs rfl ⟨_, rfl, ?_⟩
        exact ⟨rfl, hM⟩
      · replace hm := condF hb hm
        refine wp_skip ?_
        refine x_nb ?_
        refine x_nt ?_
        refine wp_region_lit ?_
        refine wl hs (y_add hs rfl rfl hsj1) rfl ?_; intro a hs
        refine wl hs (y_move hs rfl) rfl ?_; intro a hs
        refine wpList_nil ?_
        exact ⟨_, by simp, q4, j1 + 1, rfl, hs.sub ⟨rfl, rfl, rfl, rfl, trivial⟩, hM, hm, drop_next hj1⟩
  rintro a w ⟨rfl, hs, hM⟩
  have hm := hk3
  refine x_nt ?_
  refine wp_seq ?_
  refine wp_region_lit ?_
  refine wl hs (y_assign hs rfl) rfl ?_; intro a hs
  refine wpList_nil ?_
  refine x_nt ?_
  refine wp_ret ?_
  have hm : some true = some r := hm
  obtain rfl := Option.some.inj hm
  refine x_ret1 rfl hs rfl ⟨_, rfl, ?_⟩
  exact ⟨rfl, hM⟩

theorem spec_wyCosts_any (v_p0 : Value) (p0 : List (List Int)) (W : World) (hr_p0 : RdM W v_p0 p0) {r : (List (List Int)) × Bool} (hm : spec_wyCosts_m p0 = some r) : Calls Try.prog 96 [v_p0].toArray W fun e w => ∃ v, e = .returned v ∧ ∃ v0, ∃ vs0, v = .tuple #[v0, .bool r.2] ∧ Mem W w [aMat 23 3 v0 vs0 r.1] := by
  refine x_enter Try.func96 rfl Try.ntmps96 rfl ?_
  intro a hs
  have hM := Mem.start W
  unfold spec_wyCosts_m at hm
  refine wp_seq ?_
  refine wp_region_lit ?_
  refine wl hs (y_assign hs rfl) rfl ?_; intro a hs
  refine wl hs (y_assign hs rfl) rfl ?_; intro a hs
  refine wpList_nil ?_
  refine x_nt ?_
  refine wp_seq ?_
  refine wp_region_lit ?_
  refine wl hs (y_move hs rfl) rfl ?_; intro a hs
  refine wl hs (y_len hu_M hs rfl (RdM.below hr_p0 hM.bel)) rfl ?_; intro a hs
  obtain ⟨y1, h2, hm⟩ := bindE hm
  refine wcall is_106 hs rfl rfl (spec_wyStart_any (p0.length : Int) _  h2) ?_; rintro a v3 w hs ⟨vs5, hX⟩
  have hM : Mem W w [aMat 23 3 v3 vs5 y1] := hM.call hX
  refine wl hs (y_assign hs rfl) rfl ?_; intro a hs
  refine wpList_nil ?_
  refine x_nt ?_
  refine wp_seq ?_
  refine wp_seq ?_
  refine wp_region_lit ?_
  refine wl hs (y_move hs rfl) rfl ?_; intro a hs
  refine wl hs (y_len hu_M hs rfl (RdM.below hr_p0 hM.bel)) rfl ?_; intro a hs
  refine wl hs (y_move hs rfl) rfl ?_; intro a hs
  refine wpList_nil ?_
  refine x_nt ?_
  obtain ⟨s15, hm, hk16⟩ := bindE hm
  refine x_mid (fun a w => ∃ (v12 : Value), ∃ (vs13 : List Value), ∃ (l14 : List (List Int)), l14 = s15 ∧ Fr a 22 [(0, v_p0), (4, v12)] ∧ Mem W w [aMat 23 3 v12 vs13 l14]) ?_ ?_
  · refine wp_block ?_
    refine x_loop (fun k a w => ∃ (q17 : List (List Int)) (j8 : Nat) (v9 : Value) (vs10 : List Value) (l11 : List (List Int)) , k = q17.length ∧ Fr a 22 [(0, v_p0), (4, v9), (9, .int .i64 (p0.length : Int)), (10, .int .i64 (j8 : Int))] ∧ Mem W w [aMat 23 3 v9 vs10 l11] ∧ spec_wyCosts_l1 p0 q17 j8 l11 = some s15 ∧ List.drop j8 p0 = q17) _ ⟨p0, 0, v3, vs5, y1, rfl, hs.sub ⟨rfl, rfl, rfl, rfl, trivial⟩, hM, hm, rfl⟩ ?_
    rintro k a w ⟨q17, j8, v9, vs10, l11, rfl, hs, hM, hm, hj8⟩
    rcases q17 with _ | ⟨x18, q17⟩
    · rewrite [spec_wyCosts_l1] at hm
      refine wp_seq ?_
      refine wp_region_lit ?_
      refine wl hs (y_lss hs rfl rfl) rfl ?_; intro a hs
      refine wpList_nil ?_
      refine x_nt ?_
      refine wp_seq ?_
      refine x_condF hs rfl (drop_f hj8) ?_
      refine wp_exit ?_
      refine x_et ?_
      refine x_et ?_
      refine x_eb ?_
      have hm : some l11 = some s15 := hm
      exact ⟨v9, vs10, l11, Option.some.inj hm, hs.sub ⟨rfl, rfl, trivial⟩, hM⟩
    · rewrite [spec_wyCosts_l1] at hm
      have hx19 := drop_idx hj8
      have hsj8 := ck_succ hj8 (RdS.len (RdM.below hr_p0 hM.bel))
      refine wp_seq ?_
      refine wp_region_lit ?_
      refine wl hs (y_lss hs rfl rfl) rfl ?_; intro a hs
      refine wpList_nil ?_
      refine x_nt ?_
      refine wp_seq ?_
      refine x_condT hs rfl (drop_t hj8) ?_
      refine wp_skip ?_
      refine x_nt ?_
      refine wp_seq ?_
      refine wp_block ?_
      refine wp_region_lit ?_
      refine wl hs (y_move hs rfl) rfl ?_; intro a hs
      refine wl hs (y_move hs rfl) rfl ?_; intro a hs
      obtain ⟨y20, h21, hm⟩ := bindE hm
      refine wcall is_107 hs rfl rfl (spec_wyStep_any v_p0 p0 v9 l11 _ (RdM.below hr_p0 hM.bel) (hM.rdM 0 rfl) h21) ?_; rintro a v22 w hs ⟨vs24, hX⟩
      have hM : Mem W w [aMat 23 3 v22 vs24 y20, aMat 23 3 v9 vs10 l11] := hM.call hX
      refine wl hs (y_assign hs rfl) rfl ?_; intro a hs
      refine wpList_nil ?_
      refine x_nb ?_
      refine x_nt ?_
      refine wp_region_lit ?_
      refine wl hs (y_add hs rfl rfl hsj8) rfl ?_; intro a hs
      refine wl hs (y_move hs rfl) rfl ?_; intro a hs
      refine wpList_nil ?_
      exact ⟨_, by simp, q17, j8 + 1, v22, vs24, y20, rfl, hs.sub ⟨rfl, rfl, rfl, rfl, trivial⟩, (hM.keep_ 1), hm, drop_next hj8⟩
  rintro a w ⟨v12, vs13, l14, rfl, hs, hM⟩
  have hm := hk16
  refine x_nt ?_
  refine wp_seq ?_
  refine wp_region_lit ?_
  refine wl hs (y_move hs rfl) rfl ?_; intro a hs
  refine wl hs (y_move hs rfl) rfl ?_; intro a hs
  refine wl hs (y_move hs rfl) rfl ?_; intro a hs
  refine wl hs (y_move hs rfl) rfl ?_; intro a hs
  obtain ⟨y26, h27, hm⟩ := bindE hm
  refine wcall is_107 hs rfl rfl (spec_wyStep_any v_p0 p0 v12 l14 _ (RdM.below hr_p0 hM.bel) (hM.rdM 0 rfl) h27) ?_; rintro a v28 w hs ⟨vs30, hX⟩
  have hM : Mem W w [aMat 23 3 v28 vs30 y26, aMat 23 3 v12 vs13 l14] := hM.call hX
  obtain ⟨y31, h32, hm⟩ := bindE hm
  refine wcall is_108 hs rfl rfl (spec_wySame_any v12 l14 v28 y26 _ (hM.rdM 1 rfl) (hM.rdM 0 rfl) h32) ?_; rintro a _ w hs ⟨rfl, hX⟩
  have hM : Mem W w [aMat 23 3 v28 vs30 y26, aMat 23 3 v12 vs13 l14] := hM.call hX
  refine wl hs (y_assign hs rfl) rfl ?_; intro a hs
  refine wl hs (y_assign hs rfl) rfl ?_; intro a hs
  refine wpList_nil ?_
  refine x_nt ?_
  refine wp_ret ?_
  have hm : some (l14, y31) = some r := hm
  obtain rfl := Option.some.inj hm
  refine x_ret2 rfl hs rfl rfl ⟨_, rfl, ?_⟩
  exact ⟨_, _, rfl, hM.drop⟩

end Go.Proofs.Ytnnhbkhlipekeaa
