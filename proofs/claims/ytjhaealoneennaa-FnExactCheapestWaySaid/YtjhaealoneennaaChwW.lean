/- The code of this unit computes what its mirrors say. Written by program (wip/gen). -/
import Derived.Test.YtjhaealoneennaaFacts
import Derived.Test.YtjhaealoneennaaChwM
import Derived.Test.YtjhaealoneennaaNumW
import Derived.Test.YtjhaealoneennaaMatW
import Derived.Test.YtjhaealoneennaaWy2W
import Derived.Test.YtjhaealoneennaaMx2W
import Derived.Test.YtjhaealoneennaaWy4W
namespace Go.Proofs.Ytjhaealoneennaa
open Go.RowKit
set_option linter.unusedVariables false

set_option maxHeartbeats 4000000 in
theorem spec_wyExact_any (v_p0 : Value) (p0 : List (List Int)) (p1 : Int) (W : World) (hr_p0 : RdM W v_p0 p0) {r : List (List Int)} (hm : spec_wyExact_m p0 p1 = some r) : Calls Try.prog 56 [v_p0, .int .i64 p1].toArray W fun e w => ∃ v, e = .returned v ∧ ∃ vs0, Mem W w [aMat 24 3 v vs0 r] := by
  refine x_enter Try.func56 rfl Try.ntmps56 rfl ?_
  intro a hs
  have hM := Mem.start W
  unfold spec_wyExact_m at hm
  refine wp_seq ?_
  refine wp_region_lit ?_
  refine wl hs (y_assign hs rfl) rfl ?_; intro a hs
  refine wpList_nil ?_
  refine x_nt ?_
  refine wp_seq ?_
  refine wp_region_lit ?_
  refine wl hs (y_assign hs rfl) rfl ?_; intro a hs
  have hM := hM.nilI 3
  refine wpList_nil ?_
  refine x_nt ?_
  refine wp_seq ?_
  refine wp_seq ?_
  refine wp_region_lit ?_
  refine wl hs (y_move hs rfl) rfl ?_; intro a hs
  refine wl hs (y_len hu_M hs rfl (RdM.below hr_p0 hM.bel)) rfl ?_; intro a hs
  refine wl hs (y_move hs rfl) rfl ?_; intro a hs
  refine wpList_nil ?_
  refine x_nt ?_
  obtain ⟨s7, hm, hk8⟩ := bindE hm
  refine x_mid (fun a w => ∃ (v5 : Value), ∃ (l6 : List Int), l6 = s7 ∧ Fr a 75 [(0, v_p0), (5, v5)] ∧ Mem W w [aInts 3 v5 l6]) ?_ ?_
  · refine wp_block ?_
    refine x_loop (fun k a w => ∃ (q9 : List (List Int)) (j2 : Nat) (v3 : Value) (l4 : List Int) , k = q9.length ∧ Fr a 75 [(0, v_p0), (1, .int .i64 p1), (5, v3), (14, .int .i64 (p0.length : Int)), (15, .int .i64 (j2 : Int))] ∧ Mem W w [aInts 3 v3 l4] ∧ spec_wyExact_l1 p1 q9 j2 l4 = some s7 ∧ List.drop j2 p0 = q9) _ ⟨p0, 0, (.slice none 0 0), [], rfl, hs.sub ⟨rfl, rfl, rfl, rfl, rfl, trivial⟩, hM, hm, rfl⟩ ?_
    rintro k a w ⟨q9, j2, v3, l4, rfl, hs, hM, hm, hj2⟩
    rcases q9 with _ | ⟨x10, q9⟩
    · rewrite [spec_wyExact_l1] at hm
      refine wp_seq ?_
      refine wp_region_lit ?_
      refine wl hs (y_lss hs rfl rfl) rfl ?_; intro a hs
      refine wpList_nil ?_
      refine x_nt ?_
      refine wp_seq ?_
      refine x_condF hs rfl (drop_f hj2) ?_
      refine wp_exit ?_
      refine x_et ?_
      refine x_et ?_
      refine x_eb ?_
      have hm : some l4 = some s7 := hm
      exact ⟨v3, l4, Option.some.inj hm, hs.sub ⟨rfl, rfl, trivial⟩, hM⟩
    · rewrite [spec_wyExact_l1] at hm
      have hx11 := drop_idx hj2
      have hsj2 := ck_succ hj2 (RdS.len (RdM.below hr_p0 hM.bel))
      refine wp_seq ?_
      refine wp_region_lit ?_
      refine wl hs (y_lss hs rfl rfl) rfl ?_; intro a hs
      refine wpList_nil ?_
      refine x_nt ?_
      refine wp_seq ?_
      refine x_condT hs rfl (drop_t hj2) ?_
      refine wp_skip ?_
      refine x_nt ?_
      refine wp_seq ?_
      refine wp_block ?_
      refine wp_seq ?_
      refine wp_region_lit ?_
      refine wl hs (y_move hs rfl) rfl ?_; intro a hs
      refine wl hs (y_assign hs rfl) rfl ?_; intro a hs
      refine wpList_nil ?_
      refine x_nt ?_
      refine wp_seq ?_
      refine wp_region_lit ?_
      refine wl hs (y_move hs rfl) rfl ?_; intro a hs
      refine wl hs (y_move hs rfl) rfl ?_; intro a hs
      refine wl hs (y_eql hs rfl rfl) rfl ?_; intro a hs
      refine wpList_nil ?_
      refine x_nt ?_
      refine x_cond hs rfl (fun hb => ?_) (fun hb => ?_)
      · replace hm := condT hb hm
        refine wp_region_lit ?_
        refine wl hs (y_move hs rfl) rfl ?_; intro a hs
        obtain ⟨l12, h13, hm⟩ := bindE hm
        refine wappI hu_I he_int hs hM rfl rfl h13 rfl rfl rfl ?_; intro a v14 w u15 hs hM
        have hM : Mem W w [aInts 3 v14 l12] := hM
        refine wl hs (y_assign hs rfl) rfl ?_; intro a hs
        refine wpList_nil ?_
        refine x_nb ?_
        refine x_nt ?_
        refine wp_region_lit ?_
        refine wl hs (y_add hs rfl rfl hsj2) rfl ?_; intro a hs
        refine wl hs (y_move hs rfl) rfl ?_; intro a hs
        refine wpList_nil ?_
        exact ⟨_, by simp, q9, j2 + 1, v14, l12, rfl, hs.sub ⟨rfl, rfl, rfl, rfl, rfl, trivial⟩, hM, hm, drop_next hj2⟩
      · replace hm := condF hb hm
        refine wp_region_lit ?_
        refine wl hs (y_move hs rfl) rfl ?_; intro a hs
        obtain ⟨l16, h17, hm⟩ := bindE hm
        refine wappI hu_I he_int hs hM rfl rfl h17 rfl rfl rfl ?_; intro a v18 w u19 hs hM
        have hM : Mem W w [aInts 3 v18 l16] := hM
        refine wl hs (y_assign hs rfl) rfl ?_; intro a hs
        refine wpList_nil ?_
        refine x_nb ?_
        refine x_nt ?_
        refine wp_region_lit ?_
        refine wl hs (y_add hs rfl rfl hsj2) rfl ?_; intro a hs
        refine wl hs (y_move hs rfl) rfl ?_; intro a hs
        refine wpList_nil ?_
        exact ⟨_, by simp, q9, j2 + 1, v18, l16, rfl, hs.sub ⟨rfl, rfl, rfl, rfl, rfl, trivial⟩, hM, hm, drop_next hj2⟩
  rintro a w ⟨v5, l6, rfl, hs, hM⟩
  have hm := hk8
  refine x_nt ?_
  refine wp_seq ?_
  refine wp_region_lit ?_
  refine wl hs (y_move hs rfl) rfl ?_; intro a hs
  refine wmem hs (x_new1M hu_M he_I hs rfl (hM.front 0 rfl)) rfl ?_; intro a v21 w hs hM
  have hM : Mem W w [aMat 24 3 v21 ([v5]) ([l6])] := hM
  refine wl hs (y_assign hs rfl) rfl ?_; intro a hs
  refine wpList_nil ?_
  refine x_nt ?_
  refine wp_seq ?_
  refine wp_seq ?_
  refine wp_region_lit ?_
  refine wl hs (y_assign hs rfl) rfl ?_; intro a hs
  refine wpList_nil ?_
  refine x_nt ?_
  obtain ⟨s29, hm, hk30⟩ := bindE hm
  refine x_mid (fun a w => ∃ (v26 : Value), ∃ (vs27 : List Value), ∃ (l28 : List (List Int)), l28 = s29 ∧ Fr a 75 [(7, v26)] ∧ Mem W w [aMat 24 3 v26 vs27 l28]) ?_ ?_
  · refine wp_block ?_
    refine x_loop (fun k a w => ∃ (v22 : Value) (vs23 : List Value) (l24 : List (List Int)) (n25 : Int) , Fr a 75 [(0, v_p0), (7, v22), (8, .int .i64 n25)] ∧ Mem W w [aMat 24 3 v22 vs23 l24] ∧ spec_wyExact_l2 p0 k l24 n25 = some s29) 4000000 ⟨v21, [v5], [l6], 1, hs.sub ⟨rfl, rfl, rfl, trivial⟩, hM, hm⟩ ?_
    rintro k a w ⟨v22, vs23, l24, n25, hs, hM, hm⟩
    rcases k with _ | k
    · rewrite [spec_wyExact_l2] at hm; cases hm
    rewrite [spec_wyExact_l2] at hm
    refine wp_seq ?_
    refine wp_seq ?_
    refine wp_region_lit ?_
    refine wl hs (y_move hs rfl) rfl ?_; intro a hs
    refine wl hs (y_move hs rfl) rfl ?_; intro a hs
    refine wl hs (y_len hu_M hs rfl (RdM.below hr_p0 hM.bel)) rfl ?_; intro a hs
    refine wl hs (y_lss hs rfl rfl) rfl ?_; intro a hs
    refine wpList_nil ?_
    refine x_nt ?_
    refine x_cond hs rfl (fun hb => ?_) (fun hb => ?_)
    · replace hm := condT hb hm
      refine wp_skip ?_
      refine x_nt ?_
      refine wp_seq ?_
      refine wp_block ?_
      refine wp_seq ?_
      refine wp_region_lit ?_
      refine wl hs (y_assign hs rfl) rfl ?_; intro a hs
      have hM := hM.nilI 3
      refine wpList_nil ?_
      refine x_nt ?_
      refine wp_seq ?_
      refine wp_seq ?_
      refine wp_region_lit ?_
      refine wl hs (y_move hs rfl) rfl ?_; intro a hs
      refine wl hs (y_len hu_M hs rfl (RdM.below hr_p0 hM.bel)) rfl ?_; intro a hs
      refine wl hs (y_move hs rfl) rfl ?_; intro a hs
      refine wpList_nil ?_
      refine x_nt ?_
      obtain ⟨s38, hm, hk39⟩ := bindE hm
      refine x_mid (fun a w => ∃ (v36 : Value), ∃ (l37 : List Int), l37 = s38 ∧ Fr a 75 [(0, v_p0), (7, v22), (8, .int .i64 n25), (9, v36)] ∧ Mem W w [aInts 3 v36 l37, aMat 24 3 v22 vs23 l24]) ?_ ?_
      · refine wp_block ?_
        refine x_loop (fun k a w => ∃ (q40 : List (List Int)) (j33 : Nat) (v34 : Value) (l35 : List Int) , k = q40.length ∧ Fr a 75 [(0, v_p0), (7, v22), (8, .int .i64 n25), (9, v34), (37, .int .i64 (p0.length : Int)), (38, .int .i64 (j33 : Int))] ∧ Mem W w [aInts 3 v34 l35, aMat 24 3 v22 vs23 l24] ∧ spec_wyExact_l3 p0 l24 n25 q40 j33 l35 = some s38 ∧ List.drop j33 p0 = q40) _ ⟨p0, 0, (.slice none 0 0), [], rfl, hs.sub ⟨rfl, rfl, rfl, rfl, rfl, rfl, trivial⟩, hM, hm, rfl⟩ ?_
        rintro k a w ⟨q40, j33, v34, l35, rfl, hs, hM, hm, hj33⟩
        rcases q40 with _ | ⟨x41, q40⟩
        · rewrite [spec_wyExact_l3] at hm
          refine wp_seq ?_
          refine wp_region_lit ?_
          refine wl hs (y_lss hs rfl rfl) rfl ?_; intro a hs
          refine wpList_nil ?_
          refine x_nt ?_
          refine wp_seq ?_
          refine x_condF hs rfl (drop_f hj33) ?_
          refine wp_exit ?_
          refine x_et ?_
          refine x_et ?_
          refine x_eb ?_
          have hm : some l35 = some s38 := hm
          exact ⟨v34, l35, Option.some.inj hm, hs.sub ⟨rfl, rfl, rfl, rfl, trivial⟩, hM⟩
        · rewrite [spec_wyExact_l3] at hm
          have hx42 := drop_idx hj33
          have hsj33 := ck_succ hj33 (RdS.len (RdM.below hr_p0 hM.bel))
          refine wp_seq ?_
          refine wp_region_lit ?_
          refine wl hs (y_lss hs rfl rfl) rfl ?_; intro a hs
          refine wpList_nil ?_
          refine x_nt ?_
          refine wp_seq ?_
          refine x_condT hs rfl (drop_t hj33) ?_
          refine wp_skip ?_
          refine x_nt ?_
          refine wp_seq ?_
          refine wp_block ?_
          refine wp_seq ?_
          refine wp_region_lit ?_
          refine wl hs (y_move hs rfl) rfl ?_; intro a hs
          refine wl hs (y_assign hs rfl) rfl ?_; intro a hs
          refine wpList_nil ?_
          refine x_nt ?_
          refine wp_seq ?_
          refine wp_region_lit ?_
          refine wl hs (y_assign hs rfl) rfl ?_; intro a hs
          refine wpList_nil ?_
          refine x_nt ?_
          refine wp_seq ?_
          refine wp_seq ?_
          refine wp_region_lit ?_
          refine wl hs (y_move hs rfl) rfl ?_; intro a hs
          refine wl hs (y_len hu_M hs rfl (RdM.below hr_p0 hM.bel)) rfl ?_; intro a hs
          refine wl hs (y_move hs rfl) rfl ?_; intro a hs
          refine wpList_nil ?_
          refine x_nt ?_
          obtain ⟨s46, hm, hk47⟩ := bindE hm
          refine x_mid (fun a w => ∃ (n45 : Int), n45 = s46 ∧ Fr a 75 [(0, v_p0), (7, v22), (8, .int .i64 n25), (9, v34), (11, .int .i64 n45), (37, .int .i64 (p0.length : Int)), (38, .int .i64 (j33 : Int))] ∧ Mem W w [aInts 3 v34 l35, aMat 24 3 v22 vs23 l24]) ?_ ?_
          · refine wp_block ?_
            refine x_loop (fun k a w => ∃ (q48 : List (List Int)) (j43 : Nat) (n44 : Int) , k = q48.length ∧ Fr a 75 [(0, v_p0), (7, v22), (8, .int .i64 n25), (9, v34), (10, .int .i64 (j33 : Int)), (11, .int .i64 n44), (37, .int .i64 (p0.length : Int)), (38, .int .i64 (j33 : Int)), (42, .int .i64 (p0.length : Int)), (43, .int .i64 (j43 : Int))] ∧ Mem W w [aInts 3 v34 l35, aMat 24 3 v22 vs23 l24] ∧ spec_wyExact_l4 l24 n25 x41 q48 j43 n44 = some s46 ∧ List.drop j43 p0 = q48) _ ⟨p0, 0, 1000000000, rfl, hs.sub ⟨rfl, rfl, rfl, rfl, rfl, rfl, rfl, rfl, rfl, rfl, trivial⟩, hM, hm, rfl⟩ ?_
            rintro k a w ⟨q48, j43, n44, rfl, hs, hM, hm, hj43⟩
            rcases q48 with _ | ⟨x49, q48⟩
            · rewrite [spec_wyExact_l4] at hm
              refine wp_seq ?_
              refine wp_region_lit ?_
              refine wl hs (y_lss hs rfl rfl) rfl ?_; intro a hs
              refine wpList_nil ?_
              refine x_nt ?_
              refine wp_seq ?_
              refine x_condF hs rfl (drop_f hj43) ?_
              refine wp_exit ?_
              refine x_et ?_
              refine x_et ?_
              refine x_eb ?_
              have hm : some n44 = some s46 := hm
              exact ⟨n44, Option.some.inj hm, hs.sub ⟨rfl, rfl, rfl, rfl, rfl, rfl, rfl, trivial⟩, hM⟩
            · rewrite [spec_wyExact_l4] at hm
              have hx50 := drop_idx hj43
              have hsj43 := ck_succ hj43 (RdS.len (RdM.below hr_p0 hM.bel))
              refine wp_seq ?_
              refine wp_region_lit ?_
              refine wl hs (y_lss hs rfl rfl) rfl ?_; intro a hs
              refine wpList_nil ?_
              refine x_nt ?_
              refine wp_seq ?_
              refine x_condT hs rfl (drop_t hj43) ?_
              refine wp_skip ?_
              refine x_nt ?_
              refine wp_seq ?_
              refine wp_block ?_
              refine wp_seq ?_
              refine wp_region_lit ?_
              refine wl hs (y_move hs rfl) rfl ?_; intro a hs
              refine wl hs (y_assign hs rfl) rfl ?_; intro a hs
              refine wpList_nil ?_
              refine x_nt ?_
              refine x_regq hmix (by kernel_rfl) ?_
              refine wq hs (fun w1 hw1 => y_move hs rfl) rfl ?_; intro a hs
              refine wq hs (fun w1 hw1 => y_move hs rfl) rfl ?_; intro a hs
              refine wq hs (fun w1 hw1 => y_move hs rfl) rfl ?_; intro a hs
              obtain ⟨u52, he51, hr53⟩ := RdM.at_ hr_p0 hx42
              replace he51 := he51.below hM.bel
              refine wq hs (fun w1 hw1 => y_index ht_M hs rfl rfl (he51.below hw1)) rfl ?_; intro a hs
              refine wq hs (fun w1 hw1 => y_load sc_I hs rfl (he51.below hw1).cell) rfl ?_; intro a hs
              refine wq hs (fun w1 hw1 => y_move hs rfl) rfl ?_; intro a hs
              obtain ⟨x54, hx55, hm⟩ := bindE hm
              have he56 := RdI.at_ (RdI.below hr53 hM.bel) hx55
              refine wq hs (fun w1 hw1 => y_index ht_I hs rfl rfl (he56.below hw1)) rfl ?_; intro a hs
              refine wq hs (fun w1 hw1 => y_load sc_int hs rfl (he56.below hw1).cell) rfl ?_; intro a hs
              refine wq hs (fun w1 hw1 => y_move hs rfl) rfl ?_; intro a hs
              refine wq hs (fun w1 hw1 => y_move hs rfl) rfl ?_; intro a hs
              obtain ⟨n57, h58, hm⟩ := bindE hm
              refine wq hs (fun w1 hw1 => y_sub hs rfl rfl h58) rfl ?_; intro a hs
              obtain ⟨x59, hx60, hm⟩ := bindE hm
              obtain ⟨u62, hv63, he61⟩ := hM.atM 1 rfl hx60
              refine wq hs (fun w1 hw1 => y_index ht_M hs rfl rfl (he61.below hw1)) rfl ?_; intro a hs
              refine wq hs (fun w1 hw1 => y_load sc_I hs rfl (he61.below hw1).cell) rfl ?_; intro a hs
              refine wq hs (fun w1 hw1 => y_move hs rfl) rfl ?_; intro a hs
              obtain ⟨x64, hx65, hm⟩ := bindE hm
              have he66 := RdI.at_ (hM.rdRow 1 rfl rfl hv63 (idx_spec hx60).2.2) hx65
              refine wq hs (fun w1 hw1 => y_index ht_I hs rfl rfl (he66.below hw1)) rfl ?_; intro a hs
              refine wq hs (fun w1 hw1 => y_load sc_int hs rfl (he66.below hw1).cell) rfl ?_; intro a hs
              obtain ⟨y67, h68, hm⟩ := bindE hm
              refine qcall (v := .int .i64 y67) is_57 hs rfl rfl (fun w1 hw1 => q_of hw1 (spec_nuPlus_any x54 x64 w1  h68)) ?_; intro a hs
              obtain ⟨y69, h70, hm⟩ := bindE hm
              refine qcall (v := .int .i64 y69) is_48 hs rfl rfl (fun w1 hw1 => q_of hw1 (spec_l1Least_any n44 y67 w1  h70)) ?_; intro a hs
              refine wq hs (fun w1 hw1 => y_assign hs rfl) rfl ?_; intro a hs
              refine wpQuiet_nil ?_
              intro w hw
              replace hM := hM.quiet hw
              refine x_nb ?_
              refine x_nt ?_
              refine wp_region_lit ?_
              refine wl hs (y_add hs rfl rfl hsj43) rfl ?_; intro a hs
              refine wl hs (y_move hs rfl) rfl ?_; intro a hs
              refine wpList_nil ?_
              exact ⟨_, by simp, q48, j43 + 1, y69, rfl, hs.sub ⟨rfl, rfl, rfl, rfl, rfl, rfl, rfl, rfl, rfl, rfl, trivial⟩, hM, hm, drop_next hj43⟩
          rintro a w ⟨n45, rfl, hs, hM⟩
          have hm := hk47
          refine x_nt ?_
          refine wp_region_lit ?_
          refine wl hs (y_move hs rfl) rfl ?_; intro a hs
          refine wl hs (y_move hs rfl) rfl ?_; intro a hs
          obtain ⟨l71, h72, hm⟩ := bindE hm
          refine wappI hu_I he_int hs hM rfl rfl h72 rfl rfl rfl ?_; intro a v73 w u74 hs hM
          have hM : Mem W w [aInts 3 v73 l71, aMat 24 3 v22 vs23 l24] := hM
          refine wl hs (y_assign hs rfl) rfl ?_; intro a hs
          refine wpList_nil ?_
          refine x_nb ?_
          refine x_nt ?_
          refine wp_region_lit ?_
          refine wl hs (y_add hs rfl rfl hsj33) rfl ?_; intro a hs
          refine wl hs (y_move hs rfl) rfl ?_; intro a hs
          refine wpList_nil ?_
          exact ⟨_, by simp, q40, j33 + 1, v73, l71, rfl, hs.sub ⟨rfl, rfl, rfl, rfl, rfl, rfl, trivial⟩, hM, hm, drop_next hj33⟩
      rintro a w ⟨v36, l37, rfl, hs, hM⟩
      have hm := hk39
      refine x_nt ?_
      refine wp_region_lit ?_
      refine wl hs (y_move hs rfl) rfl ?_; intro a hs
      refine wl hs (y_move hs rfl) rfl ?_; intro a hs
      obtain ⟨l75, h76, hm⟩ := bindE hm
      refine wappM hu_M he_I hs (hM.front 1 rfl) rfl rfl h76 rfl rfl rfl ?_; intro a v77 w u78 hs hM
      have hM : Mem W w [aMat 24 3 v77 (vs23 ++ [v36]) l75] := hM
      refine wl hs (y_assign hs rfl) rfl ?_; intro a hs
      refine wpList_nil ?_
      refine x_nb ?_
      refine x_nt ?_
      refine wp_region_lit ?_
      refine wl hs (y_move hs rfl) rfl ?_; intro a hs
      obtain ⟨n79, h80, hm⟩ := bindE hm
      refine wl hs (y_add hs rfl rfl h80) rfl ?_; intro a hs
      refine wl hs (y_assign hs rfl) rfl ?_; intro a hs
      refine wpList_nil ?_
      exact ⟨k, Nat.lt_succ_self _, v77, (vs23 ++ [v36]), l75, n79, hs.sub ⟨rfl, rfl, rfl, trivial⟩, hM, hm⟩
    · replace hm := condF hb hm
      refine wp_exit ?_
      refine x_et ?_
      refine x_et ?_
      refine x_eb ?_
      have hm : some l24 = some s29 := hm
      exact ⟨v22, vs23, l24, Option.some.inj hm, hs.sub ⟨rfl, trivial⟩, hM⟩
  rintro a w ⟨v26, vs27, l28, rfl, hs, hM⟩
  have hm := hk30
  refine x_nt ?_
  refine wp_seq ?_
  refine wp_region_lit ?_
  refine wl hs (y_move hs rfl) rfl ?_; intro a hs
  refine wl hs (y_assign hs rfl) rfl ?_; intro a hs
  refine wpList_nil ?_
  refine x_nt ?_
  refine wp_ret ?_
  have hm : some l28 = some r := hm
  obtain rfl := Option.some.inj hm
  refine x_ret1 rfl hs rfl ⟨_, rfl, ?_⟩
  exact ⟨_, hM⟩

set_option maxHeartbeats 4000000 in
theorem spec_CheapestWay_any (v_p0 : Value) (p0 : List (List Int)) (p1 : Int) (p2 : Int) (W : World) (hr_p0 : RdM W v_p0 p0) {r : (List Int) × Bool} (hm : spec_CheapestWay_m p0 p1 p2 = some r) : Calls Try.prog 23 [v_p0, .int .i64 p1, .int .i64 p2].toArray W fun e w => ∃ v, e = .returned v ∧ ∃ v0, v = .tuple #[v0, .bool r.2] ∧ Mem W w [aInts 3 v0 r.1] := by
  refine x_enter Try.func23 rfl Try.ntmps23 rfl ?_
  intro a hs
  have hM := Mem.start W
  unfold spec_CheapestWay_m at hm
  refine wp_seq ?_
  refine wp_region_lit ?_
  refine wl hs (y_assign hs rfl) rfl ?_; intro a hs
  refine wl hs (y_assign hs rfl) rfl ?_; intro a hs
  refine wpList_nil ?_
  refine x_nt ?_
  refine wp_seq ?_
  refine wp_seq ?_
  refine wp_region_lit ?_
  refine wl hs (y_move hs rfl) rfl ?_; intro a hs
  obtain ⟨y1, h2, hm⟩ := bindE hm
  refine wcall is_46 hs rfl rfl (spec_mxSquare_any v_p0 p0 _ (RdM.below hr_p0 hM.bel) h2) ?_; rintro a _ w hs ⟨rfl, hX⟩
  have hM : Mem W w [] := hM.call hX
  refine wl hs (y_not hs rfl) rfl ?_; intro a hs
  refine wl hs (y_move hs rfl) rfl ?_; intro a hs
  obtain ⟨b3, hb4, hm⟩ := bindE hm
  refine wlguard (N := 120) (L' := [(25, .bool b3), (0, v_p0), (1, .int .i64 p1), (2, .int .i64 p2)]) (fun w => Mem W w []) 7 ?_ ?_
  · intro K; rcases Bool.eq_false_or_eq_true (!y1) with hg5 | hg5
    · have hm := condT hg5 hb4
      refine wls hs rfl hg5 rfl ?_; intro a hs
      refine wls hs rfl hg5 rfl ?_; intro a hs
      refine wls hs rfl hg5 rfl ?_; intro a hs
      refine wls hs rfl hg5 rfl ?_; intro a hs
      refine wls hs rfl hg5 rfl ?_; intro a hs
      refine wls hs rfl hg5 rfl ?_; intro a hs
      have hm : some true = some b3 := hm
      cases Option.some.inj hm
      refine wl hs (y_pickT hs rfl hg5 rfl) rfl ?_; intro a hs
      exact K _ _ (hs.sub ⟨rfl, rfl, rfl, rfl, trivial⟩) hM
    · have hm := condF hg5 hb4
      refine wlg hs rfl hg5 (y_move hs rfl) rfl ?_; intro a hs
      refine wlg hs rfl hg5 (y_move hs rfl) rfl ?_; intro a hs
      refine wlg hs rfl hg5 (y_len hu_M hs rfl (RdM.below hr_p0 hM.bel)) rfl ?_; intro a hs
      obtain ⟨n6, h7, hm⟩ := bindE hm
      refine wlg hs rfl hg5 (y_sub hs rfl rfl h7) rfl ?_; intro a hs
      obtain ⟨y8, h9, hm⟩ := bindE hm
      refine wcallg is_55 hs rfl hg5 rfl rfl (spec_l1In_any p1 0 n6 _  h9) ?_; rintro a _ w hs ⟨rfl, hX⟩
      have hM : Mem W w [] := hM.call hX
      refine wlg hs rfl hg5 (y_not hs rfl) rfl ?_; intro a hs
      have hm : some (!y8) = some b3 := hm
      cases Option.some.inj hm
      refine wl hs (y_pickF hs rfl hg5 rfl) rfl ?_; intro a hs
      exact K _ _ (hs.sub ⟨rfl, rfl, rfl, rfl, trivial⟩) hM
  intro a w hs hM
  simp only [List.drop_succ_cons, List.drop_zero]
  refine wl hs (y_move hs rfl) rfl ?_; intro a hs
  obtain ⟨b10, hb11, hm⟩ := bindE hm
  refine wlguard (N := 120) (L' := [(33, .bool b10), (0, v_p0), (1, .int .i64 p1), (2, .int .i64 p2)]) (fun w => Mem W w []) 7 ?_ ?_
  · intro K; rcases Bool.eq_false_or_eq_true b3 with hg12 | hg12
    · have hm := condT hg12 hb11
      refine wls hs rfl hg12 rfl ?_; intro a hs
      refine wls hs rfl hg12 rfl ?_; intro a hs
      refine wls hs rfl hg12 rfl ?_; intro a hs
      refine wls hs rfl hg12 rfl ?_; intro a hs
      refine wls hs rfl hg12 rfl ?_; intro a hs
      refine wls hs rfl hg12 rfl ?_; intro a hs
      have hm : some true = some b10 := hm
      cases Option.some.inj hm
      refine wl hs (y_pickT hs rfl hg12 rfl) rfl ?_; intro a hs
      exact K _ _ (hs.sub ⟨rfl, rfl, rfl, rfl, trivial⟩) hM
    · have hm := condF hg12 hb11
      refine wlg hs rfl hg12 (y_move hs rfl) rfl ?_; intro a hs
      refine wlg hs rfl hg12 (y_move hs rfl) rfl ?_; intro a hs
      refine wlg hs rfl hg12 (y_len hu_M hs rfl (RdM.below hr_p0 hM.bel)) rfl ?_; intro a hs
      obtain ⟨n13, h14, hm⟩ := bindE hm
      refine wlg hs rfl hg12 (y_sub hs rfl rfl h14) rfl ?_; intro a hs
      obtain ⟨y15, h16, hm⟩ := bindE hm
      refine wcallg is_55 hs rfl hg12 rfl rfl (spec_l1In_any p2 0 n13 _  h16) ?_; rintro a _ w hs ⟨rfl, hX⟩
      have hM : Mem W w [] := hM.call hX
      refine wlg hs rfl hg12 (y_not hs rfl) rfl ?_; intro a hs
      have hm : some (!y15) = some b10 := hm
      cases Option.some.inj hm
      refine wl hs (y_pickF hs rfl hg12 rfl) rfl ?_; intro a hs
      exact K _ _ (hs.sub ⟨rfl, rfl, rfl, rfl, trivial⟩) hM
  intro a w hs hM
  simp only [List.drop_succ_cons, List.drop_zero]
  refine wpList_nil ?_
  refine x_nt ?_
  refine x_cond hs rfl (fun hb => ?_) (fun hb => ?_)
  · replace hm := condT hb hm
    refine wp_seq ?_
    refine wp_region_lit ?_
    refine wl hs (y_assign hs rfl) rfl ?_; intro a hs
    refine wl hs (y_assign hs rfl) rfl ?_; intro a hs
    refine wpList_nil ?_
    refine x_nt ?_
    refine wp_ret ?_
    refine x_rt ?_
    have hm : some ([], false) = some r := hm
    obtain rfl := Option.some.inj hm
    refine x_ret2 rfl hs rfl rfl ⟨_, rfl, ?_⟩
    have hM := hM.nilI 3
    exact ⟨_, rfl, hM⟩
  · replace hm := condF hb hm
    refine wp_skip ?_
    refine x_nt ?_
    refine wp_seq ?_
    refine wp_region_lit ?_
    refine wl hs (y_move hs rfl) rfl ?_; intro a hs
    obtain ⟨y18, h19, hm⟩ := bindE hm
    refine wcall is_47 hs rfl rfl (spec_wyCosts_any v_p0 p0 _ (RdM.below hr_p0 hM.bel) h19) ?_; rintro a _ w hs ⟨v22, vs23, rfl, hX⟩
    have hM : Mem W w [aMat 24 3 v22 vs23 y18.1] := hM.call hX
    refine wl hs (y_move hs rfl) rfl ?_; intro a hs
    refine wl hs (y_extract hs rfl rfl) rfl ?_; intro a hs
    refine wl hs (y_extract hs rfl rfl) rfl ?_; intro a hs
    refine wl hs (y_assign hs rfl) rfl ?_; intro a hs
    refine wl hs (y_assign hs rfl) rfl ?_; intro a hs
    refine wpList_nil ?_
    refine x_nt ?_
    refine wp_seq ?_
    refine wp_seq ?_
    refine wp_region_lit ?_
    refine wl hs (y_move hs rfl) rfl ?_; intro a hs
    refine wl hs (y_not hs rfl) rfl ?_; intro a hs
    refine wl hs (y_move hs rfl) rfl ?_; intro a hs
    obtain ⟨b24, hb25, hm⟩ := bindE hm
    refine wlguard (N := 120) (L' := [(50, .bool b24), (0, v_p0), (1, .int .i64 p1), (2, .int .i64 p2), (8, v22)]) (fun w => Mem W w [aMat 24 3 v22 vs23 y18.1]) 9 ?_ ?_
    · intro K; rcases Bool.eq_false_or_eq_true (!y18.2) with hg26 | hg26
      · have hm := condT hg26 hb25
        refine wls hs rfl hg26 rfl ?_; intro a hs
        refine wls hs rfl hg26 rfl ?_; intro a hs
        refine wls hs rfl hg26 rfl ?_; intro a hs
        refine wls hs rfl hg26 rfl ?_; intro a hs
        refine wls hs rfl hg26 rfl ?_; intro a hs
        refine wls hs rfl hg26 rfl ?_; intro a hs
        refine wls hs rfl hg26 rfl ?_; intro a hs
        refine wls hs rfl hg26 rfl ?_; intro a hs
        have hm : some true = some b24 := hm
        cases Option.some.inj hm
        refine wl hs (y_pickT hs rfl hg26 rfl) rfl ?_; intro a hs
        exact K _ _ (hs.sub ⟨rfl, rfl, rfl, rfl, rfl, trivial⟩) hM
      · have hm := condF hg26 hb25
        refine wlg hs rfl hg26 (y_move hs rfl) rfl ?_; intro a hs
        refine wlg hs rfl hg26 (y_move hs rfl) rfl ?_; intro a hs
        obtain ⟨x27, hx28, hm⟩ := bindE hm
        obtain ⟨u30, hv31, he29⟩ := hM.atM 0 rfl hx28
        refine wlg hs rfl hg26 (y_index ht_M hs rfl rfl he29) rfl ?_; intro a hs
        refine wlg hs rfl hg26 (y_load sc_I hs rfl he29.cell) rfl ?_; intro a hs
        refine wlg hs rfl hg26 (y_move hs rfl) rfl ?_; intro a hs
        obtain ⟨x32, hx33, hm⟩ := bindE hm
        have he34 := RdI.at_ (hM.rdRow 0 rfl rfl hv31 (idx_spec hx28).2.2) hx33
        refine wlg hs rfl hg26 (y_index ht_I hs rfl rfl he34) rfl ?_; intro a hs
        refine wlg hs rfl hg26 (y_load sc_int hs rfl he34.cell) rfl ?_; intro a hs
        refine wlg hs rfl hg26 (y_eql hs rfl rfl) rfl ?_; intro a hs
        have hm : some (x32 == 1000000000) = some b24 := hm
        cases Option.some.inj hm
        refine wl hs (y_pickF hs rfl hg26 rfl) rfl ?_; intro a hs
        exact K _ _ (hs.sub ⟨rfl, rfl, rfl, rfl, rfl, trivial⟩) hM
    intro a w hs hM
    simp only [List.drop_succ_cons, List.drop_zero]
    refine wpList_nil ?_
    refine x_nt ?_
    refine x_cond hs rfl (fun hb => ?_) (fun hb => ?_)
    · replace hm := condT hb hm
      refine wp_seq ?_
      refine wp_region_lit ?_
      refine wl hs (y_assign hs rfl) rfl ?_; intro a hs
      refine wl hs (y_assign hs rfl) rfl ?_; intro a hs
      refine wpList_nil ?_
      refine x_nt ?_
      refine wp_ret ?_
      refine x_rt ?_
      have hm : some ([], false) = some r := hm
      obtain rfl := Option.some.inj hm
      refine x_ret2 rfl hs rfl rfl ⟨_, rfl, ?_⟩
      have hM := hM.nilI 3
      exact ⟨_, rfl, (hM.keep_ 1)⟩
    · replace hm := condF hb hm
      refine wp_skip ?_
      refine x_nt ?_
      refine wp_seq ?_
      refine wp_region_lit ?_
      refine wl hs (y_move hs rfl) rfl ?_; intro a hs
      refine wl hs (y_move hs rfl) rfl ?_; intro a hs
      obtain ⟨y36, h37, hm⟩ := bindE hm
      refine wcall is_56 hs rfl rfl (spec_wyExact_any v_p0 p0 p2 _ (RdM.below hr_p0 hM.bel) h37) ?_; rintro a v38 w hs ⟨vs40, hX⟩
      have hM : Mem W w [aMat 24 3 v38 vs40 y36, aMat 24 3 v22 vs23 y18.1] := hM.call hX
      refine wl hs (y_assign hs rfl) rfl ?_; intro a hs
      refine wpList_nil ?_
      refine x_nt ?_
      refine wp_seq ?_
      refine wp_region_lit ?_
      refine wl hs (y_assign hs rfl) rfl ?_; intro a hs
      refine wpList_nil ?_
      refine x_nt ?_
      refine wp_seq ?_
      obtain ⟨s43, hm, hk44⟩ := bindE hm
      refine x_mid (fun a w => ∃ (n42 : Int), n42 = s43 ∧ Fr a 120 [(0, v_p0), (1, .int .i64 p1), (10, v38), (11, .int .i64 n42)] ∧ Mem W w [aMat 24 3 v38 vs40 y36]) ?_ ?_
      · refine wp_block ?_
        refine x_loop (fun k a w => ∃ (n41 : Int) , Fr a 120 [(0, v_p0), (1, .int .i64 p1), (2, .int .i64 p2), (8, v22), (10, v38), (11, .int .i64 n41)] ∧ Mem W w [aMat 24 3 v38 vs40 y36, aMat 24 3 v22 vs23 y18.1] ∧ spec_CheapestWay_l1 p1 p2 y18 y36 k n41 = some s43) 4000000 ⟨0, hs.sub ⟨rfl, rfl, rfl, rfl, rfl, rfl, trivial⟩, hM, hm⟩ ?_
        rintro k a w ⟨n41, hs, hM, hm⟩
        rcases k with _ | k
        · rewrite [spec_CheapestWay_l1] at hm; cases hm
        rewrite [spec_CheapestWay_l1] at hm
        refine wp_seq ?_
        refine wp_seq ?_
        refine x_regq hmix (by kernel_rfl) ?_
        refine wq hs (fun w1 hw1 => y_move hs rfl) rfl ?_; intro a hs
        refine wq hs (fun w1 hw1 => y_move hs rfl) rfl ?_; intro a hs
        obtain ⟨x46, hx47, hm⟩ := bindE hm
        obtain ⟨u49, hv50, he48⟩ := hM.atM 0 rfl hx47
        refine wq hs (fun w1 hw1 => y_index ht_M hs rfl rfl (he48.below hw1)) rfl ?_; intro a hs
        refine wq hs (fun w1 hw1 => y_load sc_I hs rfl (he48.below hw1).cell) rfl ?_; intro a hs
        refine wq hs (fun w1 hw1 => y_move hs rfl) rfl ?_; intro a hs
        obtain ⟨x51, hx52, hm⟩ := bindE hm
        have he53 := RdI.at_ (hM.rdRow 0 rfl rfl hv50 (idx_spec hx47).2.2) hx52
        refine wq hs (fun w1 hw1 => y_index ht_I hs rfl rfl (he53.below hw1)) rfl ?_; intro a hs
        refine wq hs (fun w1 hw1 => y_load sc_int hs rfl (he53.below hw1).cell) rfl ?_; intro a hs
        refine wq hs (fun w1 hw1 => y_move hs rfl) rfl ?_; intro a hs
        refine wq hs (fun w1 hw1 => y_move hs rfl) rfl ?_; intro a hs
        obtain ⟨x54, hx55, hm⟩ := bindE hm
        obtain ⟨u57, hv58, he56⟩ := hM.atM 1 rfl hx55
        refine wq hs (fun w1 hw1 => y_index ht_M hs rfl rfl (he56.below hw1)) rfl ?_; intro a hs
        refine wq hs (fun w1 hw1 => y_load sc_I hs rfl (he56.below hw1).cell) rfl ?_; intro a hs
        refine wq hs (fun w1 hw1 => y_move hs rfl) rfl ?_; intro a hs
        obtain ⟨x59, hx60, hm⟩ := bindE hm
        have he61 := RdI.at_ (hM.rdRow 1 rfl rfl hv58 (idx_spec hx55).2.2) hx60
        refine wq hs (fun w1 hw1 => y_index ht_I hs rfl rfl (he61.below hw1)) rfl ?_; intro a hs
        refine wq hs (fun w1 hw1 => y_load sc_int hs rfl (he61.below hw1).cell) rfl ?_; intro a hs
        refine wq hs (fun w1 hw1 => y_neq hs rfl rfl) rfl ?_; intro a hs
        refine wpQuiet_nil ?_
        intro w hw
        replace hM := hM.quiet hw
        refine x_nt ?_
        refine x_cond hs rfl (fun hb => ?_) (fun hb => ?_)
        · replace hm := condT hb hm
          refine wp_skip ?_
          refine x_nt ?_
          refine wp_block ?_
          refine wp_region_lit ?_
          refine wl hs (y_move hs rfl) rfl ?_; intro a hs
          obtain ⟨n62, h63, hm⟩ := bindE hm
          refine wl hs (y_add hs rfl rfl h63) rfl ?_; intro a hs
          refine wl hs (y_assign hs rfl) rfl ?_; intro a hs
          refine wpList_nil ?_
          refine x_nb ?_
          exact ⟨k, Nat.lt_succ_self _, n62, hs.sub ⟨rfl, rfl, rfl, rfl, rfl, rfl, trivial⟩, hM, hm⟩
        · replace hm := condF hb hm
          refine wp_exit ?_
          refine x_et ?_
          refine x_et ?_
          refine x_eb ?_
          have hm : some n41 = some s43 := hm
          exact ⟨n41, Option.some.inj hm, hs.sub ⟨rfl, rfl, rfl, rfl, trivial⟩, (hM.keep_ 1)⟩
      rintro a w ⟨n42, rfl, hs, hM⟩
      have hm := hk44
      refine x_nt ?_
      refine wp_seq ?_
      refine wp_region_lit ?_
      refine wl hs (y_move hs rfl) rfl ?_; intro a hs
      refine wmem hs (x_new1I hu_I he_int hs rfl hM) rfl ?_; intro a v65 w hs hM
      have hM : Mem W w [aInts 3 v65 ([p1]), aMat 24 3 v38 vs40 y36] := hM
      refine wl hs (y_assign hs rfl) rfl ?_; intro a hs
      refine wpList_nil ?_
      refine x_nt ?_
      refine wp_seq ?_
      refine wp_seq ?_
      refine wp_region_lit ?_
      refine wl hs (y_move hs rfl) rfl ?_; intro a hs
      refine wl hs (y_assign hs rfl) rfl ?_; intro a hs
      refine wpList_nil ?_
      refine x_nt ?_
      obtain ⟨s72, hm, hk73⟩ := bindE hm
      refine x_mid (fun a w => ∃ (v70 : Value), ∃ (l71 : List Int), l71 = s72 ∧ Fr a 120 [(12, v70)] ∧ Mem W w [aInts 3 v70 l71]) ?_ ?_
      · refine wp_block ?_
        refine x_loop (fun k a w => ∃ (v66 : Value) (l67 : List Int) (n68 : Int) (n69 : Int) , Fr a 120 [(0, v_p0), (10, v38), (11, .int .i64 n68), (12, v66), (13, .int .i64 n69)] ∧ Mem W w [aInts 3 v66 l67, aMat 24 3 v38 vs40 y36] ∧ spec_CheapestWay_l2 p0 y36 k l67 n68 n69 = some s72) 4000000 ⟨v65, [p1], n42, p1, hs.sub ⟨rfl, rfl, rfl, rfl, rfl, trivial⟩, hM, hm⟩ ?_
        rintro k a w ⟨v66, l67, n68, n69, hs, hM, hm⟩
        rcases k with _ | k
        · rewrite [spec_CheapestWay_l2] at hm; cases hm
        rewrite [spec_CheapestWay_l2] at hm
        refine wp_seq ?_
        refine wp_seq ?_
        refine wp_region_lit ?_
        refine wl hs (y_move hs rfl) rfl ?_; intro a hs
        refine wl hs (y_gtr hs rfl rfl) rfl ?_; intro a hs
        refine wpList_nil ?_
        refine x_nt ?_
        refine x_cond hs rfl (fun hb => ?_) (fun hb => ?_)
        · replace hm := condT hb hm
          refine wp_skip ?_
          refine x_nt ?_
          refine wp_seq ?_
          refine wp_block ?_
          refine wp_seq ?_
          refine wp_region_lit ?_
          refine wl hs (y_assign hs rfl) rfl ?_; intro a hs
          refine wpList_nil ?_
          refine x_nt ?_
          refine wp_seq ?_
          obtain ⟨s77, hm, hk78⟩ := bindE hm
          refine x_mid (fun a w => ∃ (n76 : Int), n76 = s77 ∧ Fr a 120 [(0, v_p0), (10, v38), (11, .int .i64 n68), (12, v66), (14, .int .i64 n76)] ∧ Mem W w [aInts 3 v66 l67, aMat 24 3 v38 vs40 y36]) ?_ ?_
          · refine wp_block ?_
            refine x_loop (fun k a w => ∃ (n75 : Int) , Fr a 120 [(0, v_p0), (10, v38), (11, .int .i64 n68), (12, v66), (13, .int .i64 n69), (14, .int .i64 n75)] ∧ Mem W w [aInts 3 v66 l67, aMat 24 3 v38 vs40 y36] ∧ spec_CheapestWay_l3 p0 y36 n68 n69 k n75 = some s77) 4000000 ⟨0, hs.sub ⟨rfl, rfl, rfl, rfl, rfl, rfl, trivial⟩, hM, hm⟩ ?_
            rintro k a w ⟨n75, hs, hM, hm⟩
            rcases k with _ | k
            · rewrite [spec_CheapestWay_l3] at hm; cases hm
            rewrite [spec_CheapestWay_l3] at hm
            refine wp_seq ?_
            refine wp_seq ?_
            refine x_regq hmix (by kernel_rfl) ?_
            refine wq hs (fun w1 hw1 => y_move hs rfl) rfl ?_; intro a hs
            refine wq hs (fun w1 hw1 => y_move hs rfl) rfl ?_; intro a hs
            obtain ⟨x80, hx81, hm⟩ := bindE hm
            obtain ⟨u83, he82, hr84⟩ := RdM.at_ hr_p0 hx81
            replace he82 := he82.below hM.bel
            refine wq hs (fun w1 hw1 => y_index ht_M hs rfl rfl (he82.below hw1)) rfl ?_; intro a hs
            refine wq hs (fun w1 hw1 => y_load sc_I hs rfl (he82.below hw1).cell) rfl ?_; intro a hs
            refine wq hs (fun w1 hw1 => y_move hs rfl) rfl ?_; intro a hs
            obtain ⟨x85, hx86, hm⟩ := bindE hm
            have he87 := RdI.at_ (RdI.below hr84 hM.bel) hx86
            refine wq hs (fun w1 hw1 => y_index ht_I hs rfl rfl (he87.below hw1)) rfl ?_; intro a hs
            refine wq hs (fun w1 hw1 => y_load sc_int hs rfl (he87.below hw1).cell) rfl ?_; intro a hs
            refine wq hs (fun w1 hw1 => y_eql hs rfl rfl) rfl ?_; intro a hs
            refine wq hs (fun w1 hw1 => y_move hs rfl) rfl ?_; intro a hs
            obtain ⟨b88, hb89, hm⟩ := bindE hm
            refine wqguard (N := 120) (L' := [(111, .bool b88), (0, v_p0), (10, v38), (11, .int .i64 n68), (12, v66), (13, .int .i64 n69), (14, .int .i64 n75)]) 25 ?_ ?_
            · intro K; rcases Bool.eq_false_or_eq_true (x85 == 1000000000) with hg90 | hg90
              · have hm := condT hg90 hb89
                refine wqs hs rfl hg90 rfl ?_; intro a hs
                refine wqs hs rfl hg90 rfl ?_; intro a hs
                refine wqs hs rfl hg90 rfl ?_; intro a hs
                refine wqs hs rfl hg90 rfl ?_; intro a hs
                refine wqs hs rfl hg90 rfl ?_; intro a hs
                refine wqs hs rfl hg90 rfl ?_; intro a hs
                refine wqs hs rfl hg90 rfl ?_; intro a hs
                refine wqs hs rfl hg90 rfl ?_; intro a hs
                refine wqs hs rfl hg90 rfl ?_; intro a hs
                refine wqs hs rfl hg90 rfl ?_; intro a hs
                refine wqs hs rfl hg90 rfl ?_; intro a hs
                refine wqs hs rfl hg90 rfl ?_; intro a hs
                refine wqs hs rfl hg90 rfl ?_; intro a hs
                refine wqs hs rfl hg90 rfl ?_; intro a hs
                refine wqs hs rfl hg90 rfl ?_; intro a hs
                refine wqs hs rfl hg90 rfl ?_; intro a hs
                refine wqs hs rfl hg90 rfl ?_; intro a hs
                refine wqs hs rfl hg90 rfl ?_; intro a hs
                refine wqs hs rfl hg90 rfl ?_; intro a hs
                refine wqs hs rfl hg90 rfl ?_; intro a hs
                refine wqs hs rfl hg90 rfl ?_; intro a hs
                refine wqs hs rfl hg90 rfl ?_; intro a hs
                refine wqs hs rfl hg90 rfl ?_; intro a hs
                refine wqs hs rfl hg90 rfl ?_; intro a hs
                have hm : some true = some b88 := hm
                cases Option.some.inj hm
                refine wq hs (fun w1 hw1 => y_pickT hs rfl hg90 rfl) rfl ?_; intro a hs
                exact K _ (hs.sub ⟨rfl, rfl, rfl, rfl, rfl, rfl, rfl, trivial⟩)
              · have hm := condF hg90 hb89
                refine wqg hs rfl hg90 (fun w1 hw1 => y_move hs rfl) rfl ?_; intro a hs
                refine wqg hs rfl hg90 (fun w1 hw1 => y_move hs rfl) rfl ?_; intro a hs
                obtain ⟨u92, he91, hr93⟩ := RdM.at_ hr_p0 hx81
                replace he91 := he91.below hM.bel
                refine wqg hs rfl hg90 (fun w1 hw1 => y_index ht_M hs rfl rfl (he91.below hw1)) rfl ?_; intro a hs
                refine wqg hs rfl hg90 (fun w1 hw1 => y_load sc_I hs rfl (he91.below hw1).cell) rfl ?_; intro a hs
                refine wqg hs rfl hg90 (fun w1 hw1 => y_move hs rfl) rfl ?_; intro a hs
                have he94 := RdI.at_ (RdI.below hr93 hM.bel) hx86
                refine wqg hs rfl hg90 (fun w1 hw1 => y_index ht_I hs rfl rfl (he94.below hw1)) rfl ?_; intro a hs
                refine wqg hs rfl hg90 (fun w1 hw1 => y_load sc_int hs rfl (he94.below hw1).cell) rfl ?_; intro a hs
                refine wqg hs rfl hg90 (fun w1 hw1 => y_move hs rfl) rfl ?_; intro a hs
                refine wqg hs rfl hg90 (fun w1 hw1 => y_move hs rfl) rfl ?_; intro a hs
                obtain ⟨n95, h96, hm⟩ := bindE hm
                refine wqg hs rfl hg90 (fun w1 hw1 => y_sub hs rfl rfl h96) rfl ?_; intro a hs
                obtain ⟨x97, hx98, hm⟩ := bindE hm
                obtain ⟨u100, hv101, he99⟩ := hM.atM 1 rfl hx98
                refine wqg hs rfl hg90 (fun w1 hw1 => y_index ht_M hs rfl rfl (he99.below hw1)) rfl ?_; intro a hs
                refine wqg hs rfl hg90 (fun w1 hw1 => y_load sc_I hs rfl (he99.below hw1).cell) rfl ?_; intro a hs
                refine wqg hs rfl hg90 (fun w1 hw1 => y_move hs rfl) rfl ?_; intro a hs
                obtain ⟨x102, hx103, hm⟩ := bindE hm
                have he104 := RdI.at_ (hM.rdRow 1 rfl rfl hv101 (idx_spec hx98).2.2) hx103
                refine wqg hs rfl hg90 (fun w1 hw1 => y_index ht_I hs rfl rfl (he104.below hw1)) rfl ?_; intro a hs
                refine wqg hs rfl hg90 (fun w1 hw1 => y_load sc_int hs rfl (he104.below hw1).cell) rfl ?_; intro a hs
                obtain ⟨y105, h106, hm⟩ := bindE hm
                refine qcallg (v := .int .i64 y105) is_57 hs rfl hg90 rfl rfl (fun w1 hw1 => q_of hw1 (spec_nuPlus_any x85 x102 w1  h106)) ?_; intro a hs
                refine wqg hs rfl hg90 (fun w1 hw1 => y_move hs rfl) rfl ?_; intro a hs
                refine wqg hs rfl hg90 (fun w1 hw1 => y_move hs rfl) rfl ?_; intro a hs
                obtain ⟨x107, hx108, hm⟩ := bindE hm
                obtain ⟨u110, hv111, he109⟩ := hM.atM 1 rfl hx108
                refine wqg hs rfl hg90 (fun w1 hw1 => y_index ht_M hs rfl rfl (he109.below hw1)) rfl ?_; intro a hs
                refine wqg hs rfl hg90 (fun w1 hw1 => y_load sc_I hs rfl (he109.below hw1).cell) rfl ?_; intro a hs
                refine wqg hs rfl hg90 (fun w1 hw1 => y_move hs rfl) rfl ?_; intro a hs
                obtain ⟨x112, hx113, hm⟩ := bindE hm
                have he114 := RdI.at_ (hM.rdRow 1 rfl rfl hv111 (idx_spec hx108).2.2) hx113
                refine wqg hs rfl hg90 (fun w1 hw1 => y_index ht_I hs rfl rfl (he114.below hw1)) rfl ?_; intro a hs
                refine wqg hs rfl hg90 (fun w1 hw1 => y_load sc_int hs rfl (he114.below hw1).cell) rfl ?_; intro a hs
                refine wqg hs rfl hg90 (fun w1 hw1 => y_neq hs rfl rfl) rfl ?_; intro a hs
                have hm : some (y105 != x112) = some b88 := hm
                cases Option.some.inj hm
                refine wq hs (fun w1 hw1 => y_pickF hs rfl hg90 rfl) rfl ?_; intro a hs
                exact K _ (hs.sub ⟨rfl, rfl, rfl, rfl, rfl, rfl, rfl, trivial⟩)
            intro a hs
            simp only [List.drop_succ_cons, List.drop_zero]
            refine wpQuiet_nil ?_
            intro w hw
            replace hM := hM.quiet hw
            refine x_nt ?_
            refine x_cond hs rfl (fun hb => ?_) (fun hb => ?_)
            · replace hm := condT hb hm
              refine wp_skip ?_
              refine x_nt ?_
              refine wp_block ?_
              refine wp_region_lit ?_
              refine wl hs (y_move hs rfl) rfl ?_; intro a hs
              obtain ⟨n115, h116, hm⟩ := bindE hm
              refine wl hs (y_add hs rfl rfl h116) rfl ?_; intro a hs
              refine wl hs (y_assign hs rfl) rfl ?_; intro a hs
              refine wpList_nil ?_
              refine x_nb ?_
              exact ⟨k, Nat.lt_succ_self _, n115, hs.sub ⟨rfl, rfl, rfl, rfl, rfl, rfl, trivial⟩, hM, hm⟩
            · replace hm := condF hb hm
              refine wp_exit ?_
              refine x_et ?_
              refine x_et ?_
              refine x_eb ?_
              have hm : some n75 = some s77 := hm
              exact ⟨n75, Option.some.inj hm, hs.sub ⟨rfl, rfl, rfl, rfl, rfl, trivial⟩, hM⟩
          rintro a w ⟨n76, rfl, hs, hM⟩
          have hm := hk78
          refine x_nt ?_
          refine wp_seq ?_
          refine wp_region_lit ?_
          refine wl hs (y_move hs rfl) rfl ?_; intro a hs
          refine wl hs (y_assign hs rfl) rfl ?_; intro a hs
          refine wpList_nil ?_
          refine x_nt ?_
          refine wp_region_lit ?_
          refine wl hs (y_move hs rfl) rfl ?_; intro a hs
          refine wl hs (y_move hs rfl) rfl ?_; intro a hs
          obtain ⟨l117, h118, hm⟩ := bindE hm
          refine wappI hu_I he_int hs hM rfl rfl h118 rfl rfl rfl ?_; intro a v119 w u120 hs hM
          have hM : Mem W w [aInts 3 v119 l117, aMat 24 3 v38 vs40 y36] := hM
          refine wl hs (y_assign hs rfl) rfl ?_; intro a hs
          refine wpList_nil ?_
          refine x_nb ?_
          refine x_nt ?_
          refine wp_region_lit ?_
          refine wl hs (y_move hs rfl) rfl ?_; intro a hs
          obtain ⟨n121, h122, hm⟩ := bindE hm
          refine wl hs (y_sub hs rfl rfl h122) rfl ?_; intro a hs
          refine wl hs (y_assign hs rfl) rfl ?_; intro a hs
          refine wpList_nil ?_
          exact ⟨k, Nat.lt_succ_self _, v119, l117, n121, n76, hs.sub ⟨rfl, rfl, rfl, rfl, rfl, trivial⟩, hM, hm⟩
        · replace hm := condF hb hm
          refine wp_exit ?_
          refine x_et ?_
          refine x_et ?_
          refine x_eb ?_
          have hm : some l67 = some s72 := hm
          exact ⟨v66, l67, Option.some.inj hm, hs.sub ⟨rfl, trivial⟩, (hM.keep_ 1)⟩
      rintro a w ⟨v70, l71, rfl, hs, hM⟩
      have hm := hk73
      refine x_nt ?_
      refine wp_seq ?_
      refine wp_region_lit ?_
      refine wl hs (y_move hs rfl) rfl ?_; intro a hs
      refine wl hs (y_assign hs rfl) rfl ?_; intro a hs
      refine wl hs (y_assign hs rfl) rfl ?_; intro a hs
      refine wpList_nil ?_
      refine x_nt ?_
      refine wp_ret ?_
      have hm : some (l71, true) = some r := hm
      obtain rfl := Option.some.inj hm
      refine x_ret2 rfl hs rfl rfl ⟨_, rfl, ?_⟩
      exact ⟨_, rfl, hM⟩

theorem impl_byStep_any (v_p0 : Value) (p0 : List (List Int)) (p1 : Int) (W : World) (hr_p0 : RdM W v_p0 p0) {r : List (List Int)} (hm : impl_byStep_m p0 p1 = some r) : Calls Try.prog 59 [v_p0, .int .i64 p1].toArray W fun e w => ∃ v, e = .returned v ∧ ∃ vs0, Mem W w [aMat 24 3 v vs0 r] := by
  refine x_enter Try.func59 rfl Try.ntmps59 rfl ?_
  intro a hs
  have hM := Mem.start W
  unfold impl_byStep_m at hm
  refine wp_seq ?_
  refine wp_region_lit ?_
  refine wl hs (y_assign hs rfl) rfl ?_; intro a hs
  refine wpList_nil ?_
  refine x_nt ?_
  refine wp_seq ?_
  refine wp_region_lit ?_
  refine wl hs (y_move hs rfl) rfl ?_; intro a hs
  refine wl hs (y_len hu_M hs rfl (RdM.below hr_p0 hM.bel)) rfl ?_; intro a hs
  obtain ⟨y1, h2, hm⟩ := bindE hm
  refine wcall is_97 hs rfl rfl (impl_unit_any (p0.length : Int) _  h2) ?_; rintro a v3 w hs ⟨vs5, hX⟩
  have hM : Mem W w [aMat 24 3 v3 vs5 y1] := hM.call hX
  refine wl hs (y_move hs rfl) rfl ?_; intro a hs
  obtain ⟨x6, hx7, hm⟩ := bindE hm
  obtain ⟨u9, hv10, he8⟩ := hM.atM 0 rfl hx7
  refine wl hs (y_index ht_M hs rfl rfl he8) rfl ?_; intro a hs
  refine wl hs (y_load sc_I hs rfl he8.cell) rfl ?_; intro a hs
  refine wl hs (y_assign hs rfl) rfl ?_; intro a hs
  refine wpList_nil ?_
  refine x_nt ?_
  refine wp_seq ?_
  refine wp_region_lit ?_
  refine wl hs (y_move hs rfl) rfl ?_; intro a hs
  have hM : Mem W w [aInts 3 u9 x6] := (hM).rowOut (RowOf.row hv10 ((idx_spec hx7).2.2))
  refine wmem hs (x_new1M hu_M he_I hs rfl (hM.front 0 rfl)) rfl ?_; intro a v12 w hs hM
  have hP14 : RowOf [u9] [x6] u9 x6 := RowOf.only
  have hM : Mem W w [aMat 24 3 v12 ([u9]) ([x6])] := hM
  refine wl hs (y_assign hs rfl) rfl ?_; intro a hs
  refine wpList_nil ?_
  refine x_nt ?_
  refine wp_seq ?_
  refine wp_seq ?_
  refine wp_region_lit ?_
  refine wl hs (y_move hs rfl) rfl ?_; intro a hs
  refine wl hs (y_len hu_M hs rfl (RdM.below hr_p0 hM.bel)) rfl ?_; intro a hs
  refine wl hs (y_move hs rfl) rfl ?_; intro a hs
  refine wpList_nil ?_
  refine x_nt ?_
  obtain ⟨s25, hm, hk26⟩ := bindE hm
  refine x_mid (fun a w => ∃ (v22 : Value), ∃ (vs23 : List Value), ∃ (l24 : List (List Int)), l24 = s25 ∧ Fr a 28 [(6, v22)] ∧ Mem W w [aMat 24 3 v22 vs23 l24]) ?_ ?_
  · refine wp_block ?_
    refine x_loop (fun k a w => ∃ (q27 : List (List Int)) (j15 : Nat) (v16 : Value) (vs17 : List Value) (l18 : List (List Int)) (v19 : Value) (l20 : List Int) , k = q27.length ∧ (RowOf vs17 l18 v19 l20) ∧ Fr a 28 [(0, v_p0), (5, v19), (6, v16), (16, .int .i64 (p0.length : Int)), (17, .int .i64 (j15 : Int))] ∧ Mem W w [aMat 24 3 v16 vs17 l18] ∧ impl_byStep_l1 p0 q27 j15 l18 l20 = some s25 ∧ List.drop j15 p0 = q27) _ ⟨p0, 0, v12, [u9], [x6], u9, x6, rfl, hP14, hs.sub ⟨rfl, rfl, rfl, rfl, rfl, trivial⟩, hM, hm, rfl⟩ ?_
    rintro k a w ⟨q27, j15, v16, vs17, l18, v19, l20, rfl, hP21, hs, hM, hm, hj15⟩
    rcases q27 with _ | ⟨x28, q27⟩
    · rewrite [impl_byStep_l1] at hm
      refine wp_seq ?_
      refine wp_region_lit ?_
      refine wl hs (y_lss hs rfl rfl) rfl ?_; intro a hs
      refine wpList_nil ?_
      refine x_nt ?_
      refine wp_seq ?_
      refine x_condF hs rfl (drop_f hj15) ?_
      refine wp_exit ?_
      refine x_et ?_
      refine x_et ?_
      refine x_eb ?_
      have hm : some l18 = some s25 := hm
      exact ⟨v16, vs17, l18, Option.some.inj hm, hs.sub ⟨rfl, trivial⟩, hM⟩
    · rewrite [impl_byStep_l1] at hm
      have hx29 := drop_idx hj15
      have hsj15 := ck_succ hj15 (RdS.len (RdM.below hr_p0 hM.bel))
      refine wp_seq ?_
      refine wp_region_lit ?_
      refine wl hs (y_lss hs rfl rfl) rfl ?_; intro a hs
      refine wpList_nil ?_
      refine x_nt ?_
      refine wp_seq ?_
      refine x_condT hs rfl (drop_t hj15) ?_
      refine wp_skip ?_
      refine x_nt ?_
      refine wp_seq ?_
      refine wp_block ?_
      refine wp_seq ?_
      refine wp_region_lit ?_
      refine wl hs (y_move hs rfl) rfl ?_; intro a hs
      refine wl hs (y_move hs rfl) rfl ?_; intro a hs
      obtain ⟨y30, h31, hm⟩ := bindE hm
      refine wcall is_67 hs rfl rfl (impl_applied_any v_p0 p0 v19 l20 _ (RdM.below hr_p0 hM.bel) (hM.rdP 0 rfl hP21) h31) ?_; rintro a v32 w hs hX
      have hM : Mem W w [aInts 3 v32 y30, aMat 24 3 v16 vs17 l18] := hM.call hX
      refine wl hs (y_assign hs rfl) rfl ?_; intro a hs
      refine wpList_nil ?_
      refine x_nt ?_
      refine wp_region_lit ?_
      refine wl hs (y_move hs rfl) rfl ?_; intro a hs
      refine wl hs (y_move hs rfl) rfl ?_; intro a hs
      obtain ⟨l34, h35, hm⟩ := bindE hm
      have hP38 := RowOf.last (x := v32) (hM.lenM 1 rfl) h35
      refine wappM hu_M he_I hs (hM.front 1 rfl) rfl rfl h35 rfl rfl rfl ?_; intro a v36 w u37 hs hM
      have hM : Mem W w [aMat 24 3 v36 (vs17 ++ [v32]) l34] := hM
      refine wl hs (y_assign hs rfl) rfl ?_; intro a hs
      refine wpList_nil ?_
      refine x_nb ?_
      refine x_nt ?_
      refine wp_region_lit ?_
      refine wl hs (y_add hs rfl rfl hsj15) rfl ?_; intro a hs
      refine wl hs (y_move hs rfl) rfl ?_; intro a hs
      refine wpList_nil ?_
      exact ⟨_, by simp, q27, j15 + 1, v36, (vs17 ++ [v32]), l34, v32, y30, rfl, hP38, hs.sub ⟨rfl, rfl, rfl, rfl, rfl, trivial⟩, hM, hm, drop_next hj15⟩
  rintro a w ⟨v22, vs23, l24, rfl, hs, hM⟩
  have hm := hk26
  refine x_nt ?_
  refine wp_seq ?_
  refine wp_region_lit ?_
  refine wl hs (y_move hs rfl) rfl ?_; intro a hs
  refine wl hs (y_assign hs rfl) rfl ?_; intro a hs
  refine wpList_nil ?_
  refine x_nt ?_
  refine wp_ret ?_
  have hm : some l24 = some r := hm
  obtain rfl := Option.some.inj hm
  refine x_ret1 rfl hs rfl ⟨_, rfl, ?_⟩
  exact ⟨_, hM⟩

theorem impl_CheapestWay_1_any (v_p0 : Value) (p0 : List Int) (g_p1 : Nat) (p1 : Int) (g_p2 : Nat) (p2 : Int) (W : World) (hr_p0 : RdI W v_p0 p0) (hc_p1 : W.cell? ⟨g_p1, 0, none⟩ = some (.int .i64 p1)) (hg_p1 : g_p1 < W.heap.size) (hc_p2 : W.cell? ⟨g_p2, 0, none⟩ = some (.int .i64 p2)) (hg_p2 : g_p2 < W.heap.size) {r : Bool} (hm : impl_CheapestWay_1_m p0 p1 p2 = some r) : Calls Try.prog 61 [v_p0, .pointer (some ⟨g_p1, 0, none⟩), .pointer (some ⟨g_p2, 0, none⟩)].toArray W fun e w => ∃ v, e = .returned v ∧ v = .bool r ∧ Mem W w [] := by
  refine x_enter Try.func61 rfl Try.ntmps61 rfl ?_
  intro a hs
  have hM := Mem.start W
  unfold impl_CheapestWay_1_m at hm
  refine wp_seq ?_
  refine wp_region_lit ?_
  refine wl hs (y_assign hs rfl) rfl ?_; intro a hs
  refine wpList_nil ?_
  refine x_nt ?_
  refine wp_seq ?_
  refine x_regq hmix (by kernel_rfl) ?_
  refine wq hs (fun w1 hw1 => y_move hs rfl) rfl ?_; intro a hs
  refine wq hs (fun w1 hw1 => y_load sc_int hs rfl (((hM.quiet hw1).bel.cell (p := ⟨g_p1, 0, none⟩) hg_p1).trans hc_p1)) rfl ?_; intro a hs
  obtain ⟨x1, hx2, hm⟩ := bindE hm
  have he3 := RdI.at_ (RdI.below hr_p0 hM.bel) hx2
  refine wq hs (fun w1 hw1 => y_index ht_I hs rfl rfl (he3.below hw1)) rfl ?_; intro a hs
  refine wq hs (fun w1 hw1 => y_load sc_int hs rfl (he3.below hw1).cell) rfl ?_; intro a hs
  refine wq hs (fun w1 hw1 => y_load sc_int hs rfl (((hM.quiet hw1).bel.cell (p := ⟨g_p2, 0, none⟩) hg_p2).trans hc_p2)) rfl ?_; intro a hs
  refine wq hs (fun w1 hw1 => y_eql hs rfl rfl) rfl ?_; intro a hs
  refine wq hs (fun w1 hw1 => y_assign hs rfl) rfl ?_; intro a hs
  refine wpQuiet_nil ?_
  intro w hw
  replace hM := hM.quiet hw
  refine x_nt ?_
  refine wp_ret ?_
  have hm : some (x1 == p2) = some r := hm
  obtain rfl := Option.some.inj hm
  refine x_ret1 rfl hs rfl ⟨_, rfl, ?_⟩
  exact ⟨rfl, hM⟩

theorem slices_IndexFunc_int_int_impl_CheapestWay_1_any (v_p0 : Value) (p0 : List (List Int)) (g_p10 : Nat) (p10 : Int) (g_p11 : Nat) (p11 : Int) (W : World) (hr_p0 : RdM W v_p0 p0) (hc_p10 : W.cell? ⟨g_p10, 0, none⟩ = some (.int .i64 p10)) (hg_p10 : g_p10 < W.heap.size) (hc_p11 : W.cell? ⟨g_p11, 0, none⟩ = some (.int .i64 p11)) (hg_p11 : g_p11 < W.heap.size) {r : Int} (hm : slices_IndexFunc_int_int_impl_CheapestWay_1_m p0 p10 p11 = some r) : Calls Try.prog 60 [v_p0, .func (.func 61) #[] #[.pointer (some ⟨g_p10, 0, none⟩), .pointer (some ⟨g_p11, 0, none⟩)]].toArray W fun e w => ∃ v, e = .returned v ∧ v = .int .i64 r ∧ Mem W w [] := by
  refine x_enter Try.func60 rfl Try.ntmps60 rfl ?_
  intro a hs
  have hM := Mem.start W
  unfold slices_IndexFunc_int_int_impl_CheapestWay_1_m at hm
  refine wp_seq ?_
  refine wp_region_lit ?_
  refine wl hs (y_assign hs rfl) rfl ?_; intro a hs
  refine wpList_nil ?_
  refine x_nt ?_
  refine wp_seq ?_
  refine wp_seq ?_
  refine wp_region_lit ?_
  refine wl hs (y_move hs rfl) rfl ?_; intro a hs
  refine wl hs (y_len hu_M hs rfl (RdM.below hr_p0 hM.bel)) rfl ?_; intro a hs
  refine wl hs (y_move hs rfl) rfl ?_; intro a hs
  refine wpList_nil ?_
  refine x_nt ?_
  obtain ⟨s2, hm, hk3⟩ := bindE hm
  refine x_mid (fun a w => Sum.inr () = s2 ∧ Fr a 19 [] ∧ Mem W w []) ?_ ?_
  · refine wp_block ?_
    refine x_loop (fun k a w => ∃ (q4 : List (List Int)) (j1 : Nat) , k = q4.length ∧ Fr a 19 [(0, v_p0), (1, .func (.func 61) #[] #[.pointer (some ⟨g_p10, 0, none⟩), .pointer (some ⟨g_p11, 0, none⟩)]), (7, .int .i64 (p0.length : Int)), (8, .int .i64 (j1 : Int))] ∧ Mem W w [] ∧ slices_IndexFunc_int_int_impl_CheapestWay_1_l1 p10 p11 q4 j1 = some s2 ∧ List.drop j1 p0 = q4) _ ⟨p0, 0, rfl, hs.sub ⟨rfl, rfl, rfl, rfl, trivial⟩, hM, hm, rfl⟩ ?_
    rintro k a w ⟨q4, j1, rfl, hs, hM, hm, hj1⟩
    rcases q4 with _ | ⟨x5, q4⟩
    · rewrite [slices_IndexFunc_int_int_impl_CheapestWay_1_l1] at hm
      refine wp_seq ?_
      refine wp_region_lit ?_
      refine wl hs (y_lss hs rfl rfl) rfl ?_; intro a hs
      refine wpList_nil ?_
      refine x_nt ?_
      refine wp_seq ?_
      refine x_condF hs rfl (drop_f hj1) ?_
      refine wp_exit ?_
      refine x_et ?_
      refine x_et ?_
      refine x_eb ?_
      have hm : some (Sum.inr ()) = some s2 := hm
      exact ⟨Option.some.inj hm, hs.sub trivial, hM⟩
    · rewrite [slices_IndexFunc_int_int_impl_CheapestWay_1_l1] at hm
      have hx6 := drop_idx hj1
      have hsj1 := ck_succ hj1 (RdS.len (RdM.below hr_p0 hM.bel))
      refine wp_seq ?_
      refine wp_region_lit ?_
      refine wl hs (y_lss hs rfl rfl) rfl ?_; intro a hs
      refine wpList_nil ?_
      refine x_nt ?_
      refine wp_seq ?_
      refine x_condT hs rfl (drop_t hj1) ?_
      refine wp_skip ?_
      refine x_nt ?_
      refine wp_seq ?_
      refine wp_block ?_
      refine wp_seq ?_
      refine wp_region_lit ?_
      refine wl hs (y_move hs rfl) rfl ?_; intro a hs
      refine wl hs (y_assign hs rfl) rfl ?_; intro a hs
      refine wpList_nil ?_
      refine x_nt ?_
      refine wp_seq ?_
      refine wp_region_lit ?_
      refine wl hs (y_move hs rfl) rfl ?_; intro a hs
      refine wl hs (y_move hs rfl) rfl ?_; intro a hs
      refine wl hs (y_move hs rfl) rfl ?_; intro a hs
      obtain ⟨u8, he7, hr9⟩ := RdM.at_ hr_p0 hx6
      replace he7 := he7.below hM.bel
      refine wl hs (y_index ht_M hs rfl rfl he7) rfl ?_; intro a hs
      refine wl hs (y_load sc_I hs rfl he7.cell) rfl ?_; intro a hs
      obtain ⟨y10, h11, hm⟩ := bindE hm
      refine wcallv is_61 hs rfl rfl rfl (impl_CheapestWay_1_any u8 x5 g_p10 p10 g_p11 p11 _ (RdI.below hr9 hM.bel) ((hM.bel.cell (p := ⟨g_p10, 0, none⟩) hg_p10).trans hc_p10) (Nat.lt_of_lt_of_le hg_p10 hM.bel.size) ((hM.bel.cell (p := ⟨g_p11, 0, none⟩) hg_p11).trans hc_p11) (Nat.lt_of_lt_of_le hg_p11 hM.bel.size) h11) ?_; rintro a _ w hs ⟨rfl, hX⟩
      have hM : Mem W w [] := hM.call hX
      refine wpList_nil ?_
      refine x_nt ?_
      refine x_cond hs rfl (fun hb => ?_) (fun hb => ?_)
      · replace hm := condT hb hm
        refine wp_seq ?_
        refine wp_region_lit ?_
        refine wl hs (y_move hs rfl) rfl ?_; intro a hs
        refine wl hs (y_assign hs rfl) rfl ?_; intro a hs
        refine wpList_nil ?_
        refine x_nt ?_
        refine wp_ret ?_
        refine x_rb ?_
        refine x_rt ?_
        refine x_rt ?_
        refine x_rb ?_
        refine x_rt ?_
        refine x_rt ?_
        have hm : some (Sum.inl (j1 : Int)) = some s2 := hm
        cases Option.some.inj hm
        have hm := hk3
        have hm : some (j1 : Int) = some r := hm
        obtain rfl := Option.some.inj hm
        refine x_ret1 rfl hs rfl ⟨_, rfl, ?_⟩
        exact ⟨rfl, hM⟩
      · replace hm := condF hb hm
        refine wp_skip ?_
        refine x_nb ?_
        refine x_nt ?_
        refine wp_region_lit ?_
        refine wl hs (y_add hs rfl rfl hsj1) rfl ?_; intro a hs
        refine wl hs (y_move hs rfl) rfl ?_; intro a hs
        refine wpList_nil ?_
        exact ⟨_, by simp, q4, j1 + 1, rfl, hs.sub ⟨rfl, rfl, rfl, rfl, trivial⟩, hM, hm, drop_next hj1⟩
  rintro a w ⟨rfl, hs, hM⟩
  have hm := hk3
  refine x_nt ?_
  refine wp_seq ?_
  refine wp_region_lit ?_
  refine wl hs (y_assign hs rfl) rfl ?_; intro a hs
  refine wpList_nil ?_
  refine x_nt ?_
  refine wp_ret ?_
  have hm : some (-1) = some r := hm
  obtain rfl := Option.some.inj hm
  refine x_ret1 rfl hs rfl ⟨_, rfl, ?_⟩
  exact ⟨rfl, hM⟩

set_option maxHeartbeats 4000000 in
theorem impl_CheapestWay_any (v_p0 : Value) (p0 : List (List Int)) (p1 : Int) (p2 : Int) (W : World) (hr_p0 : RdM W v_p0 p0) {r : (List Int) × Bool} (hm : impl_CheapestWay_m p0 p1 p2 = some r) : Calls Try.prog 24 [v_p0, .int .i64 p1, .int .i64 p2].toArray W fun e w => ∃ v, e = .returned v ∧ ∃ v0, v = .tuple #[v0, .bool r.2] ∧ Mem W w [aInts 3 v0 r.1] := by
  refine x_enter Try.func24 rfl Try.ntmps24 rfl ?_
  intro a hs
  have hM := Mem.start W
  unfold impl_CheapestWay_m at hm
  refine wp_seq ?_
  refine wp_region_lit ?_
  refine wmem hs (x_box rfl hs rfl hM) rfl ?_; rintro a _ w hs ⟨g2, rfl, hM⟩
  have hM : Mem W w [aBlk g2 3 [.int .i64 p1]] := hM
  refine wl hs (y_assign hs rfl) rfl ?_; intro a hs
  refine wl hs (y_assign hs rfl) rfl ?_; intro a hs
  refine wpList_nil ?_
  refine x_nt ?_
  refine wp_seq ?_
  refine wp_seq ?_
  refine wp_region_lit ?_
  refine wl hs (y_move hs rfl) rfl ?_; intro a hs
  obtain ⟨y3, h4, hm⟩ := bindE hm
  refine wcall is_50 hs rfl rfl (impl_isSquare_any v_p0 p0 _ (RdM.below hr_p0 hM.bel) h4) ?_; rintro a _ w hs ⟨rfl, hX⟩
  have hM : Mem W w [aBlk g2 3 [.int .i64 p1]] := hM.call hX
  refine wl hs (y_not hs rfl) rfl ?_; intro a hs
  refine wl hs (y_move hs rfl) rfl ?_; intro a hs
  obtain ⟨b5, hb6, hm⟩ := bindE hm
  refine wlguard (N := 123) (L' := [(27, .bool b5), (0, v_p0), (2, .int .i64 p2), (4, .pointer (some ⟨g2, 0, none⟩))]) (fun w => Mem W w [aBlk g2 3 [.int .i64 p1]]) 7 ?_ ?_
  · intro K; rcases Bool.eq_false_or_eq_true (!y3) with hg7 | hg7
    · have hm := condT hg7 hb6
      refine wls hs rfl hg7 rfl ?_; intro a hs
      refine wls hs rfl hg7 rfl ?_; intro a hs
      refine wls hs rfl hg7 rfl ?_; intro a hs
      refine wls hs rfl hg7 rfl ?_; intro a hs
      refine wls hs rfl hg7 rfl ?_; intro a hs
      refine wls hs rfl hg7 rfl ?_; intro a hs
      have hm : some true = some b5 := hm
      cases Option.some.inj hm
      refine wl hs (y_pickT hs rfl hg7 rfl) rfl ?_; intro a hs
      exact K _ _ (hs.sub ⟨rfl, rfl, rfl, rfl, trivial⟩) hM
    · have hm := condF hg7 hb6
      refine wlg hs rfl hg7 (y_move hs rfl) rfl ?_; intro a hs
      refine wlg hs rfl hg7 (y_load sc_int hs rfl (hM.cellBlk 0 rfl 0 rfl)) rfl ?_; intro a hs
      refine wlg hs rfl hg7 (y_move hs rfl) rfl ?_; intro a hs
      refine wmemg hs rfl hg7 (x_new2I hu_I he_int hs rfl rfl hM) rfl ?_; intro a v9 w hs hM
      have hM : Mem W w [aInts 3 v9 ([p1, p2]), aBlk g2 3 [.int .i64 p1]] := hM
      obtain ⟨y10, h11, hm⟩ := bindE hm
      refine wcallg is_58 hs rfl hg7 rfl rfl (impl_areVertices_any v_p0 p0 v9 ([p1, p2]) _ (RdM.below hr_p0 hM.bel) (hM.rdI 0 rfl) h11) ?_; rintro a _ w hs ⟨rfl, hX⟩
      have hM : Mem W w [aInts 3 v9 ([p1, p2]), aBlk g2 3 [.int .i64 p1]] := hM.call hX
      refine wlg hs rfl hg7 (y_not hs rfl) rfl ?_; intro a hs
      have hm : some (!y10) = some b5 := hm
      cases Option.some.inj hm
      refine wl hs (y_pickF hs rfl hg7 rfl) rfl ?_; intro a hs
      exact K _ _ (hs.sub ⟨rfl, rfl, rfl, rfl, trivial⟩) hM.drop
  intro a w hs hM
  simp only [List.drop_succ_cons, List.drop_zero]
  refine wpList_nil ?_
  refine x_nt ?_
  refine x_cond hs rfl (fun hb => ?_) (fun hb => ?_)
  · replace hm := condT hb hm
    refine wp_seq ?_
    refine wp_region_lit ?_
    refine wl hs (y_assign hs rfl) rfl ?_; intro a hs
    refine wl hs (y_assign hs rfl) rfl ?_; intro a hs
    refine wpList_nil ?_
    refine x_nt ?_
    refine wp_ret ?_
    refine x_rt ?_
    have hm : some ([], false) = some r := hm
    obtain rfl := Option.some.inj hm
    refine x_ret2 rfl hs rfl rfl ⟨_, rfl, ?_⟩
    have hM := hM.nilI 3
    exact ⟨_, rfl, (hM.keep_ 1)⟩
  · replace hm := condF hb hm
    refine wp_skip ?_
    refine x_nt ?_
    refine wp_seq ?_
    refine wp_region_lit ?_
    refine wl hs (y_move hs rfl) rfl ?_; intro a hs
    obtain ⟨y13, h14, hm⟩ := bindE hm
    refine wcall is_51 hs rfl rfl (impl_wayCosts_any v_p0 p0 _ (RdM.below hr_p0 hM.bel) h14) ?_; rintro a _ w hs ⟨v17, vs18, rfl, hX⟩
    have hM : Mem W w [aMat 24 3 v17 vs18 y13.1, aBlk g2 3 [.int .i64 p1]] := hM.call hX
    refine wl hs (y_move hs rfl) rfl ?_; intro a hs
    refine wl hs (y_extract hs rfl rfl) rfl ?_; intro a hs
    refine wl hs (y_extract hs rfl rfl) rfl ?_; intro a hs
    refine wl hs (y_assign hs rfl) rfl ?_; intro a hs
    refine wl hs (y_assign hs rfl) rfl ?_; intro a hs
    refine wpList_nil ?_
    refine x_nt ?_
    refine wp_seq ?_
    refine wp_seq ?_
    refine wp_region_lit ?_
    refine wl hs (y_move hs rfl) rfl ?_; intro a hs
    refine wl hs (y_not hs rfl) rfl ?_; intro a hs
    refine wl hs (y_move hs rfl) rfl ?_; intro a hs
    obtain ⟨b19, hb20, hm⟩ := bindE hm
    refine wlguard (N := 123) (L' := [(44, .bool b19), (0, v_p0), (2, .int .i64 p2), (4, .pointer (some ⟨g2, 0, none⟩)), (8, v17)]) (fun w => Mem W w [aMat 24 3 v17 vs18 y13.1, aBlk g2 3 [.int .i64 p1]]) 9 ?_ ?_
    · intro K; rcases Bool.eq_false_or_eq_true (!y13.2) with hg21 | hg21
      · have hm := condT hg21 hb20
        refine wls hs rfl hg21 rfl ?_; intro a hs
        refine wls hs rfl hg21 rfl ?_; intro a hs
        refine wls hs rfl hg21 rfl ?_; intro a hs
        refine wls hs rfl hg21 rfl ?_; intro a hs
        refine wls hs rfl hg21 rfl ?_; intro a hs
        refine wls hs rfl hg21 rfl ?_; intro a hs
        refine wls hs rfl hg21 rfl ?_; intro a hs
        refine wls hs rfl hg21 rfl ?_; intro a hs
        have hm : some true = some b19 := hm
        cases Option.some.inj hm
        refine wl hs (y_pickT hs rfl hg21 rfl) rfl ?_; intro a hs
        exact K _ _ (hs.sub ⟨rfl, rfl, rfl, rfl, rfl, trivial⟩) hM
      · have hm := condF hg21 hb20
        refine wlg hs rfl hg21 (y_move hs rfl) rfl ?_; intro a hs
        refine wlg hs rfl hg21 (y_load sc_int hs rfl (hM.cellBlk 1 rfl 0 rfl)) rfl ?_; intro a hs
        obtain ⟨x22, hx23, hm⟩ := bindE hm
        obtain ⟨u25, hv26, he24⟩ := hM.atM 0 rfl hx23
        refine wlg hs rfl hg21 (y_index ht_M hs rfl rfl he24) rfl ?_; intro a hs
        refine wlg hs rfl hg21 (y_load sc_I hs rfl he24.cell) rfl ?_; intro a hs
        refine wlg hs rfl hg21 (y_move hs rfl) rfl ?_; intro a hs
        obtain ⟨x27, hx28, hm⟩ := bindE hm
        have he29 := RdI.at_ (hM.rdRow 0 rfl rfl hv26 (idx_spec hx23).2.2) hx28
        refine wlg hs rfl hg21 (y_index ht_I hs rfl rfl he29) rfl ?_; intro a hs
        refine wlg hs rfl hg21 (y_load sc_int hs rfl he29.cell) rfl ?_; intro a hs
        refine wlg hs rfl hg21 (y_eql hs rfl rfl) rfl ?_; intro a hs
        have hm : some (x27 == 1000000000) = some b19 := hm
        cases Option.some.inj hm
        refine wl hs (y_pickF hs rfl hg21 rfl) rfl ?_; intro a hs
        exact K _ _ (hs.sub ⟨rfl, rfl, rfl, rfl, rfl, trivial⟩) hM
    intro a w hs hM
    simp only [List.drop_succ_cons, List.drop_zero]
    refine wpList_nil ?_
    refine x_nt ?_
    refine x_cond hs rfl (fun hb => ?_) (fun hb => ?_)
    · replace hm := condT hb hm
      refine wp_seq ?_
      refine wp_region_lit ?_
      refine wl hs (y_assign hs rfl) rfl ?_; intro a hs
      refine wl hs (y_assign hs rfl) rfl ?_; intro a hs
      refine wpList_nil ?_
      refine x_nt ?_
      refine wp_ret ?_
      refine x_rt ?_
      have hm : some ([], false) = some r := hm
      obtain rfl := Option.some.inj hm
      refine x_ret2 rfl hs rfl rfl ⟨_, rfl, ?_⟩
      have hM := hM.nilI 3
      exact ⟨_, rfl, (hM.keep_ 1)⟩
    · replace hm := condF hb hm
      refine wp_skip ?_
      refine x_nt ?_
      refine wp_seq ?_
      obtain ⟨s36, hm, hk37⟩ := bindE hm
      refine x_mid (fun a w => ∃ (g31 : Nat), ∃ (v32 : Value), ∃ (vs33 : List Value), ∃ (l34 : List (List Int)), ∃ (n35 : Int), (l34, n35) = s36 ∧ Fr a 123 [(0, v_p0), (4, .pointer (some ⟨g2, 0, none⟩)), (10, .pointer (some ⟨g31, 0, none⟩)), (11, v32)] ∧ Mem W w [aBlk g31 3 [.int .i64 n35], aMat 24 3 v32 vs33 l34, aBlk g2 3 [.int .i64 p1]]) ?_ ?_
      · refine wc_start hmix [0, 1, 2, 3, 4, 5, 6, 7, 8] (fun w => Mem W w [aMat 24 3 v17 vs18 y13.1, aBlk g2 3 [.int .i64 p1]]) (by rfl) ?_
        refine wc (i := 0) (fuel := 12) rfl (by kernel_rfl) (fun w w2 hS hE => hS.quiet hE) hM hs (fun w1 hS => y_move hs rfl) rfl ?_; intro a hs
        refine wc (i := 1) (fuel := 11) rfl (by kernel_rfl) (fun w w2 hS hE => hS.quiet hE) hM hs (fun w1 hS => y_load sc_int hs rfl (hS.cellBlk 1 rfl 0 rfl)) rfl ?_; intro a hs
        obtain ⟨x38, hx39, hm⟩ := bindE hm
        obtain ⟨u41, hv42, he40⟩ := hM.atM 0 rfl hx39
        have he43 := fun (w1 : World) (hS : Mem W w1 [aMat 24 3 v17 vs18 y13.1, aBlk g2 3 [.int .i64 p1]]) => hS.atMv 0 rfl hx39 hv42
        refine wc (i := 2) (fuel := 10) rfl (by kernel_rfl) (fun w w2 hS hE => hS.quiet hE) hM hs (fun w1 hS => y_index ht_M hs rfl rfl (he43 w1 hS)) rfl ?_; intro a hs
        refine wc (i := 3) (fuel := 9) rfl (by kernel_rfl) (fun w w2 hS hE => hS.quiet hE) hM hs (fun w1 hS => y_load sc_I hs rfl (he43 w1 hS).cell) rfl ?_; intro a hs
        refine wc (i := 4) (fuel := 8) rfl (by kernel_rfl) (fun w w2 hS hE => hS.quiet hE) hM hs (fun w1 hS => y_move hs rfl) rfl ?_; intro a hs
        obtain ⟨x44, hx45, hm⟩ := bindE hm
        have he46 := fun (w1 : World) (hS : Mem W w1 [aMat 24 3 v17 vs18 y13.1, aBlk g2 3 [.int .i64 p1]]) => RdI.at_ (hS.rdRow 0 rfl rfl hv42 (idx_spec hx39).2.2) hx45
        refine wc (i := 5) (fuel := 7) rfl (by kernel_rfl) (fun w w2 hS hE => hS.quiet hE) hM hs (fun w1 hS => y_index ht_I hs rfl rfl (he46 w1 hS)) rfl ?_; intro a hs
        refine wc (i := 6) (fuel := 6) rfl (by kernel_rfl) (fun w w2 hS hE => hS.quiet hE) hM hs (fun w1 hS => y_load sc_int hs rfl (he46 w1 hS).cell) rfl ?_; intro a hs
        refine wc (i := 7) (fuel := 5) rfl (by kernel_rfl) (fun w w2 hS hE => hS.quiet hE) hM hs (fun w1 hS => y_move hs rfl) rfl ?_; intro a hs
        refine wc (i := 8) (fuel := 4) rfl (by kernel_rfl) (fun w w2 hS hE => hS.quiet hE) hM hs (fun w1 hS => y_move hs rfl) rfl ?_; intro a hs
        obtain ⟨y10048, h10049, hm⟩ := bindE hm
        refine wc_abs fun T47 hT47 => ?_
        have K47_7680 : ∀ (a : Act) (w : World) (g11049 : Nat) (v10050 : Value) (vs10052 : List Value), Fr a 123 [(0, v_p0), (4, .pointer (some ⟨g2, 0, none⟩)), (10, .pointer (some ⟨g11049, 0, none⟩)), (11, v10050)] → Mem W w [aBlk g11049 3 [.int .i64 x44], aMat 24 3 v10050 vs10052 y10048, aMat 24 3 v17 vs18 y13.1, aBlk g2 3 [.int .i64 p1]] → T47 0 #[true, true, true, true, true, true, true, true, true, true, true, true, true] a w := by
          intro a w g11049 v10050 vs10052 hs hM; subst hT47
          refine wc_done (by kernel_rfl) ?_
          intro w hw
          replace hM := hM.quiet hw
          have hm : some (y10048, x44) = some s36 := hm
          exact ⟨g11049, v10050, vs10052, y10048, x44, Option.some.inj hm, hs.sub ⟨rfl, rfl, rfl, rfl, trivial⟩, (hM.front 2 rfl).drop⟩
        have K47_3584 : ∀ (a : Act) (w : World) (g11049 : Nat) (v10050 : Value) (vs10052 : List Value), Fr a 123 [(0, v_p0), (4, .pointer (some ⟨g2, 0, none⟩)), (10, .pointer (some ⟨g11049, 0, none⟩)), (54, v10050)] → Mem W w [aBlk g11049 3 [.int .i64 x44], aMat 24 3 v10050 vs10052 y10048, aMat 24 3 v17 vs18 y13.1, aBlk g2 3 [.int .i64 p1]] → T47 1 #[true, true, true, true, true, true, true, true, true, true, true, true, false] a w := by
          intro a w g11049 v10050 vs10052 hs hM; subst hT47
          refine wc_one (fuel := 0) 12 rfl (by kernel_rfl) ?_
          intro w hw
          replace hM := hM.quiet hw
          refine wl hs (y_assign hs rfl) rfl ?_; intro a hs
          refine on_nil ?_
          exact wc_at (by kernel_rfl) (K47_7680 _ _ g11049 v10050 vs10052 (hs.sub ⟨rfl, rfl, rfl, rfl, trivial⟩) hM)
        have K47_1536 : ∀ (a : Act) (w : World) (g11049 : Nat) (v10050 : Value) (vs10052 : List Value), Fr a 123 [(0, v_p0), (4, .pointer (some ⟨g2, 0, none⟩)), (10, .pointer (some ⟨g11049, 0, none⟩)), (51, .int .i64 x44), (54, v10050)] → Mem W w [aBlk g11049 3 [.int .i64 0], aMat 24 3 v10050 vs10052 y10048, aMat 24 3 v17 vs18 y13.1, aBlk g2 3 [.int .i64 p1]] → T47 2 #[true, true, true, true, true, true, true, true, true, true, true, false, false] a w := by
          intro a w g11049 v10050 vs10052 hs hM; subst hT47
          refine wc_one (fuel := 1) 11 rfl (by kernel_rfl) ?_
          intro w hw
          replace hM := hM.quiet hw
          refine wstore hs rfl rfl (x_storeBlk he_int rfl (hM.front 0 rfl)) ?_; intro w hM
          have hM : Mem W w [aBlk g11049 3 [.int .i64 x44], aMat 24 3 v10050 vs10052 y10048, aMat 24 3 v17 vs18 y13.1, aBlk g2 3 [.int .i64 p1]] := hM
          refine on_nil ?_
          exact wc_at (by kernel_rfl) (K47_3584 _ _ g11049 v10050 vs10052 (hs.sub ⟨rfl, rfl, rfl, rfl, trivial⟩) hM)
        have K47_512 : ∀ (a : Act) (w : World) (v10050 : Value) (vs10052 : List Value), Fr a 123 [(0, v_p0), (4, .pointer (some ⟨g2, 0, none⟩)), (51, .int .i64 x44), (54, v10050)] → Mem W w [aMat 24 3 v10050 vs10052 y10048, aMat 24 3 v17 vs18 y13.1, aBlk g2 3 [.int .i64 p1]] → T47 3 #[true, true, true, true, true, true, true, true, true, true, false, false, false] a w := by
          intro a w v10050 vs10052 hs hM; subst hT47
          refine wc_oneS (fuel := 2) 10 rfl (by kernel_rfl) ?_
          intro w hw
          replace hM := hM.quiet hw
          refine wmem hs (x_alloc he_int rfl hM) rfl ?_; rintro a _ w hs ⟨g11049, rfl, hM⟩
          have hM : Mem W w [aBlk g11049 3 [.int .i64 0], aMat 24 3 v10050 vs10052 y10048, aMat 24 3 v17 vs18 y13.1, aBlk g2 3 [.int .i64 p1]] := hM
          refine on_nil ⟨hM.drop.drop, ?_⟩
          exact wc_at (by kernel_rfl) (K47_1536 _ _ g11049 v10050 vs10052 (hs.sub ⟨rfl, rfl, rfl, rfl, rfl, trivial⟩) hM)
        have K47_1024 : ∀ (a : Act) (w : World) (g11049 : Nat), Fr a 123 [(0, v_p0), (4, .pointer (some ⟨g2, 0, none⟩)), (10, .pointer (some ⟨g11049, 0, none⟩)), (51, .int .i64 x44), (52, v_p0), (53, .int .i64 p2)] → Mem W w [aBlk g11049 3 [.int .i64 0], aMat 24 3 v17 vs18 y13.1, aBlk g2 3 [.int .i64 p1]] → T47 3 #[true, true, true, true, true, true, true, true, true, false, true, false, false] a w := by
          intro a w g11049 hs hM; subst hT47
          refine wc_oneS (fuel := 2) 9 rfl (by kernel_rfl) ?_
          intro w hw
          replace hM := hM.quiet hw
          refine wcall is_59 hs rfl rfl (impl_byStep_any v_p0 p0 p2 _ (RdM.below hr_p0 hM.bel) h10049) ?_; rintro a v10050 w hs ⟨vs10052, hX⟩
          have hM : Mem W w [aMat 24 3 v10050 vs10052 y10048, aBlk g11049 3 [.int .i64 0], aMat 24 3 v17 vs18 y13.1, aBlk g2 3 [.int .i64 p1]] := hM.call hX
          refine on_nil ⟨hM.drop.drop, ?_⟩
          exact wc_at (by kernel_rfl) (K47_1536 _ _ g11049 v10050 vs10052 (hs.sub ⟨rfl, rfl, rfl, rfl, rfl, trivial⟩) ((((hM.front 3 rfl).front 3 rfl).front 2 rfl).front 3 rfl))
        have K47_0 : ∀ (a : Act) (w : World), Fr a 123 [(0, v_p0), (4, .pointer (some ⟨g2, 0, none⟩)), (51, .int .i64 x44), (52, v_p0), (53, .int .i64 p2)] → Mem W w [aMat 24 3 v17 vs18 y13.1, aBlk g2 3 [.int .i64 p1]] → T47 4 #[true, true, true, true, true, true, true, true, true, false, false, false, false] a w := by
          intro a w hs hM; subst hT47
          refine wc_many (fuel := 3) [9, 10] (by kernel_rfl) (by simp) ⟨?_, ?_, trivial⟩
          · rintro o ⟨rfl⟩
            intro w hw
            replace hM := hM.quiet hw
            refine wcall is_59 hs rfl rfl (impl_byStep_any v_p0 p0 p2 _ (RdM.below hr_p0 hM.bel) h10049) ?_; rintro a v10050 w hs ⟨vs10052, hX⟩
            have hM : Mem W w [aMat 24 3 v10050 vs10052 y10048, aMat 24 3 v17 vs18 y13.1, aBlk g2 3 [.int .i64 p1]] := hM.call hX
            refine on_nil ⟨hM.drop, ?_⟩
            exact wc_at (by kernel_rfl) (K47_512 _ _ v10050 vs10052 (hs.sub ⟨rfl, rfl, rfl, rfl, trivial⟩) hM)
          · rintro o ⟨rfl⟩
            intro w hw
            replace hM := hM.quiet hw
            refine wmem hs (x_alloc he_int rfl hM) rfl ?_; rintro a _ w hs ⟨g11049, rfl, hM⟩
            have hM : Mem W w [aBlk g11049 3 [.int .i64 0], aMat 24 3 v17 vs18 y13.1, aBlk g2 3 [.int .i64 p1]] := hM
            refine on_nil ⟨hM.drop, ?_⟩
            exact wc_at (by kernel_rfl) (K47_1024 _ _ g11049 (hs.sub ⟨rfl, rfl, rfl, rfl, rfl, rfl, trivial⟩) hM)
        exact wc_at (by kernel_rfl) (K47_0 _ _ (hs.sub ⟨rfl, rfl, rfl, rfl, rfl, trivial⟩) hM)
      rintro a w ⟨g31, v32, vs33, l34, n35, rfl, hs, hM⟩
      have hm := hk37
      refine x_nt ?_
      refine wp_seq ?_
      refine wp_region_lit ?_
      refine wl hs (y_move hs rfl) rfl ?_; intro a hs
      refine wl hs (y_makeFunc hs rfl) rfl ?_; intro a hs
      obtain ⟨y15048, h15049, hm⟩ := bindE hm
      refine wcall is_60 hs rfl rfl (slices_IndexFunc_int_int_impl_CheapestWay_1_any v32 l34 g2 p1 g31 n35 _ (hM.rdM 1 rfl) (hM.cellBlk 2 rfl 0 rfl) (hM.ltBlk 2 rfl) (hM.cellBlk 0 rfl 0 rfl) (hM.ltBlk 0 rfl) h15049) ?_; rintro a _ w hs ⟨rfl, hX⟩
      have hM : Mem W w [aBlk g31 3 [.int .i64 n35], aMat 24 3 v32 vs33 l34, aBlk g2 3 [.int .i64 p1]] := hM.call hX
      refine wl hs (y_assign hs rfl) rfl ?_; intro a hs
      refine wpList_nil ?_
      refine x_nt ?_
      refine wp_seq ?_
      refine wp_region_lit ?_
      refine wl hs (y_load sc_int hs rfl (hM.cellBlk 2 rfl 0 rfl)) rfl ?_; intro a hs
      refine wmem hs (x_new1I hu_I he_int hs rfl hM) rfl ?_; intro a v15051 w hs hM
      have hM : Mem W w [aInts 3 v15051 ([p1]), aBlk g31 3 [.int .i64 n35], aMat 24 3 v32 vs33 l34, aBlk g2 3 [.int .i64 p1]] := hM
      refine wl hs (y_assign hs rfl) rfl ?_; intro a hs
      refine wpList_nil ?_
      refine x_nt ?_
      refine wp_seq ?_
      obtain ⟨s15058, hm, hk15059⟩ := bindE hm
      refine x_mid (fun a w => ∃ (v15056 : Value), ∃ (l15057 : List Int), l15057 = s15058 ∧ Fr a 123 [(13, v15056)] ∧ Mem W w [aInts 3 v15056 l15057]) ?_ ?_
      · refine wp_block ?_
        refine x_loop (fun k a w => ∃ (v15052 : Value) (l15053 : List Int) (n15054 : Int) (n15055 : Int) , Fr a 123 [(0, v_p0), (10, .pointer (some ⟨g31, 0, none⟩)), (11, v32), (12, .int .i64 n15055), (13, v15052)] ∧ Mem W w [aInts 3 v15052 l15053, aBlk g31 3 [.int .i64 n15054], aMat 24 3 v32 vs33 l34] ∧ impl_CheapestWay_l1 p0 l34 k l15053 n15054 n15055 = some s15058) 4000000 ⟨v15051, [p1], n35, y15048, hs.sub ⟨rfl, rfl, rfl, rfl, rfl, trivial⟩, (hM.keep_ 3), hm⟩ ?_
        rintro k a w ⟨v15052, l15053, n15054, n15055, hs, hM, hm⟩
        rcases k with _ | k
        · rewrite [impl_CheapestWay_l1] at hm; cases hm
        rewrite [impl_CheapestWay_l1] at hm
        refine wp_seq ?_
        refine wp_seq ?_
        refine wp_region_lit ?_
        refine wl hs (y_move hs rfl) rfl ?_; intro a hs
        refine wl hs (y_gtr hs rfl rfl) rfl ?_; intro a hs
        refine wpList_nil ?_
        refine x_nt ?_
        refine x_cond hs rfl (fun hb => ?_) (fun hb => ?_)
        · replace hm := condT hb hm
          refine wp_skip ?_
          refine x_nt ?_
          refine wp_block ?_
          refine wp_seq ?_
          refine wp_region_lit ?_
          refine wl hs (y_move hs rfl) rfl ?_; intro a hs
          refine wl hs (y_move hs rfl) rfl ?_; intro a hs
          refine wl hs (y_len hu_I hs rfl (hM.rdI 0 rfl)) rfl ?_; intro a hs
          obtain ⟨n15061, h15062, hm⟩ := bindE hm
          refine wl hs (y_sub hs rfl rfl h15062) rfl ?_; intro a hs
          obtain ⟨x15063, hx15064, hm⟩ := bindE hm
          have he15065 := RdI.at_ (hM.rdI 0 rfl) hx15064
          refine wl hs (y_index ht_I hs rfl rfl he15065) rfl ?_; intro a hs
          refine wl hs (y_load sc_int hs rfl he15065.cell) rfl ?_; intro a hs
          refine wl hs (y_assign hs rfl) rfl ?_; intro a hs
          refine wpList_nil ?_
          refine x_nt ?_
          refine wp_seq ?_
          refine wp_region_lit ?_
          refine wl hs (y_assign hs rfl) rfl ?_; intro a hs
          refine wpList_nil ?_
          refine x_nt ?_
          refine wp_seq ?_
          refine wp_seq ?_
          refine wp_region_lit ?_
          refine wl hs (y_move hs rfl) rfl ?_; intro a hs
          refine wl hs (y_len hu_M hs rfl (RdM.below hr_p0 hM.bel)) rfl ?_; intro a hs
          refine wl hs (y_move hs rfl) rfl ?_; intro a hs
          refine wpList_nil ?_
          refine x_nt ?_
          obtain ⟨s15069, hm, hk15070⟩ := bindE hm
          refine x_mid (fun a w => ∃ (n15068 : Int), n15068 = s15069 ∧ Fr a 123 [(0, v_p0), (10, .pointer (some ⟨g31, 0, none⟩)), (11, v32), (12, .int .i64 n15055), (13, v15052), (14, .int .i64 x15063), (15, .int .i64 n15068)] ∧ Mem W w [aInts 3 v15052 l15053, aBlk g31 3 [.int .i64 n15054], aMat 24 3 v32 vs33 l34]) ?_ ?_
          · refine wp_block ?_
            refine x_loop (fun k a w => ∃ (q15071 : List (List Int)) (j15066 : Nat) (n15067 : Int) , k = q15071.length ∧ Fr a 123 [(0, v_p0), (10, .pointer (some ⟨g31, 0, none⟩)), (11, v32), (12, .int .i64 n15055), (13, v15052), (14, .int .i64 x15063), (15, .int .i64 n15067), (69, .int .i64 (p0.length : Int)), (70, .int .i64 (j15066 : Int))] ∧ Mem W w [aInts 3 v15052 l15053, aBlk g31 3 [.int .i64 n15054], aMat 24 3 v32 vs33 l34] ∧ impl_CheapestWay_l2 p0 l34 n15054 n15055 x15063 q15071 j15066 n15067 = some s15069 ∧ List.drop j15066 p0 = q15071) _ ⟨p0, 0, (-1), rfl, hs.sub ⟨rfl, rfl, rfl, rfl, rfl, rfl, rfl, rfl, rfl, trivial⟩, hM, hm, rfl⟩ ?_
            rintro k a w ⟨q15071, j15066, n15067, rfl, hs, hM, hm, hj15066⟩
            rcases q15071 with _ | ⟨x15072, q15071⟩
            · rewrite [impl_CheapestWay_l2] at hm
              refine wp_seq ?_
              refine wp_region_lit ?_
              refine wl hs (y_lss hs rfl rfl) rfl ?_; intro a hs
              refine wpList_nil ?_
              refine x_nt ?_
              refine wp_seq ?_
              refine x_condF hs rfl (drop_f hj15066) ?_
              refine wp_exit ?_
              refine x_et ?_
              refine x_et ?_
              refine x_eb ?_
              have hm : some n15067 = some s15069 := hm
              exact ⟨n15067, Option.some.inj hm, hs.sub ⟨rfl, rfl, rfl, rfl, rfl, rfl, rfl, trivial⟩, hM⟩
            · rewrite [impl_CheapestWay_l2] at hm
              have hx15073 := drop_idx hj15066
              have hsj15066 := ck_succ hj15066 (RdS.len (RdM.below hr_p0 hM.bel))
              refine wp_seq ?_
              refine wp_region_lit ?_
              refine wl hs (y_lss hs rfl rfl) rfl ?_; intro a hs
              refine wpList_nil ?_
              refine x_nt ?_
              refine wp_seq ?_
              refine x_condT hs rfl (drop_t hj15066) ?_
              refine wp_skip ?_
              refine x_nt ?_
              refine wp_seq ?_
              refine wp_block ?_
              refine wp_seq ?_
              refine wp_region_lit ?_
              refine wl hs (y_move hs rfl) rfl ?_; intro a hs
              refine wl hs (y_assign hs rfl) rfl ?_; intro a hs
              refine wpList_nil ?_
              refine x_nt ?_
              refine wp_seq ?_
              refine x_regq hmix (by kernel_rfl) ?_
              refine wq hs (fun w1 hw1 => y_move hs rfl) rfl ?_; intro a hs
              refine wq hs (fun w1 hw1 => y_lss hs rfl rfl) rfl ?_; intro a hs
              refine wq hs (fun w1 hw1 => y_move hs rfl) rfl ?_; intro a hs
              obtain ⟨b15074, hb15075, hm⟩ := bindE hm
              refine wqguard (N := 123) (L' := [(84, .bool b15074), (0, v_p0), (10, .pointer (some ⟨g31, 0, none⟩)), (11, v32), (12, .int .i64 n15055), (13, v15052), (14, .int .i64 x15063), (15, .int .i64 n15067), (16, .int .i64 (j15066 : Int)), (69, .int .i64 (p0.length : Int)), (70, .int .i64 (j15066 : Int))]) 9 ?_ ?_
              · intro K; rcases Bool.eq_false_or_eq_true (decide (n15067 < 0)) with hg15076 | hg15076
                · have hm := condT hg15076 hb15075
                  refine wqg hs rfl hg15076 (fun w1 hw1 => y_move hs rfl) rfl ?_; intro a hs
                  refine wqg hs rfl hg15076 (fun w1 hw1 => y_move hs rfl) rfl ?_; intro a hs
                  obtain ⟨x15077, hx15078, hm⟩ := bindE hm
                  obtain ⟨u15080, he15079, hr15081⟩ := RdM.at_ hr_p0 hx15078
                  replace he15079 := he15079.below hM.bel
                  refine wqg hs rfl hg15076 (fun w1 hw1 => y_index ht_M hs rfl rfl (he15079.below hw1)) rfl ?_; intro a hs
                  refine wqg hs rfl hg15076 (fun w1 hw1 => y_load sc_I hs rfl (he15079.below hw1).cell) rfl ?_; intro a hs
                  refine wqg hs rfl hg15076 (fun w1 hw1 => y_move hs rfl) rfl ?_; intro a hs
                  obtain ⟨x15082, hx15083, hm⟩ := bindE hm
                  have he15084 := RdI.at_ (RdI.below hr15081 hM.bel) hx15083
                  refine wqg hs rfl hg15076 (fun w1 hw1 => y_index ht_I hs rfl rfl (he15084.below hw1)) rfl ?_; intro a hs
                  refine wqg hs rfl hg15076 (fun w1 hw1 => y_load sc_int hs rfl (he15084.below hw1).cell) rfl ?_; intro a hs
                  refine wqg hs rfl hg15076 (fun w1 hw1 => y_neq hs rfl rfl) rfl ?_; intro a hs
                  have hm : some (x15082 != 1000000000) = some b15074 := hm
                  cases Option.some.inj hm
                  refine wq hs (fun w1 hw1 => y_pickT hs rfl hg15076 rfl) rfl ?_; intro a hs
                  exact K _ (hs.sub ⟨rfl, rfl, rfl, rfl, rfl, rfl, rfl, rfl, rfl, rfl, rfl, trivial⟩)
                · have hm := condF hg15076 hb15075
                  refine wqs hs rfl hg15076 rfl ?_; intro a hs
                  refine wqs hs rfl hg15076 rfl ?_; intro a hs
                  refine wqs hs rfl hg15076 rfl ?_; intro a hs
                  refine wqs hs rfl hg15076 rfl ?_; intro a hs
                  refine wqs hs rfl hg15076 rfl ?_; intro a hs
                  refine wqs hs rfl hg15076 rfl ?_; intro a hs
                  refine wqs hs rfl hg15076 rfl ?_; intro a hs
                  refine wqs hs rfl hg15076 rfl ?_; intro a hs
                  have hm : some false = some b15074 := hm
                  cases Option.some.inj hm
                  refine wq hs (fun w1 hw1 => y_pickF hs rfl hg15076 rfl) rfl ?_; intro a hs
                  exact K _ (hs.sub ⟨rfl, rfl, rfl, rfl, rfl, rfl, rfl, rfl, rfl, rfl, rfl, trivial⟩)
              intro a hs
              simp only [List.drop_succ_cons, List.drop_zero]
              refine wq hs (fun w1 hw1 => y_move hs rfl) rfl ?_; intro a hs
              obtain ⟨b15085, hb15086, hm⟩ := bindE hm
              refine wqguard (N := 123) (L' := [(104, .bool b15085), (0, v_p0), (10, .pointer (some ⟨g31, 0, none⟩)), (11, v32), (12, .int .i64 n15055), (13, v15052), (14, .int .i64 x15063), (15, .int .i64 n15067), (16, .int .i64 (j15066 : Int)), (69, .int .i64 (p0.length : Int)), (70, .int .i64 (j15066 : Int))]) 19 ?_ ?_
              · intro K; rcases Bool.eq_false_or_eq_true b15074 with hg15087 | hg15087
                · have hm := condT hg15087 hb15086
                  refine wqg hs rfl hg15087 (fun w1 hw1 => y_move hs rfl) rfl ?_; intro a hs
                  refine wqg hs rfl hg15087 (fun w1 hw1 => y_move hs rfl) rfl ?_; intro a hs
                  obtain ⟨x15088, hx15089, hm⟩ := bindE hm
                  obtain ⟨u15091, he15090, hr15092⟩ := RdM.at_ hr_p0 hx15089
                  replace he15090 := he15090.below hM.bel
                  refine wqg hs rfl hg15087 (fun w1 hw1 => y_index ht_M hs rfl rfl (he15090.below hw1)) rfl ?_; intro a hs
                  refine wqg hs rfl hg15087 (fun w1 hw1 => y_load sc_I hs rfl (he15090.below hw1).cell) rfl ?_; intro a hs
                  refine wqg hs rfl hg15087 (fun w1 hw1 => y_move hs rfl) rfl ?_; intro a hs
                  obtain ⟨x15093, hx15094, hm⟩ := bindE hm
                  have he15095 := RdI.at_ (RdI.below hr15092 hM.bel) hx15094
                  refine wqg hs rfl hg15087 (fun w1 hw1 => y_index ht_I hs rfl rfl (he15095.below hw1)) rfl ?_; intro a hs
                  refine wqg hs rfl hg15087 (fun w1 hw1 => y_load sc_int hs rfl (he15095.below hw1).cell) rfl ?_; intro a hs
                  refine wqg hs rfl hg15087 (fun w1 hw1 => y_move hs rfl) rfl ?_; intro a hs
                  refine wqg hs rfl hg15087 (fun w1 hw1 => y_move hs rfl) rfl ?_; intro a hs
                  obtain ⟨n15096, h15097, hm⟩ := bindE hm
                  refine wqg hs rfl hg15087 (fun w1 hw1 => y_sub hs rfl rfl h15097) rfl ?_; intro a hs
                  obtain ⟨x15098, hx15099, hm⟩ := bindE hm
                  obtain ⟨u15101, hv15102, he15100⟩ := hM.atM 2 rfl hx15099
                  refine wqg hs rfl hg15087 (fun w1 hw1 => y_index ht_M hs rfl rfl (he15100.below hw1)) rfl ?_; intro a hs
                  refine wqg hs rfl hg15087 (fun w1 hw1 => y_load sc_I hs rfl (he15100.below hw1).cell) rfl ?_; intro a hs
                  refine wqg hs rfl hg15087 (fun w1 hw1 => y_move hs rfl) rfl ?_; intro a hs
                  obtain ⟨x15103, hx15104, hm⟩ := bindE hm
                  have he15105 := RdI.at_ (hM.rdRow 2 rfl rfl hv15102 (idx_spec hx15099).2.2) hx15104
                  refine wqg hs rfl hg15087 (fun w1 hw1 => y_index ht_I hs rfl rfl (he15105.below hw1)) rfl ?_; intro a hs
                  refine wqg hs rfl hg15087 (fun w1 hw1 => y_load sc_int hs rfl (he15105.below hw1).cell) rfl ?_; intro a hs
                  obtain ⟨y15106, h15107, hm⟩ := bindE hm
                  refine qcallg (v := .int .i64 y15106) is_62 hs rfl hg15087 rfl rfl (fun w1 hw1 => q_of hw1 (impl_product_any x15093 x15103 w1  h15107)) ?_; intro a hs
                  refine wqg hs rfl hg15087 (fun w1 hw1 => y_load sc_int hs rfl ((hM.quiet hw1).cellBlk 1 rfl 0 rfl)) rfl ?_; intro a hs
                  refine wqg hs rfl hg15087 (fun w1 hw1 => y_eql hs rfl rfl) rfl ?_; intro a hs
                  have hm : some (y15106 == n15054) = some b15085 := hm
                  cases Option.some.inj hm
                  refine wq hs (fun w1 hw1 => y_pickT hs rfl hg15087 rfl) rfl ?_; intro a hs
                  exact K _ (hs.sub ⟨rfl, rfl, rfl, rfl, rfl, rfl, rfl, rfl, rfl, rfl, rfl, trivial⟩)
                · have hm := condF hg15087 hb15086
                  refine wqs hs rfl hg15087 rfl ?_; intro a hs
                  refine wqs hs rfl hg15087 rfl ?_; intro a hs
                  refine wqs hs rfl hg15087 rfl ?_; intro a hs
                  refine wqs hs rfl hg15087 rfl ?_; intro a hs
                  refine wqs hs rfl hg15087 rfl ?_; intro a hs
                  refine wqs hs rfl hg15087 rfl ?_; intro a hs
                  refine wqs hs rfl hg15087 rfl ?_; intro a hs
                  refine wqs hs rfl hg15087 rfl ?_; intro a hs
                  refine wqs hs rfl hg15087 rfl ?_; intro a hs
                  refine wqs hs rfl hg15087 rfl ?_; intro a hs
                  refine wqs hs rfl hg15087 rfl ?_; intro a hs
                  refine wqs hs rfl hg15087 rfl ?_; intro a hs
                  refine wqs hs rfl hg15087 rfl ?_; intro a hs
                  refine wqs hs rfl hg15087 rfl ?_; intro a hs
                  refine wqs hs rfl hg15087 rfl ?_; intro a hs
                  refine wqs hs rfl hg15087 rfl ?_; intro a hs
                  refine wqs hs rfl hg15087 rfl ?_; intro a hs
                  refine wqs hs rfl hg15087 rfl ?_; intro a hs
                  have hm : some false = some b15085 := hm
                  cases Option.some.inj hm
                  refine wq hs (fun w1 hw1 => y_pickF hs rfl hg15087 rfl) rfl ?_; intro a hs
                  exact K _ (hs.sub ⟨rfl, rfl, rfl, rfl, rfl, rfl, rfl, rfl, rfl, rfl, rfl, trivial⟩)
              intro a hs
              simp only [List.drop_succ_cons, List.drop_zero]
              refine wpQuiet_nil ?_
              intro w hw
              replace hM := hM.quiet hw
              refine x_nt ?_
              refine x_cond hs rfl (fun hb => ?_) (fun hb => ?_)
              · replace hm := condT hb hm
                refine wp_region_lit ?_
                refine wl hs (y_move hs rfl) rfl ?_; intro a hs
                refine wl hs (y_assign hs rfl) rfl ?_; intro a hs
                refine wpList_nil ?_
                refine x_nb ?_
                refine x_nt ?_
                refine wp_region_lit ?_
                refine wl hs (y_add hs rfl rfl hsj15066) rfl ?_; intro a hs
                refine wl hs (y_move hs rfl) rfl ?_; intro a hs
                refine wpList_nil ?_
                exact ⟨_, by simp, q15071, j15066 + 1, (j15066 : Int), rfl, hs.sub ⟨rfl, rfl, rfl, rfl, rfl, rfl, rfl, rfl, rfl, trivial⟩, hM, hm, drop_next hj15066⟩
              · replace hm := condF hb hm
                refine wp_skip ?_
                refine x_nb ?_
                refine x_nt ?_
                refine wp_region_lit ?_
                refine wl hs (y_add hs rfl rfl hsj15066) rfl ?_; intro a hs
                refine wl hs (y_move hs rfl) rfl ?_; intro a hs
                refine wpList_nil ?_
                exact ⟨_, by simp, q15071, j15066 + 1, n15067, rfl, hs.sub ⟨rfl, rfl, rfl, rfl, rfl, rfl, rfl, rfl, rfl, trivial⟩, hM, hm, drop_next hj15066⟩
          rintro a w ⟨n15068, rfl, hs, hM⟩
          have hm := hk15070
          refine x_nt ?_
          refine wp_seq ?_
          refine wc_start hmix [0, 1, 2, 3, 4, 5, 6, 7, 8] (fun w => Mem W w [aInts 3 v15052 l15053, aBlk g31 3 [.int .i64 n15054], aMat 24 3 v32 vs33 l34]) (by rfl) ?_
          refine wc (i := 0) (fuel := 9) rfl (by kernel_rfl) (fun w w2 hS hE => hS.quiet hE) hM hs (fun w1 hS => y_load sc_int hs rfl (hS.cellBlk 1 rfl 0 rfl)) rfl ?_; intro a hs
          refine wc (i := 1) (fuel := 8) rfl (by kernel_rfl) (fun w w2 hS hE => hS.quiet hE) hM hs (fun w1 hS => y_move hs rfl) rfl ?_; intro a hs
          refine wc (i := 2) (fuel := 7) rfl (by kernel_rfl) (fun w w2 hS hE => hS.quiet hE) hM hs (fun w1 hS => y_move hs rfl) rfl ?_; intro a hs
          obtain ⟨x15108, hx15109, hm⟩ := bindE hm
          obtain ⟨u15111, he15110, hr15112⟩ := RdM.at_ hr_p0 hx15109
          have he15113 := fun (w1 : World) (hS : Mem W w1 [aInts 3 v15052 l15053, aBlk g31 3 [.int .i64 n15054], aMat 24 3 v32 vs33 l34]) => he15110.below hS.bel
          refine wc (i := 3) (fuel := 6) rfl (by kernel_rfl) (fun w w2 hS hE => hS.quiet hE) hM hs (fun w1 hS => y_index ht_M hs rfl rfl (he15113 w1 hS)) rfl ?_; intro a hs
          refine wc (i := 4) (fuel := 5) rfl (by kernel_rfl) (fun w w2 hS hE => hS.quiet hE) hM hs (fun w1 hS => y_load sc_I hs rfl (he15113 w1 hS).cell) rfl ?_; intro a hs
          refine wc (i := 5) (fuel := 4) rfl (by kernel_rfl) (fun w w2 hS hE => hS.quiet hE) hM hs (fun w1 hS => y_move hs rfl) rfl ?_; intro a hs
          obtain ⟨x15114, hx15115, hm⟩ := bindE hm
          have he15116 := fun (w1 : World) (hS : Mem W w1 [aInts 3 v15052 l15053, aBlk g31 3 [.int .i64 n15054], aMat 24 3 v32 vs33 l34]) => RdI.at_ (RdI.below hr15112 hS.bel) hx15115
          refine wc (i := 6) (fuel := 3) rfl (by kernel_rfl) (fun w w2 hS hE => hS.quiet hE) hM hs (fun w1 hS => y_index ht_I hs rfl rfl (he15116 w1 hS)) rfl ?_; intro a hs
          refine wc (i := 7) (fuel := 2) rfl (by kernel_rfl) (fun w w2 hS hE => hS.quiet hE) hM hs (fun w1 hS => y_load sc_int hs rfl (he15116 w1 hS).cell) rfl ?_; intro a hs
          obtain ⟨n15117, h15118, hm⟩ := bindE hm
          refine wc (i := 8) (fuel := 1) rfl (by kernel_rfl) (fun w w2 hS hE => hS.quiet hE) hM hs (fun w1 hS => y_sub hs rfl rfl h15118) rfl ?_; intro a hs
          refine wc_one (fuel := 0) 9 rfl (by kernel_rfl) ?_
          intro w hw
          replace hM := hM.quiet hw
          refine wstore hs rfl rfl (x_storeBlk he_int rfl (hM.front 1 rfl)) ?_; intro w hM
          have hM : Mem W w [aBlk g31 3 [.int .i64 n15117], aInts 3 v15052 l15053, aMat 24 3 v32 vs33 l34] := hM
          refine on_nil ?_
          refine wc_done (by kernel_rfl) ?_
          intro w hw
          replace hM := hM.quiet hw
          refine x_nt ?_
          refine wp_seq ?_
          refine wp_region_lit ?_
          refine wl hs (y_move hs rfl) rfl ?_; intro a hs
          refine wl hs (y_move hs rfl) rfl ?_; intro a hs
          obtain ⟨l15119, h15120, hm⟩ := bindE hm
          refine wappI hu_I he_int hs (hM.front 1 rfl) rfl rfl h15120 rfl rfl rfl ?_; intro a v15121 w u15122 hs hM
          have hM : Mem W w [aInts 3 v15121 l15119, aBlk g31 3 [.int .i64 n15117], aMat 24 3 v32 vs33 l34] := hM
          refine wl hs (y_assign hs rfl) rfl ?_; intro a hs
          refine wpList_nil ?_
          refine x_nt ?_
          refine wp_region_lit ?_
          refine wl hs (y_move hs rfl) rfl ?_; intro a hs
          obtain ⟨n15123, h15124, hm⟩ := bindE hm
          refine wl hs (y_sub hs rfl rfl h15124) rfl ?_; intro a hs
          refine wl hs (y_assign hs rfl) rfl ?_; intro a hs
          refine wpList_nil ?_
          refine x_nb ?_
          exact ⟨k, Nat.lt_succ_self _, v15121, l15119, n15117, n15123, hs.sub ⟨rfl, rfl, rfl, rfl, rfl, trivial⟩, hM, hm⟩
        · replace hm := condF hb hm
          refine wp_exit ?_
          refine x_et ?_
          refine x_et ?_
          refine x_eb ?_
          have hm : some l15053 = some s15058 := hm
          exact ⟨v15052, l15053, Option.some.inj hm, hs.sub ⟨rfl, trivial⟩, (hM.keep_ 1)⟩
      rintro a w ⟨v15056, l15057, rfl, hs, hM⟩
      have hm := hk15059
      refine x_nt ?_
      refine wp_seq ?_
      refine wp_region_lit ?_
      refine wl hs (y_move hs rfl) rfl ?_; intro a hs
      refine wl hs (y_assign hs rfl) rfl ?_; intro a hs
      refine wl hs (y_assign hs rfl) rfl ?_; intro a hs
      refine wpList_nil ?_
      refine x_nt ?_
      refine wp_ret ?_
      have hm : some (l15057, true) = some r := hm
      obtain rfl := Option.some.inj hm
      refine x_ret2 rfl hs rfl rfl ⟨_, rfl, ?_⟩
      exact ⟨_, rfl, hM⟩

end Go.Proofs.Ytjhaealoneennaa
