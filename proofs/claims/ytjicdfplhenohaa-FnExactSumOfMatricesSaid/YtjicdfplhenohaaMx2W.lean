/- The code of this unit computes what its mirrors say. Written by program (wip/gen). -/
import Derived.Test.YtjicdfplhenohaaFacts
import Derived.Test.YtjicdfplhenohaaMx2M
import Derived.Test.YtjicdfplhenohaaNumW
import Derived.Test.YtjicdfplhenohaaMatW
import Derived.Test.YtjicdfplhenohaaOwnW
namespace Go.Proofs.Ytjicdfplhenohaa
open Go.RowKit
set_option linter.unusedVariables false

theorem spec_SumOfMatrices_any (v_p0 : Value) (p0 : List (List Int)) (v_p1 : Value) (p1 : List (List Int)) (W : World) (hr_p0 : RdM W v_p0 p0) (hr_p1 : RdM W v_p1 p1) {r : (List (List Int)) × Bool} (hm : spec_SumOfMatrices_m p0 p1 = some r) : Calls Try.prog 16 [v_p0, v_p1].toArray W fun e w => ∃ v, e = .returned v ∧ ∃ v0, ∃ vs0, v = .tuple #[v0, .bool r.2] ∧ Mem W w [aMat 28 3 v0 vs0 r.1] := by
  refine x_enter Try.func16 rfl Try.ntmps16 rfl ?_
  intro a hs
  have hM := Mem.start W
  unfold spec_SumOfMatrices_m at hm
  refine wp_seq ?_
  refine wp_region_lit ?_
  refine wl hs (y_assign hs rfl) rfl ?_; intro a hs
  refine wl hs (y_assign hs rfl) rfl ?_; intro a hs
  refine wpList_nil ?_
  refine x_nt ?_
  refine wp_seq ?_
  refine wp_seq ?_
  refine x_regq hmix (by kernel_rfl) ?_
  refine wq hs (fun w1 hw1 => y_move hs rfl) rfl ?_; intro a hs
  obtain ⟨y1, h2, hm⟩ := bindE hm
  refine qcall (v := .bool y1) is_49 hs rfl rfl (fun w1 hw1 => q_of hw1 (spec_mxGood_any v_p0 p0 w1 (RdM.below hr_p0 (hM.quiet hw1).bel) h2)) ?_; intro a hs
  refine wq hs (fun w1 hw1 => y_not hs rfl) rfl ?_; intro a hs
  refine wq hs (fun w1 hw1 => y_move hs rfl) rfl ?_; intro a hs
  obtain ⟨b3, hb4, hm⟩ := bindE hm
  refine wqguard (N := 71) (L' := [(18, .bool b3), (0, v_p0), (1, v_p1)]) 4 ?_ ?_
  · intro K; rcases Bool.eq_false_or_eq_true (!y1) with hg5 | hg5
    · have hm := condT hg5 hb4
      refine wqs hs rfl hg5 rfl ?_; intro a hs
      refine wqs hs rfl hg5 rfl ?_; intro a hs
      refine wqs hs rfl hg5 rfl ?_; intro a hs
      have hm : some true = some b3 := hm
      cases Option.some.inj hm
      refine wq hs (fun w1 hw1 => y_pickT hs rfl hg5 rfl) rfl ?_; intro a hs
      exact K _ (hs.sub ⟨rfl, rfl, rfl, trivial⟩)
    · have hm := condF hg5 hb4
      refine wqg hs rfl hg5 (fun w1 hw1 => y_move hs rfl) rfl ?_; intro a hs
      obtain ⟨y6, h7, hm⟩ := bindE hm
      refine qcallg (v := .bool y6) is_49 hs rfl hg5 rfl rfl (fun w1 hw1 => q_of hw1 (spec_mxGood_any v_p1 p1 w1 (RdM.below hr_p1 (hM.quiet hw1).bel) h7)) ?_; intro a hs
      refine wqg hs rfl hg5 (fun w1 hw1 => y_not hs rfl) rfl ?_; intro a hs
      have hm : some (!y6) = some b3 := hm
      cases Option.some.inj hm
      refine wq hs (fun w1 hw1 => y_pickF hs rfl hg5 rfl) rfl ?_; intro a hs
      exact K _ (hs.sub ⟨rfl, rfl, rfl, trivial⟩)
  intro a hs
  simp only [List.drop_succ_cons, List.drop_zero]
  refine wq hs (fun w1 hw1 => y_move hs rfl) rfl ?_; intro a hs
  obtain ⟨b8, hb9, hm⟩ := bindE hm
  refine wqguard (N := 71) (L' := [(25, .bool b8), (0, v_p0), (1, v_p1)]) 6 ?_ ?_
  · intro K; rcases Bool.eq_false_or_eq_true b3 with hg10 | hg10
    · have hm := condT hg10 hb9
      refine wqs hs rfl hg10 rfl ?_; intro a hs
      refine wqs hs rfl hg10 rfl ?_; intro a hs
      refine wqs hs rfl hg10 rfl ?_; intro a hs
      refine wqs hs rfl hg10 rfl ?_; intro a hs
      refine wqs hs rfl hg10 rfl ?_; intro a hs
      have hm : some true = some b8 := hm
      cases Option.some.inj hm
      refine wq hs (fun w1 hw1 => y_pickT hs rfl hg10 rfl) rfl ?_; intro a hs
      exact K _ (hs.sub ⟨rfl, rfl, rfl, trivial⟩)
    · have hm := condF hg10 hb9
      refine wqg hs rfl hg10 (fun w1 hw1 => y_move hs rfl) rfl ?_; intro a hs
      refine wqg hs rfl hg10 (fun w1 hw1 => y_len hu_M hs rfl (RdM.below hr_p0 (hM.quiet hw1).bel)) rfl ?_; intro a hs
      refine wqg hs rfl hg10 (fun w1 hw1 => y_move hs rfl) rfl ?_; intro a hs
      refine wqg hs rfl hg10 (fun w1 hw1 => y_len hu_M hs rfl (RdM.below hr_p1 (hM.quiet hw1).bel)) rfl ?_; intro a hs
      refine wqg hs rfl hg10 (fun w1 hw1 => y_neq hs rfl rfl) rfl ?_; intro a hs
      have hm : some ((p0.length : Int) != (p1.length : Int)) = some b8 := hm
      cases Option.some.inj hm
      refine wq hs (fun w1 hw1 => y_pickF hs rfl hg10 rfl) rfl ?_; intro a hs
      exact K _ (hs.sub ⟨rfl, rfl, rfl, trivial⟩)
  intro a hs
  simp only [List.drop_succ_cons, List.drop_zero]
  refine wq hs (fun w1 hw1 => y_move hs rfl) rfl ?_; intro a hs
  obtain ⟨b11, hb12, hm⟩ := bindE hm
  refine wqguard (N := 71) (L' := [(36, .bool b11), (0, v_p0), (1, v_p1)]) 10 ?_ ?_
  · intro K; rcases Bool.eq_false_or_eq_true b8 with hg13 | hg13
    · have hm := condT hg13 hb12
      refine wqs hs rfl hg13 rfl ?_; intro a hs
      refine wqs hs rfl hg13 rfl ?_; intro a hs
      refine wqs hs rfl hg13 rfl ?_; intro a hs
      refine wqs hs rfl hg13 rfl ?_; intro a hs
      refine wqs hs rfl hg13 rfl ?_; intro a hs
      refine wqs hs rfl hg13 rfl ?_; intro a hs
      refine wqs hs rfl hg13 rfl ?_; intro a hs
      refine wqs hs rfl hg13 rfl ?_; intro a hs
      refine wqs hs rfl hg13 rfl ?_; intro a hs
      have hm : some true = some b11 := hm
      cases Option.some.inj hm
      refine wq hs (fun w1 hw1 => y_pickT hs rfl hg13 rfl) rfl ?_; intro a hs
      exact K _ (hs.sub ⟨rfl, rfl, rfl, trivial⟩)
    · have hm := condF hg13 hb12
      refine wqg hs rfl hg13 (fun w1 hw1 => y_move hs rfl) rfl ?_; intro a hs
      obtain ⟨x14, hx15, hm⟩ := bindE hm
      obtain ⟨u17, he16, hr18⟩ := RdM.at_ hr_p0 hx15
      replace he16 := he16.below hM.bel
      refine wqg hs rfl hg13 (fun w1 hw1 => y_index ht_M hs rfl rfl (he16.below hw1)) rfl ?_; intro a hs
      refine wqg hs rfl hg13 (fun w1 hw1 => y_load sc_I hs rfl (he16.below hw1).cell) rfl ?_; intro a hs
      refine wqg hs rfl hg13 (fun w1 hw1 => y_len hu_I hs rfl (RdI.below hr18 (hM.quiet hw1).bel)) rfl ?_; intro a hs
      refine wqg hs rfl hg13 (fun w1 hw1 => y_move hs rfl) rfl ?_; intro a hs
      obtain ⟨x19, hx20, hm⟩ := bindE hm
      obtain ⟨u22, he21, hr23⟩ := RdM.at_ hr_p1 hx20
      replace he21 := he21.below hM.bel
      refine wqg hs rfl hg13 (fun w1 hw1 => y_index ht_M hs rfl rfl (he21.below hw1)) rfl ?_; intro a hs
      refine wqg hs rfl hg13 (fun w1 hw1 => y_load sc_I hs rfl (he21.below hw1).cell) rfl ?_; intro a hs
      refine wqg hs rfl hg13 (fun w1 hw1 => y_len hu_I hs rfl (RdI.below hr23 (hM.quiet hw1).bel)) rfl ?_; intro a hs
      refine wqg hs rfl hg13 (fun w1 hw1 => y_neq hs rfl rfl) rfl ?_; intro a hs
      have hm : some ((x14.length : Int) != (x19.length : Int)) = some b11 := hm
      cases Option.some.inj hm
      refine wq hs (fun w1 hw1 => y_pickF hs rfl hg13 rfl) rfl ?_; intro a hs
      exact K _ (hs.sub ⟨rfl, rfl, rfl, trivial⟩)
  intro a hs
  simp only [List.drop_succ_cons, List.drop_zero]
  refine wpQuiet_nil ?_
  intro w hw
  replace hM := hM.quiet hw
  refine x_nt ?_
  refine x_cond hs rfl (fun hb => ?_) (fun hb => ?_)
  · replace hm := condT hb hm
    refine wp_seq ?_
    refine wp_region_lit ?_
    refine wl hs (y_assign hs rfl) rfl ?_; intro a hs
    refine wl hs (y_assign hs rfl) rfl ?_; intro a hs
    refine wpList_nil ?_
    refine x_nt ?_
    refine wp_ret ?_
    refine x_rt ?_
    have hm : some ([], false) = some r := hm
    obtain rfl := Option.some.inj hm
    refine x_ret2 rfl hs rfl rfl ⟨_, rfl, ?_⟩
    have hM := hM.nilM 28 3
    exact ⟨_, _, rfl, hM⟩
  · replace hm := condF hb hm
    refine wp_skip ?_
    refine x_nt ?_
    refine wp_seq ?_
    refine wp_region_lit ?_
    refine wl hs (y_move hs rfl) rfl ?_; intro a hs
    obtain ⟨y25, h26, hm⟩ := bindE hm
    refine wcall is_50 hs rfl rfl (spec_mxOwn_any v_p0 p0 _ (RdM.below hr_p0 hM.bel) h26) ?_; rintro a v27 w hs ⟨vs29, hX⟩
    have hM : Mem W w [aMat 28 3 v27 vs29 y25] := hM.call hX
    refine wl hs (y_assign hs rfl) rfl ?_; intro a hs
    refine wpList_nil ?_
    refine x_nt ?_
    refine wp_seq ?_
    refine wp_seq ?_
    refine wp_region_lit ?_
    refine wl hs (y_move hs rfl) rfl ?_; intro a hs
    refine wl hs (y_len hu_M hs rfl (RdM.below hr_p1 hM.bel)) rfl ?_; intro a hs
    refine wl hs (y_move hs rfl) rfl ?_; intro a hs
    refine wpList_nil ?_
    refine x_nt ?_
    obtain ⟨s33, hm, hk34⟩ := bindE hm
    refine x_mid (fun a w => ∃ (l32 : List (List Int)), l32 = s33 ∧ Fr a 71 [(6, v27)] ∧ Mem W w [aMat 28 3 v27 vs29 l32]) ?_ ?_
    · refine wp_block ?_
      refine x_loop (fun k a w => ∃ (q35 : List (List Int)) (j31 : Nat) (l30 : List (List Int)) , k = q35.length ∧ Fr a 71 [(6, v27), (39, v_p1), (40, .int .i64 (p1.length : Int)), (41, .int .i64 (j31 : Int))] ∧ Mem W w [aMat 28 3 v27 vs29 l30] ∧ spec_SumOfMatrices_l1 q35 j31 l30 = some s33 ∧ List.drop j31 p1 = q35) _ ⟨p1, 0, y25, rfl, hs.sub ⟨rfl, rfl, rfl, rfl, trivial⟩, hM, hm, rfl⟩ ?_
      rintro k a w ⟨q35, j31, l30, rfl, hs, hM, hm, hj⟩
      rcases q35 with _ | ⟨x36, q35⟩
      · rewrite [spec_SumOfMatrices_l1] at hm
        refine wp_seq ?_
        refine wp_region_lit ?_
        refine wl hs (y_lss hs rfl rfl) rfl ?_; intro a hs
        refine wpList_nil ?_
        refine x_nt ?_
        refine wp_seq ?_
        refine x_condF hs rfl (drop_f hj) ?_
        refine wp_exit ?_
        refine x_et ?_
        refine x_et ?_
        refine x_eb ?_
        have hm : some l30 = some s33 := hm
        exact ⟨l30, Option.some.inj hm, hs.sub ⟨rfl, trivial⟩, hM⟩
      · rewrite [spec_SumOfMatrices_l1] at hm
        have hx37 := drop_idx hj
        have hjs := ck_succ hj (RdS.len (RdM.below hr_p1 hM.bel))
        refine wp_seq ?_
        refine wp_region_lit ?_
        refine wl hs (y_lss hs rfl rfl) rfl ?_; intro a hs
        refine wpList_nil ?_
        refine x_nt ?_
        refine wp_seq ?_
        refine x_condT hs rfl (drop_t hj) ?_
        refine wp_skip ?_
        refine x_nt ?_
        refine wp_seq ?_
        refine wp_block ?_
        refine wp_seq ?_
        refine wp_region_lit ?_
        refine wl hs (y_move hs rfl) rfl ?_; intro a hs
        obtain ⟨u39, he38, hr40⟩ := RdM.at_ hr_p1 hx37
        replace he38 := he38.below hM.bel
        refine wl hs (y_index ht_M hs rfl rfl he38) rfl ?_; intro a hs
        refine wl hs (y_load sc_I hs rfl he38.cell) rfl ?_; intro a hs
        refine wl hs (y_assign hs rfl) rfl ?_; intro a hs
        refine wl hs (y_assign hs rfl) rfl ?_; intro a hs
        refine wpList_nil ?_
        refine x_nt ?_
        refine wp_seq ?_
        refine wp_region_lit ?_
        refine wl hs (y_move hs rfl) rfl ?_; intro a hs
        refine wl hs (y_len hu_I hs rfl (RdI.below hr40 hM.bel)) rfl ?_; intro a hs
        refine wl hs (y_move hs rfl) rfl ?_; intro a hs
        refine wpList_nil ?_
        refine x_nt ?_
        obtain ⟨s44, hm, hk45⟩ := bindE hm
        refine x_mid (fun a w => ∃ (l43 : List (List Int)), l43 = s44 ∧ Fr a 71 [(6, v27), (39, v_p1), (40, .int .i64 (p1.length : Int)), (41, .int .i64 (j31 : Int))] ∧ Mem W w [aMat 28 3 v27 vs29 l43]) ?_ ?_
        · refine wp_block ?_
          refine x_loop (fun k a w => ∃ (q46 : List Int) (j42 : Nat) (l41 : List (List Int)) , k = q46.length ∧ Fr a 71 [(6, v27), (7, .int .i64 (j31 : Int)), (39, v_p1), (40, .int .i64 (p1.length : Int)), (41, .int .i64 (j31 : Int)), (46, u39), (47, .int .i64 (x36.length : Int)), (48, .int .i64 (j42 : Int))] ∧ Mem W w [aMat 28 3 v27 vs29 l41] ∧ spec_SumOfMatrices_l2 j31 q46 j42 l41 = some s44 ∧ List.drop j42 x36 = q46) _ ⟨x36, 0, l30, rfl, hs.sub ⟨rfl, rfl, rfl, rfl, rfl, rfl, rfl, rfl, trivial⟩, hM, hm, rfl⟩ ?_
          rintro k a w ⟨q46, j42, l41, rfl, hs, hM, hm, hj⟩
          rcases q46 with _ | ⟨x47, q46⟩
          · rewrite [spec_SumOfMatrices_l2] at hm
            refine wp_seq ?_
            refine wp_region_lit ?_
            refine wl hs (y_lss hs rfl rfl) rfl ?_; intro a hs
            refine wpList_nil ?_
            refine x_nt ?_
            refine wp_seq ?_
            refine x_condF hs rfl (drop_f hj) ?_
            refine wp_exit ?_
            refine x_et ?_
            refine x_et ?_
            refine x_eb ?_
            have hm : some l41 = some s44 := hm
            exact ⟨l41, Option.some.inj hm, hs.sub ⟨rfl, rfl, rfl, rfl, trivial⟩, hM⟩
          · rewrite [spec_SumOfMatrices_l2] at hm
            have hx48 := drop_idx hj
            have hjs := ck_succ hj (RdS.len (RdI.below hr40 hM.bel))
            refine wp_seq ?_
            refine wp_region_lit ?_
            refine wl hs (y_lss hs rfl rfl) rfl ?_; intro a hs
            refine wpList_nil ?_
            refine x_nt ?_
            refine wp_seq ?_
            refine x_condT hs rfl (drop_t hj) ?_
            refine wp_skip ?_
            refine x_nt ?_
            refine wp_seq ?_
            refine wp_block ?_
            refine wp_seq ?_
            refine wp_region_lit ?_
            refine wl hs (y_move hs rfl) rfl ?_; intro a hs
            have he49 := RdI.at_ (RdI.below hr40 hM.bel) hx48
            refine wl hs (y_index ht_I hs rfl rfl he49) rfl ?_; intro a hs
            refine wl hs (y_load sc_int hs rfl he49.cell) rfl ?_; intro a hs
            refine wl hs (y_assign hs rfl) rfl ?_; intro a hs
            refine wl hs (y_assign hs rfl) rfl ?_; intro a hs
            refine wpList_nil ?_
            refine x_nt ?_
            refine wc_start hmix [0, 1, 2, 3, 4, 5, 6, 7, 8, 9, 10, 11, 12, 13, 14] (fun w => Mem W w [aMat 28 3 v27 vs29 l41]) (by rfl) ?_
            refine wc (i := 0) (fuel := 15) rfl (by kernel_rfl) (fun w w2 hS hE => hS.quiet hE) hM hs (fun w1 hS => y_move hs rfl) rfl ?_; intro a hs
            refine wc (i := 1) (fuel := 14) rfl (by kernel_rfl) (fun w w2 hS hE => hS.quiet hE) hM hs (fun w1 hS => y_move hs rfl) rfl ?_; intro a hs
            obtain ⟨x50, hx51, hm⟩ := bindE hm
            obtain ⟨u53, hv54, he52⟩ := hM.atM 0 rfl hx51
            have he55 := fun (w1 : World) (hS : Mem W w1 [aMat 28 3 v27 vs29 l41]) => hS.atMv 0 rfl hx51 hv54
            refine wc (i := 2) (fuel := 13) rfl (by kernel_rfl) (fun w w2 hS hE => hS.quiet hE) hM hs (fun w1 hS => y_index ht_M hs rfl rfl (he55 w1 hS)) rfl ?_; intro a hs
            refine wc (i := 3) (fuel := 12) rfl (by kernel_rfl) (fun w w2 hS hE => hS.quiet hE) hM hs (fun w1 hS => y_load sc_I hs rfl (he55 w1 hS).cell) rfl ?_; intro a hs
            refine wc (i := 4) (fuel := 11) rfl (by kernel_rfl) (fun w w2 hS hE => hS.quiet hE) hM hs (fun w1 hS => y_move hs rfl) rfl ?_; intro a hs
            refine wc (i := 5) (fuel := 10) rfl (by kernel_rfl) (fun w w2 hS hE => hS.quiet hE) hM hs (fun w1 hS => y_move hs rfl) rfl ?_; intro a hs
            refine wc (i := 6) (fuel := 9) rfl (by kernel_rfl) (fun w w2 hS hE => hS.quiet hE) hM hs (fun w1 hS => y_move hs rfl) rfl ?_; intro a hs
            obtain ⟨u57, hv58, he56⟩ := hM.atM 0 rfl hx51
            have he59 := fun (w1 : World) (hS : Mem W w1 [aMat 28 3 v27 vs29 l41]) => hS.atMv 0 rfl hx51 hv58
            refine wc (i := 7) (fuel := 8) rfl (by kernel_rfl) (fun w w2 hS hE => hS.quiet hE) hM hs (fun w1 hS => y_index ht_M hs rfl rfl (he59 w1 hS)) rfl ?_; intro a hs
            refine wc (i := 8) (fuel := 7) rfl (by kernel_rfl) (fun w w2 hS hE => hS.quiet hE) hM hs (fun w1 hS => y_load sc_I hs rfl (he59 w1 hS).cell) rfl ?_; intro a hs
            refine wc (i := 9) (fuel := 6) rfl (by kernel_rfl) (fun w w2 hS hE => hS.quiet hE) hM hs (fun w1 hS => y_move hs rfl) rfl ?_; intro a hs
            obtain ⟨x60, hx61, hm⟩ := bindE hm
            have he62 := fun (w1 : World) (hS : Mem W w1 [aMat 28 3 v27 vs29 l41]) => RdI.at_ (hS.rdRow 0 rfl rfl hv58 (idx_spec hx51).2.2) hx61
            refine wc (i := 10) (fuel := 5) rfl (by kernel_rfl) (fun w w2 hS hE => hS.quiet hE) hM hs (fun w1 hS => y_index ht_I hs rfl rfl (he62 w1 hS)) rfl ?_; intro a hs
            refine wc (i := 11) (fuel := 4) rfl (by kernel_rfl) (fun w w2 hS hE => hS.quiet hE) hM hs (fun w1 hS => y_load sc_int hs rfl (he62 w1 hS).cell) rfl ?_; intro a hs
            refine wc (i := 12) (fuel := 3) rfl (by kernel_rfl) (fun w w2 hS hE => hS.quiet hE) hM hs (fun w1 hS => y_move hs rfl) rfl ?_; intro a hs
            obtain ⟨y63, h64, hm⟩ := bindE hm
            refine ccall (i := 13) (fuel := 2) rfl (by kernel_rfl) (fun w w2 hS hE => hS.quiet hE) hM (v := .int .i64 y63) is_51 hs rfl rfl (fun w1 hS => cx_of (spec_l1Least_any x60 x47 w1  h64)) ?_; intro a hs
            have he65 := fun (w1 : World) (hS : Mem W w1 [aMat 28 3 v27 vs29 l41]) => RdI.at_ (hS.rdRow 0 rfl rfl hv54 (idx_spec hx51).2.2) hx61
            refine wc (i := 14) (fuel := 1) rfl (by kernel_rfl) (fun w w2 hS hE => hS.quiet hE) hM hs (fun w1 hS => y_index ht_I hs rfl rfl (he65 w1 hS)) rfl ?_; intro a hs
            refine wc_one (fuel := 0) 15 rfl (by kernel_rfl) ?_
            intro w hw
            replace hM := hM.quiet hw
            obtain ⟨l66, h67, hm⟩ := bindE hm
            refine wstore hs rfl rfl (x_storeM he_int (hM.front 0 rfl) hv54 ((idx_spec hx51).2.2) h67) ?_; intro w hM
            have hM : Mem W w [aMat 28 3 v27 vs29 (l41.set ((j31 : Int)).toNat l66)] := hM
            refine on_nil ?_
            refine wc_done (by kernel_rfl) ?_
            intro w hw
            replace hM := hM.quiet hw
            refine x_nb ?_
            refine x_nt ?_
            refine wp_region_lit ?_
            refine wl hs (y_add hs rfl rfl hjs) rfl ?_; intro a hs
            refine wl hs (y_move hs rfl) rfl ?_; intro a hs
            refine wpList_nil ?_
            exact ⟨_, by simp, q46, j42 + 1, (l41.set ((j31 : Int)).toNat l66), rfl, hs.sub ⟨rfl, rfl, rfl, rfl, rfl, rfl, rfl, rfl, trivial⟩, hM, hm, drop_next hj⟩
        rintro a w ⟨l43, rfl, hs, hM⟩
        have hm := hk45
        refine x_nb ?_
        refine x_nt ?_
        refine wp_region_lit ?_
        refine wl hs (y_add hs rfl rfl hjs) rfl ?_; intro a hs
        refine wl hs (y_move hs rfl) rfl ?_; intro a hs
        refine wpList_nil ?_
        exact ⟨_, by simp, q35, j31 + 1, l43, rfl, hs.sub ⟨rfl, rfl, rfl, rfl, trivial⟩, hM, hm, drop_next hj⟩
    rintro a w ⟨l32, rfl, hs, hM⟩
    have hm := hk34
    refine x_nt ?_
    refine wp_seq ?_
    refine wp_region_lit ?_
    refine wl hs (y_move hs rfl) rfl ?_; intro a hs
    refine wl hs (y_assign hs rfl) rfl ?_; intro a hs
    refine wl hs (y_assign hs rfl) rfl ?_; intro a hs
    refine wpList_nil ?_
    refine x_nt ?_
    refine wp_ret ?_
    have hm : some (l32, true) = some r := hm
    obtain rfl := Option.some.inj hm
    refine x_ret2 rfl hs rfl rfl ⟨_, rfl, ?_⟩
    exact ⟨_, _, rfl, hM⟩

theorem impl_SumOfMatrices_any (v_p0 : Value) (p0 : List (List Int)) (v_p1 : Value) (p1 : List (List Int)) (W : World) (hr_p0 : RdM W v_p0 p0) (hr_p1 : RdM W v_p1 p1) {r : (List (List Int)) × Bool} (hm : impl_SumOfMatrices_m p0 p1 = some r) : Calls Try.prog 18 [v_p0, v_p1].toArray W fun e w => ∃ v, e = .returned v ∧ ∃ v0, ∃ vs0, v = .tuple #[v0, .bool r.2] ∧ Mem W w [aMat 28 3 v0 vs0 r.1] := by
  refine x_enter Try.func18 rfl Try.ntmps18 rfl ?_
  intro a hs
  have hM := Mem.start W
  unfold impl_SumOfMatrices_m at hm
  refine wp_seq ?_
  refine wp_region_lit ?_
  refine wl hs (y_assign hs rfl) rfl ?_; intro a hs
  refine wl hs (y_assign hs rfl) rfl ?_; intro a hs
  refine wpList_nil ?_
  refine x_nt ?_
  refine wp_seq ?_
  refine wp_seq ?_
  refine x_regq hmix (by kernel_rfl) ?_
  refine wq hs (fun w1 hw1 => y_move hs rfl) rfl ?_; intro a hs
  obtain ⟨y1, h2, hm⟩ := bindE hm
  refine qcall (v := .bool y1) is_52 hs rfl rfl (fun w1 hw1 => q_of hw1 (impl_isMatrix_any v_p0 p0 w1 (RdM.below hr_p0 (hM.quiet hw1).bel) h2)) ?_; intro a hs
  refine wq hs (fun w1 hw1 => y_not hs rfl) rfl ?_; intro a hs
  refine wq hs (fun w1 hw1 => y_move hs rfl) rfl ?_; intro a hs
  obtain ⟨b3, hb4, hm⟩ := bindE hm
  refine wqguard (N := 71) (L' := [(18, .bool b3), (0, v_p0), (1, v_p1)]) 4 ?_ ?_
  · intro K; rcases Bool.eq_false_or_eq_true (!y1) with hg5 | hg5
    · have hm := condT hg5 hb4
      refine wqs hs rfl hg5 rfl ?_; intro a hs
      refine wqs hs rfl hg5 rfl ?_; intro a hs
      refine wqs hs rfl hg5 rfl ?_; intro a hs
      have hm : some true = some b3 := hm
      cases Option.some.inj hm
      refine wq hs (fun w1 hw1 => y_pickT hs rfl hg5 rfl) rfl ?_; intro a hs
      exact K _ (hs.sub ⟨rfl, rfl, rfl, trivial⟩)
    · have hm := condF hg5 hb4
      refine wqg hs rfl hg5 (fun w1 hw1 => y_move hs rfl) rfl ?_; intro a hs
      obtain ⟨y6, h7, hm⟩ := bindE hm
      refine qcallg (v := .bool y6) is_52 hs rfl hg5 rfl rfl (fun w1 hw1 => q_of hw1 (impl_isMatrix_any v_p1 p1 w1 (RdM.below hr_p1 (hM.quiet hw1).bel) h7)) ?_; intro a hs
      refine wqg hs rfl hg5 (fun w1 hw1 => y_not hs rfl) rfl ?_; intro a hs
      have hm : some (!y6) = some b3 := hm
      cases Option.some.inj hm
      refine wq hs (fun w1 hw1 => y_pickF hs rfl hg5 rfl) rfl ?_; intro a hs
      exact K _ (hs.sub ⟨rfl, rfl, rfl, trivial⟩)
  intro a hs
  simp only [List.drop_succ_cons, List.drop_zero]
  refine wq hs (fun w1 hw1 => y_move hs rfl) rfl ?_; intro a hs
  obtain ⟨b8, hb9, hm⟩ := bindE hm
  refine wqguard (N := 71) (L' := [(25, .bool b8), (0, v_p0), (1, v_p1)]) 6 ?_ ?_
  · intro K; rcases Bool.eq_false_or_eq_true b3 with hg10 | hg10
    · have hm := condT hg10 hb9
      refine wqs hs rfl hg10 rfl ?_; intro a hs
      refine wqs hs rfl hg10 rfl ?_; intro a hs
      refine wqs hs rfl hg10 rfl ?_; intro a hs
      refine wqs hs rfl hg10 rfl ?_; intro a hs
      refine wqs hs rfl hg10 rfl ?_; intro a hs
      have hm : some true = some b8 := hm
      cases Option.some.inj hm
      refine wq hs (fun w1 hw1 => y_pickT hs rfl hg10 rfl) rfl ?_; intro a hs
      exact K _ (hs.sub ⟨rfl, rfl, rfl, trivial⟩)
    · have hm := condF hg10 hb9
      refine wqg hs rfl hg10 (fun w1 hw1 => y_move hs rfl) rfl ?_; intro a hs
      refine wqg hs rfl hg10 (fun w1 hw1 => y_len hu_M hs rfl (RdM.below hr_p0 (hM.quiet hw1).bel)) rfl ?_; intro a hs
      refine wqg hs rfl hg10 (fun w1 hw1 => y_move hs rfl) rfl ?_; intro a hs
      refine wqg hs rfl hg10 (fun w1 hw1 => y_len hu_M hs rfl (RdM.below hr_p1 (hM.quiet hw1).bel)) rfl ?_; intro a hs
      refine wqg hs rfl hg10 (fun w1 hw1 => y_neq hs rfl rfl) rfl ?_; intro a hs
      have hm : some ((p0.length : Int) != (p1.length : Int)) = some b8 := hm
      cases Option.some.inj hm
      refine wq hs (fun w1 hw1 => y_pickF hs rfl hg10 rfl) rfl ?_; intro a hs
      exact K _ (hs.sub ⟨rfl, rfl, rfl, trivial⟩)
  intro a hs
  simp only [List.drop_succ_cons, List.drop_zero]
  refine wq hs (fun w1 hw1 => y_move hs rfl) rfl ?_; intro a hs
  obtain ⟨b11, hb12, hm⟩ := bindE hm
  refine wqguard (N := 71) (L' := [(36, .bool b11), (0, v_p0), (1, v_p1)]) 10 ?_ ?_
  · intro K; rcases Bool.eq_false_or_eq_true b8 with hg13 | hg13
    · have hm := condT hg13 hb12
      refine wqs hs rfl hg13 rfl ?_; intro a hs
      refine wqs hs rfl hg13 rfl ?_; intro a hs
      refine wqs hs rfl hg13 rfl ?_; intro a hs
      refine wqs hs rfl hg13 rfl ?_; intro a hs
      refine wqs hs rfl hg13 rfl ?_; intro a hs
      refine wqs hs rfl hg13 rfl ?_; intro a hs
      refine wqs hs rfl hg13 rfl ?_; intro a hs
      refine wqs hs rfl hg13 rfl ?_; intro a hs
      refine wqs hs rfl hg13 rfl ?_; intro a hs
      have hm : some true = some b11 := hm
      cases Option.some.inj hm
      refine wq hs (fun w1 hw1 => y_pickT hs rfl hg13 rfl) rfl ?_; intro a hs
      exact K _ (hs.sub ⟨rfl, rfl, rfl, trivial⟩)
    · have hm := condF hg13 hb12
      refine wqg hs rfl hg13 (fun w1 hw1 => y_move hs rfl) rfl ?_; intro a hs
      obtain ⟨x14, hx15, hm⟩ := bindE hm
      obtain ⟨u17, he16, hr18⟩ := RdM.at_ hr_p0 hx15
      replace he16 := he16.below hM.bel
      refine wqg hs rfl hg13 (fun w1 hw1 => y_index ht_M hs rfl rfl (he16.below hw1)) rfl ?_; intro a hs
      refine wqg hs rfl hg13 (fun w1 hw1 => y_load sc_I hs rfl (he16.below hw1).cell) rfl ?_; intro a hs
      refine wqg hs rfl hg13 (fun w1 hw1 => y_len hu_I hs rfl (RdI.below hr18 (hM.quiet hw1).bel)) rfl ?_; intro a hs
      refine wqg hs rfl hg13 (fun w1 hw1 => y_move hs rfl) rfl ?_; intro a hs
      obtain ⟨x19, hx20, hm⟩ := bindE hm
      obtain ⟨u22, he21, hr23⟩ := RdM.at_ hr_p1 hx20
      replace he21 := he21.below hM.bel
      refine wqg hs rfl hg13 (fun w1 hw1 => y_index ht_M hs rfl rfl (he21.below hw1)) rfl ?_; intro a hs
      refine wqg hs rfl hg13 (fun w1 hw1 => y_load sc_I hs rfl (he21.below hw1).cell) rfl ?_; intro a hs
      refine wqg hs rfl hg13 (fun w1 hw1 => y_len hu_I hs rfl (RdI.below hr23 (hM.quiet hw1).bel)) rfl ?_; intro a hs
      refine wqg hs rfl hg13 (fun w1 hw1 => y_neq hs rfl rfl) rfl ?_; intro a hs
      have hm : some ((x14.length : Int) != (x19.length : Int)) = some b11 := hm
      cases Option.some.inj hm
      refine wq hs (fun w1 hw1 => y_pickF hs rfl hg13 rfl) rfl ?_; intro a hs
      exact K _ (hs.sub ⟨rfl, rfl, rfl, trivial⟩)
  intro a hs
  simp only [List.drop_succ_cons, List.drop_zero]
  refine wpQuiet_nil ?_
  intro w hw
  replace hM := hM.quiet hw
  refine x_nt ?_
  refine x_cond hs rfl (fun hb => ?_) (fun hb => ?_)
  · replace hm := condT hb hm
    refine wp_seq ?_
    refine wp_region_lit ?_
    refine wl hs (y_assign hs rfl) rfl ?_; intro a hs
    refine wl hs (y_assign hs rfl) rfl ?_; intro a hs
    refine wpList_nil ?_
    refine x_nt ?_
    refine wp_ret ?_
    refine x_rt ?_
    have hm : some ([], false) = some r := hm
    obtain rfl := Option.some.inj hm
    refine x_ret2 rfl hs rfl rfl ⟨_, rfl, ?_⟩
    have hM := hM.nilM 28 3
    exact ⟨_, _, rfl, hM⟩
  · replace hm := condF hb hm
    refine wp_skip ?_
    refine x_nt ?_
    refine wp_seq ?_
    refine wp_region_lit ?_
    refine wl hs (y_move hs rfl) rfl ?_; intro a hs
    obtain ⟨y25, h26, hm⟩ := bindE hm
    refine wcall is_53 hs rfl rfl (impl_clones_any v_p0 p0 _ (RdM.below hr_p0 hM.bel) h26) ?_; rintro a v27 w hs ⟨vs29, hX⟩
    have hM : Mem W w [aMat 28 3 v27 vs29 y25] := hM.call hX
    refine wl hs (y_assign hs rfl) rfl ?_; intro a hs
    refine wpList_nil ?_
    refine x_nt ?_
    refine wp_seq ?_
    refine wp_seq ?_
    refine wp_region_lit ?_
    refine wl hs (y_move hs rfl) rfl ?_; intro a hs
    refine wl hs (y_len hu_M hs rfl (RdM.below hr_p1 hM.bel)) rfl ?_; intro a hs
    refine wl hs (y_move hs rfl) rfl ?_; intro a hs
    refine wpList_nil ?_
    refine x_nt ?_
    obtain ⟨s33, hm, hk34⟩ := bindE hm
    refine x_mid (fun a w => ∃ (l32 : List (List Int)), l32 = s33 ∧ Fr a 71 [(6, v27)] ∧ Mem W w [aMat 28 3 v27 vs29 l32]) ?_ ?_
    · refine wp_block ?_
      refine x_loop (fun k a w => ∃ (q35 : List (List Int)) (j31 : Nat) (l30 : List (List Int)) , k = q35.length ∧ Fr a 71 [(6, v27), (39, v_p1), (40, .int .i64 (p1.length : Int)), (41, .int .i64 (j31 : Int))] ∧ Mem W w [aMat 28 3 v27 vs29 l30] ∧ impl_SumOfMatrices_l1 q35 j31 l30 = some s33 ∧ List.drop j31 p1 = q35) _ ⟨p1, 0, y25, rfl, hs.sub ⟨rfl, rfl, rfl, rfl, trivial⟩, hM, hm, rfl⟩ ?_
      rintro k a w ⟨q35, j31, l30, rfl, hs, hM, hm, hj⟩
      rcases q35 with _ | ⟨x36, q35⟩
      · rewrite [impl_SumOfMatrices_l1] at hm
        refine wp_seq ?_
        refine wp_region_lit ?_
        refine wl hs (y_lss hs rfl rfl) rfl ?_; intro a hs
        refine wpList_nil ?_
        refine x_nt ?_
        refine wp_seq ?_
        refine x_condF hs rfl (drop_f hj) ?_
        refine wp_exit ?_
        refine x_et ?_
        refine x_et ?_
        refine x_eb ?_
        have hm : some l30 = some s33 := hm
        exact ⟨l30, Option.some.inj hm, hs.sub ⟨rfl, trivial⟩, hM⟩
      · rewrite [impl_SumOfMatrices_l1] at hm
        have hx37 := drop_idx hj
        have hjs := ck_succ hj (RdS.len (RdM.below hr_p1 hM.bel))
        refine wp_seq ?_
        refine wp_region_lit ?_
        refine wl hs (y_lss hs rfl rfl) rfl ?_; intro a hs
        refine wpList_nil ?_
        refine x_nt ?_
        refine wp_seq ?_
        refine x_condT hs rfl (drop_t hj) ?_
        refine wp_skip ?_
        refine x_nt ?_
        refine wp_seq ?_
        refine wp_block ?_
        refine wp_seq ?_
        refine wp_region_lit ?_
        refine wl hs (y_move hs rfl) rfl ?_; intro a hs
        obtain ⟨u39, he38, hr40⟩ := RdM.at_ hr_p1 hx37
        replace he38 := he38.below hM.bel
        refine wl hs (y_index ht_M hs rfl rfl he38) rfl ?_; intro a hs
        refine wl hs (y_load sc_I hs rfl he38.cell) rfl ?_; intro a hs
        refine wl hs (y_assign hs rfl) rfl ?_; intro a hs
        refine wl hs (y_assign hs rfl) rfl ?_; intro a hs
        refine wpList_nil ?_
        refine x_nt ?_
        refine wp_seq ?_
        refine wp_region_lit ?_
        refine wl hs (y_move hs rfl) rfl ?_; intro a hs
        refine wl hs (y_len hu_I hs rfl (RdI.below hr40 hM.bel)) rfl ?_; intro a hs
        refine wl hs (y_move hs rfl) rfl ?_; intro a hs
        refine wpList_nil ?_
        refine x_nt ?_
        obtain ⟨s44, hm, hk45⟩ := bindE hm
        refine x_mid (fun a w => ∃ (l43 : List (List Int)), l43 = s44 ∧ Fr a 71 [(6, v27), (39, v_p1), (40, .int .i64 (p1.length : Int)), (41, .int .i64 (j31 : Int))] ∧ Mem W w [aMat 28 3 v27 vs29 l43]) ?_ ?_
        · refine wp_block ?_
          refine x_loop (fun k a w => ∃ (q46 : List Int) (j42 : Nat) (l41 : List (List Int)) , k = q46.length ∧ Fr a 71 [(6, v27), (7, .int .i64 (j31 : Int)), (39, v_p1), (40, .int .i64 (p1.length : Int)), (41, .int .i64 (j31 : Int)), (46, u39), (47, .int .i64 (x36.length : Int)), (48, .int .i64 (j42 : Int))] ∧ Mem W w [aMat 28 3 v27 vs29 l41] ∧ impl_SumOfMatrices_l2 j31 q46 j42 l41 = some s44 ∧ List.drop j42 x36 = q46) _ ⟨x36, 0, l30, rfl, hs.sub ⟨rfl, rfl, rfl, rfl, rfl, rfl, rfl, rfl, trivial⟩, hM, hm, rfl⟩ ?_
          rintro k a w ⟨q46, j42, l41, rfl, hs, hM, hm, hj⟩
          rcases q46 with _ | ⟨x47, q46⟩
          · rewrite [impl_SumOfMatrices_l2] at hm
            refine wp_seq ?_
            refine wp_region_lit ?_
            refine wl hs (y_lss hs rfl rfl) rfl ?_; intro a hs
            refine wpList_nil ?_
            refine x_nt ?_
            refine wp_seq ?_
            refine x_condF hs rfl (drop_f hj) ?_
            refine wp_exit ?_
            refine x_et ?_
            refine x_et ?_
            refine x_eb ?_
            have hm : some l41 = some s44 := hm
            exact ⟨l41, Option.some.inj hm, hs.sub ⟨rfl, rfl, rfl, rfl, trivial⟩, hM⟩
          · rewrite [impl_SumOfMatrices_l2] at hm
            have hx48 := drop_idx hj
            have hjs := ck_succ hj (RdS.len (RdI.below hr40 hM.bel))
            refine wp_seq ?_
            refine wp_region_lit ?_
            refine wl hs (y_lss hs rfl rfl) rfl ?_; intro a hs
            refine wpList_nil ?_
            refine x_nt ?_
            refine wp_seq ?_
            refine x_condT hs rfl (drop_t hj) ?_
            refine wp_skip ?_
            refine x_nt ?_
            refine wp_seq ?_
            refine wp_block ?_
            refine wp_seq ?_
            refine wp_region_lit ?_
            refine wl hs (y_move hs rfl) rfl ?_; intro a hs
            have he49 := RdI.at_ (RdI.below hr40 hM.bel) hx48
            refine wl hs (y_index ht_I hs rfl rfl he49) rfl ?_; intro a hs
            refine wl hs (y_load sc_int hs rfl he49.cell) rfl ?_; intro a hs
            refine wl hs (y_assign hs rfl) rfl ?_; intro a hs
            refine wl hs (y_assign hs rfl) rfl ?_; intro a hs
            refine wpList_nil ?_
            refine x_nt ?_
            refine wc_start hmix [0, 1, 2, 3, 4, 5, 6, 7, 8, 9, 10, 11, 12, 13, 14] (fun w => Mem W w [aMat 28 3 v27 vs29 l41]) (by rfl) ?_
            refine wc (i := 0) (fuel := 15) rfl (by kernel_rfl) (fun w w2 hS hE => hS.quiet hE) hM hs (fun w1 hS => y_move hs rfl) rfl ?_; intro a hs
            refine wc (i := 1) (fuel := 14) rfl (by kernel_rfl) (fun w w2 hS hE => hS.quiet hE) hM hs (fun w1 hS => y_move hs rfl) rfl ?_; intro a hs
            obtain ⟨x50, hx51, hm⟩ := bindE hm
            obtain ⟨u53, hv54, he52⟩ := hM.atM 0 rfl hx51
            have he55 := fun (w1 : World) (hS : Mem W w1 [aMat 28 3 v27 vs29 l41]) => hS.atMv 0 rfl hx51 hv54
            refine wc (i := 2) (fuel := 13) rfl (by kernel_rfl) (fun w w2 hS hE => hS.quiet hE) hM hs (fun w1 hS => y_index ht_M hs rfl rfl (he55 w1 hS)) rfl ?_; intro a hs
            refine wc (i := 3) (fuel := 12) rfl (by kernel_rfl) (fun w w2 hS hE => hS.quiet hE) hM hs (fun w1 hS => y_load sc_I hs rfl (he55 w1 hS).cell) rfl ?_; intro a hs
            refine wc (i := 4) (fuel := 11) rfl (by kernel_rfl) (fun w w2 hS hE => hS.quiet hE) hM hs (fun w1 hS => y_move hs rfl) rfl ?_; intro a hs
            refine wc (i := 5) (fuel := 10) rfl (by kernel_rfl) (fun w w2 hS hE => hS.quiet hE) hM hs (fun w1 hS => y_move hs rfl) rfl ?_; intro a hs
            refine wc (i := 6) (fuel := 9) rfl (by kernel_rfl) (fun w w2 hS hE => hS.quiet hE) hM hs (fun w1 hS => y_move hs rfl) rfl ?_; intro a hs
            obtain ⟨u57, hv58, he56⟩ := hM.atM 0 rfl hx51
            have he59 := fun (w1 : World) (hS : Mem W w1 [aMat 28 3 v27 vs29 l41]) => hS.atMv 0 rfl hx51 hv58
            refine wc (i := 7) (fuel := 8) rfl (by kernel_rfl) (fun w w2 hS hE => hS.quiet hE) hM hs (fun w1 hS => y_index ht_M hs rfl rfl (he59 w1 hS)) rfl ?_; intro a hs
            refine wc (i := 8) (fuel := 7) rfl (by kernel_rfl) (fun w w2 hS hE => hS.quiet hE) hM hs (fun w1 hS => y_load sc_I hs rfl (he59 w1 hS).cell) rfl ?_; intro a hs
            refine wc (i := 9) (fuel := 6) rfl (by kernel_rfl) (fun w w2 hS hE => hS.quiet hE) hM hs (fun w1 hS => y_move hs rfl) rfl ?_; intro a hs
            obtain ⟨x60, hx61, hm⟩ := bindE hm
            have he62 := fun (w1 : World) (hS : Mem W w1 [aMat 28 3 v27 vs29 l41]) => RdI.at_ (hS.rdRow 0 rfl rfl hv58 (idx_spec hx51).2.2) hx61
            refine wc (i := 10) (fuel := 5) rfl (by kernel_rfl) (fun w w2 hS hE => hS.quiet hE) hM hs (fun w1 hS => y_index ht_I hs rfl rfl (he62 w1 hS)) rfl ?_; intro a hs
            refine wc (i := 11) (fuel := 4) rfl (by kernel_rfl) (fun w w2 hS hE => hS.quiet hE) hM hs (fun w1 hS => y_load sc_int hs rfl (he62 w1 hS).cell) rfl ?_; intro a hs
            refine wc (i := 12) (fuel := 3) rfl (by kernel_rfl) (fun w w2 hS hE => hS.quiet hE) hM hs (fun w1 hS => y_move hs rfl) rfl ?_; intro a hs
            refine wc (i := 13) (fuel := 2) rfl (by kernel_rfl) (fun w w2 hS hE => hS.quiet hE) hM hs (fun w1 hS => y_min hs rfl rfl) rfl ?_; intro a hs
            have he63 := fun (w1 : World) (hS : Mem W w1 [aMat 28 3 v27 vs29 l41]) => RdI.at_ (hS.rdRow 0 rfl rfl hv54 (idx_spec hx51).2.2) hx61
            refine wc (i := 14) (fuel := 1) rfl (by kernel_rfl) (fun w w2 hS hE => hS.quiet hE) hM hs (fun w1 hS => y_index ht_I hs rfl rfl (he63 w1 hS)) rfl ?_; intro a hs
            refine wc_one (fuel := 0) 15 rfl (by kernel_rfl) ?_
            intro w hw
            replace hM := hM.quiet hw
            obtain ⟨l64, h65, hm⟩ := bindE hm
            refine wstore hs rfl rfl (x_storeM he_int (hM.front 0 rfl) hv54 ((idx_spec hx51).2.2) h65) ?_; intro w hM
            have hM : Mem W w [aMat 28 3 v27 vs29 (l41.set ((j31 : Int)).toNat l64)] := hM
            refine on_nil ?_
            refine wc_done (by kernel_rfl) ?_
            intro w hw
            replace hM := hM.quiet hw
            refine x_nb ?_
            refine x_nt ?_
            refine wp_region_lit ?_
            refine wl hs (y_add hs rfl rfl hjs) rfl ?_; intro a hs
            refine wl hs (y_move hs rfl) rfl ?_; intro a hs
            refine wpList_nil ?_
            exact ⟨_, by simp, q46, j42 + 1, (l41.set ((j31 : Int)).toNat l64), rfl, hs.sub ⟨rfl, rfl, rfl, rfl, rfl, rfl, rfl, rfl, trivial⟩, hM, hm, drop_next hj⟩
        rintro a w ⟨l43, rfl, hs, hM⟩
        have hm := hk45
        refine x_nb ?_
        refine x_nt ?_
        refine wp_region_lit ?_
        refine wl hs (y_add hs rfl rfl hjs) rfl ?_; intro a hs
        refine wl hs (y_move hs rfl) rfl ?_; intro a hs
        refine wpList_nil ?_
        exact ⟨_, by simp, q35, j31 + 1, l43, rfl, hs.sub ⟨rfl, rfl, rfl, rfl, trivial⟩, hM, hm, drop_next hj⟩
    rintro a w ⟨l32, rfl, hs, hM⟩
    have hm := hk34
    refine x_nt ?_
    refine wp_seq ?_
    refine wp_region_lit ?_
    refine wl hs (y_move hs rfl) rfl ?_; intro a hs
    refine wl hs (y_assign hs rfl) rfl ?_; intro a hs
    refine wl hs (y_assign hs rfl) rfl ?_; intro a hs
    refine wpList_nil ?_
    refine x_nt ?_
    refine wp_ret ?_
    have hm : some (l32, true) = some r := hm
    obtain rfl := Option.some.inj hm
    refine x_ret2 rfl hs rfl rfl ⟨_, rfl, ?_⟩
    exact ⟨_, _, rfl, hM⟩

theorem spec_mxApply_any (v_p0 : Value) (p0 : List (List Int)) (v_p1 : Value) (p1 : List Int) (W : World) (hr_p0 : RdM W v_p0 p0) (hr_p1 : RdI W v_p1 p1) {r : (List Int) × Bool} (hm : spec_mxApply_m p0 p1 = some r) : Calls Try.prog 55 [v_p0, v_p1].toArray W fun e w => ∃ v, e = .returned v ∧ ∃ v0, v = .tuple #[v0, .bool r.2] ∧ Mem W w [aInts 3 v0 r.1] := by
  refine x_enter Try.func55 rfl Try.ntmps55 rfl ?_
  intro a hs
  have hM := Mem.start W
  unfold spec_mxApply_m at hm
  refine wp_seq ?_
  refine wp_region_lit ?_
  refine wl hs (y_assign hs rfl) rfl ?_; intro a hs
  refine wl hs (y_assign hs rfl) rfl ?_; intro a hs
  refine wpList_nil ?_
  refine x_nt ?_
  refine wp_seq ?_
  refine wp_region_lit ?_
  refine wl hs (y_assign hs rfl) rfl ?_; intro a hs
  have hM := hM.nilI 3
  refine wpList_nil ?_
  refine x_nt ?_
  refine wp_seq ?_
  refine wp_seq ?_
  refine wp_region_lit ?_
  refine wl hs (y_move hs rfl) rfl ?_; intro a hs
  refine wl hs (y_len hu_M hs rfl (RdM.below hr_p0 hM.bel)) rfl ?_; intro a hs
  refine wl hs (y_move hs rfl) rfl ?_; intro a hs
  refine wpList_nil ?_
  refine x_nt ?_
  obtain ⟨s7, hm, hk8⟩ := bindE hm
  refine x_mid (fun a w => ∃ (v5 : Value), ∃ (l6 : List Int), Sum.inr l6 = s7 ∧ Fr a 43 [(6, v5)] ∧ Mem W w [aInts 3 v5 l6]) ?_ ?_
  · refine wp_block ?_
    refine x_loop (fun k a w => ∃ (q9 : List (List Int)) (j4 : Nat) (v2 : Value) (l3 : List Int) , k = q9.length ∧ Fr a 43 [(1, v_p1), (6, v2), (12, v_p0), (13, .int .i64 (p0.length : Int)), (14, .int .i64 (j4 : Int))] ∧ Mem W w [aInts 3 v2 l3] ∧ spec_mxApply_l1 p1 q9 j4 l3 = some s7 ∧ List.drop j4 p0 = q9) _ ⟨p0, 0, (.slice none 0 0), [], rfl, hs.sub ⟨rfl, rfl, rfl, rfl, rfl, trivial⟩, hM, hm, rfl⟩ ?_
    rintro k a w ⟨q9, j4, v2, l3, rfl, hs, hM, hm, hj⟩
    rcases q9 with _ | ⟨x10, q9⟩
    · rewrite [spec_mxApply_l1] at hm
      refine wp_seq ?_
      refine wp_region_lit ?_
      refine wl hs (y_lss hs rfl rfl) rfl ?_; intro a hs
      refine wpList_nil ?_
      refine x_nt ?_
      refine wp_seq ?_
      refine x_condF hs rfl (drop_f hj) ?_
      refine wp_exit ?_
      refine x_et ?_
      refine x_et ?_
      refine x_eb ?_
      have hm : some (Sum.inr l3) = some s7 := hm
      exact ⟨v2, l3, Option.some.inj hm, hs.sub ⟨rfl, trivial⟩, hM⟩
    · rewrite [spec_mxApply_l1] at hm
      have hx11 := drop_idx hj
      have hjs := ck_succ hj (RdS.len (RdM.below hr_p0 hM.bel))
      refine wp_seq ?_
      refine wp_region_lit ?_
      refine wl hs (y_lss hs rfl rfl) rfl ?_; intro a hs
      refine wpList_nil ?_
      refine x_nt ?_
      refine wp_seq ?_
      refine x_condT hs rfl (drop_t hj) ?_
      refine wp_skip ?_
      refine x_nt ?_
      refine wp_seq ?_
      refine wp_block ?_
      refine wp_seq ?_
      refine wp_region_lit ?_
      obtain ⟨u13, he12, hr14⟩ := RdM.at_ hr_p0 hx11
      replace he12 := he12.below hM.bel
      refine wl hs (y_index ht_M hs rfl rfl he12) rfl ?_; intro a hs
      refine wl hs (y_load sc_I hs rfl he12.cell) rfl ?_; intro a hs
      refine wl hs (y_assign hs rfl) rfl ?_; intro a hs
      refine wpList_nil ?_
      refine x_nt ?_
      refine wp_seq ?_
      refine wp_region_lit ?_
      refine wl hs (y_assign hs rfl) rfl ?_; intro a hs
      refine wpList_nil ?_
      refine x_nt ?_
      refine wp_seq ?_
      refine wp_seq ?_
      refine wp_region_lit ?_
      refine wl hs (y_move hs rfl) rfl ?_; intro a hs
      refine wl hs (y_len hu_I hs rfl (RdI.below hr14 hM.bel)) rfl ?_; intro a hs
      refine wl hs (y_move hs rfl) rfl ?_; intro a hs
      refine wpList_nil ?_
      refine x_nt ?_
      obtain ⟨s18, hm, hk19⟩ := bindE hm
      refine x_mid (fun a w => ∃ (n17 : Int), n17 = s18 ∧ Fr a 43 [(1, v_p1), (6, v2), (9, .int .i64 n17), (12, v_p0), (13, .int .i64 (p0.length : Int)), (14, .int .i64 (j4 : Int))] ∧ Mem W w [aInts 3 v2 l3]) ?_ ?_
      · refine wp_block ?_
        refine x_loop (fun k a w => ∃ (q20 : List Int) (j16 : Nat) (n15 : Int) , k = q20.length ∧ Fr a 43 [(1, v_p1), (6, v2), (9, .int .i64 n15), (12, v_p0), (13, .int .i64 (p0.length : Int)), (14, .int .i64 (j4 : Int)), (18, u13), (19, .int .i64 (x10.length : Int)), (20, .int .i64 (j16 : Int))] ∧ Mem W w [aInts 3 v2 l3] ∧ spec_mxApply_l2 p1 q20 j16 n15 = some s18 ∧ List.drop j16 x10 = q20) _ ⟨x10, 0, 1000000000, rfl, hs.sub ⟨rfl, rfl, rfl, rfl, rfl, rfl, rfl, rfl, rfl, trivial⟩, hM, hm, rfl⟩ ?_
        rintro k a w ⟨q20, j16, n15, rfl, hs, hM, hm, hj⟩
        rcases q20 with _ | ⟨x21, q20⟩
        · rewrite [spec_mxApply_l2] at hm
          refine wp_seq ?_
          refine wp_region_lit ?_
          refine wl hs (y_lss hs rfl rfl) rfl ?_; intro a hs
          refine wpList_nil ?_
          refine x_nt ?_
          refine wp_seq ?_
          refine x_condF hs rfl (drop_f hj) ?_
          refine wp_exit ?_
          refine x_et ?_
          refine x_et ?_
          refine x_eb ?_
          have hm : some n15 = some s18 := hm
          exact ⟨n15, Option.some.inj hm, hs.sub ⟨rfl, rfl, rfl, rfl, rfl, rfl, trivial⟩, hM⟩
        · rewrite [spec_mxApply_l2] at hm
          have hx22 := drop_idx hj
          have hjs := ck_succ hj (RdS.len (RdI.below hr14 hM.bel))
          refine wp_seq ?_
          refine wp_region_lit ?_
          refine wl hs (y_lss hs rfl rfl) rfl ?_; intro a hs
          refine wpList_nil ?_
          refine x_nt ?_
          refine wp_seq ?_
          refine x_condT hs rfl (drop_t hj) ?_
          refine wp_skip ?_
          refine x_nt ?_
          refine wp_seq ?_
          refine wp_block ?_
          refine wp_seq ?_
          refine wp_region_lit ?_
          refine wl hs (y_move hs rfl) rfl ?_; intro a hs
          have he23 := RdI.at_ (RdI.below hr14 hM.bel) hx22
          refine wl hs (y_index ht_I hs rfl rfl he23) rfl ?_; intro a hs
          refine wl hs (y_load sc_int hs rfl he23.cell) rfl ?_; intro a hs
          refine wl hs (y_assign hs rfl) rfl ?_; intro a hs
          refine wl hs (y_assign hs rfl) rfl ?_; intro a hs
          refine wpList_nil ?_
          refine x_nt ?_
          refine wp_region_lit ?_
          refine wl hs (y_move hs rfl) rfl ?_; intro a hs
          refine wl hs (y_move hs rfl) rfl ?_; intro a hs
          refine wl hs (y_move hs rfl) rfl ?_; intro a hs
          refine wl hs (y_move hs rfl) rfl ?_; intro a hs
          obtain ⟨x24, hx25, hm⟩ := bindE hm
          have he26 := RdI.at_ (RdI.below hr_p1 hM.bel) hx25
          refine wl hs (y_index ht_I hs rfl rfl he26) rfl ?_; intro a hs
          refine wl hs (y_load sc_int hs rfl he26.cell) rfl ?_; intro a hs
          obtain ⟨y27, h28, hm⟩ := bindE hm
          refine wcall is_77 hs rfl rfl (spec_nuPlus_any x21 x24 _  h28) ?_; rintro a _ w hs ⟨rfl, hX⟩
          have hM : Mem W w [aInts 3 v2 l3] := hM.call hX
          obtain ⟨y29, h30, hm⟩ := bindE hm
          refine wcall is_51 hs rfl rfl (spec_l1Least_any n15 y27 _  h30) ?_; rintro a _ w hs ⟨rfl, hX⟩
          have hM : Mem W w [aInts 3 v2 l3] := hM.call hX
          refine wl hs (y_assign hs rfl) rfl ?_; intro a hs
          refine wpList_nil ?_
          refine x_nb ?_
          refine x_nt ?_
          refine wp_region_lit ?_
          refine wl hs (y_add hs rfl rfl hjs) rfl ?_; intro a hs
          refine wl hs (y_move hs rfl) rfl ?_; intro a hs
          refine wpList_nil ?_
          exact ⟨_, by simp, q20, j16 + 1, y29, rfl, hs.sub ⟨rfl, rfl, rfl, rfl, rfl, rfl, rfl, rfl, rfl, trivial⟩, hM, hm, drop_next hj⟩
      rintro a w ⟨n17, rfl, hs, hM⟩
      have hm := hk19
      refine x_nt ?_
      refine wp_seq ?_
      refine wp_seq ?_
      refine wp_region_lit ?_
      refine wl hs (y_move hs rfl) rfl ?_; intro a hs
      obtain ⟨y31, h32, hm⟩ := bindE hm
      refine wcall is_59 hs rfl rfl (spec_nuGood_any n17 _  h32) ?_; rintro a _ w hs ⟨rfl, hX⟩
      have hM : Mem W w [aInts 3 v2 l3] := hM.call hX
      refine wl hs (y_not hs rfl) rfl ?_; intro a hs
      refine wpList_nil ?_
      refine x_nt ?_
      refine x_cond hs rfl (fun hb => ?_) (fun hb => ?_)
      · replace hm := condT hb hm
        refine wp_seq ?_
        refine wp_region_lit ?_
        refine wl hs (y_assign hs rfl) rfl ?_; intro a hs
        refine wl hs (y_assign hs rfl) rfl ?_; intro a hs
        refine wpList_nil ?_
        refine x_nt ?_
        refine wp_ret ?_
        refine x_rt ?_
        refine x_rb ?_
        refine x_rt ?_
        refine x_rt ?_
        refine x_rb ?_
        refine x_rt ?_
        refine x_rt ?_
        have hm : some (Sum.inl ([], false)) = some s7 := hm
        cases Option.some.inj hm
        have hm := hk8
        have hm : some ([], false) = some r := hm
        obtain rfl := Option.some.inj hm
        refine x_ret2 rfl hs rfl rfl ⟨_, rfl, ?_⟩
        have hM := hM.nilI 3
        exact ⟨_, rfl, (hM.keep_ 1)⟩
      · replace hm := condF hb hm
        refine wp_skip ?_
        refine x_nt ?_
        refine wp_region_lit ?_
        refine wl hs (y_move hs rfl) rfl ?_; intro a hs
        refine wl hs (y_move hs rfl) rfl ?_; intro a hs
        obtain ⟨l34, h35, hm⟩ := bindE hm
        refine wappI hu_I he_int hs hM rfl rfl h35 rfl rfl rfl ?_; intro a v36 w u37 hs hM
        have hM : Mem W w [aInts 3 v36 l34] := hM
        refine wl hs (y_assign hs rfl) rfl ?_; intro a hs
        refine wpList_nil ?_
        refine x_nb ?_
        refine x_nt ?_
        refine wp_region_lit ?_
        refine wl hs (y_add hs rfl rfl hjs) rfl ?_; intro a hs
        refine wl hs (y_move hs rfl) rfl ?_; intro a hs
        refine wpList_nil ?_
        exact ⟨_, by simp, q9, j4 + 1, v36, l34, rfl, hs.sub ⟨rfl, rfl, rfl, rfl, rfl, trivial⟩, hM, hm, drop_next hj⟩
  rintro a w ⟨v5, l6, rfl, hs, hM⟩
  have hm := hk8
  refine x_nt ?_
  refine wp_seq ?_
  refine wp_region_lit ?_
  refine wl hs (y_move hs rfl) rfl ?_; intro a hs
  refine wl hs (y_assign hs rfl) rfl ?_; intro a hs
  refine wl hs (y_assign hs rfl) rfl ?_; intro a hs
  refine wpList_nil ?_
  refine x_nt ?_
  refine wp_ret ?_
  have hm : some (l6, true) = some r := hm
  obtain rfl := Option.some.inj hm
  refine x_ret2 rfl hs rfl rfl ⟨_, rfl, ?_⟩
  exact ⟨_, rfl, hM⟩

theorem impl_applied_any (v_p0 : Value) (p0 : List (List Int)) (v_p1 : Value) (p1 : List Int) (W : World) (hr_p0 : RdM W v_p0 p0) (hr_p1 : RdI W v_p1 p1) {r : List Int} (hm : impl_applied_m p0 p1 = some r) : Calls Try.prog 58 [v_p0, v_p1].toArray W fun e w => ∃ v, e = .returned v ∧ Mem W w [aInts 3 v r] := by
  refine x_enter Try.func58 rfl Try.ntmps58 rfl ?_
  intro a hs
  have hM := Mem.start W
  unfold impl_applied_m at hm
  refine wp_seq ?_
  refine wp_region_lit ?_
  refine wl hs (y_assign hs rfl) rfl ?_; intro a hs
  refine wpList_nil ?_
  refine x_nt ?_
  refine wp_seq ?_
  refine wp_region_lit ?_
  refine wmem hs (x_new0I ht_I hM) rfl ?_; intro a v2 w hs hM
  have hM : Mem W w [aInts 3 v2 ([])] := hM
  refine wl hs (y_assign hs rfl) rfl ?_; intro a hs
  refine wpList_nil ?_
  refine x_nt ?_
  refine wp_seq ?_
  refine wp_seq ?_
  refine wp_region_lit ?_
  refine wl hs (y_move hs rfl) rfl ?_; intro a hs
  refine wl hs (y_len hu_M hs rfl (RdM.below hr_p0 hM.bel)) rfl ?_; intro a hs
  refine wl hs (y_move hs rfl) rfl ?_; intro a hs
  refine wpList_nil ?_
  refine x_nt ?_
  obtain ⟨s8, hm, hk9⟩ := bindE hm
  refine x_mid (fun a w => ∃ (v6 : Value), ∃ (l7 : List Int), l7 = s8 ∧ Fr a 23 [(5, v6)] ∧ Mem W w [aInts 3 v6 l7]) ?_ ?_
  · refine wp_block ?_
    refine x_loop (fun k a w => ∃ (q10 : List (List Int)) (j5 : Nat) (v3 : Value) (l4 : List Int) , k = q10.length ∧ Fr a 23 [(1, v_p1), (5, v3), (9, v_p0), (10, .int .i64 (p0.length : Int)), (11, .int .i64 (j5 : Int))] ∧ Mem W w [aInts 3 v3 l4] ∧ impl_applied_l1 p1 q10 j5 l4 = some s8 ∧ List.drop j5 p0 = q10) _ ⟨p0, 0, v2, [], rfl, hs.sub ⟨rfl, rfl, rfl, rfl, rfl, trivial⟩, hM, hm, rfl⟩ ?_
    rintro k a w ⟨q10, j5, v3, l4, rfl, hs, hM, hm, hj⟩
    rcases q10 with _ | ⟨x11, q10⟩
    · rewrite [impl_applied_l1] at hm
      refine wp_seq ?_
      refine wp_region_lit ?_
      refine wl hs (y_lss hs rfl rfl) rfl ?_; intro a hs
      refine wpList_nil ?_
      refine x_nt ?_
      refine wp_seq ?_
      refine x_condF hs rfl (drop_f hj) ?_
      refine wp_exit ?_
      refine x_et ?_
      refine x_et ?_
      refine x_eb ?_
      have hm : some l4 = some s8 := hm
      exact ⟨v3, l4, Option.some.inj hm, hs.sub ⟨rfl, trivial⟩, hM⟩
    · rewrite [impl_applied_l1] at hm
      have hx12 := drop_idx hj
      have hjs := ck_succ hj (RdS.len (RdM.below hr_p0 hM.bel))
      refine wp_seq ?_
      refine wp_region_lit ?_
      refine wl hs (y_lss hs rfl rfl) rfl ?_; intro a hs
      refine wpList_nil ?_
      refine x_nt ?_
      refine wp_seq ?_
      refine x_condT hs rfl (drop_t hj) ?_
      refine wp_skip ?_
      refine x_nt ?_
      refine wp_seq ?_
      refine wp_block ?_
      refine wp_seq ?_
      refine wp_region_lit ?_
      obtain ⟨u14, he13, hr15⟩ := RdM.at_ hr_p0 hx12
      replace he13 := he13.below hM.bel
      refine wl hs (y_index ht_M hs rfl rfl he13) rfl ?_; intro a hs
      refine wl hs (y_load sc_I hs rfl he13.cell) rfl ?_; intro a hs
      refine wl hs (y_assign hs rfl) rfl ?_; intro a hs
      refine wpList_nil ?_
      refine x_nt ?_
      refine wp_region_lit ?_
      refine wl hs (y_move hs rfl) rfl ?_; intro a hs
      refine wl hs (y_move hs rfl) rfl ?_; intro a hs
      refine wl hs (y_move hs rfl) rfl ?_; intro a hs
      obtain ⟨y16, h17, hm⟩ := bindE hm
      refine wcall is_99 hs rfl rfl (impl_dot_any u14 x11 v_p1 p1 _ (RdI.below hr15 hM.bel) (RdI.below hr_p1 hM.bel) h17) ?_; rintro a _ w hs ⟨rfl, hX⟩
      have hM : Mem W w [aInts 3 v3 l4] := hM.call hX
      obtain ⟨l18, h19, hm⟩ := bindE hm
      refine wappI hu_I he_int hs hM rfl rfl h19 rfl rfl rfl ?_; intro a v20 w u21 hs hM
      have hM : Mem W w [aInts 3 v20 l18] := hM
      refine wl hs (y_assign hs rfl) rfl ?_; intro a hs
      refine wpList_nil ?_
      refine x_nb ?_
      refine x_nt ?_
      refine wp_region_lit ?_
      refine wl hs (y_add hs rfl rfl hjs) rfl ?_; intro a hs
      refine wl hs (y_move hs rfl) rfl ?_; intro a hs
      refine wpList_nil ?_
      exact ⟨_, by simp, q10, j5 + 1, v20, l18, rfl, hs.sub ⟨rfl, rfl, rfl, rfl, rfl, trivial⟩, hM, hm, drop_next hj⟩
  rintro a w ⟨v6, l7, rfl, hs, hM⟩
  have hm := hk9
  refine x_nt ?_
  refine wp_seq ?_
  refine wp_region_lit ?_
  refine wl hs (y_move hs rfl) rfl ?_; intro a hs
  refine wl hs (y_assign hs rfl) rfl ?_; intro a hs
  refine wpList_nil ?_
  refine x_nt ?_
  refine wp_ret ?_
  have hm : some l7 = some r := hm
  obtain rfl := Option.some.inj hm
  refine x_ret1 rfl hs rfl ⟨_, rfl, ?_⟩
  exact hM

theorem spec_ApplyMatrix_any (v_p0 : Value) (p0 : List (List Int)) (v_p1 : Value) (p1 : List Int) (W : World) (hr_p0 : RdM W v_p0 p0) (hr_p1 : RdI W v_p1 p1) {r : (List Int) × Bool} (hm : spec_ApplyMatrix_m p0 p1 = some r) : Calls Try.prog 22 [v_p0, v_p1].toArray W fun e w => ∃ v, e = .returned v ∧ ∃ v0, v = .tuple #[v0, .bool r.2] ∧ Mem W w [aInts 3 v0 r.1] := by
  refine x_enter Try.func22 rfl Try.ntmps22 rfl ?_
  intro a hs
  have hM := Mem.start W
  unfold spec_ApplyMatrix_m at hm
  refine wp_seq ?_
  refine wp_region_lit ?_
  refine wl hs (y_assign hs rfl) rfl ?_; intro a hs
  refine wl hs (y_assign hs rfl) rfl ?_; intro a hs
  refine wpList_nil ?_
  refine x_nt ?_
  refine wp_seq ?_
  refine wp_seq ?_
  refine wp_region_lit ?_
  refine wl hs (y_move hs rfl) rfl ?_; intro a hs
  obtain ⟨y1, h2, hm⟩ := bindE hm
  refine wcall is_49 hs rfl rfl (spec_mxGood_any v_p0 p0 _ (RdM.below hr_p0 hM.bel) h2) ?_; rintro a _ w hs ⟨rfl, hX⟩
  have hM : Mem W w [] := hM.call hX
  refine wl hs (y_not hs rfl) rfl ?_; intro a hs
  refine wl hs (y_move hs rfl) rfl ?_; intro a hs
  obtain ⟨b3, hb4, hm⟩ := bindE hm
  refine wlguard (N := 28) (L' := [(13, .bool b3), (0, v_p0), (1, v_p1)]) (fun w => Mem W w []) 4 ?_ ?_
  · intro K; rcases Bool.eq_false_or_eq_true (!y1) with hg5 | hg5
    · have hm := condT hg5 hb4
      refine wls hs rfl hg5 rfl ?_; intro a hs
      refine wls hs rfl hg5 rfl ?_; intro a hs
      refine wls hs rfl hg5 rfl ?_; intro a hs
      have hm : some true = some b3 := hm
      cases Option.some.inj hm
      refine wl hs (y_pickT hs rfl hg5 rfl) rfl ?_; intro a hs
      exact K _ _ (hs.sub ⟨rfl, rfl, rfl, trivial⟩) hM
    · have hm := condF hg5 hb4
      refine wlg hs rfl hg5 (y_move hs rfl) rfl ?_; intro a hs
      obtain ⟨y6, h7, hm⟩ := bindE hm
      refine wcallg is_54 hs rfl hg5 rfl rfl (spec_mxVector_any v_p1 p1 _ (RdI.below hr_p1 hM.bel) h7) ?_; rintro a _ w hs ⟨rfl, hX⟩
      have hM : Mem W w [] := hM.call hX
      refine wlg hs rfl hg5 (y_not hs rfl) rfl ?_; intro a hs
      have hm : some (!y6) = some b3 := hm
      cases Option.some.inj hm
      refine wl hs (y_pickF hs rfl hg5 rfl) rfl ?_; intro a hs
      exact K _ _ (hs.sub ⟨rfl, rfl, rfl, trivial⟩) hM
  intro a w hs hM
  simp only [List.drop_succ_cons, List.drop_zero]
  refine wl hs (y_move hs rfl) rfl ?_; intro a hs
  obtain ⟨b8, hb9, hm⟩ := bindE hm
  refine wlguard (N := 28) (L' := [(22, .bool b8), (0, v_p0), (1, v_p1)]) (fun w => Mem W w []) 8 ?_ ?_
  · intro K; rcases Bool.eq_false_or_eq_true b3 with hg10 | hg10
    · have hm := condT hg10 hb9
      refine wls hs rfl hg10 rfl ?_; intro a hs
      refine wls hs rfl hg10 rfl ?_; intro a hs
      refine wls hs rfl hg10 rfl ?_; intro a hs
      refine wls hs rfl hg10 rfl ?_; intro a hs
      refine wls hs rfl hg10 rfl ?_; intro a hs
      refine wls hs rfl hg10 rfl ?_; intro a hs
      refine wls hs rfl hg10 rfl ?_; intro a hs
      have hm : some true = some b8 := hm
      cases Option.some.inj hm
      refine wl hs (y_pickT hs rfl hg10 rfl) rfl ?_; intro a hs
      exact K _ _ (hs.sub ⟨rfl, rfl, rfl, trivial⟩) hM
    · have hm := condF hg10 hb9
      refine wlg hs rfl hg10 (y_move hs rfl) rfl ?_; intro a hs
      refine wlg hs rfl hg10 (y_len hu_I hs rfl (RdI.below hr_p1 hM.bel)) rfl ?_; intro a hs
      refine wlg hs rfl hg10 (y_move hs rfl) rfl ?_; intro a hs
      obtain ⟨x11, hx12, hm⟩ := bindE hm
      obtain ⟨u14, he13, hr15⟩ := RdM.at_ hr_p0 hx12
      replace he13 := he13.below hM.bel
      refine wlg hs rfl hg10 (y_index ht_M hs rfl rfl he13) rfl ?_; intro a hs
      refine wlg hs rfl hg10 (y_load sc_I hs rfl he13.cell) rfl ?_; intro a hs
      refine wlg hs rfl hg10 (y_len hu_I hs rfl (RdI.below hr15 hM.bel)) rfl ?_; intro a hs
      refine wlg hs rfl hg10 (y_neq hs rfl rfl) rfl ?_; intro a hs
      have hm : some ((p1.length : Int) != (x11.length : Int)) = some b8 := hm
      cases Option.some.inj hm
      refine wl hs (y_pickF hs rfl hg10 rfl) rfl ?_; intro a hs
      exact K _ _ (hs.sub ⟨rfl, rfl, rfl, trivial⟩) hM
  intro a w hs hM
  simp only [List.drop_succ_cons, List.drop_zero]
  refine wpList_nil ?_
  refine x_nt ?_
  refine x_cond hs rfl (fun hb => ?_) (fun hb => ?_)
  · replace hm := condT hb hm
    refine wp_seq ?_
    refine wp_region_lit ?_
    refine wl hs (y_assign hs rfl) rfl ?_; intro a hs
    refine wl hs (y_assign hs rfl) rfl ?_; intro a hs
    refine wpList_nil ?_
    refine x_nt ?_
    refine wp_ret ?_
    refine x_rt ?_
    have hm : some ([], false) = some r := hm
    obtain rfl := Option.some.inj hm
    refine x_ret2 rfl hs rfl rfl ⟨_, rfl, ?_⟩
    have hM := hM.nilI 3
    exact ⟨_, rfl, hM⟩
  · replace hm := condF hb hm
    refine wp_skip ?_
    refine x_nt ?_
    refine wp_seq ?_
    refine wp_region_lit ?_
    refine wl hs (y_move hs rfl) rfl ?_; intro a hs
    refine wl hs (y_move hs rfl) rfl ?_; intro a hs
    obtain ⟨y17, h18, hm⟩ := bindE hm
    refine wcall is_55 hs rfl rfl (spec_mxApply_any v_p0 p0 v_p1 p1 _ (RdM.below hr_p0 hM.bel) (RdI.below hr_p1 hM.bel) h18) ?_; rintro a _ w hs ⟨v21, rfl, hX⟩
    have hM : Mem W w [aInts 3 v21 y17.1] := hM.call hX
    refine wl hs (y_extract hs rfl rfl) rfl ?_; intro a hs
    refine wl hs (y_extract hs rfl rfl) rfl ?_; intro a hs
    refine wl hs (y_assign hs rfl) rfl ?_; intro a hs
    refine wl hs (y_assign hs rfl) rfl ?_; intro a hs
    refine wpList_nil ?_
    refine x_nt ?_
    refine wp_ret ?_
    have hm : some (y17.1, y17.2) = some r := hm
    obtain rfl := Option.some.inj hm
    refine x_ret2 rfl hs rfl rfl ⟨_, rfl, ?_⟩
    exact ⟨_, rfl, hM⟩

theorem impl_ApplyMatrix_any (v_p0 : Value) (p0 : List (List Int)) (v_p1 : Value) (p1 : List Int) (W : World) (hr_p0 : RdM W v_p0 p0) (hr_p1 : RdI W v_p1 p1) {r : (List Int) × Bool} (hm : impl_ApplyMatrix_m p0 p1 = some r) : Calls Try.prog 24 [v_p0, v_p1].toArray W fun e w => ∃ v, e = .returned v ∧ ∃ v0, v = .tuple #[v0, .bool r.2] ∧ Mem W w [aInts 3 v0 r.1] := by
  refine x_enter Try.func24 rfl Try.ntmps24 rfl ?_
  intro a hs
  have hM := Mem.start W
  unfold impl_ApplyMatrix_m at hm
  refine wp_seq ?_
  refine wp_region_lit ?_
  refine wl hs (y_assign hs rfl) rfl ?_; intro a hs
  refine wl hs (y_assign hs rfl) rfl ?_; intro a hs
  refine wpList_nil ?_
  refine x_nt ?_
  refine wp_seq ?_
  refine wp_seq ?_
  refine wp_region_lit ?_
  refine wl hs (y_move hs rfl) rfl ?_; intro a hs
  obtain ⟨y1, h2, hm⟩ := bindE hm
  refine wcall is_52 hs rfl rfl (impl_isMatrix_any v_p0 p0 _ (RdM.below hr_p0 hM.bel) h2) ?_; rintro a _ w hs ⟨rfl, hX⟩
  have hM : Mem W w [] := hM.call hX
  refine wl hs (y_not hs rfl) rfl ?_; intro a hs
  refine wl hs (y_move hs rfl) rfl ?_; intro a hs
  obtain ⟨b3, hb4, hm⟩ := bindE hm
  refine wlguard (N := 29) (L' := [(13, .bool b3), (0, v_p0), (1, v_p1)]) (fun w => Mem W w []) 4 ?_ ?_
  · intro K; rcases Bool.eq_false_or_eq_true (!y1) with hg5 | hg5
    · have hm := condT hg5 hb4
      refine wls hs rfl hg5 rfl ?_; intro a hs
      refine wls hs rfl hg5 rfl ?_; intro a hs
      refine wls hs rfl hg5 rfl ?_; intro a hs
      have hm : some true = some b3 := hm
      cases Option.some.inj hm
      refine wl hs (y_pickT hs rfl hg5 rfl) rfl ?_; intro a hs
      exact K _ _ (hs.sub ⟨rfl, rfl, rfl, trivial⟩) hM
    · have hm := condF hg5 hb4
      refine wlg hs rfl hg5 (y_move hs rfl) rfl ?_; intro a hs
      obtain ⟨y6, h7, hm⟩ := bindE hm
      refine wcallg is_56 hs rfl hg5 rfl rfl (impl_isVector_any v_p1 p1 _ (RdI.below hr_p1 hM.bel) h7) ?_; rintro a _ w hs ⟨rfl, hX⟩
      have hM : Mem W w [] := hM.call hX
      refine wlg hs rfl hg5 (y_not hs rfl) rfl ?_; intro a hs
      have hm : some (!y6) = some b3 := hm
      cases Option.some.inj hm
      refine wl hs (y_pickF hs rfl hg5 rfl) rfl ?_; intro a hs
      exact K _ _ (hs.sub ⟨rfl, rfl, rfl, trivial⟩) hM
  intro a w hs hM
  simp only [List.drop_succ_cons, List.drop_zero]
  refine wl hs (y_move hs rfl) rfl ?_; intro a hs
  obtain ⟨b8, hb9, hm⟩ := bindE hm
  refine wlguard (N := 29) (L' := [(22, .bool b8), (0, v_p0), (1, v_p1)]) (fun w => Mem W w []) 8 ?_ ?_
  · intro K; rcases Bool.eq_false_or_eq_true b3 with hg10 | hg10
    · have hm := condT hg10 hb9
      refine wls hs rfl hg10 rfl ?_; intro a hs
      refine wls hs rfl hg10 rfl ?_; intro a hs
      refine wls hs rfl hg10 rfl ?_; intro a hs
      refine wls hs rfl hg10 rfl ?_; intro a hs
      refine wls hs rfl hg10 rfl ?_; intro a hs
      refine wls hs rfl hg10 rfl ?_; intro a hs
      refine wls hs rfl hg10 rfl ?_; intro a hs
      have hm : some true = some b8 := hm
      cases Option.some.inj hm
      refine wl hs (y_pickT hs rfl hg10 rfl) rfl ?_; intro a hs
      exact K _ _ (hs.sub ⟨rfl, rfl, rfl, trivial⟩) hM
    · have hm := condF hg10 hb9
      refine wlg hs rfl hg10 (y_move hs rfl) rfl ?_; intro a hs
      obtain ⟨x11, hx12, hm⟩ := bindE hm
      obtain ⟨u14, he13, hr15⟩ := RdM.at_ hr_p0 hx12
      replace he13 := he13.below hM.bel
      refine wlg hs rfl hg10 (y_index ht_M hs rfl rfl he13) rfl ?_; intro a hs
      refine wlg hs rfl hg10 (y_load sc_I hs rfl he13.cell) rfl ?_; intro a hs
      refine wlg hs rfl hg10 (y_len hu_I hs rfl (RdI.below hr15 hM.bel)) rfl ?_; intro a hs
      refine wlg hs rfl hg10 (y_move hs rfl) rfl ?_; intro a hs
      refine wlg hs rfl hg10 (y_len hu_I hs rfl (RdI.below hr_p1 hM.bel)) rfl ?_; intro a hs
      refine wlg hs rfl hg10 (y_neq hs rfl rfl) rfl ?_; intro a hs
      have hm : some ((x11.length : Int) != (p1.length : Int)) = some b8 := hm
      cases Option.some.inj hm
      refine wl hs (y_pickF hs rfl hg10 rfl) rfl ?_; intro a hs
      exact K _ _ (hs.sub ⟨rfl, rfl, rfl, trivial⟩) hM
  intro a w hs hM
  simp only [List.drop_succ_cons, List.drop_zero]
  refine wpList_nil ?_
  refine x_nt ?_
  refine x_cond hs rfl (fun hb => ?_) (fun hb => ?_)
  · replace hm := condT hb hm
    refine wp_seq ?_
    refine wp_region_lit ?_
    refine wl hs (y_assign hs rfl) rfl ?_; intro a hs
    refine wl hs (y_assign hs rfl) rfl ?_; intro a hs
    refine wpList_nil ?_
    refine x_nt ?_
    refine wp_ret ?_
    refine x_rt ?_
    have hm : some ([], false) = some r := hm
    obtain rfl := Option.some.inj hm
    refine x_ret2 rfl hs rfl rfl ⟨_, rfl, ?_⟩
    have hM := hM.nilI 3
    exact ⟨_, rfl, hM⟩
  · replace hm := condF hb hm
    refine wp_skip ?_
    refine x_nt ?_
    refine wp_seq ?_
    refine wp_region_lit ?_
    refine wl hs (y_move hs rfl) rfl ?_; intro a hs
    refine wl hs (y_move hs rfl) rfl ?_; intro a hs
    obtain ⟨y17, h18, hm⟩ := bindE hm
    refine wcall is_58 hs rfl rfl (impl_applied_any v_p0 p0 v_p1 p1 _ (RdM.below hr_p0 hM.bel) (RdI.below hr_p1 hM.bel) h18) ?_; rintro a v19 w hs hX
    have hM : Mem W w [aInts 3 v19 y17] := hM.call hX
    obtain ⟨y21, h22, hm⟩ := bindE hm
    refine wcall is_57 hs rfl rfl (impl_toldList_any v19 y17 _ (hM.rdI 0 rfl) h22) ?_; rintro a _ w hs ⟨rfl, hX⟩
    have hM : Mem W w [aInts 3 v19 y17] := hM.call hX
    have hM : Mem W w [aInts 3 (cond y21.1 v19 (.slice none 0 0)) (cond y21.1 y17 [])] := (hM).condI y21.1
    refine wl hs (y_extract hs rfl rfl) rfl ?_; intro a hs
    refine wl hs (y_extract hs rfl rfl) rfl ?_; intro a hs
    refine wl hs (y_assign hs rfl) rfl ?_; intro a hs
    refine wl hs (y_assign hs rfl) rfl ?_; intro a hs
    refine wpList_nil ?_
    refine x_nt ?_
    refine wp_ret ?_
    have hm : some ((cond y21.1 y17 []), y21.2) = some r := hm
    obtain rfl := Option.some.inj hm
    refine x_ret2 rfl hs rfl rfl ⟨_, rfl, ?_⟩
    exact ⟨_, rfl, hM⟩

theorem spec_ShiftMatrix_any (v_p0 : Value) (p0 : List (List Int)) (p1 : Int) (W : World) (hr_p0 : RdM W v_p0 p0) {r : (List (List Int)) × Bool} (hm : spec_ShiftMatrix_m p0 p1 = some r) : Calls Try.prog 28 [v_p0, .int .i64 p1].toArray W fun e w => ∃ v, e = .returned v ∧ ∃ v0, ∃ vs0, v = .tuple #[v0, .bool r.2] ∧ Mem W w [aMat 28 3 v0 vs0 r.1] := by
  refine x_enter Try.func28 rfl Try.ntmps28 rfl ?_
  intro a hs
  have hM := Mem.start W
  unfold spec_ShiftMatrix_m at hm
  refine wp_seq ?_
  refine wp_region_lit ?_
  refine wl hs (y_assign hs rfl) rfl ?_; intro a hs
  refine wl hs (y_assign hs rfl) rfl ?_; intro a hs
  refine wpList_nil ?_
  refine x_nt ?_
  refine wp_seq ?_
  refine wp_seq ?_
  refine wp_region_lit ?_
  refine wl hs (y_move hs rfl) rfl ?_; intro a hs
  obtain ⟨y1, h2, hm⟩ := bindE hm
  refine wcall is_49 hs rfl rfl (spec_mxGood_any v_p0 p0 _ (RdM.below hr_p0 hM.bel) h2) ?_; rintro a _ w hs ⟨rfl, hX⟩
  have hM : Mem W w [] := hM.call hX
  refine wl hs (y_not hs rfl) rfl ?_; intro a hs
  refine wl hs (y_move hs rfl) rfl ?_; intro a hs
  obtain ⟨b3, hb4, hm⟩ := bindE hm
  refine wlguard (N := 59) (L' := [(20, .bool b3), (0, v_p0), (1, .int .i64 p1)]) (fun w => Mem W w []) 4 ?_ ?_
  · intro K; rcases Bool.eq_false_or_eq_true (!y1) with hg5 | hg5
    · have hm := condT hg5 hb4
      refine wls hs rfl hg5 rfl ?_; intro a hs
      refine wls hs rfl hg5 rfl ?_; intro a hs
      refine wls hs rfl hg5 rfl ?_; intro a hs
      have hm : some true = some b3 := hm
      cases Option.some.inj hm
      refine wl hs (y_pickT hs rfl hg5 rfl) rfl ?_; intro a hs
      exact K _ _ (hs.sub ⟨rfl, rfl, rfl, trivial⟩) hM
    · have hm := condF hg5 hb4
      refine wlg hs rfl hg5 (y_move hs rfl) rfl ?_; intro a hs
      obtain ⟨y6, h7, hm⟩ := bindE hm
      refine wcallg is_59 hs rfl hg5 rfl rfl (spec_nuGood_any p1 _  h7) ?_; rintro a _ w hs ⟨rfl, hX⟩
      have hM : Mem W w [] := hM.call hX
      refine wlg hs rfl hg5 (y_not hs rfl) rfl ?_; intro a hs
      have hm : some (!y6) = some b3 := hm
      cases Option.some.inj hm
      refine wl hs (y_pickF hs rfl hg5 rfl) rfl ?_; intro a hs
      exact K _ _ (hs.sub ⟨rfl, rfl, rfl, trivial⟩) hM
  intro a w hs hM
  simp only [List.drop_succ_cons, List.drop_zero]
  refine wl hs (y_move hs rfl) rfl ?_; intro a hs
  obtain ⟨b8, hb9, hm⟩ := bindE hm
  refine wlguard (N := 59) (L' := [(24, .bool b8), (0, v_p0), (1, .int .i64 p1)]) (fun w => Mem W w []) 3 ?_ ?_
  · intro K; rcases Bool.eq_false_or_eq_true b3 with hg10 | hg10
    · have hm := condT hg10 hb9
      refine wls hs rfl hg10 rfl ?_; intro a hs
      refine wls hs rfl hg10 rfl ?_; intro a hs
      have hm : some true = some b8 := hm
      cases Option.some.inj hm
      refine wl hs (y_pickT hs rfl hg10 rfl) rfl ?_; intro a hs
      exact K _ _ (hs.sub ⟨rfl, rfl, rfl, trivial⟩) hM
    · have hm := condF hg10 hb9
      refine wlg hs rfl hg10 (y_move hs rfl) rfl ?_; intro a hs
      refine wlg hs rfl hg10 (y_eql hs rfl rfl) rfl ?_; intro a hs
      have hm : some (p1 == 1000000000) = some b8 := hm
      cases Option.some.inj hm
      refine wl hs (y_pickF hs rfl hg10 rfl) rfl ?_; intro a hs
      exact K _ _ (hs.sub ⟨rfl, rfl, rfl, trivial⟩) hM
  intro a w hs hM
  simp only [List.drop_succ_cons, List.drop_zero]
  refine wpList_nil ?_
  refine x_nt ?_
  refine x_cond hs rfl (fun hb => ?_) (fun hb => ?_)
  · replace hm := condT hb hm
    refine wp_seq ?_
    refine wp_region_lit ?_
    refine wl hs (y_assign hs rfl) rfl ?_; intro a hs
    refine wl hs (y_assign hs rfl) rfl ?_; intro a hs
    refine wpList_nil ?_
    refine x_nt ?_
    refine wp_ret ?_
    refine x_rt ?_
    have hm : some ([], false) = some r := hm
    obtain rfl := Option.some.inj hm
    refine x_ret2 rfl hs rfl rfl ⟨_, rfl, ?_⟩
    have hM := hM.nilM 28 3
    exact ⟨_, _, rfl, hM⟩
  · replace hm := condF hb hm
    refine wp_skip ?_
    refine x_nt ?_
    refine wp_seq ?_
    refine wp_region_lit ?_
    refine wl hs (y_move hs rfl) rfl ?_; intro a hs
    obtain ⟨y12, h13, hm⟩ := bindE hm
    refine wcall is_50 hs rfl rfl (spec_mxOwn_any v_p0 p0 _ (RdM.below hr_p0 hM.bel) h13) ?_; rintro a v14 w hs ⟨vs16, hX⟩
    have hM : Mem W w [aMat 28 3 v14 vs16 y12] := hM.call hX
    refine wl hs (y_assign hs rfl) rfl ?_; intro a hs
    refine wpList_nil ?_
    refine x_nt ?_
    refine wp_seq ?_
    refine wp_seq ?_
    refine wp_region_lit ?_
    refine wl hs (y_move hs rfl) rfl ?_; intro a hs
    refine wl hs (y_len hu_M hs rfl (RdM.below hr_p0 hM.bel)) rfl ?_; intro a hs
    refine wl hs (y_move hs rfl) rfl ?_; intro a hs
    refine wpList_nil ?_
    refine x_nt ?_
    obtain ⟨s20, hm, hk21⟩ := bindE hm
    refine x_mid (fun a w => ∃ (l19 : List (List Int)), Sum.inr l19 = s20 ∧ Fr a 59 [(6, v14)] ∧ Mem W w [aMat 28 3 v14 vs16 l19]) ?_ ?_
    · refine wp_block ?_
      refine x_loop (fun k a w => ∃ (q22 : List (List Int)) (j18 : Nat) (l17 : List (List Int)) , k = q22.length ∧ Fr a 59 [(1, .int .i64 p1), (6, v14), (27, v_p0), (28, .int .i64 (p0.length : Int)), (29, .int .i64 (j18 : Int))] ∧ Mem W w [aMat 28 3 v14 vs16 l17] ∧ spec_ShiftMatrix_l1 p1 q22 j18 l17 = some s20 ∧ List.drop j18 p0 = q22) _ ⟨p0, 0, y12, rfl, hs.sub ⟨rfl, rfl, rfl, rfl, rfl, trivial⟩, hM, hm, rfl⟩ ?_
      rintro k a w ⟨q22, j18, l17, rfl, hs, hM, hm, hj⟩
      rcases q22 with _ | ⟨x23, q22⟩
      · rewrite [spec_ShiftMatrix_l1] at hm
        refine wp_seq ?_
        refine wp_region_lit ?_
        refine wl hs (y_lss hs rfl rfl) rfl ?_; intro a hs
        refine wpList_nil ?_
        refine x_nt ?_
        refine wp_seq ?_
        refine x_condF hs rfl (drop_f hj) ?_
        refine wp_exit ?_
        refine x_et ?_
        refine x_et ?_
        refine x_eb ?_
        have hm : some (Sum.inr l17) = some s20 := hm
        exact ⟨l17, Option.some.inj hm, hs.sub ⟨rfl, trivial⟩, hM⟩
      · rewrite [spec_ShiftMatrix_l1] at hm
        have hx24 := drop_idx hj
        have hjs := ck_succ hj (RdS.len (RdM.below hr_p0 hM.bel))
        refine wp_seq ?_
        refine wp_region_lit ?_
        refine wl hs (y_lss hs rfl rfl) rfl ?_; intro a hs
        refine wpList_nil ?_
        refine x_nt ?_
        refine wp_seq ?_
        refine x_condT hs rfl (drop_t hj) ?_
        refine wp_skip ?_
        refine x_nt ?_
        refine wp_seq ?_
        refine wp_block ?_
        refine wp_seq ?_
        refine wp_region_lit ?_
        refine wl hs (y_move hs rfl) rfl ?_; intro a hs
        obtain ⟨u26, he25, hr27⟩ := RdM.at_ hr_p0 hx24
        replace he25 := he25.below hM.bel
        refine wl hs (y_index ht_M hs rfl rfl he25) rfl ?_; intro a hs
        refine wl hs (y_load sc_I hs rfl he25.cell) rfl ?_; intro a hs
        refine wl hs (y_assign hs rfl) rfl ?_; intro a hs
        refine wl hs (y_assign hs rfl) rfl ?_; intro a hs
        refine wpList_nil ?_
        refine x_nt ?_
        refine wp_seq ?_
        refine wp_region_lit ?_
        refine wl hs (y_move hs rfl) rfl ?_; intro a hs
        refine wl hs (y_len hu_I hs rfl (RdI.below hr27 hM.bel)) rfl ?_; intro a hs
        refine wl hs (y_move hs rfl) rfl ?_; intro a hs
        refine wpList_nil ?_
        refine x_nt ?_
        obtain ⟨s31, hm, hk32⟩ := bindE hm
        refine x_mid (fun a w => ∃ (l30 : List (List Int)), Sum.inr l30 = s31 ∧ Fr a 59 [(1, .int .i64 p1), (6, v14), (27, v_p0), (28, .int .i64 (p0.length : Int)), (29, .int .i64 (j18 : Int))] ∧ Mem W w [aMat 28 3 v14 vs16 l30]) ?_ ?_
        · refine wp_block ?_
          refine x_loop (fun k a w => ∃ (q33 : List Int) (j29 : Nat) (l28 : List (List Int)) , k = q33.length ∧ Fr a 59 [(1, .int .i64 p1), (6, v14), (7, .int .i64 (j18 : Int)), (27, v_p0), (28, .int .i64 (p0.length : Int)), (29, .int .i64 (j18 : Int)), (34, u26), (35, .int .i64 (x23.length : Int)), (36, .int .i64 (j29 : Int))] ∧ Mem W w [aMat 28 3 v14 vs16 l28] ∧ spec_ShiftMatrix_l2 p1 j18 q33 j29 l28 = some s31 ∧ List.drop j29 x23 = q33) _ ⟨x23, 0, l17, rfl, hs.sub ⟨rfl, rfl, rfl, rfl, rfl, rfl, rfl, rfl, rfl, trivial⟩, hM, hm, rfl⟩ ?_
          rintro k a w ⟨q33, j29, l28, rfl, hs, hM, hm, hj⟩
          rcases q33 with _ | ⟨x34, q33⟩
          · rewrite [spec_ShiftMatrix_l2] at hm
            refine wp_seq ?_
            refine wp_region_lit ?_
            refine wl hs (y_lss hs rfl rfl) rfl ?_; intro a hs
            refine wpList_nil ?_
            refine x_nt ?_
            refine wp_seq ?_
            refine x_condF hs rfl (drop_f hj) ?_
            refine wp_exit ?_
            refine x_et ?_
            refine x_et ?_
            refine x_eb ?_
            have hm : some (Sum.inr l28) = some s31 := hm
            exact ⟨l28, Option.some.inj hm, hs.sub ⟨rfl, rfl, rfl, rfl, rfl, trivial⟩, hM⟩
          · rewrite [spec_ShiftMatrix_l2] at hm
            have hx35 := drop_idx hj
            have hjs := ck_succ hj (RdS.len (RdI.below hr27 hM.bel))
            refine wp_seq ?_
            refine wp_region_lit ?_
            refine wl hs (y_lss hs rfl rfl) rfl ?_; intro a hs
            refine wpList_nil ?_
            refine x_nt ?_
            refine wp_seq ?_
            refine x_condT hs rfl (drop_t hj) ?_
            refine wp_skip ?_
            refine x_nt ?_
            refine wp_seq ?_
            refine wp_block ?_
            refine wp_seq ?_
            refine wp_region_lit ?_
            refine wl hs (y_move hs rfl) rfl ?_; intro a hs
            have he36 := RdI.at_ (RdI.below hr27 hM.bel) hx35
            refine wl hs (y_index ht_I hs rfl rfl he36) rfl ?_; intro a hs
            refine wl hs (y_load sc_int hs rfl he36.cell) rfl ?_; intro a hs
            refine wl hs (y_assign hs rfl) rfl ?_; intro a hs
            refine wl hs (y_assign hs rfl) rfl ?_; intro a hs
            refine wpList_nil ?_
            refine x_nt ?_
            refine wp_seq ?_
            refine wp_region_lit ?_
            refine wl hs (y_move hs rfl) rfl ?_; intro a hs
            refine wl hs (y_move hs rfl) rfl ?_; intro a hs
            obtain ⟨y37, h38, hm⟩ := bindE hm
            refine wcall is_60 hs rfl rfl (spec_nuMul_any x34 p1 _  h38) ?_; rintro a _ w hs ⟨rfl, hX⟩
            have hM : Mem W w [aMat 28 3 v14 vs16 l28] := hM.call hX
            refine wl hs (y_move hs rfl) rfl ?_; intro a hs
            refine wl hs (y_extract hs rfl rfl) rfl ?_; intro a hs
            refine wl hs (y_extract hs rfl rfl) rfl ?_; intro a hs
            refine wl hs (y_assign hs rfl) rfl ?_; intro a hs
            refine wl hs (y_assign hs rfl) rfl ?_; intro a hs
            refine wpList_nil ?_
            refine x_nt ?_
            refine wp_seq ?_
            refine wp_seq ?_
            refine wp_region_lit ?_
            refine wl hs (y_move hs rfl) rfl ?_; intro a hs
            refine wl hs (y_not hs rfl) rfl ?_; intro a hs
            refine wpList_nil ?_
            refine x_nt ?_
            refine x_cond hs rfl (fun hb => ?_) (fun hb => ?_)
            · replace hm := condT hb hm
              refine wp_seq ?_
              refine wp_region_lit ?_
              refine wl hs (y_assign hs rfl) rfl ?_; intro a hs
              refine wl hs (y_assign hs rfl) rfl ?_; intro a hs
              refine wpList_nil ?_
              refine x_nt ?_
              refine wp_ret ?_
              refine x_rt ?_
              refine x_rb ?_
              refine x_rt ?_
              refine x_rt ?_
              refine x_rb ?_
              refine x_rt ?_
              refine x_rb ?_
              refine x_rt ?_
              refine x_rt ?_
              refine x_rb ?_
              refine x_rt ?_
              refine x_rt ?_
              have hm : some (Sum.inl ([], false)) = some s31 := hm
              cases Option.some.inj hm
              have hm := hk32
              have hm : some (Sum.inl ([], false)) = some s20 := hm
              cases Option.some.inj hm
              have hm := hk21
              have hm : some ([], false) = some r := hm
              obtain rfl := Option.some.inj hm
              refine x_ret2 rfl hs rfl rfl ⟨_, rfl, ?_⟩
              have hM := hM.nilM 28 3
              exact ⟨_, _, rfl, (hM.keep_ 1)⟩
            · replace hm := condF hb hm
              refine wp_skip ?_
              refine x_nt ?_
              refine wp_region_lit ?_
              refine wl hs (y_move hs rfl) rfl ?_; intro a hs
              refine wl hs (y_move hs rfl) rfl ?_; intro a hs
              obtain ⟨x40, hx41, hm⟩ := bindE hm
              obtain ⟨u43, hv44, he42⟩ := hM.atM 0 rfl hx41
              refine wl hs (y_index ht_M hs rfl rfl he42) rfl ?_; intro a hs
              refine wl hs (y_load sc_I hs rfl he42.cell) rfl ?_; intro a hs
              refine wl hs (y_move hs rfl) rfl ?_; intro a hs
              refine wl hs (y_move hs rfl) rfl ?_; intro a hs
              obtain ⟨x45, hx46, hm⟩ := bindE hm
              have he47 := RdI.at_ (hM.rdRow 0 rfl rfl hv44 (idx_spec hx41).2.2) hx46
              refine wl hs (y_index ht_I hs rfl rfl he47) rfl ?_; intro a hs
              obtain ⟨l48, h49, hm⟩ := bindE hm
              refine wstore hs rfl rfl (x_storeM he_int (hM.front 0 rfl) hv44 ((idx_spec hx41).2.2) h49) ?_; intro w hM
              have hM : Mem W w [aMat 28 3 v14 vs16 (l28.set ((j18 : Int)).toNat l48)] := hM
              refine wpList_nil ?_
              refine x_nb ?_
              refine x_nt ?_
              refine wp_region_lit ?_
              refine wl hs (y_add hs rfl rfl hjs) rfl ?_; intro a hs
              refine wl hs (y_move hs rfl) rfl ?_; intro a hs
              refine wpList_nil ?_
              exact ⟨_, by simp, q33, j29 + 1, (l28.set ((j18 : Int)).toNat l48), rfl, hs.sub ⟨rfl, rfl, rfl, rfl, rfl, rfl, rfl, rfl, rfl, trivial⟩, hM, hm, drop_next hj⟩
        rintro a w ⟨l30, rfl, hs, hM⟩
        have hm := hk32
        refine x_nb ?_
        refine x_nt ?_
        refine wp_region_lit ?_
        refine wl hs (y_add hs rfl rfl hjs) rfl ?_; intro a hs
        refine wl hs (y_move hs rfl) rfl ?_; intro a hs
        refine wpList_nil ?_
        exact ⟨_, by simp, q22, j18 + 1, l30, rfl, hs.sub ⟨rfl, rfl, rfl, rfl, rfl, trivial⟩, hM, hm, drop_next hj⟩
    rintro a w ⟨l19, rfl, hs, hM⟩
    have hm := hk21
    refine x_nt ?_
    refine wp_seq ?_
    refine wp_region_lit ?_
    refine wl hs (y_move hs rfl) rfl ?_; intro a hs
    refine wl hs (y_assign hs rfl) rfl ?_; intro a hs
    refine wl hs (y_assign hs rfl) rfl ?_; intro a hs
    refine wpList_nil ?_
    refine x_nt ?_
    refine wp_ret ?_
    have hm : some (l19, true) = some r := hm
    obtain rfl := Option.some.inj hm
    refine x_ret2 rfl hs rfl rfl ⟨_, rfl, ?_⟩
    exact ⟨_, _, rfl, hM⟩

theorem impl_ShiftMatrix_any (v_p0 : Value) (p0 : List (List Int)) (p1 : Int) (W : World) (hr_p0 : RdM W v_p0 p0) {r : (List (List Int)) × Bool} (hm : impl_ShiftMatrix_m p0 p1 = some r) : Calls Try.prog 29 [v_p0, .int .i64 p1].toArray W fun e w => ∃ v, e = .returned v ∧ ∃ v0, ∃ vs0, v = .tuple #[v0, .bool r.2] ∧ Mem W w [aMat 28 3 v0 vs0 r.1] := by
  refine x_enter Try.func29 rfl Try.ntmps29 rfl ?_
  intro a hs
  have hM := Mem.start W
  unfold impl_ShiftMatrix_m at hm
  refine wp_seq ?_
  refine wp_region_lit ?_
  refine wl hs (y_assign hs rfl) rfl ?_; intro a hs
  refine wl hs (y_assign hs rfl) rfl ?_; intro a hs
  refine wpList_nil ?_
  refine x_nt ?_
  refine wp_seq ?_
  refine wp_seq ?_
  refine wp_region_lit ?_
  refine wl hs (y_move hs rfl) rfl ?_; intro a hs
  obtain ⟨y1, h2, hm⟩ := bindE hm
  refine wcall is_52 hs rfl rfl (impl_isMatrix_any v_p0 p0 _ (RdM.below hr_p0 hM.bel) h2) ?_; rintro a _ w hs ⟨rfl, hX⟩
  have hM : Mem W w [] := hM.call hX
  refine wl hs (y_not hs rfl) rfl ?_; intro a hs
  refine wl hs (y_move hs rfl) rfl ?_; intro a hs
  obtain ⟨b3, hb4, hm⟩ := bindE hm
  refine wlguard (N := 35) (L' := [(16, .bool b3), (0, v_p0), (1, .int .i64 p1)]) (fun w => Mem W w []) 4 ?_ ?_
  · intro K; rcases Bool.eq_false_or_eq_true (!y1) with hg5 | hg5
    · have hm := condT hg5 hb4
      refine wls hs rfl hg5 rfl ?_; intro a hs
      refine wls hs rfl hg5 rfl ?_; intro a hs
      refine wls hs rfl hg5 rfl ?_; intro a hs
      have hm : some true = some b3 := hm
      cases Option.some.inj hm
      refine wl hs (y_pickT hs rfl hg5 rfl) rfl ?_; intro a hs
      exact K _ _ (hs.sub ⟨rfl, rfl, rfl, trivial⟩) hM
    · have hm := condF hg5 hb4
      refine wlg hs rfl hg5 (y_move hs rfl) rfl ?_; intro a hs
      obtain ⟨y6, h7, hm⟩ := bindE hm
      refine wcallg is_61 hs rfl hg5 rfl rfl (impl_isFinite_any p1 _  h7) ?_; rintro a _ w hs ⟨rfl, hX⟩
      have hM : Mem W w [] := hM.call hX
      refine wlg hs rfl hg5 (y_not hs rfl) rfl ?_; intro a hs
      have hm : some (!y6) = some b3 := hm
      cases Option.some.inj hm
      refine wl hs (y_pickF hs rfl hg5 rfl) rfl ?_; intro a hs
      exact K _ _ (hs.sub ⟨rfl, rfl, rfl, trivial⟩) hM
  intro a w hs hM
  simp only [List.drop_succ_cons, List.drop_zero]
  refine wpList_nil ?_
  refine x_nt ?_
  refine x_cond hs rfl (fun hb => ?_) (fun hb => ?_)
  · replace hm := condT hb hm
    refine wp_seq ?_
    refine wp_region_lit ?_
    refine wl hs (y_assign hs rfl) rfl ?_; intro a hs
    refine wl hs (y_assign hs rfl) rfl ?_; intro a hs
    refine wpList_nil ?_
    refine x_nt ?_
    refine wp_ret ?_
    refine x_rt ?_
    have hm : some ([], false) = some r := hm
    obtain rfl := Option.some.inj hm
    refine x_ret2 rfl hs rfl rfl ⟨_, rfl, ?_⟩
    have hM := hM.nilM 28 3
    exact ⟨_, _, rfl, hM⟩
  · replace hm := condF hb hm
    refine wp_skip ?_
    refine x_nt ?_
    refine wp_seq ?_
    refine wp_region_lit ?_
    refine wmem hs (x_new0M (ti := 3) ht_M hM) rfl ?_; intro a v10 w hs hM
    have hM : Mem W w [aMat 28 3 v10 ([]) ([])] := hM
    refine wl hs (y_assign hs rfl) rfl ?_; intro a hs
    refine wpList_nil ?_
    refine x_nt ?_
    refine wp_seq ?_
    refine wp_seq ?_
    refine wp_region_lit ?_
    refine wl hs (y_move hs rfl) rfl ?_; intro a hs
    refine wl hs (y_len hu_M hs rfl (RdM.below hr_p0 hM.bel)) rfl ?_; intro a hs
    refine wl hs (y_move hs rfl) rfl ?_; intro a hs
    refine wpList_nil ?_
    refine x_nt ?_
    obtain ⟨s18, hm, hk19⟩ := bindE hm
    refine x_mid (fun a w => ∃ (v15 : Value), ∃ (vs16 : List Value), ∃ (l17 : List (List Int)), l17 = s18 ∧ Fr a 35 [(6, v15)] ∧ Mem W w [aMat 28 3 v15 vs16 l17]) ?_ ?_
    · refine wp_block ?_
      refine x_loop (fun k a w => ∃ (q20 : List (List Int)) (j14 : Nat) (v11 : Value) (vs12 : List Value) (l13 : List (List Int)) , k = q20.length ∧ Fr a 35 [(1, .int .i64 p1), (6, v11), (18, v_p0), (19, .int .i64 (p0.length : Int)), (20, .int .i64 (j14 : Int))] ∧ Mem W w [aMat 28 3 v11 vs12 l13] ∧ impl_ShiftMatrix_l1 p1 q20 j14 l13 = some s18 ∧ List.drop j14 p0 = q20) _ ⟨p0, 0, v10, [], [], rfl, hs.sub ⟨rfl, rfl, rfl, rfl, rfl, trivial⟩, hM, hm, rfl⟩ ?_
      rintro k a w ⟨q20, j14, v11, vs12, l13, rfl, hs, hM, hm, hj⟩
      rcases q20 with _ | ⟨x21, q20⟩
      · rewrite [impl_ShiftMatrix_l1] at hm
        refine wp_seq ?_
        refine wp_region_lit ?_
        refine wl hs (y_lss hs rfl rfl) rfl ?_; intro a hs
        refine wpList_nil ?_
        refine x_nt ?_
        refine wp_seq ?_
        refine x_condF hs rfl (drop_f hj) ?_
        refine wp_exit ?_
        refine x_et ?_
        refine x_et ?_
        refine x_eb ?_
        have hm : some l13 = some s18 := hm
        exact ⟨v11, vs12, l13, Option.some.inj hm, hs.sub ⟨rfl, trivial⟩, hM⟩
      · rewrite [impl_ShiftMatrix_l1] at hm
        have hx22 := drop_idx hj
        have hjs := ck_succ hj (RdS.len (RdM.below hr_p0 hM.bel))
        refine wp_seq ?_
        refine wp_region_lit ?_
        refine wl hs (y_lss hs rfl rfl) rfl ?_; intro a hs
        refine wpList_nil ?_
        refine x_nt ?_
        refine wp_seq ?_
        refine x_condT hs rfl (drop_t hj) ?_
        refine wp_skip ?_
        refine x_nt ?_
        refine wp_seq ?_
        refine wp_block ?_
        refine wp_seq ?_
        refine wp_region_lit ?_
        obtain ⟨u24, he23, hr25⟩ := RdM.at_ hr_p0 hx22
        replace he23 := he23.below hM.bel
        refine wl hs (y_index ht_M hs rfl rfl he23) rfl ?_; intro a hs
        refine wl hs (y_load sc_I hs rfl he23.cell) rfl ?_; intro a hs
        refine wl hs (y_assign hs rfl) rfl ?_; intro a hs
        refine wpList_nil ?_
        refine x_nt ?_
        refine wp_region_lit ?_
        refine wl hs (y_move hs rfl) rfl ?_; intro a hs
        refine wl hs (y_move hs rfl) rfl ?_; intro a hs
        refine wl hs (y_move hs rfl) rfl ?_; intro a hs
        obtain ⟨y26, h27, hm⟩ := bindE hm
        refine wcall is_62 hs rfl rfl (impl_shifted_any u24 x21 p1 _ (RdI.below hr25 hM.bel) h27) ?_; rintro a v28 w hs hX
        have hM : Mem W w [aInts 3 v28 y26, aMat 28 3 v11 vs12 l13] := hM.call hX
        obtain ⟨l30, h31, hm⟩ := bindE hm
        refine wappM hu_M he_I hs (hM.front 1 rfl) rfl rfl h31 rfl rfl rfl ?_; intro a v32 w u33 hs hM
        have hM : Mem W w [aMat 28 3 v32 (vs12 ++ [v28]) l30] := hM
        refine wl hs (y_assign hs rfl) rfl ?_; intro a hs
        refine wpList_nil ?_
        refine x_nb ?_
        refine x_nt ?_
        refine wp_region_lit ?_
        refine wl hs (y_add hs rfl rfl hjs) rfl ?_; intro a hs
        refine wl hs (y_move hs rfl) rfl ?_; intro a hs
        refine wpList_nil ?_
        exact ⟨_, by simp, q20, j14 + 1, v32, (vs12 ++ [v28]), l30, rfl, hs.sub ⟨rfl, rfl, rfl, rfl, rfl, trivial⟩, hM, hm, drop_next hj⟩
    rintro a w ⟨v15, vs16, l17, rfl, hs, hM⟩
    have hm := hk19
    refine x_nt ?_
    refine wp_seq ?_
    refine wp_region_lit ?_
    refine wl hs (y_move hs rfl) rfl ?_; intro a hs
    obtain ⟨y34, h35, hm⟩ := bindE hm
    refine wcall is_63 hs rfl rfl (impl_toldMatrix_any v15 l17 _ (hM.rdM 0 rfl) h35) ?_; rintro a _ w hs ⟨rfl, hX⟩
    have hM : Mem W w [aMat 28 3 v15 vs16 l17] := hM.call hX
    have hM : Mem W w [aMat 28 3 (cond y34.1 v15 (.slice none 0 0)) (cond y34.1 vs16 []) (cond y34.1 l17 [])] := (hM).condM y34.1
    refine wl hs (y_extract hs rfl rfl) rfl ?_; intro a hs
    refine wl hs (y_extract hs rfl rfl) rfl ?_; intro a hs
    refine wl hs (y_assign hs rfl) rfl ?_; intro a hs
    refine wl hs (y_assign hs rfl) rfl ?_; intro a hs
    refine wpList_nil ?_
    refine x_nt ?_
    refine wp_ret ?_
    have hm : some ((cond y34.1 l17 []), y34.2) = some r := hm
    obtain rfl := Option.some.inj hm
    refine x_ret2 rfl hs rfl rfl ⟨_, rfl, ?_⟩
    exact ⟨_, _, rfl, hM⟩

theorem spec_mxMul_any (v_p0 : Value) (p0 : List (List Int)) (v_p1 : Value) (p1 : List (List Int)) (W : World) (hr_p0 : RdM W v_p0 p0) (hr_p1 : RdM W v_p1 p1) {r : (List (List Int)) × Bool} (hm : spec_mxMul_m p0 p1 = some r) : Calls Try.prog 69 [v_p0, v_p1].toArray W fun e w => ∃ v, e = .returned v ∧ ∃ v0, ∃ vs0, v = .tuple #[v0, .bool r.2] ∧ Mem W w [aMat 28 3 v0 vs0 r.1] := by
  refine x_enter Try.func69 rfl Try.ntmps69 rfl ?_
  intro a hs
  have hM := Mem.start W
  unfold spec_mxMul_m at hm
  refine wp_seq ?_
  refine wp_region_lit ?_
  refine wl hs (y_assign hs rfl) rfl ?_; intro a hs
  refine wl hs (y_assign hs rfl) rfl ?_; intro a hs
  refine wpList_nil ?_
  refine x_nt ?_
  refine wp_seq ?_
  refine wp_region_lit ?_
  refine wl hs (y_assign hs rfl) rfl ?_; intro a hs
  have hM := hM.nilM 28 3
  refine wpList_nil ?_
  refine x_nt ?_
  refine wp_seq ?_
  refine wp_seq ?_
  refine wp_region_lit ?_
  refine wl hs (y_move hs rfl) rfl ?_; intro a hs
  refine wl hs (y_len hu_M hs rfl (RdM.below hr_p0 hM.bel)) rfl ?_; intro a hs
  refine wl hs (y_move hs rfl) rfl ?_; intro a hs
  refine wpList_nil ?_
  refine x_nt ?_
  obtain ⟨s9, hm, hk10⟩ := bindE hm
  refine x_mid (fun a w => ∃ (v6 : Value), ∃ (vs7 : List Value), ∃ (l8 : List (List Int)), Sum.inr l8 = s9 ∧ Fr a 60 [(6, v6)] ∧ Mem W w [aMat 28 3 v6 vs7 l8]) ?_ ?_
  · refine wp_block ?_
    refine x_loop (fun k a w => ∃ (q11 : List (List Int)) (j5 : Nat) (v2 : Value) (vs3 : List Value) (l4 : List (List Int)) , k = q11.length ∧ Fr a 60 [(1, v_p1), (6, v2), (14, v_p0), (15, .int .i64 (p0.length : Int)), (16, .int .i64 (j5 : Int))] ∧ Mem W w [aMat 28 3 v2 vs3 l4] ∧ spec_mxMul_l1 p1 q11 j5 l4 = some s9 ∧ List.drop j5 p0 = q11) _ ⟨p0, 0, (.slice none 0 0), [], [], rfl, hs.sub ⟨rfl, rfl, rfl, rfl, rfl, trivial⟩, hM, hm, rfl⟩ ?_
    rintro k a w ⟨q11, j5, v2, vs3, l4, rfl, hs, hM, hm, hj⟩
    rcases q11 with _ | ⟨x12, q11⟩
    · rewrite [spec_mxMul_l1] at hm
      refine wp_seq ?_
      refine wp_region_lit ?_
      refine wl hs (y_lss hs rfl rfl) rfl ?_; intro a hs
      refine wpList_nil ?_
      refine x_nt ?_
      refine wp_seq ?_
      refine x_condF hs rfl (drop_f hj) ?_
      refine wp_exit ?_
      refine x_et ?_
      refine x_et ?_
      refine x_eb ?_
      have hm : some (Sum.inr l4) = some s9 := hm
      exact ⟨v2, vs3, l4, Option.some.inj hm, hs.sub ⟨rfl, trivial⟩, hM⟩
    · rewrite [spec_mxMul_l1] at hm
      have hx13 := drop_idx hj
      have hjs := ck_succ hj (RdS.len (RdM.below hr_p0 hM.bel))
      refine wp_seq ?_
      refine wp_region_lit ?_
      refine wl hs (y_lss hs rfl rfl) rfl ?_; intro a hs
      refine wpList_nil ?_
      refine x_nt ?_
      refine wp_seq ?_
      refine x_condT hs rfl (drop_t hj) ?_
      refine wp_skip ?_
      refine x_nt ?_
      refine wp_seq ?_
      refine wp_block ?_
      refine wp_seq ?_
      refine wp_region_lit ?_
      obtain ⟨u15, he14, hr16⟩ := RdM.at_ hr_p0 hx13
      replace he14 := he14.below hM.bel
      refine wl hs (y_index ht_M hs rfl rfl he14) rfl ?_; intro a hs
      refine wl hs (y_load sc_I hs rfl he14.cell) rfl ?_; intro a hs
      refine wl hs (y_assign hs rfl) rfl ?_; intro a hs
      refine wpList_nil ?_
      refine x_nt ?_
      refine wp_seq ?_
      refine wp_region_lit ?_
      refine wl hs (y_assign hs rfl) rfl ?_; intro a hs
      have hM := hM.nilI 3
      refine wpList_nil ?_
      refine x_nt ?_
      refine wp_seq ?_
      refine wp_seq ?_
      refine wp_region_lit ?_
      refine wl hs (y_move hs rfl) rfl ?_; intro a hs
      obtain ⟨x18, hx19, hm⟩ := bindE hm
      obtain ⟨u21, he20, hr22⟩ := RdM.at_ hr_p1 hx19
      replace he20 := he20.below hM.bel
      refine wl hs (y_index ht_M hs rfl rfl he20) rfl ?_; intro a hs
      refine wl hs (y_load sc_I hs rfl he20.cell) rfl ?_; intro a hs
      refine wl hs (y_len hu_I hs rfl (RdI.below hr22 hM.bel)) rfl ?_; intro a hs
      refine wl hs (y_move hs rfl) rfl ?_; intro a hs
      refine wpList_nil ?_
      refine x_nt ?_
      obtain ⟨s28, hm, hk29⟩ := bindE hm
      refine x_mid (fun a w => ∃ (v26 : Value), ∃ (l27 : List Int), Sum.inr l27 = s28 ∧ Fr a 60 [(1, v_p1), (6, v2), (9, v26), (14, v_p0), (15, .int .i64 (p0.length : Int)), (16, .int .i64 (j5 : Int))] ∧ Mem W w [aInts 3 v26 l27, aMat 28 3 v2 vs3 l4]) ?_ ?_
      · refine wp_block ?_
        refine x_loop (fun k a w => ∃ (q30 : List Int) (j25 : Nat) (v23 : Value) (l24 : List Int) , k = q30.length ∧ Fr a 60 [(1, v_p1), (6, v2), (8, u15), (9, v23), (14, v_p0), (15, .int .i64 (p0.length : Int)), (16, .int .i64 (j5 : Int)), (23, .int .i64 (x18.length : Int)), (24, .int .i64 (j25 : Int))] ∧ Mem W w [aInts 3 v23 l24, aMat 28 3 v2 vs3 l4] ∧ spec_mxMul_l2 p1 x12 q30 j25 l24 = some s28 ∧ List.drop j25 x18 = q30) _ ⟨x18, 0, (.slice none 0 0), [], rfl, hs.sub ⟨rfl, rfl, rfl, rfl, rfl, rfl, rfl, rfl, rfl, trivial⟩, hM, hm, rfl⟩ ?_
        rintro k a w ⟨q30, j25, v23, l24, rfl, hs, hM, hm, hj⟩
        rcases q30 with _ | ⟨x31, q30⟩
        · rewrite [spec_mxMul_l2] at hm
          refine wp_seq ?_
          refine wp_region_lit ?_
          refine wl hs (y_lss hs rfl rfl) rfl ?_; intro a hs
          refine wpList_nil ?_
          refine x_nt ?_
          refine wp_seq ?_
          refine x_condF hs rfl (drop_f hj) ?_
          refine wp_exit ?_
          refine x_et ?_
          refine x_et ?_
          refine x_eb ?_
          have hm : some (Sum.inr l24) = some s28 := hm
          exact ⟨v23, l24, Option.some.inj hm, hs.sub ⟨rfl, rfl, rfl, rfl, rfl, rfl, trivial⟩, hM⟩
        · rewrite [spec_mxMul_l2] at hm
          have hx32 := drop_idx hj
          have hjs := ck_succ hj (RdS.len (RdI.below hr22 hM.bel))
          refine wp_seq ?_
          refine wp_region_lit ?_
          refine wl hs (y_lss hs rfl rfl) rfl ?_; intro a hs
          refine wpList_nil ?_
          refine x_nt ?_
          refine wp_seq ?_
          refine x_condT hs rfl (drop_t hj) ?_
          refine wp_skip ?_
          refine x_nt ?_
          refine wp_seq ?_
          refine wp_block ?_
          refine wp_seq ?_
          refine wp_region_lit ?_
          refine wl hs (y_move hs rfl) rfl ?_; intro a hs
          refine wl hs (y_assign hs rfl) rfl ?_; intro a hs
          refine wpList_nil ?_
          refine x_nt ?_
          refine wp_seq ?_
          refine wp_region_lit ?_
          refine wl hs (y_assign hs rfl) rfl ?_; intro a hs
          refine wpList_nil ?_
          refine x_nt ?_
          refine wp_seq ?_
          refine wp_seq ?_
          refine wp_region_lit ?_
          refine wl hs (y_move hs rfl) rfl ?_; intro a hs
          refine wl hs (y_len hu_I hs rfl (RdI.below hr16 hM.bel)) rfl ?_; intro a hs
          refine wl hs (y_move hs rfl) rfl ?_; intro a hs
          refine wpList_nil ?_
          refine x_nt ?_
          obtain ⟨s36, hm, hk37⟩ := bindE hm
          refine x_mid (fun a w => ∃ (n35 : Int), n35 = s36 ∧ Fr a 60 [(1, v_p1), (6, v2), (8, u15), (9, v23), (11, .int .i64 n35), (14, v_p0), (15, .int .i64 (p0.length : Int)), (16, .int .i64 (j5 : Int)), (23, .int .i64 (x18.length : Int)), (24, .int .i64 (j25 : Int))] ∧ Mem W w [aInts 3 v23 l24, aMat 28 3 v2 vs3 l4]) ?_ ?_
          · refine wp_block ?_
            refine x_loop (fun k a w => ∃ (q38 : List Int) (j34 : Nat) (n33 : Int) , k = q38.length ∧ Fr a 60 [(1, v_p1), (6, v2), (8, u15), (9, v23), (10, .int .i64 (j25 : Int)), (11, .int .i64 n33), (14, v_p0), (15, .int .i64 (p0.length : Int)), (16, .int .i64 (j5 : Int)), (23, .int .i64 (x18.length : Int)), (24, .int .i64 (j25 : Int)), (27, u15), (28, .int .i64 (x12.length : Int)), (29, .int .i64 (j34 : Int))] ∧ Mem W w [aInts 3 v23 l24, aMat 28 3 v2 vs3 l4] ∧ spec_mxMul_l3 p1 j25 q38 j34 n33 = some s36 ∧ List.drop j34 x12 = q38) _ ⟨x12, 0, 1000000000, rfl, hs.sub ⟨rfl, rfl, rfl, rfl, rfl, rfl, rfl, rfl, rfl, rfl, rfl, rfl, rfl, rfl, trivial⟩, hM, hm, rfl⟩ ?_
            rintro k a w ⟨q38, j34, n33, rfl, hs, hM, hm, hj⟩
            rcases q38 with _ | ⟨x39, q38⟩
            · rewrite [spec_mxMul_l3] at hm
              refine wp_seq ?_
              refine wp_region_lit ?_
              refine wl hs (y_lss hs rfl rfl) rfl ?_; intro a hs
              refine wpList_nil ?_
              refine x_nt ?_
              refine wp_seq ?_
              refine x_condF hs rfl (drop_f hj) ?_
              refine wp_exit ?_
              refine x_et ?_
              refine x_et ?_
              refine x_eb ?_
              have hm : some n33 = some s36 := hm
              exact ⟨n33, Option.some.inj hm, hs.sub ⟨rfl, rfl, rfl, rfl, rfl, rfl, rfl, rfl, rfl, rfl, trivial⟩, hM⟩
            · rewrite [spec_mxMul_l3] at hm
              have hx40 := drop_idx hj
              have hjs := ck_succ hj (RdS.len (RdI.below hr16 hM.bel))
              refine wp_seq ?_
              refine wp_region_lit ?_
              refine wl hs (y_lss hs rfl rfl) rfl ?_; intro a hs
              refine wpList_nil ?_
              refine x_nt ?_
              refine wp_seq ?_
              refine x_condT hs rfl (drop_t hj) ?_
              refine wp_skip ?_
              refine x_nt ?_
              refine wp_seq ?_
              refine wp_block ?_
              refine wp_seq ?_
              refine wp_region_lit ?_
              refine wl hs (y_move hs rfl) rfl ?_; intro a hs
              have he41 := RdI.at_ (RdI.below hr16 hM.bel) hx40
              refine wl hs (y_index ht_I hs rfl rfl he41) rfl ?_; intro a hs
              refine wl hs (y_load sc_int hs rfl he41.cell) rfl ?_; intro a hs
              refine wl hs (y_assign hs rfl) rfl ?_; intro a hs
              refine wl hs (y_assign hs rfl) rfl ?_; intro a hs
              refine wpList_nil ?_
              refine x_nt ?_
              refine wp_region_lit ?_
              refine wl hs (y_move hs rfl) rfl ?_; intro a hs
              refine wl hs (y_move hs rfl) rfl ?_; intro a hs
              refine wl hs (y_move hs rfl) rfl ?_; intro a hs
              refine wl hs (y_move hs rfl) rfl ?_; intro a hs
              obtain ⟨x42, hx43, hm⟩ := bindE hm
              obtain ⟨u45, he44, hr46⟩ := RdM.at_ hr_p1 hx43
              replace he44 := he44.below hM.bel
              refine wl hs (y_index ht_M hs rfl rfl he44) rfl ?_; intro a hs
              refine wl hs (y_load sc_I hs rfl he44.cell) rfl ?_; intro a hs
              refine wl hs (y_move hs rfl) rfl ?_; intro a hs
              obtain ⟨x47, hx48, hm⟩ := bindE hm
              have he49 := RdI.at_ (RdI.below hr46 hM.bel) hx48
              refine wl hs (y_index ht_I hs rfl rfl he49) rfl ?_; intro a hs
              refine wl hs (y_load sc_int hs rfl he49.cell) rfl ?_; intro a hs
              obtain ⟨y50, h51, hm⟩ := bindE hm
              refine wcall is_77 hs rfl rfl (spec_nuPlus_any x39 x47 _  h51) ?_; rintro a _ w hs ⟨rfl, hX⟩
              have hM : Mem W w [aInts 3 v23 l24, aMat 28 3 v2 vs3 l4] := hM.call hX
              obtain ⟨y52, h53, hm⟩ := bindE hm
              refine wcall is_51 hs rfl rfl (spec_l1Least_any n33 y50 _  h53) ?_; rintro a _ w hs ⟨rfl, hX⟩
              have hM : Mem W w [aInts 3 v23 l24, aMat 28 3 v2 vs3 l4] := hM.call hX
              refine wl hs (y_assign hs rfl) rfl ?_; intro a hs
              refine wpList_nil ?_
              refine x_nb ?_
              refine x_nt ?_
              refine wp_region_lit ?_
              refine wl hs (y_add hs rfl rfl hjs) rfl ?_; intro a hs
              refine wl hs (y_move hs rfl) rfl ?_; intro a hs
              refine wpList_nil ?_
              exact ⟨_, by simp, q38, j34 + 1, y52, rfl, hs.sub ⟨rfl, rfl, rfl, rfl, rfl, rfl, rfl, rfl, rfl, rfl, rfl, rfl, rfl, rfl, trivial⟩, hM, hm, drop_next hj⟩
          rintro a w ⟨n35, rfl, hs, hM⟩
          have hm := hk37
          refine x_nt ?_
          refine wp_seq ?_
          refine wp_seq ?_
          refine wp_region_lit ?_
          refine wl hs (y_move hs rfl) rfl ?_; intro a hs
          obtain ⟨y54, h55, hm⟩ := bindE hm
          refine wcall is_59 hs rfl rfl (spec_nuGood_any n35 _  h55) ?_; rintro a _ w hs ⟨rfl, hX⟩
          have hM : Mem W w [aInts 3 v23 l24, aMat 28 3 v2 vs3 l4] := hM.call hX
          refine wl hs (y_not hs rfl) rfl ?_; intro a hs
          refine wpList_nil ?_
          refine x_nt ?_
          refine x_cond hs rfl (fun hb => ?_) (fun hb => ?_)
          · replace hm := condT hb hm
            refine wp_seq ?_
            refine wp_region_lit ?_
            refine wl hs (y_assign hs rfl) rfl ?_; intro a hs
            refine wl hs (y_assign hs rfl) rfl ?_; intro a hs
            refine wpList_nil ?_
            refine x_nt ?_
            refine wp_ret ?_
            refine x_rt ?_
            refine x_rb ?_
            refine x_rt ?_
            refine x_rt ?_
            refine x_rb ?_
            refine x_rt ?_
            refine x_rt ?_
            refine x_rb ?_
            refine x_rt ?_
            refine x_rt ?_
            refine x_rb ?_
            refine x_rt ?_
            refine x_rt ?_
            have hm : some (Sum.inl ([], false)) = some s28 := hm
            cases Option.some.inj hm
            have hm := hk29
            have hm : some (Sum.inl ([], false)) = some s9 := hm
            cases Option.some.inj hm
            have hm := hk10
            have hm : some ([], false) = some r := hm
            obtain rfl := Option.some.inj hm
            refine x_ret2 rfl hs rfl rfl ⟨_, rfl, ?_⟩
            have hM := hM.nilM 28 3
            exact ⟨_, _, rfl, (hM.keep_ 1)⟩
          · replace hm := condF hb hm
            refine wp_skip ?_
            refine x_nt ?_
            refine wp_region_lit ?_
            refine wl hs (y_move hs rfl) rfl ?_; intro a hs
            refine wl hs (y_move hs rfl) rfl ?_; intro a hs
            obtain ⟨l57, h58, hm⟩ := bindE hm
            refine wappI hu_I he_int hs hM rfl rfl h58 rfl rfl rfl ?_; intro a v59 w u60 hs hM
            have hM : Mem W w [aInts 3 v59 l57, aMat 28 3 v2 vs3 l4] := hM
            refine wl hs (y_assign hs rfl) rfl ?_; intro a hs
            refine wpList_nil ?_
            refine x_nb ?_
            refine x_nt ?_
            refine wp_region_lit ?_
            refine wl hs (y_add hs rfl rfl hjs) rfl ?_; intro a hs
            refine wl hs (y_move hs rfl) rfl ?_; intro a hs
            refine wpList_nil ?_
            exact ⟨_, by simp, q30, j25 + 1, v59, l57, rfl, hs.sub ⟨rfl, rfl, rfl, rfl, rfl, rfl, rfl, rfl, rfl, trivial⟩, hM, hm, drop_next hj⟩
      rintro a w ⟨v26, l27, rfl, hs, hM⟩
      have hm := hk29
      refine x_nt ?_
      refine wp_region_lit ?_
      refine wl hs (y_move hs rfl) rfl ?_; intro a hs
      refine wl hs (y_move hs rfl) rfl ?_; intro a hs
      obtain ⟨l61, h62, hm⟩ := bindE hm
      refine wappM hu_M he_I hs (hM.front 1 rfl) rfl rfl h62 rfl rfl rfl ?_; intro a v63 w u64 hs hM
      have hM : Mem W w [aMat 28 3 v63 (vs3 ++ [v26]) l61] := hM
      refine wl hs (y_assign hs rfl) rfl ?_; intro a hs
      refine wpList_nil ?_
      refine x_nb ?_
      refine x_nt ?_
      refine wp_region_lit ?_
      refine wl hs (y_add hs rfl rfl hjs) rfl ?_; intro a hs
      refine wl hs (y_move hs rfl) rfl ?_; intro a hs
      refine wpList_nil ?_
      exact ⟨_, by simp, q11, j5 + 1, v63, (vs3 ++ [v26]), l61, rfl, hs.sub ⟨rfl, rfl, rfl, rfl, rfl, trivial⟩, hM, hm, drop_next hj⟩
  rintro a w ⟨v6, vs7, l8, rfl, hs, hM⟩
  have hm := hk10
  refine x_nt ?_
  refine wp_seq ?_
  refine wp_region_lit ?_
  refine wl hs (y_move hs rfl) rfl ?_; intro a hs
  refine wl hs (y_assign hs rfl) rfl ?_; intro a hs
  refine wl hs (y_assign hs rfl) rfl ?_; intro a hs
  refine wpList_nil ?_
  refine x_nt ?_
  refine wp_ret ?_
  have hm : some (l8, true) = some r := hm
  obtain rfl := Option.some.inj hm
  refine x_ret2 rfl hs rfl rfl ⟨_, rfl, ?_⟩
  exact ⟨_, _, rfl, hM⟩

theorem impl_multiplied_any (v_p0 : Value) (p0 : List (List Int)) (v_p1 : Value) (p1 : List (List Int)) (W : World) (hr_p0 : RdM W v_p0 p0) (hr_p1 : RdM W v_p1 p1) {r : List (List Int)} (hm : impl_multiplied_m p0 p1 = some r) : Calls Try.prog 70 [v_p0, v_p1].toArray W fun e w => ∃ v, e = .returned v ∧ ∃ vs0, Mem W w [aMat 28 3 v vs0 r] := by
  refine x_enter Try.func70 rfl Try.ntmps70 rfl ?_
  intro a hs
  have hM := Mem.start W
  unfold impl_multiplied_m at hm
  refine wp_seq ?_
  refine wp_region_lit ?_
  refine wl hs (y_assign hs rfl) rfl ?_; intro a hs
  refine wpList_nil ?_
  refine x_nt ?_
  refine wp_seq ?_
  refine wp_region_lit ?_
  refine wl hs (y_move hs rfl) rfl ?_; intro a hs
  obtain ⟨y1, h2, hm⟩ := bindE hm
  refine wcall is_105 hs rfl rfl (impl_transposed_any v_p1 p1 _ (RdM.below hr_p1 hM.bel) h2) ?_; rintro a v3 w hs ⟨vs5, hX⟩
  have hM : Mem W w [aMat 28 3 v3 vs5 y1] := hM.call hX
  refine wl hs (y_assign hs rfl) rfl ?_; intro a hs
  refine wpList_nil ?_
  refine x_nt ?_
  refine wp_seq ?_
  refine wp_region_lit ?_
  refine wmem hs (x_new0M (ti := 3) ht_M hM) rfl ?_; intro a v7 w hs hM
  have hM : Mem W w [aMat 28 3 v7 ([]) ([]), aMat 28 3 v3 vs5 y1] := hM
  refine wl hs (y_assign hs rfl) rfl ?_; intro a hs
  refine wpList_nil ?_
  refine x_nt ?_
  refine wp_seq ?_
  refine wp_seq ?_
  refine wp_region_lit ?_
  refine wl hs (y_move hs rfl) rfl ?_; intro a hs
  refine wl hs (y_len hu_M hs rfl (RdM.below hr_p0 hM.bel)) rfl ?_; intro a hs
  refine wl hs (y_move hs rfl) rfl ?_; intro a hs
  refine wpList_nil ?_
  refine x_nt ?_
  obtain ⟨s15, hm, hk16⟩ := bindE hm
  refine x_mid (fun a w => ∃ (v12 : Value), ∃ (vs13 : List Value), ∃ (l14 : List (List Int)), l14 = s15 ∧ Fr a 41 [(6, v12)] ∧ Mem W w [aMat 28 3 v12 vs13 l14]) ?_ ?_
  · refine wp_block ?_
    refine x_loop (fun k a w => ∃ (q17 : List (List Int)) (j11 : Nat) (v8 : Value) (vs9 : List Value) (l10 : List (List Int)) , k = q17.length ∧ Fr a 41 [(5, v3), (6, v8), (15, v_p0), (16, .int .i64 (p0.length : Int)), (17, .int .i64 (j11 : Int))] ∧ Mem W w [aMat 28 3 v8 vs9 l10, aMat 28 3 v3 vs5 y1] ∧ impl_multiplied_l1 y1 q17 j11 l10 = some s15 ∧ List.drop j11 p0 = q17) _ ⟨p0, 0, v7, [], [], rfl, hs.sub ⟨rfl, rfl, rfl, rfl, rfl, trivial⟩, hM, hm, rfl⟩ ?_
    rintro k a w ⟨q17, j11, v8, vs9, l10, rfl, hs, hM, hm, hj⟩
    rcases q17 with _ | ⟨x18, q17⟩
    · rewrite [impl_multiplied_l1] at hm
      refine wp_seq ?_
      refine wp_region_lit ?_
      refine wl hs (y_lss hs rfl rfl) rfl ?_; intro a hs
      refine wpList_nil ?_
      refine x_nt ?_
      refine wp_seq ?_
      refine x_condF hs rfl (drop_f hj) ?_
      refine wp_exit ?_
      refine x_et ?_
      refine x_et ?_
      refine x_eb ?_
      have hm : some l10 = some s15 := hm
      exact ⟨v8, vs9, l10, Option.some.inj hm, hs.sub ⟨rfl, trivial⟩, (hM.keep_ 1)⟩
    · rewrite [impl_multiplied_l1] at hm
      have hx19 := drop_idx hj
      have hjs := ck_succ hj (RdS.len (RdM.below hr_p0 hM.bel))
      refine wp_seq ?_
      refine wp_region_lit ?_
      refine wl hs (y_lss hs rfl rfl) rfl ?_; intro a hs
      refine wpList_nil ?_
      refine x_nt ?_
      refine wp_seq ?_
      refine x_condT hs rfl (drop_t hj) ?_
      refine wp_skip ?_
      refine x_nt ?_
      refine wp_seq ?_
      refine wp_block ?_
      refine wp_seq ?_
      refine wp_region_lit ?_
      obtain ⟨u21, he20, hr22⟩ := RdM.at_ hr_p0 hx19
      replace he20 := he20.below hM.bel
      refine wl hs (y_index ht_M hs rfl rfl he20) rfl ?_; intro a hs
      refine wl hs (y_load sc_I hs rfl he20.cell) rfl ?_; intro a hs
      refine wl hs (y_assign hs rfl) rfl ?_; intro a hs
      refine wpList_nil ?_
      refine x_nt ?_
      refine wp_seq ?_
      refine wp_region_lit ?_
      refine wmem hs (x_new0I ht_I hM) rfl ?_; intro a v24 w hs hM
      have hM : Mem W w [aInts 3 v24 ([]), aMat 28 3 v8 vs9 l10, aMat 28 3 v3 vs5 y1] := hM
      refine wl hs (y_assign hs rfl) rfl ?_; intro a hs
      refine wpList_nil ?_
      refine x_nt ?_
      refine wp_seq ?_
      refine wp_seq ?_
      refine wp_region_lit ?_
      refine wl hs (y_move hs rfl) rfl ?_; intro a hs
      refine wl hs (y_len hu_M hs rfl (hM.rdM 2 rfl)) rfl ?_; intro a hs
      refine wl hs (y_move hs rfl) rfl ?_; intro a hs
      refine wpList_nil ?_
      refine x_nt ?_
      obtain ⟨s30, hm, hk31⟩ := bindE hm
      refine x_mid (fun a w => ∃ (v28 : Value), ∃ (l29 : List Int), l29 = s30 ∧ Fr a 41 [(5, v3), (6, v8), (9, v28), (15, v_p0), (16, .int .i64 (p0.length : Int)), (17, .int .i64 (j11 : Int))] ∧ Mem W w [aInts 3 v28 l29, aMat 28 3 v8 vs9 l10, aMat 28 3 v3 vs5 y1]) ?_ ?_
      · refine wp_block ?_
        refine x_loop (fun k a w => ∃ (q32 : List (List Int)) (j27 : Nat) (v25 : Value) (l26 : List Int) , k = q32.length ∧ Fr a 41 [(5, v3), (6, v8), (8, u21), (9, v25), (15, v_p0), (16, .int .i64 (p0.length : Int)), (17, .int .i64 (j11 : Int)), (22, v3), (23, .int .i64 (y1.length : Int)), (24, .int .i64 (j27 : Int))] ∧ Mem W w [aInts 3 v25 l26, aMat 28 3 v8 vs9 l10, aMat 28 3 v3 vs5 y1] ∧ impl_multiplied_l2 x18 q32 j27 l26 = some s30 ∧ List.drop j27 y1 = q32) _ ⟨y1, 0, v24, [], rfl, hs.sub ⟨rfl, rfl, rfl, rfl, rfl, rfl, rfl, rfl, rfl, rfl, trivial⟩, hM, hm, rfl⟩ ?_
        rintro k a w ⟨q32, j27, v25, l26, rfl, hs, hM, hm, hj⟩
        rcases q32 with _ | ⟨x33, q32⟩
        · rewrite [impl_multiplied_l2] at hm
          refine wp_seq ?_
          refine wp_region_lit ?_
          refine wl hs (y_lss hs rfl rfl) rfl ?_; intro a hs
          refine wpList_nil ?_
          refine x_nt ?_
          refine wp_seq ?_
          refine x_condF hs rfl (drop_f hj) ?_
          refine wp_exit ?_
          refine x_et ?_
          refine x_et ?_
          refine x_eb ?_
          have hm : some l26 = some s30 := hm
          exact ⟨v25, l26, Option.some.inj hm, hs.sub ⟨rfl, rfl, rfl, rfl, rfl, rfl, trivial⟩, hM⟩
        · rewrite [impl_multiplied_l2] at hm
          have hx34 := drop_idx hj
          have hjs := ck_succ hj (RdS.len (hM.rdM 2 rfl))
          refine wp_seq ?_
          refine wp_region_lit ?_
          refine wl hs (y_lss hs rfl rfl) rfl ?_; intro a hs
          refine wpList_nil ?_
          refine x_nt ?_
          refine wp_seq ?_
          refine x_condT hs rfl (drop_t hj) ?_
          refine wp_skip ?_
          refine x_nt ?_
          refine wp_seq ?_
          refine wp_block ?_
          refine wp_seq ?_
          refine wp_region_lit ?_
          obtain ⟨u36, hv37, he35⟩ := hM.atM 2 rfl hx34
          refine wl hs (y_index ht_M hs rfl rfl he35) rfl ?_; intro a hs
          refine wl hs (y_load sc_I hs rfl he35.cell) rfl ?_; intro a hs
          refine wl hs (y_assign hs rfl) rfl ?_; intro a hs
          refine wpList_nil ?_
          refine x_nt ?_
          refine wp_region_lit ?_
          refine wl hs (y_move hs rfl) rfl ?_; intro a hs
          refine wl hs (y_move hs rfl) rfl ?_; intro a hs
          refine wl hs (y_move hs rfl) rfl ?_; intro a hs
          obtain ⟨y38, h39, hm⟩ := bindE hm
          refine wcall is_99 hs rfl rfl (impl_dot_any u21 x18 u36 x33 _ (RdI.below hr22 hM.bel) (hM.rdRow 2 rfl rfl hv37 (idx_spec hx34).2.2) h39) ?_; rintro a _ w hs ⟨rfl, hX⟩
          have hM : Mem W w [aInts 3 v25 l26, aMat 28 3 v8 vs9 l10, aMat 28 3 v3 vs5 y1] := hM.call hX
          obtain ⟨l40, h41, hm⟩ := bindE hm
          refine wappI hu_I he_int hs hM rfl rfl h41 rfl rfl rfl ?_; intro a v42 w u43 hs hM
          have hM : Mem W w [aInts 3 v42 l40, aMat 28 3 v8 vs9 l10, aMat 28 3 v3 vs5 y1] := hM
          refine wl hs (y_assign hs rfl) rfl ?_; intro a hs
          refine wpList_nil ?_
          refine x_nb ?_
          refine x_nt ?_
          refine wp_region_lit ?_
          refine wl hs (y_add hs rfl rfl hjs) rfl ?_; intro a hs
          refine wl hs (y_move hs rfl) rfl ?_; intro a hs
          refine wpList_nil ?_
          exact ⟨_, by simp, q32, j27 + 1, v42, l40, rfl, hs.sub ⟨rfl, rfl, rfl, rfl, rfl, rfl, rfl, rfl, rfl, rfl, trivial⟩, hM, hm, drop_next hj⟩
      rintro a w ⟨v28, l29, rfl, hs, hM⟩
      have hm := hk31
      refine x_nt ?_
      refine wp_region_lit ?_
      refine wl hs (y_move hs rfl) rfl ?_; intro a hs
      refine wl hs (y_move hs rfl) rfl ?_; intro a hs
      obtain ⟨l44, h45, hm⟩ := bindE hm
      refine wappM hu_M he_I hs (((hM.front 2 rfl).front 1 rfl).front 2 rfl) rfl rfl h45 rfl rfl rfl ?_; intro a v46 w u47 hs hM
      have hM : Mem W w [aMat 28 3 v46 (vs9 ++ [v28]) l44, aMat 28 3 v3 vs5 y1] := hM
      refine wl hs (y_assign hs rfl) rfl ?_; intro a hs
      refine wpList_nil ?_
      refine x_nb ?_
      refine x_nt ?_
      refine wp_region_lit ?_
      refine wl hs (y_add hs rfl rfl hjs) rfl ?_; intro a hs
      refine wl hs (y_move hs rfl) rfl ?_; intro a hs
      refine wpList_nil ?_
      exact ⟨_, by simp, q17, j11 + 1, v46, (vs9 ++ [v28]), l44, rfl, hs.sub ⟨rfl, rfl, rfl, rfl, rfl, trivial⟩, hM, hm, drop_next hj⟩
  rintro a w ⟨v12, vs13, l14, rfl, hs, hM⟩
  have hm := hk16
  refine x_nt ?_
  refine wp_seq ?_
  refine wp_region_lit ?_
  refine wl hs (y_move hs rfl) rfl ?_; intro a hs
  refine wl hs (y_assign hs rfl) rfl ?_; intro a hs
  refine wpList_nil ?_
  refine x_nt ?_
  refine wp_ret ?_
  have hm : some l14 = some r := hm
  obtain rfl := Option.some.inj hm
  refine x_ret1 rfl hs rfl ⟨_, rfl, ?_⟩
  exact ⟨_, hM⟩

theorem spec_MultiplyMatrices_any (v_p0 : Value) (p0 : List (List Int)) (v_p1 : Value) (p1 : List (List Int)) (W : World) (hr_p0 : RdM W v_p0 p0) (hr_p1 : RdM W v_p1 p1) {r : (List (List Int)) × Bool} (hm : spec_MultiplyMatrices_m p0 p1 = some r) : Calls Try.prog 32 [v_p0, v_p1].toArray W fun e w => ∃ v, e = .returned v ∧ ∃ v0, ∃ vs0, v = .tuple #[v0, .bool r.2] ∧ Mem W w [aMat 28 3 v0 vs0 r.1] := by
  refine x_enter Try.func32 rfl Try.ntmps32 rfl ?_
  intro a hs
  have hM := Mem.start W
  unfold spec_MultiplyMatrices_m at hm
  refine wp_seq ?_
  refine wp_region_lit ?_
  refine wl hs (y_assign hs rfl) rfl ?_; intro a hs
  refine wl hs (y_assign hs rfl) rfl ?_; intro a hs
  refine wpList_nil ?_
  refine x_nt ?_
  refine wp_seq ?_
  refine wp_seq ?_
  refine wp_region_lit ?_
  refine wl hs (y_move hs rfl) rfl ?_; intro a hs
  obtain ⟨y1, h2, hm⟩ := bindE hm
  refine wcall is_49 hs rfl rfl (spec_mxGood_any v_p0 p0 _ (RdM.below hr_p0 hM.bel) h2) ?_; rintro a _ w hs ⟨rfl, hX⟩
  have hM : Mem W w [] := hM.call hX
  refine wl hs (y_not hs rfl) rfl ?_; intro a hs
  refine wl hs (y_move hs rfl) rfl ?_; intro a hs
  obtain ⟨b3, hb4, hm⟩ := bindE hm
  refine wlguard (N := 28) (L' := [(13, .bool b3), (0, v_p0), (1, v_p1)]) (fun w => Mem W w []) 4 ?_ ?_
  · intro K; rcases Bool.eq_false_or_eq_true (!y1) with hg5 | hg5
    · have hm := condT hg5 hb4
      refine wls hs rfl hg5 rfl ?_; intro a hs
      refine wls hs rfl hg5 rfl ?_; intro a hs
      refine wls hs rfl hg5 rfl ?_; intro a hs
      have hm : some true = some b3 := hm
      cases Option.some.inj hm
      refine wl hs (y_pickT hs rfl hg5 rfl) rfl ?_; intro a hs
      exact K _ _ (hs.sub ⟨rfl, rfl, rfl, trivial⟩) hM
    · have hm := condF hg5 hb4
      refine wlg hs rfl hg5 (y_move hs rfl) rfl ?_; intro a hs
      obtain ⟨y6, h7, hm⟩ := bindE hm
      refine wcallg is_49 hs rfl hg5 rfl rfl (spec_mxGood_any v_p1 p1 _ (RdM.below hr_p1 hM.bel) h7) ?_; rintro a _ w hs ⟨rfl, hX⟩
      have hM : Mem W w [] := hM.call hX
      refine wlg hs rfl hg5 (y_not hs rfl) rfl ?_; intro a hs
      have hm : some (!y6) = some b3 := hm
      cases Option.some.inj hm
      refine wl hs (y_pickF hs rfl hg5 rfl) rfl ?_; intro a hs
      exact K _ _ (hs.sub ⟨rfl, rfl, rfl, trivial⟩) hM
  intro a w hs hM
  simp only [List.drop_succ_cons, List.drop_zero]
  refine wl hs (y_move hs rfl) rfl ?_; intro a hs
  obtain ⟨b8, hb9, hm⟩ := bindE hm
  refine wlguard (N := 28) (L' := [(22, .bool b8), (0, v_p0), (1, v_p1)]) (fun w => Mem W w []) 8 ?_ ?_
  · intro K; rcases Bool.eq_false_or_eq_true b3 with hg10 | hg10
    · have hm := condT hg10 hb9
      refine wls hs rfl hg10 rfl ?_; intro a hs
      refine wls hs rfl hg10 rfl ?_; intro a hs
      refine wls hs rfl hg10 rfl ?_; intro a hs
      refine wls hs rfl hg10 rfl ?_; intro a hs
      refine wls hs rfl hg10 rfl ?_; intro a hs
      refine wls hs rfl hg10 rfl ?_; intro a hs
      refine wls hs rfl hg10 rfl ?_; intro a hs
      have hm : some true = some b8 := hm
      cases Option.some.inj hm
      refine wl hs (y_pickT hs rfl hg10 rfl) rfl ?_; intro a hs
      exact K _ _ (hs.sub ⟨rfl, rfl, rfl, trivial⟩) hM
    · have hm := condF hg10 hb9
      refine wlg hs rfl hg10 (y_move hs rfl) rfl ?_; intro a hs
      obtain ⟨x11, hx12, hm⟩ := bindE hm
      obtain ⟨u14, he13, hr15⟩ := RdM.at_ hr_p0 hx12
      replace he13 := he13.below hM.bel
      refine wlg hs rfl hg10 (y_index ht_M hs rfl rfl he13) rfl ?_; intro a hs
      refine wlg hs rfl hg10 (y_load sc_I hs rfl he13.cell) rfl ?_; intro a hs
      refine wlg hs rfl hg10 (y_len hu_I hs rfl (RdI.below hr15 hM.bel)) rfl ?_; intro a hs
      refine wlg hs rfl hg10 (y_move hs rfl) rfl ?_; intro a hs
      refine wlg hs rfl hg10 (y_len hu_M hs rfl (RdM.below hr_p1 hM.bel)) rfl ?_; intro a hs
      refine wlg hs rfl hg10 (y_neq hs rfl rfl) rfl ?_; intro a hs
      have hm : some ((x11.length : Int) != (p1.length : Int)) = some b8 := hm
      cases Option.some.inj hm
      refine wl hs (y_pickF hs rfl hg10 rfl) rfl ?_; intro a hs
      exact K _ _ (hs.sub ⟨rfl, rfl, rfl, trivial⟩) hM
  intro a w hs hM
  simp only [List.drop_succ_cons, List.drop_zero]
  refine wpList_nil ?_
  refine x_nt ?_
  refine x_cond hs rfl (fun hb => ?_) (fun hb => ?_)
  · replace hm := condT hb hm
    refine wp_seq ?_
    refine wp_region_lit ?_
    refine wl hs (y_assign hs rfl) rfl ?_; intro a hs
    refine wl hs (y_assign hs rfl) rfl ?_; intro a hs
    refine wpList_nil ?_
    refine x_nt ?_
    refine wp_ret ?_
    refine x_rt ?_
    have hm : some ([], false) = some r := hm
    obtain rfl := Option.some.inj hm
    refine x_ret2 rfl hs rfl rfl ⟨_, rfl, ?_⟩
    have hM := hM.nilM 28 3
    exact ⟨_, _, rfl, hM⟩
  · replace hm := condF hb hm
    refine wp_skip ?_
    refine x_nt ?_
    refine wp_seq ?_
    refine wp_region_lit ?_
    refine wl hs (y_move hs rfl) rfl ?_; intro a hs
    refine wl hs (y_move hs rfl) rfl ?_; intro a hs
    obtain ⟨y17, h18, hm⟩ := bindE hm
    refine wcall is_69 hs rfl rfl (spec_mxMul_any v_p0 p0 v_p1 p1 _ (RdM.below hr_p0 hM.bel) (RdM.below hr_p1 hM.bel) h18) ?_; rintro a _ w hs ⟨v21, vs22, rfl, hX⟩
    have hM : Mem W w [aMat 28 3 v21 vs22 y17.1] := hM.call hX
    refine wl hs (y_extract hs rfl rfl) rfl ?_; intro a hs
    refine wl hs (y_extract hs rfl rfl) rfl ?_; intro a hs
    refine wl hs (y_assign hs rfl) rfl ?_; intro a hs
    refine wl hs (y_assign hs rfl) rfl ?_; intro a hs
    refine wpList_nil ?_
    refine x_nt ?_
    refine wp_ret ?_
    have hm : some (y17.1, y17.2) = some r := hm
    obtain rfl := Option.some.inj hm
    refine x_ret2 rfl hs rfl rfl ⟨_, rfl, ?_⟩
    exact ⟨_, _, rfl, hM⟩

theorem impl_MultiplyMatrices_any (v_p0 : Value) (p0 : List (List Int)) (v_p1 : Value) (p1 : List (List Int)) (W : World) (hr_p0 : RdM W v_p0 p0) (hr_p1 : RdM W v_p1 p1) {r : (List (List Int)) × Bool} (hm : impl_MultiplyMatrices_m p0 p1 = some r) : Calls Try.prog 33 [v_p0, v_p1].toArray W fun e w => ∃ v, e = .returned v ∧ ∃ v0, ∃ vs0, v = .tuple #[v0, .bool r.2] ∧ Mem W w [aMat 28 3 v0 vs0 r.1] := by
  refine x_enter Try.func33 rfl Try.ntmps33 rfl ?_
  intro a hs
  have hM := Mem.start W
  unfold impl_MultiplyMatrices_m at hm
  refine wp_seq ?_
  refine wp_region_lit ?_
  refine wl hs (y_assign hs rfl) rfl ?_; intro a hs
  refine wl hs (y_assign hs rfl) rfl ?_; intro a hs
  refine wpList_nil ?_
  refine x_nt ?_
  refine wp_seq ?_
  refine wp_seq ?_
  refine wp_region_lit ?_
  refine wl hs (y_move hs rfl) rfl ?_; intro a hs
  obtain ⟨y1, h2, hm⟩ := bindE hm
  refine wcall is_52 hs rfl rfl (impl_isMatrix_any v_p0 p0 _ (RdM.below hr_p0 hM.bel) h2) ?_; rintro a _ w hs ⟨rfl, hX⟩
  have hM : Mem W w [] := hM.call hX
  refine wl hs (y_not hs rfl) rfl ?_; intro a hs
  refine wl hs (y_move hs rfl) rfl ?_; intro a hs
  obtain ⟨b3, hb4, hm⟩ := bindE hm
  refine wlguard (N := 29) (L' := [(13, .bool b3), (0, v_p0), (1, v_p1)]) (fun w => Mem W w []) 4 ?_ ?_
  · intro K; rcases Bool.eq_false_or_eq_true (!y1) with hg5 | hg5
    · have hm := condT hg5 hb4
      refine wls hs rfl hg5 rfl ?_; intro a hs
      refine wls hs rfl hg5 rfl ?_; intro a hs
      refine wls hs rfl hg5 rfl ?_; intro a hs
      have hm : some true = some b3 := hm
      cases Option.some.inj hm
      refine wl hs (y_pickT hs rfl hg5 rfl) rfl ?_; intro a hs
      exact K _ _ (hs.sub ⟨rfl, rfl, rfl, trivial⟩) hM
    · have hm := condF hg5 hb4
      refine wlg hs rfl hg5 (y_move hs rfl) rfl ?_; intro a hs
      obtain ⟨y6, h7, hm⟩ := bindE hm
      refine wcallg is_52 hs rfl hg5 rfl rfl (impl_isMatrix_any v_p1 p1 _ (RdM.below hr_p1 hM.bel) h7) ?_; rintro a _ w hs ⟨rfl, hX⟩
      have hM : Mem W w [] := hM.call hX
      refine wlg hs rfl hg5 (y_not hs rfl) rfl ?_; intro a hs
      have hm : some (!y6) = some b3 := hm
      cases Option.some.inj hm
      refine wl hs (y_pickF hs rfl hg5 rfl) rfl ?_; intro a hs
      exact K _ _ (hs.sub ⟨rfl, rfl, rfl, trivial⟩) hM
  intro a w hs hM
  simp only [List.drop_succ_cons, List.drop_zero]
  refine wl hs (y_move hs rfl) rfl ?_; intro a hs
  obtain ⟨b8, hb9, hm⟩ := bindE hm
  refine wlguard (N := 29) (L' := [(22, .bool b8), (0, v_p0), (1, v_p1)]) (fun w => Mem W w []) 8 ?_ ?_
  · intro K; rcases Bool.eq_false_or_eq_true b3 with hg10 | hg10
    · have hm := condT hg10 hb9
      refine wls hs rfl hg10 rfl ?_; intro a hs
      refine wls hs rfl hg10 rfl ?_; intro a hs
      refine wls hs rfl hg10 rfl ?_; intro a hs
      refine wls hs rfl hg10 rfl ?_; intro a hs
      refine wls hs rfl hg10 rfl ?_; intro a hs
      refine wls hs rfl hg10 rfl ?_; intro a hs
      refine wls hs rfl hg10 rfl ?_; intro a hs
      have hm : some true = some b8 := hm
      cases Option.some.inj hm
      refine wl hs (y_pickT hs rfl hg10 rfl) rfl ?_; intro a hs
      exact K _ _ (hs.sub ⟨rfl, rfl, rfl, trivial⟩) hM
    · have hm := condF hg10 hb9
      refine wlg hs rfl hg10 (y_move hs rfl) rfl ?_; intro a hs
      obtain ⟨x11, hx12, hm⟩ := bindE hm
      obtain ⟨u14, he13, hr15⟩ := RdM.at_ hr_p0 hx12
      replace he13 := he13.below hM.bel
      refine wlg hs rfl hg10 (y_index ht_M hs rfl rfl he13) rfl ?_; intro a hs
      refine wlg hs rfl hg10 (y_load sc_I hs rfl he13.cell) rfl ?_; intro a hs
      refine wlg hs rfl hg10 (y_len hu_I hs rfl (RdI.below hr15 hM.bel)) rfl ?_; intro a hs
      refine wlg hs rfl hg10 (y_move hs rfl) rfl ?_; intro a hs
      refine wlg hs rfl hg10 (y_len hu_M hs rfl (RdM.below hr_p1 hM.bel)) rfl ?_; intro a hs
      refine wlg hs rfl hg10 (y_neq hs rfl rfl) rfl ?_; intro a hs
      have hm : some ((x11.length : Int) != (p1.length : Int)) = some b8 := hm
      cases Option.some.inj hm
      refine wl hs (y_pickF hs rfl hg10 rfl) rfl ?_; intro a hs
      exact K _ _ (hs.sub ⟨rfl, rfl, rfl, trivial⟩) hM
  intro a w hs hM
  simp only [List.drop_succ_cons, List.drop_zero]
  refine wpList_nil ?_
  refine x_nt ?_
  refine x_cond hs rfl (fun hb => ?_) (fun hb => ?_)
  · replace hm := condT hb hm
    refine wp_seq ?_
    refine wp_region_lit ?_
    refine wl hs (y_assign hs rfl) rfl ?_; intro a hs
    refine wl hs (y_assign hs rfl) rfl ?_; intro a hs
    refine wpList_nil ?_
    refine x_nt ?_
    refine wp_ret ?_
    refine x_rt ?_
    have hm : some ([], false) = some r := hm
    obtain rfl := Option.some.inj hm
    refine x_ret2 rfl hs rfl rfl ⟨_, rfl, ?_⟩
    have hM := hM.nilM 28 3
    exact ⟨_, _, rfl, hM⟩
  · replace hm := condF hb hm
    refine wp_skip ?_
    refine x_nt ?_
    refine wp_seq ?_
    refine wp_region_lit ?_
    refine wl hs (y_move hs rfl) rfl ?_; intro a hs
    refine wl hs (y_move hs rfl) rfl ?_; intro a hs
    obtain ⟨y17, h18, hm⟩ := bindE hm
    refine wcall is_70 hs rfl rfl (impl_multiplied_any v_p0 p0 v_p1 p1 _ (RdM.below hr_p0 hM.bel) (RdM.below hr_p1 hM.bel) h18) ?_; rintro a v19 w hs ⟨vs21, hX⟩
    have hM : Mem W w [aMat 28 3 v19 vs21 y17] := hM.call hX
    obtain ⟨y22, h23, hm⟩ := bindE hm
    refine wcall is_63 hs rfl rfl (impl_toldMatrix_any v19 y17 _ (hM.rdM 0 rfl) h23) ?_; rintro a _ w hs ⟨rfl, hX⟩
    have hM : Mem W w [aMat 28 3 v19 vs21 y17] := hM.call hX
    have hM : Mem W w [aMat 28 3 (cond y22.1 v19 (.slice none 0 0)) (cond y22.1 vs21 []) (cond y22.1 y17 [])] := (hM).condM y22.1
    refine wl hs (y_extract hs rfl rfl) rfl ?_; intro a hs
    refine wl hs (y_extract hs rfl rfl) rfl ?_; intro a hs
    refine wl hs (y_assign hs rfl) rfl ?_; intro a hs
    refine wl hs (y_assign hs rfl) rfl ?_; intro a hs
    refine wpList_nil ?_
    refine x_nt ?_
    refine wp_ret ?_
    have hm : some ((cond y22.1 y17 []), y22.2) = some r := hm
    obtain rfl := Option.some.inj hm
    refine x_ret2 rfl hs rfl rfl ⟨_, rfl, ?_⟩
    exact ⟨_, _, rfl, hM⟩

theorem spec_mxPower_any (v_p0 : Value) (p0 : List (List Int)) (p1 : Int) (W : World) (hr_p0 : RdM W v_p0 p0) {r : (List (List Int)) × Bool} (hm : spec_mxPower_m p0 p1 = some r) : Calls Try.prog 72 [v_p0, .int .i64 p1].toArray W fun e w => ∃ v, e = .returned v ∧ ∃ v0, ∃ vs0, v = .tuple #[v0, .bool r.2] ∧ Mem W w [aMat 28 3 v0 vs0 r.1] := by
  refine x_enter Try.func72 rfl Try.ntmps72 rfl ?_
  intro a hs
  have hM := Mem.start W
  unfold spec_mxPower_m at hm
  refine wp_seq ?_
  refine wp_region_lit ?_
  refine wl hs (y_assign hs rfl) rfl ?_; intro a hs
  refine wl hs (y_assign hs rfl) rfl ?_; intro a hs
  refine wpList_nil ?_
  refine x_nt ?_
  refine wp_seq ?_
  refine wp_region_lit ?_
  refine wl hs (y_move hs rfl) rfl ?_; intro a hs
  refine wl hs (y_len hu_M hs rfl (RdM.below hr_p0 hM.bel)) rfl ?_; intro a hs
  obtain ⟨y1, h2, hm⟩ := bindE hm
  refine wcall is_106 hs rfl rfl (spec_mxUnit_any (p0.length : Int) _  h2) ?_; rintro a v3 w hs ⟨vs5, hX⟩
  have hM : Mem W w [aMat 28 3 v3 vs5 y1] := hM.call hX
  refine wl hs (y_assign hs rfl) rfl ?_; intro a hs
  refine wpList_nil ?_
  refine x_nt ?_
  refine wp_seq ?_
  obtain ⟨s15, hm, hk16⟩ := bindE hm
  refine x_mid (fun a w => ∃ (v12 : Value), ∃ (vs13 : List Value), ∃ (l14 : List (List Int)), Sum.inr l14 = s15 ∧ Fr a 26 [(6, v12)] ∧ Mem W w [aMat 28 3 v12 vs13 l14]) ?_ ?_
  · refine wp_block ?_
    refine x_loop (fun k a w => ∃ (v8 : Value) (vs9 : List Value) (l10 : List (List Int)) (n11 : Int) , Fr a 26 [(0, v_p0), (1, .int .i64 n11), (6, v8)] ∧ Mem W w [aMat 28 3 v8 vs9 l10] ∧ spec_mxPower_l1 p0 k l10 n11 = some s15) 4000000 ⟨v3, vs5, y1, p1, hs.sub ⟨rfl, rfl, rfl, trivial⟩, hM, hm⟩ ?_
    rintro k a w ⟨v8, vs9, l10, n11, hs, hM, hm⟩
    rcases k with _ | k
    · rewrite [spec_mxPower_l1] at hm; cases hm
    rewrite [spec_mxPower_l1] at hm
    refine wp_seq ?_
    refine wp_seq ?_
    refine wp_region_lit ?_
    refine wl hs (y_move hs rfl) rfl ?_; intro a hs
    refine wl hs (y_gtr hs rfl rfl) rfl ?_; intro a hs
    refine wpList_nil ?_
    refine x_nt ?_
    refine x_cond hs rfl (fun hb => ?_) (fun hb => ?_)
    · replace hm := condT hb hm
      refine wp_skip ?_
      refine x_nt ?_
      refine wp_seq ?_
      refine wp_block ?_
      refine wp_seq ?_
      refine wp_region_lit ?_
      refine wl hs (y_move hs rfl) rfl ?_; intro a hs
      refine wl hs (y_move hs rfl) rfl ?_; intro a hs
      obtain ⟨y18, h19, hm⟩ := bindE hm
      refine wcall is_69 hs rfl rfl (spec_mxMul_any v8 l10 v_p0 p0 _ (hM.rdM 0 rfl) (RdM.below hr_p0 hM.bel) h19) ?_; rintro a _ w hs ⟨v22, vs23, rfl, hX⟩
      have hM : Mem W w [aMat 28 3 v22 vs23 y18.1, aMat 28 3 v8 vs9 l10] := hM.call hX
      refine wl hs (y_move hs rfl) rfl ?_; intro a hs
      refine wl hs (y_extract hs rfl rfl) rfl ?_; intro a hs
      refine wl hs (y_extract hs rfl rfl) rfl ?_; intro a hs
      refine wl hs (y_assign hs rfl) rfl ?_; intro a hs
      refine wl hs (y_assign hs rfl) rfl ?_; intro a hs
      refine wpList_nil ?_
      refine x_nt ?_
      refine wp_seq ?_
      refine wp_seq ?_
      refine wp_region_lit ?_
      refine wl hs (y_move hs rfl) rfl ?_; intro a hs
      refine wl hs (y_not hs rfl) rfl ?_; intro a hs
      refine wpList_nil ?_
      refine x_nt ?_
      refine x_cond hs rfl (fun hb => ?_) (fun hb => ?_)
      · replace hm := condT hb hm
        refine wp_seq ?_
        refine wp_region_lit ?_
        refine wl hs (y_assign hs rfl) rfl ?_; intro a hs
        refine wl hs (y_assign hs rfl) rfl ?_; intro a hs
        refine wpList_nil ?_
        refine x_nt ?_
        refine wp_ret ?_
        refine x_rt ?_
        refine x_rb ?_
        refine x_rt ?_
        refine x_rt ?_
        refine x_rb ?_
        refine x_rt ?_
        refine x_rt ?_
        have hm : some (Sum.inl ([], false)) = some s15 := hm
        cases Option.some.inj hm
        have hm := hk16
        have hm : some ([], false) = some r := hm
        obtain rfl := Option.some.inj hm
        refine x_ret2 rfl hs rfl rfl ⟨_, rfl, ?_⟩
        have hM := hM.nilM 28 3
        exact ⟨_, _, rfl, (hM.keep_ 1)⟩
      · replace hm := condF hb hm
        refine wp_skip ?_
        refine x_nt ?_
        refine wp_region_lit ?_
        refine wl hs (y_move hs rfl) rfl ?_; intro a hs
        refine wl hs (y_assign hs rfl) rfl ?_; intro a hs
        refine wpList_nil ?_
        refine x_nb ?_
        refine x_nt ?_
        refine wp_region_lit ?_
        refine wl hs (y_move hs rfl) rfl ?_; intro a hs
        obtain ⟨n25, h26, hm⟩ := bindE hm
        refine wl hs (y_sub hs rfl rfl h26) rfl ?_; intro a hs
        refine wl hs (y_assign hs rfl) rfl ?_; intro a hs
        refine wpList_nil ?_
        exact ⟨k, Nat.lt_succ_self _, v22, vs23, y18.1, n25, hs.sub ⟨rfl, rfl, rfl, trivial⟩, (hM.keep_ 1), hm⟩
    · replace hm := condF hb hm
      refine wp_exit ?_
      refine x_et ?_
      refine x_et ?_
      refine x_eb ?_
      have hm : some (Sum.inr l10) = some s15 := hm
      exact ⟨v8, vs9, l10, Option.some.inj hm, hs.sub ⟨rfl, trivial⟩, hM⟩
  rintro a w ⟨v12, vs13, l14, rfl, hs, hM⟩
  have hm := hk16
  refine x_nt ?_
  refine wp_seq ?_
  refine wp_region_lit ?_
  refine wl hs (y_move hs rfl) rfl ?_; intro a hs
  refine wl hs (y_assign hs rfl) rfl ?_; intro a hs
  refine wl hs (y_assign hs rfl) rfl ?_; intro a hs
  refine wpList_nil ?_
  refine x_nt ?_
  refine wp_ret ?_
  have hm : some (l14, true) = some r := hm
  obtain rfl := Option.some.inj hm
  refine x_ret2 rfl hs rfl rfl ⟨_, rfl, ?_⟩
  exact ⟨_, _, rfl, hM⟩

theorem spec_PowerOfMatrix_any (v_p0 : Value) (p0 : List (List Int)) (p1 : Int) (W : World) (hr_p0 : RdM W v_p0 p0) {r : (List (List Int)) × Bool} (hm : spec_PowerOfMatrix_m p0 p1 = some r) : Calls Try.prog 34 [v_p0, .int .i64 p1].toArray W fun e w => ∃ v, e = .returned v ∧ ∃ v0, ∃ vs0, v = .tuple #[v0, .bool r.2] ∧ Mem W w [aMat 28 3 v0 vs0 r.1] := by
  refine x_enter Try.func34 rfl Try.ntmps34 rfl ?_
  intro a hs
  have hM := Mem.start W
  unfold spec_PowerOfMatrix_m at hm
  refine wp_seq ?_
  refine wp_region_lit ?_
  refine wl hs (y_assign hs rfl) rfl ?_; intro a hs
  refine wl hs (y_assign hs rfl) rfl ?_; intro a hs
  refine wpList_nil ?_
  refine x_nt ?_
  refine wp_seq ?_
  refine wp_seq ?_
  refine wp_region_lit ?_
  refine wl hs (y_move hs rfl) rfl ?_; intro a hs
  obtain ⟨y1, h2, hm⟩ := bindE hm
  refine wcall is_64 hs rfl rfl (spec_mxSquare_any v_p0 p0 _ (RdM.below hr_p0 hM.bel) h2) ?_; rintro a _ w hs ⟨rfl, hX⟩
  have hM : Mem W w [] := hM.call hX
  refine wl hs (y_not hs rfl) rfl ?_; intro a hs
  refine wl hs (y_move hs rfl) rfl ?_; intro a hs
  obtain ⟨b3, hb4, hm⟩ := bindE hm
  refine wlguard (N := 19) (L' := [(13, .bool b3), (0, v_p0), (1, .int .i64 p1)]) (fun w => Mem W w []) 4 ?_ ?_
  · intro K; rcases Bool.eq_false_or_eq_true (!y1) with hg5 | hg5
    · have hm := condT hg5 hb4
      refine wls hs rfl hg5 rfl ?_; intro a hs
      refine wls hs rfl hg5 rfl ?_; intro a hs
      refine wls hs rfl hg5 rfl ?_; intro a hs
      have hm : some true = some b3 := hm
      cases Option.some.inj hm
      refine wl hs (y_pickT hs rfl hg5 rfl) rfl ?_; intro a hs
      exact K _ _ (hs.sub ⟨rfl, rfl, rfl, trivial⟩) hM
    · have hm := condF hg5 hb4
      refine wlg hs rfl hg5 (y_move hs rfl) rfl ?_; intro a hs
      obtain ⟨y6, h7, hm⟩ := bindE hm
      refine wcallg is_71 hs rfl hg5 rfl rfl (spec_l1In_any p1 0 20 _  h7) ?_; rintro a _ w hs ⟨rfl, hX⟩
      have hM : Mem W w [] := hM.call hX
      refine wlg hs rfl hg5 (y_not hs rfl) rfl ?_; intro a hs
      have hm : some (!y6) = some b3 := hm
      cases Option.some.inj hm
      refine wl hs (y_pickF hs rfl hg5 rfl) rfl ?_; intro a hs
      exact K _ _ (hs.sub ⟨rfl, rfl, rfl, trivial⟩) hM
  intro a w hs hM
  simp only [List.drop_succ_cons, List.drop_zero]
  refine wpList_nil ?_
  refine x_nt ?_
  refine x_cond hs rfl (fun hb => ?_) (fun hb => ?_)
  · replace hm := condT hb hm
    refine wp_seq ?_
    refine wp_region_lit ?_
    refine wl hs (y_assign hs rfl) rfl ?_; intro a hs
    refine wl hs (y_assign hs rfl) rfl ?_; intro a hs
    refine wpList_nil ?_
    refine x_nt ?_
    refine wp_ret ?_
    refine x_rt ?_
    have hm : some ([], false) = some r := hm
    obtain rfl := Option.some.inj hm
    refine x_ret2 rfl hs rfl rfl ⟨_, rfl, ?_⟩
    have hM := hM.nilM 28 3
    exact ⟨_, _, rfl, hM⟩
  · replace hm := condF hb hm
    refine wp_skip ?_
    refine x_nt ?_
    refine wp_seq ?_
    refine wp_region_lit ?_
    refine wl hs (y_move hs rfl) rfl ?_; intro a hs
    refine wl hs (y_move hs rfl) rfl ?_; intro a hs
    obtain ⟨y9, h10, hm⟩ := bindE hm
    refine wcall is_72 hs rfl rfl (spec_mxPower_any v_p0 p0 p1 _ (RdM.below hr_p0 hM.bel) h10) ?_; rintro a _ w hs ⟨v13, vs14, rfl, hX⟩
    have hM : Mem W w [aMat 28 3 v13 vs14 y9.1] := hM.call hX
    refine wl hs (y_extract hs rfl rfl) rfl ?_; intro a hs
    refine wl hs (y_extract hs rfl rfl) rfl ?_; intro a hs
    refine wl hs (y_assign hs rfl) rfl ?_; intro a hs
    refine wl hs (y_assign hs rfl) rfl ?_; intro a hs
    refine wpList_nil ?_
    refine x_nt ?_
    refine wp_ret ?_
    have hm : some (y9.1, y9.2) = some r := hm
    obtain rfl := Option.some.inj hm
    refine x_ret2 rfl hs rfl rfl ⟨_, rfl, ?_⟩
    exact ⟨_, _, rfl, hM⟩

theorem impl_PowerOfMatrix_any (v_p0 : Value) (p0 : List (List Int)) (p1 : Int) (W : World) (hr_p0 : RdM W v_p0 p0) {r : (List (List Int)) × Bool} (hm : impl_PowerOfMatrix_m p0 p1 = some r) : Calls Try.prog 35 [v_p0, .int .i64 p1].toArray W fun e w => ∃ v, e = .returned v ∧ ∃ v0, ∃ vs0, v = .tuple #[v0, .bool r.2] ∧ Mem W w [aMat 28 3 v0 vs0 r.1] := by
  refine x_enter Try.func35 rfl Try.ntmps35 rfl ?_
  intro a hs
  have hM := Mem.start W
  unfold impl_PowerOfMatrix_m at hm
  refine wp_seq ?_
  refine wp_region_lit ?_
  refine wl hs (y_assign hs rfl) rfl ?_; intro a hs
  refine wl hs (y_assign hs rfl) rfl ?_; intro a hs
  refine wpList_nil ?_
  refine x_nt ?_
  refine wp_seq ?_
  refine wp_seq ?_
  refine wp_region_lit ?_
  refine wl hs (y_move hs rfl) rfl ?_; intro a hs
  obtain ⟨y1, h2, hm⟩ := bindE hm
  refine wcall is_66 hs rfl rfl (impl_isSquare_any v_p0 p0 _ (RdM.below hr_p0 hM.bel) h2) ?_; rintro a _ w hs ⟨rfl, hX⟩
  have hM : Mem W w [] := hM.call hX
  refine wl hs (y_not hs rfl) rfl ?_; intro a hs
  refine wl hs (y_move hs rfl) rfl ?_; intro a hs
  obtain ⟨b3, hb4, hm⟩ := bindE hm
  refine wlguard (N := 29) (L' := [(14, .bool b3), (0, v_p0), (1, .int .i64 p1)]) (fun w => Mem W w []) 4 ?_ ?_
  · intro K; rcases Bool.eq_false_or_eq_true (!y1) with hg5 | hg5
    · have hm := condT hg5 hb4
      refine wls hs rfl hg5 rfl ?_; intro a hs
      refine wls hs rfl hg5 rfl ?_; intro a hs
      refine wls hs rfl hg5 rfl ?_; intro a hs
      have hm : some true = some b3 := hm
      cases Option.some.inj hm
      refine wl hs (y_pickT hs rfl hg5 rfl) rfl ?_; intro a hs
      exact K _ _ (hs.sub ⟨rfl, rfl, rfl, trivial⟩) hM
    · have hm := condF hg5 hb4
      refine wlg hs rfl hg5 (y_move hs rfl) rfl ?_; intro a hs
      obtain ⟨y6, h7, hm⟩ := bindE hm
      refine wcallg is_73 hs rfl hg5 rfl rfl (impl_within_any p1 0 20 _  h7) ?_; rintro a _ w hs ⟨rfl, hX⟩
      have hM : Mem W w [] := hM.call hX
      refine wlg hs rfl hg5 (y_not hs rfl) rfl ?_; intro a hs
      have hm : some (!y6) = some b3 := hm
      cases Option.some.inj hm
      refine wl hs (y_pickF hs rfl hg5 rfl) rfl ?_; intro a hs
      exact K _ _ (hs.sub ⟨rfl, rfl, rfl, trivial⟩) hM
  intro a w hs hM
  simp only [List.drop_succ_cons, List.drop_zero]
  refine wpList_nil ?_
  refine x_nt ?_
  refine x_cond hs rfl (fun hb => ?_) (fun hb => ?_)
  · replace hm := condT hb hm
    refine wp_seq ?_
    refine wp_region_lit ?_
    refine wl hs (y_assign hs rfl) rfl ?_; intro a hs
    refine wl hs (y_assign hs rfl) rfl ?_; intro a hs
    refine wpList_nil ?_
    refine x_nt ?_
    refine wp_ret ?_
    refine x_rt ?_
    have hm : some ([], false) = some r := hm
    obtain rfl := Option.some.inj hm
    refine x_ret2 rfl hs rfl rfl ⟨_, rfl, ?_⟩
    have hM := hM.nilM 28 3
    exact ⟨_, _, rfl, hM⟩
  · replace hm := condF hb hm
    refine wp_skip ?_
    refine x_nt ?_
    refine wp_seq ?_
    refine wp_region_lit ?_
    refine wl hs (y_move hs rfl) rfl ?_; intro a hs
    refine wl hs (y_len hu_M hs rfl (RdM.below hr_p0 hM.bel)) rfl ?_; intro a hs
    obtain ⟨y9, h10, hm⟩ := bindE hm
    refine wcall is_74 hs rfl rfl (impl_unit_any (p0.length : Int) _  h10) ?_; rintro a v11 w hs ⟨vs13, hX⟩
    have hM : Mem W w [aMat 28 3 v11 vs13 y9] := hM.call hX
    refine wl hs (y_assign hs rfl) rfl ?_; intro a hs
    refine wpList_nil ?_
    refine x_nt ?_
    refine wp_seq ?_
    refine wp_seq ?_
    refine wp_region_lit ?_
    refine wl hs (y_move hs rfl) rfl ?_; intro a hs
    refine wl hs (y_move hs rfl) rfl ?_; intro a hs
    refine wpList_nil ?_
    refine x_nt ?_
    obtain ⟨s23, hm, hk24⟩ := bindE hm
    refine x_mid (fun a w => ∃ (v20 : Value), ∃ (vs21 : List Value), ∃ (l22 : List (List Int)), Sum.inr l22 = s23 ∧ Fr a 29 [(6, v20)] ∧ Mem W w [aMat 28 3 v20 vs21 l22]) ?_ ?_
    · refine wp_block ?_
      obtain ⟨nck, hnck, hm⟩ := bindE hm
      refine x_loop (fun k a w => ∃ (q25 : Nat) (j19 : Nat) (v16 : Value) (vs17 : List Value) (l18 : List (List Int)) , q25 = k ∧ Fr a 29 [(0, v_p0), (6, v16), (18, .int .i64 p1), (19, .int .i64 (j19 : Int))] ∧ Mem W w [aMat 28 3 v16 vs17 l18] ∧ impl_PowerOfMatrix_l1 p0 q25 j19 l18 = some s23 ∧ (p1 - (j19 : Int)).toNat = q25) _ ⟨(p1 - (0 : Nat) : Int).toNat, 0, v11, vs13, y9, rfl, hs.sub ⟨rfl, rfl, rfl, rfl, trivial⟩, hM, hm, rfl⟩ ?_
      rintro k a w ⟨q25, j19, v16, vs17, l18, rfl, hs, hM, hm, hj⟩
      rcases q25 with _ | q25
      · rewrite [impl_PowerOfMatrix_l1] at hm
        refine wp_seq ?_
        refine wp_region_lit ?_
        refine wl hs (y_lss hs rfl rfl) rfl ?_; intro a hs
        refine wpList_nil ?_
        refine x_nt ?_
        refine wp_seq ?_
        refine x_condF hs rfl (cnt_f hj) ?_
        refine wp_exit ?_
        refine x_et ?_
        refine x_et ?_
        refine x_eb ?_
        have hm : some (Sum.inr l18) = some s23 := hm
        exact ⟨v16, vs17, l18, Option.some.inj hm, hs.sub ⟨rfl, trivial⟩, hM⟩
      · rewrite [impl_PowerOfMatrix_l1] at hm
        have hjs := cnt_succ hj hnck
        refine wp_seq ?_
        refine wp_region_lit ?_
        refine wl hs (y_lss hs rfl rfl) rfl ?_; intro a hs
        refine wpList_nil ?_
        refine x_nt ?_
        refine wp_seq ?_
        refine x_condT hs rfl (cnt_t hj) ?_
        refine wp_skip ?_
        refine x_nt ?_
        refine wp_seq ?_
        refine wp_block ?_
        refine wp_seq ?_
        refine wp_region_lit ?_
        refine wl hs (y_move hs rfl) rfl ?_; intro a hs
        refine wl hs (y_move hs rfl) rfl ?_; intro a hs
        obtain ⟨y26, h27, hm⟩ := bindE hm
        refine wcall is_70 hs rfl rfl (impl_multiplied_any v16 l18 v_p0 p0 _ (hM.rdM 0 rfl) (RdM.below hr_p0 hM.bel) h27) ?_; rintro a v28 w hs ⟨vs30, hX⟩
        have hM : Mem W w [aMat 28 3 v28 vs30 y26, aMat 28 3 v16 vs17 l18] := hM.call hX
        refine wl hs (y_assign hs rfl) rfl ?_; intro a hs
        refine wpList_nil ?_
        refine x_nt ?_
        refine wp_seq ?_
        refine wp_region_lit ?_
        refine wl hs (y_move hs rfl) rfl ?_; intro a hs
        obtain ⟨y31, h32, hm⟩ := bindE hm
        refine wcall is_52 hs rfl rfl (impl_isMatrix_any v28 y26 _ (hM.rdM 0 rfl) h32) ?_; rintro a _ w hs ⟨rfl, hX⟩
        have hM : Mem W w [aMat 28 3 v28 vs30 y26, aMat 28 3 v16 vs17 l18] := hM.call hX
        refine wl hs (y_not hs rfl) rfl ?_; intro a hs
        refine wpList_nil ?_
        refine x_nt ?_
        refine x_cond hs rfl (fun hb => ?_) (fun hb => ?_)
        · replace hm := condT hb hm
          refine wp_seq ?_
          refine wp_region_lit ?_
          refine wl hs (y_assign hs rfl) rfl ?_; intro a hs
          refine wl hs (y_assign hs rfl) rfl ?_; intro a hs
          refine wpList_nil ?_
          refine x_nt ?_
          refine wp_ret ?_
          refine x_rb ?_
          refine x_rt ?_
          refine x_rt ?_
          refine x_rb ?_
          refine x_rt ?_
          refine x_rt ?_
          have hm : some (Sum.inl ([], false)) = some s23 := hm
          cases Option.some.inj hm
          have hm := hk24
          have hm : some ([], false) = some r := hm
          obtain rfl := Option.some.inj hm
          refine x_ret2 rfl hs rfl rfl ⟨_, rfl, ?_⟩
          have hM := hM.nilM 28 3
          exact ⟨_, _, rfl, (hM.keep_ 1)⟩
        · replace hm := condF hb hm
          refine wp_skip ?_
          refine x_nb ?_
          refine x_nt ?_
          refine wp_region_lit ?_
          refine wl hs (y_add hs rfl rfl hjs) rfl ?_; intro a hs
          refine wl hs (y_move hs rfl) rfl ?_; intro a hs
          refine wpList_nil ?_
          exact ⟨_, Nat.lt_succ_self _, q25, j19 + 1, v28, vs30, y26, rfl, hs.sub ⟨rfl, rfl, rfl, rfl, trivial⟩, (hM.keep_ 1), hm, cnt_next hj⟩
    rintro a w ⟨v20, vs21, l22, rfl, hs, hM⟩
    have hm := hk24
    refine x_nt ?_
    refine wp_seq ?_
    refine wp_region_lit ?_
    refine wl hs (y_move hs rfl) rfl ?_; intro a hs
    refine wl hs (y_assign hs rfl) rfl ?_; intro a hs
    refine wl hs (y_assign hs rfl) rfl ?_; intro a hs
    refine wpList_nil ?_
    refine x_nt ?_
    refine wp_ret ?_
    have hm : some (l22, true) = some r := hm
    obtain rfl := Option.some.inj hm
    refine x_ret2 rfl hs rfl rfl ⟨_, rfl, ?_⟩
    exact ⟨_, _, rfl, hM⟩

end Go.Proofs.Ytjicdfplhenohaa
