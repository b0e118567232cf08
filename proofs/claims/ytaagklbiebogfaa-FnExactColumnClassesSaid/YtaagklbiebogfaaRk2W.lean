/- The code of this unit computes what its mirrors say. Written by program (wip/gen). -/
import Derived.Test.YtaagklbiebogfaaFacts
import Derived.Test.YtaagklbiebogfaaRk2M
import Derived.Test.YtaagklbiebogfaaNumW
import Derived.Test.YtaagklbiebogfaaMatW
import Derived.Test.YtaagklbiebogfaaRk1W
import Derived.Test.YtaagklbiebogfaaOwnW
namespace Go.Proofs.Ytaagklbiebogfaa
open Go.RowKit
set_option linter.unusedVariables false

set_option maxHeartbeats 4000000 in
theorem spec_RankOneParts_any (v_p0 : Value) (p0 : List (List Int)) (W : World) (hr_p0 : RdM W v_p0 p0) {r : (List Int) × (List Int) × Bool} (hm : spec_RankOneParts_m p0 = some r) : Calls Try.prog 16 [v_p0].toArray W fun e w => ∃ v, e = .returned v ∧ ∃ v0, ∃ v1, v = .tuple #[v0, v1, .bool r.2.2] ∧ Mem W w [aInts 3 v0 r.1, aInts 3 v1 r.2.1] := by
  refine x_enter Try.func16 rfl Try.ntmps16 rfl ?_
  intro a hs
  have hM := Mem.start W
  unfold spec_RankOneParts_m at hm
  refine wp_seq ?_
  refine wp_region_lit ?_
  refine wl hs (y_assign hs rfl) rfl ?_; intro a hs
  refine wl hs (y_assign hs rfl) rfl ?_; intro a hs
  refine wl hs (y_assign hs rfl) rfl ?_; intro a hs
  refine wpList_nil ?_
  refine x_nt ?_
  refine wp_seq ?_
  refine wp_seq ?_
  refine wp_region_lit ?_
  refine wl hs (y_move hs rfl) rfl ?_; intro a hs
  obtain ⟨y1, h2, hm⟩ := bindE hm
  refine wcall is_57 hs rfl rfl (spec_mxGood_any v_p0 p0 _ (RdM.below hr_p0 hM.bel) h2) ?_; rintro a _ w hs ⟨rfl, hX⟩
  have hM : Mem W w [] := hM.call hX
  refine wl hs (y_not hs rfl) rfl ?_; intro a hs
  refine wl hs (y_move hs rfl) rfl ?_; intro a hs
  obtain ⟨b3, hb4, hm⟩ := bindE hm
  refine wlguard (N := 53) (L' := [(18, .bool b3), (0, v_p0)]) (fun w => Mem W w []) 4 ?_ ?_
  · intro K; rcases Bool.eq_false_or_eq_true (!y1) with hg5 | hg5
    · have hm := condT hg5 hb4
      refine wls hs rfl hg5 rfl ?_; intro a hs
      refine wls hs rfl hg5 rfl ?_; intro a hs
      refine wls hs rfl hg5 rfl ?_; intro a hs
      have hm : some true = some b3 := hm
      cases Option.some.inj hm
      refine wl hs (y_pickT hs rfl hg5 rfl) rfl ?_; intro a hs
      exact K _ _ (hs.sub ⟨rfl, rfl, trivial⟩) hM
    · have hm := condF hg5 hb4
      refine wlg hs rfl hg5 (y_move hs rfl) rfl ?_; intro a hs
      obtain ⟨y6, h7, hm⟩ := bindE hm
      refine wcallg is_58 hs rfl hg5 rfl rfl (spec_rkOne_any v_p0 p0 _ (RdM.below hr_p0 hM.bel) h7) ?_; rintro a _ w hs ⟨rfl, hX⟩
      have hM : Mem W w [] := hM.call hX
      refine wlg hs rfl hg5 (y_not hs rfl) rfl ?_; intro a hs
      have hm : some (!y6) = some b3 := hm
      cases Option.some.inj hm
      refine wl hs (y_pickF hs rfl hg5 rfl) rfl ?_; intro a hs
      exact K _ _ (hs.sub ⟨rfl, rfl, trivial⟩) hM
  intro a w hs hM
  simp only [List.drop_succ_cons, List.drop_zero]
  refine wpList_nil ?_
  refine x_nt ?_
  refine x_cond hs rfl (fun hb => ?_) (fun hb => ?_)
  · replace hm := condT hb hm
    refine wp_seq ?_
    refine wp_region_lit ?_
    refine wl hs (y_assign hs rfl) rfl ?_; intro a hs
    refine wl hs (y_assign hs rfl) rfl ?_; intro a hs
    refine wl hs (y_assign hs rfl) rfl ?_; intro a hs
    refine wpList_nil ?_
    refine x_nt ?_
    refine wp_ret ?_
    refine x_rt ?_
    have hm : some ([], [], false) = some r := hm
    obtain rfl := Option.some.inj hm
    refine x_ret3 rfl hs rfl rfl rfl ⟨_, rfl, ?_⟩
    have hM := hM.nilI 3
    have hM := hM.nilI 3
    exact ⟨_, _, rfl, (hM.front 1 rfl)⟩
  · replace hm := condF hb hm
    refine wp_skip ?_
    refine x_nt ?_
    refine wp_seq ?_
    refine wp_region_lit ?_
    refine wl hs (y_assign hs rfl) rfl ?_; intro a hs
    have hM := hM.nilI 3
    refine wl hs (y_assign hs rfl) rfl ?_; intro a hs
    have hM := hM.nilI 3
    refine wpList_nil ?_
    refine x_nt ?_
    refine wp_seq ?_
    refine wp_seq ?_
    refine wp_region_lit ?_
    refine wl hs (y_move hs rfl) rfl ?_; intro a hs
    refine wl hs (y_len hu_M hs rfl (RdM.below hr_p0 hM.bel)) rfl ?_; intro a hs
    refine wl hs (y_move hs rfl) rfl ?_; intro a hs
    refine wpList_nil ?_
    refine x_nt ?_
    obtain ⟨s17, hm, hk18⟩ := bindE hm
    refine x_mid (fun a w => ∃ (v15 : Value), ∃ (l16 : List Int), l16 = s17 ∧ Fr a 53 [(0, v_p0), (5, v15), (6, (.slice none 0 0))] ∧ Mem W w [aInts 3 (.slice none 0 0) ([]), aInts 3 v15 l16]) ?_ ?_
    · refine wp_block ?_
      refine x_loop (fun k a w => ∃ (q19 : List (List Int)) (j12 : Nat) (v13 : Value) (l14 : List Int) , k = q19.length ∧ Fr a 53 [(0, v_p0), (5, v13), (6, (.slice none 0 0)), (19, v_p0), (20, .int .i64 (p0.length : Int)), (21, .int .i64 (j12 : Int))] ∧ Mem W w [aInts 3 (.slice none 0 0) ([]), aInts 3 v13 l14] ∧ spec_RankOneParts_l1 q19 j12 l14 = some s17 ∧ List.drop j12 p0 = q19) _ ⟨p0, 0, (.slice none 0 0), [], rfl, hs.sub ⟨rfl, rfl, rfl, rfl, rfl, rfl, trivial⟩, hM, hm, rfl⟩ ?_
      rintro k a w ⟨q19, j12, v13, l14, rfl, hs, hM, hm, hj12⟩
      rcases q19 with _ | ⟨x20, q19⟩
      · rewrite [spec_RankOneParts_l1] at hm
        refine wp_seq ?_
        refine wp_region_lit ?_
        refine wl hs (y_lss hs rfl rfl) rfl ?_; intro a hs
        refine wpList_nil ?_
        refine x_nt ?_
        refine wp_seq ?_
        refine x_condF hs rfl (drop_f hj12) ?_
        refine wp_exit ?_
        refine x_et ?_
        refine x_et ?_
        refine x_eb ?_
        have hm : some l14 = some s17 := hm
        exact ⟨v13, l14, Option.some.inj hm, hs.sub ⟨rfl, rfl, rfl, trivial⟩, hM⟩
      · rewrite [spec_RankOneParts_l1] at hm
        have hx21 := drop_idx hj12
        have hsj12 := ck_succ hj12 (RdS.len (RdM.below hr_p0 hM.bel))
        refine wp_seq ?_
        refine wp_region_lit ?_
        refine wl hs (y_lss hs rfl rfl) rfl ?_; intro a hs
        refine wpList_nil ?_
        refine x_nt ?_
        refine wp_seq ?_
        refine x_condT hs rfl (drop_t hj12) ?_
        refine wp_skip ?_
        refine x_nt ?_
        refine wp_seq ?_
        refine wp_block ?_
        refine wp_seq ?_
        refine wp_region_lit ?_
        obtain ⟨u23, he22, hr24⟩ := RdM.at_ hr_p0 hx21
        replace he22 := he22.below hM.bel
        refine wl hs (y_index ht_M hs rfl rfl he22) rfl ?_; intro a hs
        refine wl hs (y_load sc_I hs rfl he22.cell) rfl ?_; intro a hs
        refine wl hs (y_assign hs rfl) rfl ?_; intro a hs
        refine wpList_nil ?_
        refine x_nt ?_
        refine wp_region_lit ?_
        refine wl hs (y_move hs rfl) rfl ?_; intro a hs
        refine wl hs (y_move hs rfl) rfl ?_; intro a hs
        obtain ⟨x25, hx26, hm⟩ := bindE hm
        have he27 := RdI.at_ (RdI.below hr24 hM.bel) hx26
        refine wl hs (y_index ht_I hs rfl rfl he27) rfl ?_; intro a hs
        refine wl hs (y_load sc_int hs rfl he27.cell) rfl ?_; intro a hs
        obtain ⟨l28, h29, hm⟩ := bindE hm
        refine wappI hu_I he_int hs (hM.front 1 rfl) rfl rfl h29 rfl rfl rfl ?_; intro a v30 w u31 hs hM
        have hM : Mem W w [aInts 3 v30 l28, aInts 3 (.slice none 0 0) ([])] := hM
        refine wl hs (y_assign hs rfl) rfl ?_; intro a hs
        refine wpList_nil ?_
        refine x_nb ?_
        refine x_nt ?_
        refine wp_region_lit ?_
        refine wl hs (y_add hs rfl rfl hsj12) rfl ?_; intro a hs
        refine wl hs (y_move hs rfl) rfl ?_; intro a hs
        refine wpList_nil ?_
        exact ⟨_, by simp, q19, j12 + 1, v30, l28, rfl, hs.sub ⟨rfl, rfl, rfl, rfl, rfl, rfl, trivial⟩, (hM.front 1 rfl), hm, drop_next hj12⟩
    rintro a w ⟨v15, l16, rfl, hs, hM⟩
    have hm := hk18
    refine x_nt ?_
    refine wp_seq ?_
    refine wp_seq ?_
    refine wp_region_lit ?_
    refine wl hs (y_move hs rfl) rfl ?_; intro a hs
    obtain ⟨x32, hx33, hm⟩ := bindE hm
    obtain ⟨u35, he34, hr36⟩ := RdM.at_ hr_p0 hx33
    replace he34 := he34.below hM.bel
    refine wl hs (y_index ht_M hs rfl rfl he34) rfl ?_; intro a hs
    refine wl hs (y_load sc_I hs rfl he34.cell) rfl ?_; intro a hs
    refine wl hs (y_len hu_I hs rfl (RdI.below hr36 hM.bel)) rfl ?_; intro a hs
    refine wl hs (y_move hs rfl) rfl ?_; intro a hs
    refine wpList_nil ?_
    refine x_nt ?_
    obtain ⟨s42, hm, hk43⟩ := bindE hm
    refine x_mid (fun a w => ∃ (v40 : Value), ∃ (l41 : List Int), l41 = s42 ∧ Fr a 53 [(5, v15), (6, v40)] ∧ Mem W w [aInts 3 v40 l41, aInts 3 v15 l16]) ?_ ?_
    · refine wp_block ?_
      refine x_loop (fun k a w => ∃ (q44 : List Int) (j37 : Nat) (v38 : Value) (l39 : List Int) , k = q44.length ∧ Fr a 53 [(0, v_p0), (5, v15), (6, v38), (34, u35), (35, .int .i64 (x32.length : Int)), (36, .int .i64 (j37 : Int))] ∧ Mem W w [aInts 3 v38 l39, aInts 3 v15 l16] ∧ spec_RankOneParts_l2 x32 q44 j37 l39 = some s42 ∧ List.drop j37 x32 = q44) _ ⟨x32, 0, (.slice none 0 0), [], rfl, hs.sub ⟨rfl, rfl, rfl, rfl, rfl, rfl, trivial⟩, hM, hm, rfl⟩ ?_
      rintro k a w ⟨q44, j37, v38, l39, rfl, hs, hM, hm, hj37⟩
      rcases q44 with _ | ⟨x45, q44⟩
      · rewrite [spec_RankOneParts_l2] at hm
        refine wp_seq ?_
        refine wp_region_lit ?_
        refine wl hs (y_lss hs rfl rfl) rfl ?_; intro a hs
        refine wpList_nil ?_
        refine x_nt ?_
        refine wp_seq ?_
        refine x_condF hs rfl (drop_f hj37) ?_
        refine wp_exit ?_
        refine x_et ?_
        refine x_et ?_
        refine x_eb ?_
        have hm : some l39 = some s42 := hm
        exact ⟨v38, l39, Option.some.inj hm, hs.sub ⟨rfl, rfl, trivial⟩, hM⟩
      · rewrite [spec_RankOneParts_l2] at hm
        have hx46 := drop_idx hj37
        have hsj37 := ck_succ hj37 (RdS.len (RdI.below hr36 hM.bel))
        refine wp_seq ?_
        refine wp_region_lit ?_
        refine wl hs (y_lss hs rfl rfl) rfl ?_; intro a hs
        refine wpList_nil ?_
        refine x_nt ?_
        refine wp_seq ?_
        refine x_condT hs rfl (drop_t hj37) ?_
        refine wp_skip ?_
        refine x_nt ?_
        refine wp_seq ?_
        refine wp_block ?_
        refine wp_seq ?_
        refine wp_region_lit ?_
        have he47 := RdI.at_ (RdI.below hr36 hM.bel) hx46
        refine wl hs (y_index ht_I hs rfl rfl he47) rfl ?_; intro a hs
        refine wl hs (y_load sc_int hs rfl he47.cell) rfl ?_; intro a hs
        refine wl hs (y_assign hs rfl) rfl ?_; intro a hs
        refine wpList_nil ?_
        refine x_nt ?_
        refine wp_region_lit ?_
        refine wl hs (y_move hs rfl) rfl ?_; intro a hs
        refine wl hs (y_move hs rfl) rfl ?_; intro a hs
        refine wl hs (y_move hs rfl) rfl ?_; intro a hs
        obtain ⟨u49, he48, hr50⟩ := RdM.at_ hr_p0 hx33
        replace he48 := he48.below hM.bel
        refine wl hs (y_index ht_M hs rfl rfl he48) rfl ?_; intro a hs
        refine wl hs (y_load sc_I hs rfl he48.cell) rfl ?_; intro a hs
        obtain ⟨x51, hx52, hm⟩ := bindE hm
        have he53 := RdI.at_ (RdI.below hr50 hM.bel) hx52
        refine wl hs (y_index ht_I hs rfl rfl he53) rfl ?_; intro a hs
        refine wl hs (y_load sc_int hs rfl he53.cell) rfl ?_; intro a hs
        obtain ⟨n54, h55, hm⟩ := bindE hm
        refine wl hs (y_sub hs rfl rfl h55) rfl ?_; intro a hs
        obtain ⟨l56, h57, hm⟩ := bindE hm
        refine wappI hu_I he_int hs hM rfl rfl h57 rfl rfl rfl ?_; intro a v58 w u59 hs hM
        have hM : Mem W w [aInts 3 v58 l56, aInts 3 v15 l16] := hM
        refine wl hs (y_assign hs rfl) rfl ?_; intro a hs
        refine wpList_nil ?_
        refine x_nb ?_
        refine x_nt ?_
        refine wp_region_lit ?_
        refine wl hs (y_add hs rfl rfl hsj37) rfl ?_; intro a hs
        refine wl hs (y_move hs rfl) rfl ?_; intro a hs
        refine wpList_nil ?_
        exact ⟨_, by simp, q44, j37 + 1, v58, l56, rfl, hs.sub ⟨rfl, rfl, rfl, rfl, rfl, rfl, trivial⟩, hM, hm, drop_next hj37⟩
    rintro a w ⟨v40, l41, rfl, hs, hM⟩
    have hm := hk43
    refine x_nt ?_
    refine wp_seq ?_
    refine wp_region_lit ?_
    refine wl hs (y_move hs rfl) rfl ?_; intro a hs
    refine wl hs (y_move hs rfl) rfl ?_; intro a hs
    refine wl hs (y_assign hs rfl) rfl ?_; intro a hs
    refine wl hs (y_assign hs rfl) rfl ?_; intro a hs
    refine wl hs (y_assign hs rfl) rfl ?_; intro a hs
    refine wpList_nil ?_
    refine x_nt ?_
    refine wp_ret ?_
    have hm : some (l16, l41, true) = some r := hm
    obtain rfl := Option.some.inj hm
    refine x_ret3 rfl hs rfl rfl rfl ⟨_, rfl, ?_⟩
    exact ⟨_, _, rfl, (hM.front 1 rfl)⟩

theorem impl_RankOneParts_any (v_p0 : Value) (p0 : List (List Int)) (W : World) (hr_p0 : RdM W v_p0 p0) {r : (List Int) × (List Int) × Bool} (hm : impl_RankOneParts_m p0 = some r) : Calls Try.prog 18 [v_p0].toArray W fun e w => ∃ v, e = .returned v ∧ ∃ v0, ∃ v1, v = .tuple #[v0, v1, .bool r.2.2] ∧ Mem W w [aInts 3 v0 r.1, aInts 3 v1 r.2.1] := by
  refine x_enter Try.func18 rfl Try.ntmps18 rfl ?_
  intro a hs
  have hM := Mem.start W
  unfold impl_RankOneParts_m at hm
  refine wp_seq ?_
  refine wp_region_lit ?_
  refine wl hs (y_assign hs rfl) rfl ?_; intro a hs
  refine wl hs (y_assign hs rfl) rfl ?_; intro a hs
  refine wl hs (y_assign hs rfl) rfl ?_; intro a hs
  refine wpList_nil ?_
  refine x_nt ?_
  refine wp_seq ?_
  refine wp_seq ?_
  refine wp_region_lit ?_
  refine wl hs (y_move hs rfl) rfl ?_; intro a hs
  obtain ⟨y1, h2, hm⟩ := bindE hm
  refine wcall is_59 hs rfl rfl (impl_isMatrix_any v_p0 p0 _ (RdM.below hr_p0 hM.bel) h2) ?_; rintro a _ w hs ⟨rfl, hX⟩
  have hM : Mem W w [] := hM.call hX
  refine wl hs (y_not hs rfl) rfl ?_; intro a hs
  refine wl hs (y_move hs rfl) rfl ?_; intro a hs
  obtain ⟨b3, hb4, hm⟩ := bindE hm
  refine wlguard (N := 28) (L' := [(12, .bool b3), (0, v_p0)]) (fun w => Mem W w []) 4 ?_ ?_
  · intro K; rcases Bool.eq_false_or_eq_true (!y1) with hg5 | hg5
    · have hm := condT hg5 hb4
      refine wls hs rfl hg5 rfl ?_; intro a hs
      refine wls hs rfl hg5 rfl ?_; intro a hs
      refine wls hs rfl hg5 rfl ?_; intro a hs
      have hm : some true = some b3 := hm
      cases Option.some.inj hm
      refine wl hs (y_pickT hs rfl hg5 rfl) rfl ?_; intro a hs
      exact K _ _ (hs.sub ⟨rfl, rfl, trivial⟩) hM
    · have hm := condF hg5 hb4
      refine wlg hs rfl hg5 (y_move hs rfl) rfl ?_; intro a hs
      obtain ⟨y6, h7, hm⟩ := bindE hm
      refine wcallg is_60 hs rfl hg5 rfl rfl (impl_isRankOne_any v_p0 p0 _ (RdM.below hr_p0 hM.bel) h7) ?_; rintro a _ w hs ⟨rfl, hX⟩
      have hM : Mem W w [] := hM.call hX
      refine wlg hs rfl hg5 (y_not hs rfl) rfl ?_; intro a hs
      have hm : some (!y6) = some b3 := hm
      cases Option.some.inj hm
      refine wl hs (y_pickF hs rfl hg5 rfl) rfl ?_; intro a hs
      exact K _ _ (hs.sub ⟨rfl, rfl, trivial⟩) hM
  intro a w hs hM
  simp only [List.drop_succ_cons, List.drop_zero]
  refine wpList_nil ?_
  refine x_nt ?_
  refine x_cond hs rfl (fun hb => ?_) (fun hb => ?_)
  · replace hm := condT hb hm
    refine wp_seq ?_
    refine wp_region_lit ?_
    refine wl hs (y_assign hs rfl) rfl ?_; intro a hs
    refine wl hs (y_assign hs rfl) rfl ?_; intro a hs
    refine wl hs (y_assign hs rfl) rfl ?_; intro a hs
    refine wpList_nil ?_
    refine x_nt ?_
    refine wp_ret ?_
    refine x_rt ?_
    have hm : some ([], [], false) = some r := hm
    obtain rfl := Option.some.inj hm
    refine x_ret3 rfl hs rfl rfl rfl ⟨_, rfl, ?_⟩
    have hM := hM.nilI 3
    have hM := hM.nilI 3
    exact ⟨_, _, rfl, (hM.front 1 rfl)⟩
  · replace hm := condF hb hm
    refine wp_skip ?_
    refine x_nt ?_
    refine wp_seq ?_
    refine wc_start hmix [0, 5, 6, 7, 8, 9, 10, 11, 12, 13] (fun w => Mem W w []) (by rfl) ?_
    refine wc (i := 0) (fuel := 17) rfl (by kernel_rfl) (fun w w2 hS hE => hS.quiet hE) hM hs (fun w1 hS => y_move hs rfl) rfl ?_; intro a hs
    refine wc (i := 5) (fuel := 16) rfl (by kernel_rfl) (fun w w2 hS hE => hS.quiet hE) hM hs (fun w1 hS => y_move hs rfl) rfl ?_; intro a hs
    obtain ⟨x10, hx11, hm⟩ := bindE hm
    obtain ⟨u13, he12, hr14⟩ := RdM.at_ hr_p0 hx11
    have he15 := fun (w1 : World) (hS : Mem W w1 []) => he12.below hS.bel
    refine wc (i := 6) (fuel := 15) rfl (by kernel_rfl) (fun w w2 hS hE => hS.quiet hE) hM hs (fun w1 hS => y_index ht_M hs rfl rfl (he15 w1 hS)) rfl ?_; intro a hs
    refine wc (i := 7) (fuel := 14) rfl (by kernel_rfl) (fun w w2 hS hE => hS.quiet hE) hM hs (fun w1 hS => y_load sc_I hs rfl (he15 w1 hS).cell) rfl ?_; intro a hs
    refine wc (i := 8) (fuel := 13) rfl (by kernel_rfl) (fun w w2 hS hE => hS.quiet hE) hM hs (fun w1 hS => y_move hs rfl) rfl ?_; intro a hs
    obtain ⟨u17, he16, hr18⟩ := RdM.at_ hr_p0 hx11
    have he19 := fun (w1 : World) (hS : Mem W w1 []) => he16.below hS.bel
    refine wc (i := 9) (fuel := 12) rfl (by kernel_rfl) (fun w w2 hS hE => hS.quiet hE) hM hs (fun w1 hS => y_index ht_M hs rfl rfl (he19 w1 hS)) rfl ?_; intro a hs
    refine wc (i := 10) (fuel := 11) rfl (by kernel_rfl) (fun w w2 hS hE => hS.quiet hE) hM hs (fun w1 hS => y_load sc_I hs rfl (he19 w1 hS).cell) rfl ?_; intro a hs
    obtain ⟨x20, hx21, hm⟩ := bindE hm
    have he22 := fun (w1 : World) (hS : Mem W w1 []) => RdI.at_ (RdI.below hr18 hS.bel) hx21
    refine wc (i := 11) (fuel := 10) rfl (by kernel_rfl) (fun w w2 hS hE => hS.quiet hE) hM hs (fun w1 hS => y_index ht_I hs rfl rfl (he22 w1 hS)) rfl ?_; intro a hs
    refine wc (i := 12) (fuel := 9) rfl (by kernel_rfl) (fun w w2 hS hE => hS.quiet hE) hM hs (fun w1 hS => y_load sc_int hs rfl (he22 w1 hS).cell) rfl ?_; intro a hs
    obtain ⟨n23, h24, hm⟩ := bindE hm
    refine wc (i := 13) (fuel := 8) rfl (by kernel_rfl) (fun w w2 hS hE => hS.quiet hE) hM hs (fun w1 hS => y_neg hs rfl h24) rfl ?_; intro a hs
    refine wc_oneS (fuel := 7) 1 rfl (by kernel_rfl) ?_
    intro w hw
    replace hM := hM.quiet hw
    obtain ⟨y25, h26, hm⟩ := bindE hm
    refine wcall is_62 hs rfl rfl (impl_transposed_any v_p0 p0 _ (RdM.below hr_p0 hM.bel) h26) ?_; rintro a v27 w hs ⟨vs29, hX⟩
    have hM : Mem W w [aMat 24 3 v27 vs29 y25] := hM.call hX
    refine on_nil ⟨hM.none_, ?_⟩
    refine wc_oneS (fuel := 6) 2 rfl (by kernel_rfl) ?_
    intro w hw
    replace hM := hM.quiet hw
    obtain ⟨x30, hx31, hm⟩ := bindE hm
    obtain ⟨u33, hv34, he32⟩ := hM.atM 0 rfl hx31
    refine wl hs (y_index ht_M hs rfl rfl he32) rfl ?_; intro a hs
    refine on_nil ⟨hM.none_, ?_⟩
    refine wc_oneS (fuel := 5) 3 rfl (by kernel_rfl) ?_
    intro w hw
    replace hM := hM.quiet hw
    replace he32 := he32.below hw
    refine wl hs (y_load sc_I hs rfl he32.cell) rfl ?_; intro a hs
    refine on_nil ⟨hM.none_, ?_⟩
    refine wc_oneS (fuel := 4) 4 rfl (by kernel_rfl) ?_
    intro w hw
    replace hM := hM.quiet hw
    obtain ⟨y35, h36, hm⟩ := bindE hm
    refine wcall is_61 hs rfl rfl (slices_Clone_int_int_any u33 x30 _ (hM.rdRow 0 rfl rfl hv34 (idx_spec hx31).2.2) h36) ?_; rintro a v37 w hs hX
    have hM : Mem W w [aInts 3 v37 y35, aMat 24 3 v27 vs29 y25] := hM.call hX
    refine on_nil ⟨hM.none_, ?_⟩
    refine wc_one (fuel := 3) 14 rfl (by kernel_rfl) ?_
    intro w hw
    replace hM := hM.quiet hw
    obtain ⟨y39, h40, hm⟩ := bindE hm
    refine wcall is_63 hs rfl rfl (impl_shifted_any u13 x10 n23 _ (RdI.below hr14 hM.bel) h40) ?_; rintro a v41 w hs hX
    have hM : Mem W w [aInts 3 v41 y39, aInts 3 v37 y35, aMat 24 3 v27 vs29 y25] := hM.call hX
    refine on_nil ?_
    refine wc_one (fuel := 2) 15 rfl (by kernel_rfl) ?_
    intro w hw
    replace hM := hM.quiet hw
    refine wl hs (y_assign hs rfl) rfl ?_; intro a hs
    refine on_nil ?_
    refine wc_one (fuel := 1) 16 rfl (by kernel_rfl) ?_
    intro w hw
    replace hM := hM.quiet hw
    refine wl hs (y_assign hs rfl) rfl ?_; intro a hs
    refine on_nil ?_
    refine wc_one (fuel := 0) 17 rfl (by kernel_rfl) ?_
    intro w hw
    replace hM := hM.quiet hw
    refine wl hs (y_assign hs rfl) rfl ?_; intro a hs
    refine on_nil ?_
    refine wc_done (by kernel_rfl) ?_
    intro w hw
    replace hM := hM.quiet hw
    refine x_nt ?_
    refine wp_ret ?_
    have hm : some (y35, y39, true) = some r := hm
    obtain rfl := Option.some.inj hm
    refine x_ret3 rfl hs rfl rfl rfl ⟨_, rfl, ?_⟩
    exact ⟨_, _, rfl, ((hM.front 2 rfl).drop.front 1 rfl)⟩

set_option maxHeartbeats 4000000 in
theorem spec_l1Rising_any (v_p0 : Value) (p0 : List Int) (p1 : Int) (p2 : Int) (W : World) (hr_p0 : RdI W v_p0 p0) {r : Bool} (hm : spec_l1Rising_m p0 p1 p2 = some r) : Calls Try.prog 64 [v_p0, .int .i64 p1, .int .i64 p2].toArray W fun e w => ∃ v, e = .returned v ∧ v = .bool r ∧ Mem W w [] := by
  refine x_enter Try.func64 rfl Try.ntmps64 rfl ?_
  intro a hs
  have hM := Mem.start W
  unfold spec_l1Rising_m at hm
  refine wp_seq ?_
  refine wp_region_lit ?_
  refine wl hs (y_assign hs rfl) rfl ?_; intro a hs
  refine wpList_nil ?_
  refine x_nt ?_
  refine wp_seq ?_
  refine wp_seq ?_
  refine wp_region_lit ?_
  refine wl hs (y_move hs rfl) rfl ?_; intro a hs
  refine wl hs (y_len hu_I hs rfl (RdI.below hr_p0 hM.bel)) rfl ?_; intro a hs
  refine wl hs (y_move hs rfl) rfl ?_; intro a hs
  refine wpList_nil ?_
  refine x_nt ?_
  obtain ⟨s2, hm, hk3⟩ := bindE hm
  refine x_mid (fun a w => Sum.inr () = s2 ∧ Fr a 35 [] ∧ Mem W w []) ?_ ?_
  · refine wp_block ?_
    refine x_loop (fun k a w => ∃ (q4 : List Int) (j1 : Nat) , k = q4.length ∧ Fr a 35 [(0, v_p0), (1, .int .i64 p1), (2, .int .i64 p2), (9, v_p0), (10, .int .i64 (p0.length : Int)), (11, .int .i64 (j1 : Int))] ∧ Mem W w [] ∧ spec_l1Rising_l1 p0 p1 p2 q4 j1 = some s2 ∧ List.drop j1 p0 = q4) _ ⟨p0, 0, rfl, hs.sub ⟨rfl, rfl, rfl, rfl, rfl, rfl, trivial⟩, hM, hm, rfl⟩ ?_
    rintro k a w ⟨q4, j1, rfl, hs, hM, hm, hj1⟩
    rcases q4 with _ | ⟨x5, q4⟩
    · rewrite [spec_l1Rising_l1] at hm
      refine wp_seq ?_
      refine wp_region_lit ?_
      refine wl hs (y_lss hs rfl rfl) rfl ?_; intro a hs
      refine wpList_nil ?_
      refine x_nt ?_
      refine wp_seq ?_
      refine x_condF hs rfl (drop_f hj1) ?_
      refine wp_exit ?_
      refine x_et ?_
      refine x_et ?_
      refine x_eb ?_
      have hm : some (Sum.inr ()) = some s2 := hm
      exact ⟨Option.some.inj hm, hs.sub trivial, hM⟩
    · rewrite [spec_l1Rising_l1] at hm
      have hx6 := drop_idx hj1
      have hsj1 := ck_succ hj1 (RdS.len (RdI.below hr_p0 hM.bel))
      refine wp_seq ?_
      refine wp_region_lit ?_
      refine wl hs (y_lss hs rfl rfl) rfl ?_; intro a hs
      refine wpList_nil ?_
      refine x_nt ?_
      refine wp_seq ?_
      refine x_condT hs rfl (drop_t hj1) ?_
      refine wp_skip ?_
      refine x_nt ?_
      refine wp_seq ?_
      refine wp_block ?_
      refine wp_seq ?_
      refine wp_region_lit ?_
      refine wl hs (y_move hs rfl) rfl ?_; intro a hs
      have he7 := RdI.at_ (RdI.below hr_p0 hM.bel) hx6
      refine wl hs (y_index ht_I hs rfl rfl he7) rfl ?_; intro a hs
      refine wl hs (y_load sc_int hs rfl he7.cell) rfl ?_; intro a hs
      refine wl hs (y_assign hs rfl) rfl ?_; intro a hs
      refine wl hs (y_assign hs rfl) rfl ?_; intro a hs
      refine wpList_nil ?_
      refine x_nt ?_
      refine wp_seq ?_
      refine wp_region_lit ?_
      refine wl hs (y_move hs rfl) rfl ?_; intro a hs
      refine wl hs (y_move hs rfl) rfl ?_; intro a hs
      refine wl hs (y_move hs rfl) rfl ?_; intro a hs
      obtain ⟨y8, h9, hm⟩ := bindE hm
      refine wcall is_74 hs rfl rfl (spec_l1In_any x5 p1 p2 _  h9) ?_; rintro a _ w hs ⟨rfl, hX⟩
      have hM : Mem W w [] := hM.call hX
      refine wl hs (y_not hs rfl) rfl ?_; intro a hs
      refine wl hs (y_move hs rfl) rfl ?_; intro a hs
      obtain ⟨b10, hb11, hm⟩ := bindE hm
      refine wlguard (N := 35) (L' := [(33, .bool b10), (0, v_p0), (1, .int .i64 p1), (2, .int .i64 p2), (9, v_p0), (10, .int .i64 (p0.length : Int)), (11, .int .i64 (j1 : Int))]) (fun w => Mem W w []) 12 ?_ ?_
      · intro K; rcases Bool.eq_false_or_eq_true (!y8) with hg12 | hg12
        · have hm := condT hg12 hb11
          refine wls hs rfl hg12 rfl ?_; intro a hs
          refine wls hs rfl hg12 rfl ?_; intro a hs
          refine wls hs rfl hg12 rfl ?_; intro a hs
          refine wlu hs rfl rfl ?_; intro a hs
          refine wlu hs rfl rfl ?_; intro a hs
          refine wlu hs rfl rfl ?_; intro a hs
          refine wlu hs rfl rfl ?_; intro a hs
          refine wlu hs rfl rfl ?_; intro a hs
          refine wlu hs rfl rfl ?_; intro a hs
          refine wlu hs rfl rfl ?_; intro a hs
          refine wls hs rfl hg12 rfl ?_; intro a hs
          have hm : some true = some b10 := hm
          cases Option.some.inj hm
          refine wl hs (y_pickT hs rfl hg12 rfl) rfl ?_; intro a hs
          exact K _ _ (hs.sub ⟨rfl, rfl, rfl, rfl, rfl, rfl, rfl, trivial⟩) hM
        · have hm := condF hg12 hb11
          refine wlg hs rfl hg12 (y_move hs rfl) rfl ?_; intro a hs
          refine wlg hs rfl hg12 (y_gtr hs rfl rfl) rfl ?_; intro a hs
          refine wlg hs rfl hg12 (y_move hs rfl) rfl ?_; intro a hs
          obtain ⟨b13, hb14, hm⟩ := bindE hm
          refine wlguard (N := 35) (L' := [(32, .bool b13), (0, v_p0), (1, .int .i64 p1), (2, .int .i64 p2), (9, v_p0), (10, .int .i64 (p0.length : Int)), (11, .int .i64 (j1 : Int)), (21, .bool (!y8))]) (fun w => Mem W w []) 8 ?_ ?_
          · intro K; rcases Bool.eq_false_or_eq_true (decide ((j1 : Int) > 0)) with hg15 | hg15
            · have hm := condT hg15 hb14
              refine wlg hs rfl hg15 (y_move hs rfl) rfl ?_; intro a hs
              refine wlg hs rfl hg15 (y_move hs rfl) rfl ?_; intro a hs
              obtain ⟨n16, h17, hm⟩ := bindE hm
              refine wlg hs rfl hg15 (y_sub hs rfl rfl h17) rfl ?_; intro a hs
              obtain ⟨x18, hx19, hm⟩ := bindE hm
              have he20 := RdI.at_ (RdI.below hr_p0 hM.bel) hx19
              refine wlg hs rfl hg15 (y_index ht_I hs rfl rfl he20) rfl ?_; intro a hs
              refine wlg hs rfl hg15 (y_load sc_int hs rfl he20.cell) rfl ?_; intro a hs
              refine wlg hs rfl hg15 (y_move hs rfl) rfl ?_; intro a hs
              refine wlg hs rfl hg15 (y_geq hs rfl rfl) rfl ?_; intro a hs
              have hm : some (decide (x18 ≥ x5)) = some b13 := hm
              cases Option.some.inj hm
              refine wlg hs rfl hg12 (y_pickT hs rfl hg15 rfl) rfl ?_; intro a hs
              exact K _ _ (hs.sub ⟨rfl, rfl, rfl, rfl, rfl, rfl, rfl, rfl, trivial⟩) hM
            · have hm := condF hg15 hb14
              refine wls hs rfl hg15 rfl ?_; intro a hs
              refine wls hs rfl hg15 rfl ?_; intro a hs
              refine wls hs rfl hg15 rfl ?_; intro a hs
              refine wls hs rfl hg15 rfl ?_; intro a hs
              refine wls hs rfl hg15 rfl ?_; intro a hs
              refine wls hs rfl hg15 rfl ?_; intro a hs
              refine wls hs rfl hg15 rfl ?_; intro a hs
              have hm : some false = some b13 := hm
              cases Option.some.inj hm
              refine wlg hs rfl hg12 (y_pickF hs rfl hg15 rfl) rfl ?_; intro a hs
              exact K _ _ (hs.sub ⟨rfl, rfl, rfl, rfl, rfl, rfl, rfl, rfl, trivial⟩) hM
          intro a w hs hM
          simp only [List.drop_succ_cons, List.drop_zero]
          have hm : some b13 = some b10 := hm
          cases Option.some.inj hm
          refine wl hs (y_pickF hs rfl hg12 rfl) rfl ?_; intro a hs
          exact K _ _ (hs.sub ⟨rfl, rfl, rfl, rfl, rfl, rfl, rfl, trivial⟩) hM
      intro a w hs hM
      simp only [List.drop_succ_cons, List.drop_zero]
      refine wpList_nil ?_
      refine x_nt ?_
      refine x_cond hs rfl (fun hb => ?_) (fun hb => ?_)
      · replace hm := condT hb hm
        refine wp_seq ?_
        refine wp_region_lit ?_
        refine wl hs (y_assign hs rfl) rfl ?_; intro a hs
        refine wpList_nil ?_
        refine x_nt ?_
        refine wp_ret ?_
        refine x_rb ?_
        refine x_rt ?_
        refine x_rt ?_
        refine x_rb ?_
        refine x_rt ?_
        refine x_rt ?_
        have hm : some (Sum.inl false) = some s2 := hm
        cases Option.some.inj hm
        have hm := hk3
        have hm : some false = some r := hm
        obtain rfl := Option.some.inj hm
        refine x_ret1 rfl hs rfl ⟨_, rfl, ?_⟩
        exact ⟨rfl, hM⟩
      · replace hm := condF hb hm
        refine wp_skip ?_
        refine x_nb ?_
        refine x_nt ?_
        refine wp_region_lit ?_
        refine wl hs (y_add hs rfl rfl hsj1) rfl ?_; intro a hs
        refine wl hs (y_move hs rfl) rfl ?_; intro a hs
        refine wpList_nil ?_
        exact ⟨_, by simp, q4, j1 + 1, rfl, hs.sub ⟨rfl, rfl, rfl, rfl, rfl, rfl, trivial⟩, hM, hm, drop_next hj1⟩
  rintro a w ⟨rfl, hs, hM⟩
  have hm := hk3
  refine x_nt ?_
  refine wp_seq ?_
  refine wp_region_lit ?_
  refine wl hs (y_assign hs rfl) rfl ?_; intro a hs
  refine wpList_nil ?_
  refine x_nt ?_
  refine wp_ret ?_
  have hm : some true = some r := hm
  obtain rfl := Option.some.inj hm
  refine x_ret1 rfl hs rfl ⟨_, rfl, ?_⟩
  exact ⟨rfl, hM⟩

set_option maxHeartbeats 4000000 in
theorem spec_rkPart_any (v_p0 : Value) (p0 : List (List Int)) (v_p1 : Value) (p1 : List Int) (v_p2 : Value) (p2 : List Int) (W : World) (hr_p0 : RdM W v_p0 p0) (hr_p1 : RdI W v_p1 p1) (hr_p2 : RdI W v_p2 p2) {r : List (List Int)} (hm : spec_rkPart_m p0 p1 p2 = some r) : Calls Try.prog 65 [v_p0, v_p1, v_p2].toArray W fun e w => ∃ v, e = .returned v ∧ ∃ vs0, Mem W w [aMat 24 3 v vs0 r] := by
  refine x_enter Try.func65 rfl Try.ntmps65 rfl ?_
  intro a hs
  have hM := Mem.start W
  unfold spec_rkPart_m at hm
  refine wp_seq ?_
  refine wp_region_lit ?_
  refine wl hs (y_assign hs rfl) rfl ?_; intro a hs
  refine wpList_nil ?_
  refine x_nt ?_
  refine wp_seq ?_
  refine wp_region_lit ?_
  refine wl hs (y_assign hs rfl) rfl ?_; intro a hs
  have hM := hM.nilM 24 3
  refine wpList_nil ?_
  refine x_nt ?_
  refine wp_seq ?_
  refine wp_seq ?_
  refine wp_region_lit ?_
  refine wl hs (y_move hs rfl) rfl ?_; intro a hs
  refine wl hs (y_len hu_I hs rfl (RdI.below hr_p1 hM.bel)) rfl ?_; intro a hs
  refine wl hs (y_move hs rfl) rfl ?_; intro a hs
  refine wpList_nil ?_
  refine x_nt ?_
  obtain ⟨s9, hm, hk10⟩ := bindE hm
  refine x_mid (fun a w => ∃ (v6 : Value), ∃ (vs7 : List Value), ∃ (l8 : List (List Int)), l8 = s9 ∧ Fr a 42 [(7, v6)] ∧ Mem W w [aMat 24 3 v6 vs7 l8]) ?_ ?_
  · refine wp_block ?_
    refine x_loop (fun k a w => ∃ (q11 : List Int) (j2 : Nat) (v3 : Value) (vs4 : List Value) (l5 : List (List Int)) , k = q11.length ∧ Fr a 42 [(0, v_p0), (2, v_p2), (7, v3), (13, v_p1), (14, .int .i64 (p1.length : Int)), (15, .int .i64 (j2 : Int))] ∧ Mem W w [aMat 24 3 v3 vs4 l5] ∧ spec_rkPart_l1 p0 p2 q11 j2 l5 = some s9 ∧ List.drop j2 p1 = q11) _ ⟨p1, 0, (.slice none 0 0), [], [], rfl, hs.sub ⟨rfl, rfl, rfl, rfl, rfl, rfl, trivial⟩, hM, hm, rfl⟩ ?_
    rintro k a w ⟨q11, j2, v3, vs4, l5, rfl, hs, hM, hm, hj2⟩
    rcases q11 with _ | ⟨x12, q11⟩
    · rewrite [spec_rkPart_l1] at hm
      refine wp_seq ?_
      refine wp_region_lit ?_
      refine wl hs (y_lss hs rfl rfl) rfl ?_; intro a hs
      refine wpList_nil ?_
      refine x_nt ?_
      refine wp_seq ?_
      refine x_condF hs rfl (drop_f hj2) ?_
      refine wp_exit ?_
      refine x_et ?_
      refine x_et ?_
      refine x_eb ?_
      have hm : some l5 = some s9 := hm
      exact ⟨v3, vs4, l5, Option.some.inj hm, hs.sub ⟨rfl, trivial⟩, hM⟩
    · rewrite [spec_rkPart_l1] at hm
      have hx13 := drop_idx hj2
      have hsj2 := ck_succ hj2 (RdS.len (RdI.below hr_p1 hM.bel))
      refine wp_seq ?_
      refine wp_region_lit ?_
      refine wl hs (y_lss hs rfl rfl) rfl ?_; intro a hs
      refine wpList_nil ?_
      refine x_nt ?_
      refine wp_seq ?_
      refine x_condT hs rfl (drop_t hj2) ?_
      refine wp_skip ?_
      refine x_nt ?_
      refine wp_seq ?_
      refine wp_block ?_
      refine wp_seq ?_
      refine wp_region_lit ?_
      have he14 := RdI.at_ (RdI.below hr_p1 hM.bel) hx13
      refine wl hs (y_index ht_I hs rfl rfl he14) rfl ?_; intro a hs
      refine wl hs (y_load sc_int hs rfl he14.cell) rfl ?_; intro a hs
      refine wl hs (y_assign hs rfl) rfl ?_; intro a hs
      refine wpList_nil ?_
      refine x_nt ?_
      refine wp_seq ?_
      refine wp_region_lit ?_
      refine wl hs (y_assign hs rfl) rfl ?_; intro a hs
      have hM := hM.nilI 3
      refine wpList_nil ?_
      refine x_nt ?_
      refine wp_seq ?_
      refine wp_seq ?_
      refine wp_region_lit ?_
      refine wl hs (y_move hs rfl) rfl ?_; intro a hs
      refine wl hs (y_len hu_I hs rfl (RdI.below hr_p2 hM.bel)) rfl ?_; intro a hs
      refine wl hs (y_move hs rfl) rfl ?_; intro a hs
      refine wpList_nil ?_
      refine x_nt ?_
      obtain ⟨s21, hm, hk22⟩ := bindE hm
      refine x_mid (fun a w => ∃ (v19 : Value), ∃ (l20 : List Int), l20 = s21 ∧ Fr a 42 [(0, v_p0), (2, v_p2), (7, v3), (10, v19), (13, v_p1), (14, .int .i64 (p1.length : Int)), (15, .int .i64 (j2 : Int))] ∧ Mem W w [aInts 3 v19 l20, aMat 24 3 v3 vs4 l5]) ?_ ?_
      · refine wp_block ?_
        refine x_loop (fun k a w => ∃ (q23 : List Int) (j16 : Nat) (v17 : Value) (l18 : List Int) , k = q23.length ∧ Fr a 42 [(0, v_p0), (2, v_p2), (7, v3), (9, .int .i64 x12), (10, v17), (13, v_p1), (14, .int .i64 (p1.length : Int)), (15, .int .i64 (j2 : Int)), (19, v_p2), (20, .int .i64 (p2.length : Int)), (21, .int .i64 (j16 : Int))] ∧ Mem W w [aInts 3 v17 l18, aMat 24 3 v3 vs4 l5] ∧ spec_rkPart_l2 p0 x12 q23 j16 l18 = some s21 ∧ List.drop j16 p2 = q23) _ ⟨p2, 0, (.slice none 0 0), [], rfl, hs.sub ⟨rfl, rfl, rfl, rfl, rfl, rfl, rfl, rfl, rfl, rfl, rfl, trivial⟩, hM, hm, rfl⟩ ?_
        rintro k a w ⟨q23, j16, v17, l18, rfl, hs, hM, hm, hj16⟩
        rcases q23 with _ | ⟨x24, q23⟩
        · rewrite [spec_rkPart_l2] at hm
          refine wp_seq ?_
          refine wp_region_lit ?_
          refine wl hs (y_lss hs rfl rfl) rfl ?_; intro a hs
          refine wpList_nil ?_
          refine x_nt ?_
          refine wp_seq ?_
          refine x_condF hs rfl (drop_f hj16) ?_
          refine wp_exit ?_
          refine x_et ?_
          refine x_et ?_
          refine x_eb ?_
          have hm : some l18 = some s21 := hm
          exact ⟨v17, l18, Option.some.inj hm, hs.sub ⟨rfl, rfl, rfl, rfl, rfl, rfl, rfl, trivial⟩, hM⟩
        · rewrite [spec_rkPart_l2] at hm
          have hx25 := drop_idx hj16
          have hsj16 := ck_succ hj16 (RdS.len (RdI.below hr_p2 hM.bel))
          refine wp_seq ?_
          refine wp_region_lit ?_
          refine wl hs (y_lss hs rfl rfl) rfl ?_; intro a hs
          refine wpList_nil ?_
          refine x_nt ?_
          refine wp_seq ?_
          refine x_condT hs rfl (drop_t hj16) ?_
          refine wp_skip ?_
          refine x_nt ?_
          refine wp_seq ?_
          refine wp_block ?_
          refine wp_seq ?_
          refine wp_region_lit ?_
          have he26 := RdI.at_ (RdI.below hr_p2 hM.bel) hx25
          refine wl hs (y_index ht_I hs rfl rfl he26) rfl ?_; intro a hs
          refine wl hs (y_load sc_int hs rfl he26.cell) rfl ?_; intro a hs
          refine wl hs (y_assign hs rfl) rfl ?_; intro a hs
          refine wpList_nil ?_
          refine x_nt ?_
          refine wp_region_lit ?_
          refine wl hs (y_move hs rfl) rfl ?_; intro a hs
          refine wl hs (y_move hs rfl) rfl ?_; intro a hs
          refine wl hs (y_move hs rfl) rfl ?_; intro a hs
          obtain ⟨x27, hx28, hm⟩ := bindE hm
          obtain ⟨u30, he29, hr31⟩ := RdM.at_ hr_p0 hx28
          replace he29 := he29.below hM.bel
          refine wl hs (y_index ht_M hs rfl rfl he29) rfl ?_; intro a hs
          refine wl hs (y_load sc_I hs rfl he29.cell) rfl ?_; intro a hs
          refine wl hs (y_move hs rfl) rfl ?_; intro a hs
          obtain ⟨x32, hx33, hm⟩ := bindE hm
          have he34 := RdI.at_ (RdI.below hr31 hM.bel) hx33
          refine wl hs (y_index ht_I hs rfl rfl he34) rfl ?_; intro a hs
          refine wl hs (y_load sc_int hs rfl he34.cell) rfl ?_; intro a hs
          obtain ⟨l35, h36, hm⟩ := bindE hm
          refine wappI hu_I he_int hs hM rfl rfl h36 rfl rfl rfl ?_; intro a v37 w u38 hs hM
          have hM : Mem W w [aInts 3 v37 l35, aMat 24 3 v3 vs4 l5] := hM
          refine wl hs (y_assign hs rfl) rfl ?_; intro a hs
          refine wpList_nil ?_
          refine x_nb ?_
          refine x_nt ?_
          refine wp_region_lit ?_
          refine wl hs (y_add hs rfl rfl hsj16) rfl ?_; intro a hs
          refine wl hs (y_move hs rfl) rfl ?_; intro a hs
          refine wpList_nil ?_
          exact ⟨_, by simp, q23, j16 + 1, v37, l35, rfl, hs.sub ⟨rfl, rfl, rfl, rfl, rfl, rfl, rfl, rfl, rfl, rfl, rfl, trivial⟩, hM, hm, drop_next hj16⟩
      rintro a w ⟨v19, l20, rfl, hs, hM⟩
      have hm := hk22
      refine x_nt ?_
      refine wp_region_lit ?_
      refine wl hs (y_move hs rfl) rfl ?_; intro a hs
      refine wl hs (y_move hs rfl) rfl ?_; intro a hs
      obtain ⟨l39, h40, hm⟩ := bindE hm
      refine wappM hu_M he_I hs (hM.front 1 rfl) rfl rfl h40 rfl rfl rfl ?_; intro a v41 w u42 hs hM
      have hM : Mem W w [aMat 24 3 v41 (vs4 ++ [v19]) l39] := hM
      refine wl hs (y_assign hs rfl) rfl ?_; intro a hs
      refine wpList_nil ?_
      refine x_nb ?_
      refine x_nt ?_
      refine wp_region_lit ?_
      refine wl hs (y_add hs rfl rfl hsj2) rfl ?_; intro a hs
      refine wl hs (y_move hs rfl) rfl ?_; intro a hs
      refine wpList_nil ?_
      exact ⟨_, by simp, q11, j2 + 1, v41, (vs4 ++ [v19]), l39, rfl, hs.sub ⟨rfl, rfl, rfl, rfl, rfl, rfl, trivial⟩, hM, hm, drop_next hj2⟩
  rintro a w ⟨v6, vs7, l8, rfl, hs, hM⟩
  have hm := hk10
  refine x_nt ?_
  refine wp_seq ?_
  refine wp_region_lit ?_
  refine wl hs (y_move hs rfl) rfl ?_; intro a hs
  refine wl hs (y_assign hs rfl) rfl ?_; intro a hs
  refine wpList_nil ?_
  refine x_nt ?_
  refine wp_ret ?_
  have hm : some l8 = some r := hm
  obtain rfl := Option.some.inj hm
  refine x_ret1 rfl hs rfl ⟨_, rfl, ?_⟩
  exact ⟨_, hM⟩

set_option maxHeartbeats 4000000 in
theorem spec_PartOf_any (v_p0 : Value) (p0 : List (List Int)) (v_p1 : Value) (p1 : List Int) (v_p2 : Value) (p2 : List Int) (W : World) (hr_p0 : RdM W v_p0 p0) (hr_p1 : RdI W v_p1 p1) (hr_p2 : RdI W v_p2 p2) {r : (List (List Int)) × Bool} (hm : spec_PartOf_m p0 p1 p2 = some r) : Calls Try.prog 24 [v_p0, v_p1, v_p2].toArray W fun e w => ∃ v, e = .returned v ∧ ∃ v0, ∃ vs0, v = .tuple #[v0, .bool r.2] ∧ Mem W w [aMat 24 3 v0 vs0 r.1] := by
  refine x_enter Try.func24 rfl Try.ntmps24 rfl ?_
  intro a hs
  have hM := Mem.start W
  unfold spec_PartOf_m at hm
  refine wp_seq ?_
  refine wp_region_lit ?_
  refine wl hs (y_assign hs rfl) rfl ?_; intro a hs
  refine wl hs (y_assign hs rfl) rfl ?_; intro a hs
  refine wpList_nil ?_
  refine x_nt ?_
  refine wp_seq ?_
  refine wp_seq ?_
  refine wp_region_lit ?_
  refine wl hs (y_move hs rfl) rfl ?_; intro a hs
  obtain ⟨y1, h2, hm⟩ := bindE hm
  refine wcall is_57 hs rfl rfl (spec_mxGood_any v_p0 p0 _ (RdM.below hr_p0 hM.bel) h2) ?_; rintro a _ w hs ⟨rfl, hX⟩
  have hM : Mem W w [] := hM.call hX
  refine wl hs (y_not hs rfl) rfl ?_; intro a hs
  refine wl hs (y_move hs rfl) rfl ?_; intro a hs
  obtain ⟨b3, hb4, hm⟩ := bindE hm
  refine wlguard (N := 43) (L' := [(15, .bool b3), (0, v_p0), (1, v_p1), (2, v_p2)]) (fun w => Mem W w []) 4 ?_ ?_
  · intro K; rcases Bool.eq_false_or_eq_true (!y1) with hg5 | hg5
    · have hm := condT hg5 hb4
      refine wls hs rfl hg5 rfl ?_; intro a hs
      refine wls hs rfl hg5 rfl ?_; intro a hs
      refine wls hs rfl hg5 rfl ?_; intro a hs
      have hm : some true = some b3 := hm
      cases Option.some.inj hm
      refine wl hs (y_pickT hs rfl hg5 rfl) rfl ?_; intro a hs
      exact K _ _ (hs.sub ⟨rfl, rfl, rfl, rfl, trivial⟩) hM
    · have hm := condF hg5 hb4
      refine wlg hs rfl hg5 (y_move hs rfl) rfl ?_; intro a hs
      refine wlg hs rfl hg5 (y_len hu_I hs rfl (RdI.below hr_p1 hM.bel)) rfl ?_; intro a hs
      refine wlg hs rfl hg5 (y_eql hs rfl rfl) rfl ?_; intro a hs
      have hm : some ((p1.length : Int) == 0) = some b3 := hm
      cases Option.some.inj hm
      refine wl hs (y_pickF hs rfl hg5 rfl) rfl ?_; intro a hs
      exact K _ _ (hs.sub ⟨rfl, rfl, rfl, rfl, trivial⟩) hM
  intro a w hs hM
  simp only [List.drop_succ_cons, List.drop_zero]
  refine wl hs (y_move hs rfl) rfl ?_; intro a hs
  obtain ⟨b6, hb7, hm⟩ := bindE hm
  refine wlguard (N := 43) (L' := [(20, .bool b6), (0, v_p0), (1, v_p1), (2, v_p2)]) (fun w => Mem W w []) 4 ?_ ?_
  · intro K; rcases Bool.eq_false_or_eq_true b3 with hg8 | hg8
    · have hm := condT hg8 hb7
      refine wls hs rfl hg8 rfl ?_; intro a hs
      refine wls hs rfl hg8 rfl ?_; intro a hs
      refine wls hs rfl hg8 rfl ?_; intro a hs
      have hm : some true = some b6 := hm
      cases Option.some.inj hm
      refine wl hs (y_pickT hs rfl hg8 rfl) rfl ?_; intro a hs
      exact K _ _ (hs.sub ⟨rfl, rfl, rfl, rfl, trivial⟩) hM
    · have hm := condF hg8 hb7
      refine wlg hs rfl hg8 (y_move hs rfl) rfl ?_; intro a hs
      refine wlg hs rfl hg8 (y_len hu_I hs rfl (RdI.below hr_p2 hM.bel)) rfl ?_; intro a hs
      refine wlg hs rfl hg8 (y_eql hs rfl rfl) rfl ?_; intro a hs
      have hm : some ((p2.length : Int) == 0) = some b6 := hm
      cases Option.some.inj hm
      refine wl hs (y_pickF hs rfl hg8 rfl) rfl ?_; intro a hs
      exact K _ _ (hs.sub ⟨rfl, rfl, rfl, rfl, trivial⟩) hM
  intro a w hs hM
  simp only [List.drop_succ_cons, List.drop_zero]
  refine wl hs (y_move hs rfl) rfl ?_; intro a hs
  obtain ⟨b9, hb10, hm⟩ := bindE hm
  refine wlguard (N := 43) (L' := [(28, .bool b9), (0, v_p0), (1, v_p1), (2, v_p2)]) (fun w => Mem W w []) 7 ?_ ?_
  · intro K; rcases Bool.eq_false_or_eq_true b6 with hg11 | hg11
    · have hm := condT hg11 hb10
      refine wls hs rfl hg11 rfl ?_; intro a hs
      refine wls hs rfl hg11 rfl ?_; intro a hs
      refine wls hs rfl hg11 rfl ?_; intro a hs
      refine wls hs rfl hg11 rfl ?_; intro a hs
      refine wls hs rfl hg11 rfl ?_; intro a hs
      refine wls hs rfl hg11 rfl ?_; intro a hs
      have hm : some true = some b9 := hm
      cases Option.some.inj hm
      refine wl hs (y_pickT hs rfl hg11 rfl) rfl ?_; intro a hs
      exact K _ _ (hs.sub ⟨rfl, rfl, rfl, rfl, trivial⟩) hM
    · have hm := condF hg11 hb10
      refine wlg hs rfl hg11 (y_move hs rfl) rfl ?_; intro a hs
      refine wlg hs rfl hg11 (y_move hs rfl) rfl ?_; intro a hs
      refine wlg hs rfl hg11 (y_len hu_M hs rfl (RdM.below hr_p0 hM.bel)) rfl ?_; intro a hs
      obtain ⟨n12, h13, hm⟩ := bindE hm
      refine wlg hs rfl hg11 (y_sub hs rfl rfl h13) rfl ?_; intro a hs
      obtain ⟨y14, h15, hm⟩ := bindE hm
      refine wcallg is_64 hs rfl hg11 rfl rfl (spec_l1Rising_any v_p1 p1 0 n12 _ (RdI.below hr_p1 hM.bel) h15) ?_; rintro a _ w hs ⟨rfl, hX⟩
      have hM : Mem W w [] := hM.call hX
      refine wlg hs rfl hg11 (y_not hs rfl) rfl ?_; intro a hs
      have hm : some (!y14) = some b9 := hm
      cases Option.some.inj hm
      refine wl hs (y_pickF hs rfl hg11 rfl) rfl ?_; intro a hs
      exact K _ _ (hs.sub ⟨rfl, rfl, rfl, rfl, trivial⟩) hM
  intro a w hs hM
  simp only [List.drop_succ_cons, List.drop_zero]
  refine wl hs (y_move hs rfl) rfl ?_; intro a hs
  obtain ⟨b16, hb17, hm⟩ := bindE hm
  refine wlguard (N := 43) (L' := [(38, .bool b16), (0, v_p0), (1, v_p1), (2, v_p2)]) (fun w => Mem W w []) 9 ?_ ?_
  · intro K; rcases Bool.eq_false_or_eq_true b9 with hg18 | hg18
    · have hm := condT hg18 hb17
      refine wls hs rfl hg18 rfl ?_; intro a hs
      refine wls hs rfl hg18 rfl ?_; intro a hs
      refine wls hs rfl hg18 rfl ?_; intro a hs
      refine wls hs rfl hg18 rfl ?_; intro a hs
      refine wls hs rfl hg18 rfl ?_; intro a hs
      refine wls hs rfl hg18 rfl ?_; intro a hs
      refine wls hs rfl hg18 rfl ?_; intro a hs
      refine wls hs rfl hg18 rfl ?_; intro a hs
      have hm : some true = some b16 := hm
      cases Option.some.inj hm
      refine wl hs (y_pickT hs rfl hg18 rfl) rfl ?_; intro a hs
      exact K _ _ (hs.sub ⟨rfl, rfl, rfl, rfl, trivial⟩) hM
    · have hm := condF hg18 hb17
      refine wlg hs rfl hg18 (y_move hs rfl) rfl ?_; intro a hs
      refine wlg hs rfl hg18 (y_move hs rfl) rfl ?_; intro a hs
      obtain ⟨x19, hx20, hm⟩ := bindE hm
      obtain ⟨u22, he21, hr23⟩ := RdM.at_ hr_p0 hx20
      replace he21 := he21.below hM.bel
      refine wlg hs rfl hg18 (y_index ht_M hs rfl rfl he21) rfl ?_; intro a hs
      refine wlg hs rfl hg18 (y_load sc_I hs rfl he21.cell) rfl ?_; intro a hs
      refine wlg hs rfl hg18 (y_len hu_I hs rfl (RdI.below hr23 hM.bel)) rfl ?_; intro a hs
      obtain ⟨n24, h25, hm⟩ := bindE hm
      refine wlg hs rfl hg18 (y_sub hs rfl rfl h25) rfl ?_; intro a hs
      obtain ⟨y26, h27, hm⟩ := bindE hm
      refine wcallg is_64 hs rfl hg18 rfl rfl (spec_l1Rising_any v_p2 p2 0 n24 _ (RdI.below hr_p2 hM.bel) h27) ?_; rintro a _ w hs ⟨rfl, hX⟩
      have hM : Mem W w [] := hM.call hX
      refine wlg hs rfl hg18 (y_not hs rfl) rfl ?_; intro a hs
      have hm : some (!y26) = some b16 := hm
      cases Option.some.inj hm
      refine wl hs (y_pickF hs rfl hg18 rfl) rfl ?_; intro a hs
      exact K _ _ (hs.sub ⟨rfl, rfl, rfl, rfl, trivial⟩) hM
  intro a w hs hM
  simp only [List.drop_succ_cons, List.drop_zero]
  refine wpList_nil ?_
  refine x_nt ?_
  refine x_cond hs rfl (fun hb => ?_) (fun hb => ?_)
  · replace hm := condT hb hm
    refine wp_seq ?_
    refine wp_region_lit ?_
    refine wl hs (y_assign hs rfl) rfl ?_; intro a hs
    refine wl hs (y_assign hs rfl) rfl ?_; intro a hs
    refine wpList_nil ?_
    refine x_nt ?_
    refine wp_ret ?_
    refine x_rt ?_
    have hm : some ([], false) = some r := hm
    obtain rfl := Option.some.inj hm
    refine x_ret2 rfl hs rfl rfl ⟨_, rfl, ?_⟩
    have hM := hM.nilM 24 3
    exact ⟨_, _, rfl, hM⟩
  · replace hm := condF hb hm
    refine wp_skip ?_
    refine x_nt ?_
    refine wp_seq ?_
    refine wp_region_lit ?_
    refine wl hs (y_move hs rfl) rfl ?_; intro a hs
    refine wl hs (y_move hs rfl) rfl ?_; intro a hs
    refine wl hs (y_move hs rfl) rfl ?_; intro a hs
    obtain ⟨y29, h30, hm⟩ := bindE hm
    refine wcall is_65 hs rfl rfl (spec_rkPart_any v_p0 p0 v_p1 p1 v_p2 p2 _ (RdM.below hr_p0 hM.bel) (RdI.below hr_p1 hM.bel) (RdI.below hr_p2 hM.bel) h30) ?_; rintro a v31 w hs ⟨vs33, hX⟩
    have hM : Mem W w [aMat 24 3 v31 vs33 y29] := hM.call hX
    refine wl hs (y_assign hs rfl) rfl ?_; intro a hs
    refine wl hs (y_assign hs rfl) rfl ?_; intro a hs
    refine wpList_nil ?_
    refine x_nt ?_
    refine wp_ret ?_
    have hm : some (y29, true) = some r := hm
    obtain rfl := Option.some.inj hm
    refine x_ret2 rfl hs rfl rfl ⟨_, rfl, ?_⟩
    exact ⟨_, _, rfl, hM⟩

set_option maxHeartbeats 4000000 in
theorem impl_areIndices_any (v_p0 : Value) (p0 : List Int) (p1 : Int) (W : World) (hr_p0 : RdI W v_p0 p0) {r : Bool} (hm : impl_areIndices_m p0 p1 = some r) : Calls Try.prog 66 [v_p0, .int .i64 p1].toArray W fun e w => ∃ v, e = .returned v ∧ v = .bool r ∧ Mem W w [] := by
  refine x_enter Try.func66 rfl Try.ntmps66 rfl ?_
  intro a hs
  have hM := Mem.start W
  unfold impl_areIndices_m at hm
  refine wp_seq ?_
  refine wp_region_lit ?_
  refine wl hs (y_assign hs rfl) rfl ?_; intro a hs
  refine wpList_nil ?_
  refine x_nt ?_
  refine wp_seq ?_
  refine wp_seq ?_
  refine wp_region_lit ?_
  refine wl hs (y_move hs rfl) rfl ?_; intro a hs
  refine wl hs (y_len hu_I hs rfl (RdI.below hr_p0 hM.bel)) rfl ?_; intro a hs
  refine wl hs (y_move hs rfl) rfl ?_; intro a hs
  refine wpList_nil ?_
  refine x_nt ?_
  obtain ⟨s2, hm, hk3⟩ := bindE hm
  refine x_mid (fun a w => Sum.inr () = s2 ∧ Fr a 36 [(0, v_p0)] ∧ Mem W w []) ?_ ?_
  · refine wp_block ?_
    refine x_loop (fun k a w => ∃ (q4 : List Int) (j1 : Nat) , k = q4.length ∧ Fr a 36 [(0, v_p0), (1, .int .i64 p1), (7, v_p0), (8, .int .i64 (p0.length : Int)), (9, .int .i64 (j1 : Int))] ∧ Mem W w [] ∧ impl_areIndices_l1 p0 p1 q4 j1 = some s2 ∧ List.drop j1 p0 = q4) _ ⟨p0, 0, rfl, hs.sub ⟨rfl, rfl, rfl, rfl, rfl, trivial⟩, hM, hm, rfl⟩ ?_
    rintro k a w ⟨q4, j1, rfl, hs, hM, hm, hj1⟩
    rcases q4 with _ | ⟨x5, q4⟩
    · rewrite [impl_areIndices_l1] at hm
      refine wp_seq ?_
      refine wp_region_lit ?_
      refine wl hs (y_lss hs rfl rfl) rfl ?_; intro a hs
      refine wpList_nil ?_
      refine x_nt ?_
      refine wp_seq ?_
      refine x_condF hs rfl (drop_f hj1) ?_
      refine wp_exit ?_
      refine x_et ?_
      refine x_et ?_
      refine x_eb ?_
      have hm : some (Sum.inr ()) = some s2 := hm
      exact ⟨Option.some.inj hm, hs.sub ⟨rfl, trivial⟩, hM⟩
    · rewrite [impl_areIndices_l1] at hm
      have hx6 := drop_idx hj1
      have hsj1 := ck_succ hj1 (RdS.len (RdI.below hr_p0 hM.bel))
      refine wp_seq ?_
      refine wp_region_lit ?_
      refine wl hs (y_lss hs rfl rfl) rfl ?_; intro a hs
      refine wpList_nil ?_
      refine x_nt ?_
      refine wp_seq ?_
      refine x_condT hs rfl (drop_t hj1) ?_
      refine wp_skip ?_
      refine x_nt ?_
      refine wp_seq ?_
      refine wp_block ?_
      refine wp_seq ?_
      refine wp_region_lit ?_
      refine wl hs (y_move hs rfl) rfl ?_; intro a hs
      have he7 := RdI.at_ (RdI.below hr_p0 hM.bel) hx6
      refine wl hs (y_index ht_I hs rfl rfl he7) rfl ?_; intro a hs
      refine wl hs (y_load sc_int hs rfl he7.cell) rfl ?_; intro a hs
      refine wl hs (y_assign hs rfl) rfl ?_; intro a hs
      refine wl hs (y_assign hs rfl) rfl ?_; intro a hs
      refine wpList_nil ?_
      refine x_nt ?_
      refine wp_seq ?_
      refine wp_region_lit ?_
      refine wl hs (y_move hs rfl) rfl ?_; intro a hs
      refine wl hs (y_move hs rfl) rfl ?_; intro a hs
      obtain ⟨n8, h9, hm⟩ := bindE hm
      refine wl hs (y_sub hs rfl rfl h9) rfl ?_; intro a hs
      obtain ⟨y10, h11, hm⟩ := bindE hm
      refine wcall is_76 hs rfl rfl (impl_within_any x5 0 n8 _  h11) ?_; rintro a _ w hs ⟨rfl, hX⟩
      have hM : Mem W w [] := hM.call hX
      refine wl hs (y_not hs rfl) rfl ?_; intro a hs
      refine wl hs (y_move hs rfl) rfl ?_; intro a hs
      obtain ⟨b12, hb13, hm⟩ := bindE hm
      refine wlguard (N := 36) (L' := [(31, .bool b12), (0, v_p0), (1, .int .i64 p1), (7, v_p0), (8, .int .i64 (p0.length : Int)), (9, .int .i64 (j1 : Int))]) (fun w => Mem W w []) 12 ?_ ?_
      · intro K; rcases Bool.eq_false_or_eq_true (!y10) with hg14 | hg14
        · have hm := condT hg14 hb13
          refine wls hs rfl hg14 rfl ?_; intro a hs
          refine wls hs rfl hg14 rfl ?_; intro a hs
          refine wls hs rfl hg14 rfl ?_; intro a hs
          refine wlu hs rfl rfl ?_; intro a hs
          refine wlu hs rfl rfl ?_; intro a hs
          refine wlu hs rfl rfl ?_; intro a hs
          refine wlu hs rfl rfl ?_; intro a hs
          refine wlu hs rfl rfl ?_; intro a hs
          refine wlu hs rfl rfl ?_; intro a hs
          refine wlu hs rfl rfl ?_; intro a hs
          refine wls hs rfl hg14 rfl ?_; intro a hs
          have hm : some true = some b12 := hm
          cases Option.some.inj hm
          refine wl hs (y_pickT hs rfl hg14 rfl) rfl ?_; intro a hs
          exact K _ _ (hs.sub ⟨rfl, rfl, rfl, rfl, rfl, rfl, trivial⟩) hM
        · have hm := condF hg14 hb13
          refine wlg hs rfl hg14 (y_move hs rfl) rfl ?_; intro a hs
          refine wlg hs rfl hg14 (y_gtr hs rfl rfl) rfl ?_; intro a hs
          refine wlg hs rfl hg14 (y_move hs rfl) rfl ?_; intro a hs
          obtain ⟨b15, hb16, hm⟩ := bindE hm
          refine wlguard (N := 36) (L' := [(30, .bool b15), (0, v_p0), (1, .int .i64 p1), (7, v_p0), (8, .int .i64 (p0.length : Int)), (9, .int .i64 (j1 : Int)), (19, .bool (!y10))]) (fun w => Mem W w []) 8 ?_ ?_
          · intro K; rcases Bool.eq_false_or_eq_true (decide ((j1 : Int) > 0)) with hg17 | hg17
            · have hm := condT hg17 hb16
              refine wlg hs rfl hg17 (y_move hs rfl) rfl ?_; intro a hs
              refine wlg hs rfl hg17 (y_move hs rfl) rfl ?_; intro a hs
              obtain ⟨n18, h19, hm⟩ := bindE hm
              refine wlg hs rfl hg17 (y_sub hs rfl rfl h19) rfl ?_; intro a hs
              obtain ⟨x20, hx21, hm⟩ := bindE hm
              have he22 := RdI.at_ (RdI.below hr_p0 hM.bel) hx21
              refine wlg hs rfl hg17 (y_index ht_I hs rfl rfl he22) rfl ?_; intro a hs
              refine wlg hs rfl hg17 (y_load sc_int hs rfl he22.cell) rfl ?_; intro a hs
              refine wlg hs rfl hg17 (y_move hs rfl) rfl ?_; intro a hs
              refine wlg hs rfl hg17 (y_geq hs rfl rfl) rfl ?_; intro a hs
              have hm : some (decide (x20 ≥ x5)) = some b15 := hm
              cases Option.some.inj hm
              refine wlg hs rfl hg14 (y_pickT hs rfl hg17 rfl) rfl ?_; intro a hs
              exact K _ _ (hs.sub ⟨rfl, rfl, rfl, rfl, rfl, rfl, rfl, trivial⟩) hM
            · have hm := condF hg17 hb16
              refine wls hs rfl hg17 rfl ?_; intro a hs
              refine wls hs rfl hg17 rfl ?_; intro a hs
              refine wls hs rfl hg17 rfl ?_; intro a hs
              refine wls hs rfl hg17 rfl ?_; intro a hs
              refine wls hs rfl hg17 rfl ?_; intro a hs
              refine wls hs rfl hg17 rfl ?_; intro a hs
              refine wls hs rfl hg17 rfl ?_; intro a hs
              have hm : some false = some b15 := hm
              cases Option.some.inj hm
              refine wlg hs rfl hg14 (y_pickF hs rfl hg17 rfl) rfl ?_; intro a hs
              exact K _ _ (hs.sub ⟨rfl, rfl, rfl, rfl, rfl, rfl, rfl, trivial⟩) hM
          intro a w hs hM
          simp only [List.drop_succ_cons, List.drop_zero]
          have hm : some b15 = some b12 := hm
          cases Option.some.inj hm
          refine wl hs (y_pickF hs rfl hg14 rfl) rfl ?_; intro a hs
          exact K _ _ (hs.sub ⟨rfl, rfl, rfl, rfl, rfl, rfl, trivial⟩) hM
      intro a w hs hM
      simp only [List.drop_succ_cons, List.drop_zero]
      refine wpList_nil ?_
      refine x_nt ?_
      refine x_cond hs rfl (fun hb => ?_) (fun hb => ?_)
      · replace hm := condT hb hm
        refine wp_seq ?_
        refine wp_region_lit ?_
        refine wl hs (y_assign hs rfl) rfl ?_; intro a hs
        refine wpList_nil ?_
        refine x_nt ?_
        refine wp_ret ?_
        refine x_rb ?_
        refine x_rt ?_
        refine x_rt ?_
        refine x_rb ?_
        refine x_rt ?_
        refine x_rt ?_
        have hm : some (Sum.inl false) = some s2 := hm
        cases Option.some.inj hm
        have hm := hk3
        have hm : some false = some r := hm
        obtain rfl := Option.some.inj hm
        refine x_ret1 rfl hs rfl ⟨_, rfl, ?_⟩
        exact ⟨rfl, hM⟩
      · replace hm := condF hb hm
        refine wp_skip ?_
        refine x_nb ?_
        refine x_nt ?_
        refine wp_region_lit ?_
        refine wl hs (y_add hs rfl rfl hsj1) rfl ?_; intro a hs
        refine wl hs (y_move hs rfl) rfl ?_; intro a hs
        refine wpList_nil ?_
        exact ⟨_, by simp, q4, j1 + 1, rfl, hs.sub ⟨rfl, rfl, rfl, rfl, rfl, trivial⟩, hM, hm, drop_next hj1⟩
  rintro a w ⟨rfl, hs, hM⟩
  have hm := hk3
  refine x_nt ?_
  refine wp_seq ?_
  refine wp_region_lit ?_
  refine wl hs (y_move hs rfl) rfl ?_; intro a hs
  refine wl hs (y_len hu_I hs rfl (RdI.below hr_p0 hM.bel)) rfl ?_; intro a hs
  refine wl hs (y_gtr hs rfl rfl) rfl ?_; intro a hs
  refine wl hs (y_assign hs rfl) rfl ?_; intro a hs
  refine wpList_nil ?_
  refine x_nt ?_
  refine wp_ret ?_
  have hm : some (decide ((p0.length : Int) > 0)) = some r := hm
  obtain rfl := Option.some.inj hm
  refine x_ret1 rfl hs rfl ⟨_, rfl, ?_⟩
  exact ⟨rfl, hM⟩

set_option maxHeartbeats 4000000 in
theorem impl_partOf_any (v_p0 : Value) (p0 : List (List Int)) (v_p1 : Value) (p1 : List Int) (v_p2 : Value) (p2 : List Int) (W : World) (hr_p0 : RdM W v_p0 p0) (hr_p1 : RdI W v_p1 p1) (hr_p2 : RdI W v_p2 p2) {r : List (List Int)} (hm : impl_partOf_m p0 p1 p2 = some r) : Calls Try.prog 67 [v_p0, v_p1, v_p2].toArray W fun e w => ∃ v, e = .returned v ∧ ∃ vs0, Mem W w [aMat 24 3 v vs0 r] := by
  refine x_enter Try.func67 rfl Try.ntmps67 rfl ?_
  intro a hs
  have hM := Mem.start W
  unfold impl_partOf_m at hm
  refine wp_seq ?_
  refine wp_region_lit ?_
  refine wl hs (y_assign hs rfl) rfl ?_; intro a hs
  refine wpList_nil ?_
  refine x_nt ?_
  refine wp_seq ?_
  refine wp_region_lit ?_
  refine wmem hs (x_new0M (ti := 3) ht_M hM) rfl ?_; intro a v2 w hs hM
  have hM : Mem W w [aMat 24 3 v2 ([]) ([])] := hM
  refine wl hs (y_assign hs rfl) rfl ?_; intro a hs
  refine wpList_nil ?_
  refine x_nt ?_
  refine wp_seq ?_
  refine wp_seq ?_
  refine wp_region_lit ?_
  refine wl hs (y_move hs rfl) rfl ?_; intro a hs
  refine wl hs (y_len hu_I hs rfl (RdI.below hr_p1 hM.bel)) rfl ?_; intro a hs
  refine wl hs (y_move hs rfl) rfl ?_; intro a hs
  refine wpList_nil ?_
  refine x_nt ?_
  obtain ⟨s10, hm, hk11⟩ := bindE hm
  refine x_mid (fun a w => ∃ (v7 : Value), ∃ (vs8 : List Value), ∃ (l9 : List (List Int)), l9 = s10 ∧ Fr a 44 [(7, v7)] ∧ Mem W w [aMat 24 3 v7 vs8 l9]) ?_ ?_
  · refine wp_block ?_
    refine x_loop (fun k a w => ∃ (q12 : List Int) (j3 : Nat) (v4 : Value) (vs5 : List Value) (l6 : List (List Int)) , k = q12.length ∧ Fr a 44 [(0, v_p0), (2, v_p2), (7, v4), (14, v_p1), (15, .int .i64 (p1.length : Int)), (16, .int .i64 (j3 : Int))] ∧ Mem W w [aMat 24 3 v4 vs5 l6] ∧ impl_partOf_l1 p0 p2 q12 j3 l6 = some s10 ∧ List.drop j3 p1 = q12) _ ⟨p1, 0, v2, [], [], rfl, hs.sub ⟨rfl, rfl, rfl, rfl, rfl, rfl, trivial⟩, hM, hm, rfl⟩ ?_
    rintro k a w ⟨q12, j3, v4, vs5, l6, rfl, hs, hM, hm, hj3⟩
    rcases q12 with _ | ⟨x13, q12⟩
    · rewrite [impl_partOf_l1] at hm
      refine wp_seq ?_
      refine wp_region_lit ?_
      refine wl hs (y_lss hs rfl rfl) rfl ?_; intro a hs
      refine wpList_nil ?_
      refine x_nt ?_
      refine wp_seq ?_
      refine x_condF hs rfl (drop_f hj3) ?_
      refine wp_exit ?_
      refine x_et ?_
      refine x_et ?_
      refine x_eb ?_
      have hm : some l6 = some s10 := hm
      exact ⟨v4, vs5, l6, Option.some.inj hm, hs.sub ⟨rfl, trivial⟩, hM⟩
    · rewrite [impl_partOf_l1] at hm
      have hx14 := drop_idx hj3
      have hsj3 := ck_succ hj3 (RdS.len (RdI.below hr_p1 hM.bel))
      refine wp_seq ?_
      refine wp_region_lit ?_
      refine wl hs (y_lss hs rfl rfl) rfl ?_; intro a hs
      refine wpList_nil ?_
      refine x_nt ?_
      refine wp_seq ?_
      refine x_condT hs rfl (drop_t hj3) ?_
      refine wp_skip ?_
      refine x_nt ?_
      refine wp_seq ?_
      refine wp_block ?_
      refine wp_seq ?_
      refine wp_region_lit ?_
      have he15 := RdI.at_ (RdI.below hr_p1 hM.bel) hx14
      refine wl hs (y_index ht_I hs rfl rfl he15) rfl ?_; intro a hs
      refine wl hs (y_load sc_int hs rfl he15.cell) rfl ?_; intro a hs
      refine wl hs (y_assign hs rfl) rfl ?_; intro a hs
      refine wpList_nil ?_
      refine x_nt ?_
      refine wp_seq ?_
      refine wp_region_lit ?_
      refine wmem hs (x_new0I ht_I hM) rfl ?_; intro a v17 w hs hM
      have hM : Mem W w [aInts 3 v17 ([]), aMat 24 3 v4 vs5 l6] := hM
      refine wl hs (y_assign hs rfl) rfl ?_; intro a hs
      refine wpList_nil ?_
      refine x_nt ?_
      refine wp_seq ?_
      refine wp_seq ?_
      refine wp_region_lit ?_
      refine wl hs (y_move hs rfl) rfl ?_; intro a hs
      refine wl hs (y_len hu_I hs rfl (RdI.below hr_p2 hM.bel)) rfl ?_; intro a hs
      refine wl hs (y_move hs rfl) rfl ?_; intro a hs
      refine wpList_nil ?_
      refine x_nt ?_
      obtain ⟨s23, hm, hk24⟩ := bindE hm
      refine x_mid (fun a w => ∃ (v21 : Value), ∃ (l22 : List Int), l22 = s23 ∧ Fr a 44 [(0, v_p0), (2, v_p2), (7, v4), (10, v21), (14, v_p1), (15, .int .i64 (p1.length : Int)), (16, .int .i64 (j3 : Int))] ∧ Mem W w [aInts 3 v21 l22, aMat 24 3 v4 vs5 l6]) ?_ ?_
      · refine wp_block ?_
        refine x_loop (fun k a w => ∃ (q25 : List Int) (j18 : Nat) (v19 : Value) (l20 : List Int) , k = q25.length ∧ Fr a 44 [(0, v_p0), (2, v_p2), (7, v4), (9, .int .i64 x13), (10, v19), (14, v_p1), (15, .int .i64 (p1.length : Int)), (16, .int .i64 (j3 : Int)), (21, v_p2), (22, .int .i64 (p2.length : Int)), (23, .int .i64 (j18 : Int))] ∧ Mem W w [aInts 3 v19 l20, aMat 24 3 v4 vs5 l6] ∧ impl_partOf_l2 p0 x13 q25 j18 l20 = some s23 ∧ List.drop j18 p2 = q25) _ ⟨p2, 0, v17, [], rfl, hs.sub ⟨rfl, rfl, rfl, rfl, rfl, rfl, rfl, rfl, rfl, rfl, rfl, trivial⟩, hM, hm, rfl⟩ ?_
        rintro k a w ⟨q25, j18, v19, l20, rfl, hs, hM, hm, hj18⟩
        rcases q25 with _ | ⟨x26, q25⟩
        · rewrite [impl_partOf_l2] at hm
          refine wp_seq ?_
          refine wp_region_lit ?_
          refine wl hs (y_lss hs rfl rfl) rfl ?_; intro a hs
          refine wpList_nil ?_
          refine x_nt ?_
          refine wp_seq ?_
          refine x_condF hs rfl (drop_f hj18) ?_
          refine wp_exit ?_
          refine x_et ?_
          refine x_et ?_
          refine x_eb ?_
          have hm : some l20 = some s23 := hm
          exact ⟨v19, l20, Option.some.inj hm, hs.sub ⟨rfl, rfl, rfl, rfl, rfl, rfl, rfl, trivial⟩, hM⟩
        · rewrite [impl_partOf_l2] at hm
          have hx27 := drop_idx hj18
          have hsj18 := ck_succ hj18 (RdS.len (RdI.below hr_p2 hM.bel))
          refine wp_seq ?_
          refine wp_region_lit ?_
          refine wl hs (y_lss hs rfl rfl) rfl ?_; intro a hs
          refine wpList_nil ?_
          refine x_nt ?_
          refine wp_seq ?_
          refine x_condT hs rfl (drop_t hj18) ?_
          refine wp_skip ?_
          refine x_nt ?_
          refine wp_seq ?_
          refine wp_block ?_
          refine wp_seq ?_
          refine wp_region_lit ?_
          have he28 := RdI.at_ (RdI.below hr_p2 hM.bel) hx27
          refine wl hs (y_index ht_I hs rfl rfl he28) rfl ?_; intro a hs
          refine wl hs (y_load sc_int hs rfl he28.cell) rfl ?_; intro a hs
          refine wl hs (y_assign hs rfl) rfl ?_; intro a hs
          refine wpList_nil ?_
          refine x_nt ?_
          refine wp_region_lit ?_
          refine wl hs (y_move hs rfl) rfl ?_; intro a hs
          refine wl hs (y_move hs rfl) rfl ?_; intro a hs
          refine wl hs (y_move hs rfl) rfl ?_; intro a hs
          obtain ⟨x29, hx30, hm⟩ := bindE hm
          obtain ⟨u32, he31, hr33⟩ := RdM.at_ hr_p0 hx30
          replace he31 := he31.below hM.bel
          refine wl hs (y_index ht_M hs rfl rfl he31) rfl ?_; intro a hs
          refine wl hs (y_load sc_I hs rfl he31.cell) rfl ?_; intro a hs
          refine wl hs (y_move hs rfl) rfl ?_; intro a hs
          obtain ⟨x34, hx35, hm⟩ := bindE hm
          have he36 := RdI.at_ (RdI.below hr33 hM.bel) hx35
          refine wl hs (y_index ht_I hs rfl rfl he36) rfl ?_; intro a hs
          refine wl hs (y_load sc_int hs rfl he36.cell) rfl ?_; intro a hs
          obtain ⟨l37, h38, hm⟩ := bindE hm
          refine wappI hu_I he_int hs hM rfl rfl h38 rfl rfl rfl ?_; intro a v39 w u40 hs hM
          have hM : Mem W w [aInts 3 v39 l37, aMat 24 3 v4 vs5 l6] := hM
          refine wl hs (y_assign hs rfl) rfl ?_; intro a hs
          refine wpList_nil ?_
          refine x_nb ?_
          refine x_nt ?_
          refine wp_region_lit ?_
          refine wl hs (y_add hs rfl rfl hsj18) rfl ?_; intro a hs
          refine wl hs (y_move hs rfl) rfl ?_; intro a hs
          refine wpList_nil ?_
          exact ⟨_, by simp, q25, j18 + 1, v39, l37, rfl, hs.sub ⟨rfl, rfl, rfl, rfl, rfl, rfl, rfl, rfl, rfl, rfl, rfl, trivial⟩, hM, hm, drop_next hj18⟩
      rintro a w ⟨v21, l22, rfl, hs, hM⟩
      have hm := hk24
      refine x_nt ?_
      refine wp_region_lit ?_
      refine wl hs (y_move hs rfl) rfl ?_; intro a hs
      refine wl hs (y_move hs rfl) rfl ?_; intro a hs
      obtain ⟨l41, h42, hm⟩ := bindE hm
      refine wappM hu_M he_I hs (hM.front 1 rfl) rfl rfl h42 rfl rfl rfl ?_; intro a v43 w u44 hs hM
      have hM : Mem W w [aMat 24 3 v43 (vs5 ++ [v21]) l41] := hM
      refine wl hs (y_assign hs rfl) rfl ?_; intro a hs
      refine wpList_nil ?_
      refine x_nb ?_
      refine x_nt ?_
      refine wp_region_lit ?_
      refine wl hs (y_add hs rfl rfl hsj3) rfl ?_; intro a hs
      refine wl hs (y_move hs rfl) rfl ?_; intro a hs
      refine wpList_nil ?_
      exact ⟨_, by simp, q12, j3 + 1, v43, (vs5 ++ [v21]), l41, rfl, hs.sub ⟨rfl, rfl, rfl, rfl, rfl, rfl, trivial⟩, hM, hm, drop_next hj3⟩
  rintro a w ⟨v7, vs8, l9, rfl, hs, hM⟩
  have hm := hk11
  refine x_nt ?_
  refine wp_seq ?_
  refine wp_region_lit ?_
  refine wl hs (y_move hs rfl) rfl ?_; intro a hs
  refine wl hs (y_assign hs rfl) rfl ?_; intro a hs
  refine wpList_nil ?_
  refine x_nt ?_
  refine wp_ret ?_
  have hm : some l9 = some r := hm
  obtain rfl := Option.some.inj hm
  refine x_ret1 rfl hs rfl ⟨_, rfl, ?_⟩
  exact ⟨_, hM⟩

theorem impl_PartOf_any (v_p0 : Value) (p0 : List (List Int)) (v_p1 : Value) (p1 : List Int) (v_p2 : Value) (p2 : List Int) (W : World) (hr_p0 : RdM W v_p0 p0) (hr_p1 : RdI W v_p1 p1) (hr_p2 : RdI W v_p2 p2) {r : (List (List Int)) × Bool} (hm : impl_PartOf_m p0 p1 p2 = some r) : Calls Try.prog 26 [v_p0, v_p1, v_p2].toArray W fun e w => ∃ v, e = .returned v ∧ ∃ v0, ∃ vs0, v = .tuple #[v0, .bool r.2] ∧ Mem W w [aMat 24 3 v0 vs0 r.1] := by
  refine x_enter Try.func26 rfl Try.ntmps26 rfl ?_
  intro a hs
  have hM := Mem.start W
  unfold impl_PartOf_m at hm
  refine wp_seq ?_
  refine wp_region_lit ?_
  refine wl hs (y_assign hs rfl) rfl ?_; intro a hs
  refine wl hs (y_assign hs rfl) rfl ?_; intro a hs
  refine wpList_nil ?_
  refine x_nt ?_
  refine wp_seq ?_
  refine wp_seq ?_
  refine wp_region_lit ?_
  refine wl hs (y_move hs rfl) rfl ?_; intro a hs
  obtain ⟨y1, h2, hm⟩ := bindE hm
  refine wcall is_59 hs rfl rfl (impl_isMatrix_any v_p0 p0 _ (RdM.below hr_p0 hM.bel) h2) ?_; rintro a _ w hs ⟨rfl, hX⟩
  have hM : Mem W w [] := hM.call hX
  refine wl hs (y_not hs rfl) rfl ?_; intro a hs
  refine wl hs (y_move hs rfl) rfl ?_; intro a hs
  obtain ⟨b3, hb4, hm⟩ := bindE hm
  refine wlguard (N := 31) (L' := [(17, .bool b3), (0, v_p0), (1, v_p1), (2, v_p2)]) (fun w => Mem W w []) 6 ?_ ?_
  · intro K; rcases Bool.eq_false_or_eq_true (!y1) with hg5 | hg5
    · have hm := condT hg5 hb4
      refine wls hs rfl hg5 rfl ?_; intro a hs
      refine wls hs rfl hg5 rfl ?_; intro a hs
      refine wls hs rfl hg5 rfl ?_; intro a hs
      refine wls hs rfl hg5 rfl ?_; intro a hs
      refine wls hs rfl hg5 rfl ?_; intro a hs
      have hm : some true = some b3 := hm
      cases Option.some.inj hm
      refine wl hs (y_pickT hs rfl hg5 rfl) rfl ?_; intro a hs
      exact K _ _ (hs.sub ⟨rfl, rfl, rfl, rfl, trivial⟩) hM
    · have hm := condF hg5 hb4
      refine wlg hs rfl hg5 (y_move hs rfl) rfl ?_; intro a hs
      refine wlg hs rfl hg5 (y_move hs rfl) rfl ?_; intro a hs
      refine wlg hs rfl hg5 (y_len hu_M hs rfl (RdM.below hr_p0 hM.bel)) rfl ?_; intro a hs
      obtain ⟨y6, h7, hm⟩ := bindE hm
      refine wcallg is_66 hs rfl hg5 rfl rfl (impl_areIndices_any v_p1 p1 (p0.length : Int) _ (RdI.below hr_p1 hM.bel) h7) ?_; rintro a _ w hs ⟨rfl, hX⟩
      have hM : Mem W w [] := hM.call hX
      refine wlg hs rfl hg5 (y_not hs rfl) rfl ?_; intro a hs
      have hm : some (!y6) = some b3 := hm
      cases Option.some.inj hm
      refine wl hs (y_pickF hs rfl hg5 rfl) rfl ?_; intro a hs
      exact K _ _ (hs.sub ⟨rfl, rfl, rfl, rfl, trivial⟩) hM
  intro a w hs hM
  simp only [List.drop_succ_cons, List.drop_zero]
  refine wl hs (y_move hs rfl) rfl ?_; intro a hs
  obtain ⟨b8, hb9, hm⟩ := bindE hm
  refine wlguard (N := 31) (L' := [(26, .bool b8), (0, v_p0), (1, v_p1), (2, v_p2)]) (fun w => Mem W w []) 8 ?_ ?_
  · intro K; rcases Bool.eq_false_or_eq_true b3 with hg10 | hg10
    · have hm := condT hg10 hb9
      refine wls hs rfl hg10 rfl ?_; intro a hs
      refine wls hs rfl hg10 rfl ?_; intro a hs
      refine wls hs rfl hg10 rfl ?_; intro a hs
      refine wls hs rfl hg10 rfl ?_; intro a hs
      refine wls hs rfl hg10 rfl ?_; intro a hs
      refine wls hs rfl hg10 rfl ?_; intro a hs
      refine wls hs rfl hg10 rfl ?_; intro a hs
      have hm : some true = some b8 := hm
      cases Option.some.inj hm
      refine wl hs (y_pickT hs rfl hg10 rfl) rfl ?_; intro a hs
      exact K _ _ (hs.sub ⟨rfl, rfl, rfl, rfl, trivial⟩) hM
    · have hm := condF hg10 hb9
      refine wlg hs rfl hg10 (y_move hs rfl) rfl ?_; intro a hs
      refine wlg hs rfl hg10 (y_move hs rfl) rfl ?_; intro a hs
      obtain ⟨x11, hx12, hm⟩ := bindE hm
      obtain ⟨u14, he13, hr15⟩ := RdM.at_ hr_p0 hx12
      replace he13 := he13.below hM.bel
      refine wlg hs rfl hg10 (y_index ht_M hs rfl rfl he13) rfl ?_; intro a hs
      refine wlg hs rfl hg10 (y_load sc_I hs rfl he13.cell) rfl ?_; intro a hs
      refine wlg hs rfl hg10 (y_len hu_I hs rfl (RdI.below hr15 hM.bel)) rfl ?_; intro a hs
      obtain ⟨y16, h17, hm⟩ := bindE hm
      refine wcallg is_66 hs rfl hg10 rfl rfl (impl_areIndices_any v_p2 p2 (x11.length : Int) _ (RdI.below hr_p2 hM.bel) h17) ?_; rintro a _ w hs ⟨rfl, hX⟩
      have hM : Mem W w [] := hM.call hX
      refine wlg hs rfl hg10 (y_not hs rfl) rfl ?_; intro a hs
      have hm : some (!y16) = some b8 := hm
      cases Option.some.inj hm
      refine wl hs (y_pickF hs rfl hg10 rfl) rfl ?_; intro a hs
      exact K _ _ (hs.sub ⟨rfl, rfl, rfl, rfl, trivial⟩) hM
  intro a w hs hM
  simp only [List.drop_succ_cons, List.drop_zero]
  refine wpList_nil ?_
  refine x_nt ?_
  refine x_cond hs rfl (fun hb => ?_) (fun hb => ?_)
  · replace hm := condT hb hm
    refine wp_seq ?_
    refine wp_region_lit ?_
    refine wl hs (y_assign hs rfl) rfl ?_; intro a hs
    refine wl hs (y_assign hs rfl) rfl ?_; intro a hs
    refine wpList_nil ?_
    refine x_nt ?_
    refine wp_ret ?_
    refine x_rt ?_
    have hm : some ([], false) = some r := hm
    obtain rfl := Option.some.inj hm
    refine x_ret2 rfl hs rfl rfl ⟨_, rfl, ?_⟩
    have hM := hM.nilM 24 3
    exact ⟨_, _, rfl, hM⟩
  · replace hm := condF hb hm
    refine wp_skip ?_
    refine x_nt ?_
    refine wp_seq ?_
    refine wp_region_lit ?_
    refine wl hs (y_move hs rfl) rfl ?_; intro a hs
    refine wl hs (y_move hs rfl) rfl ?_; intro a hs
    refine wl hs (y_move hs rfl) rfl ?_; intro a hs
    obtain ⟨y19, h20, hm⟩ := bindE hm
    refine wcall is_67 hs rfl rfl (impl_partOf_any v_p0 p0 v_p1 p1 v_p2 p2 _ (RdM.below hr_p0 hM.bel) (RdI.below hr_p1 hM.bel) (RdI.below hr_p2 hM.bel) h20) ?_; rintro a v21 w hs ⟨vs23, hX⟩
    have hM : Mem W w [aMat 24 3 v21 vs23 y19] := hM.call hX
    refine wl hs (y_assign hs rfl) rfl ?_; intro a hs
    refine wl hs (y_assign hs rfl) rfl ?_; intro a hs
    refine wpList_nil ?_
    refine x_nt ?_
    refine wp_ret ?_
    have hm : some (y19, true) = some r := hm
    obtain rfl := Option.some.inj hm
    refine x_ret2 rfl hs rfl rfl ⟨_, rfl, ?_⟩
    exact ⟨_, _, rfl, hM⟩

end Go.Proofs.Ytaagklbiebogfaa
