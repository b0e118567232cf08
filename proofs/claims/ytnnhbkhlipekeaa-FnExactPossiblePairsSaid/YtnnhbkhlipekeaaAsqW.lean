/- The code of this unit computes what its mirrors say. Written by program (wip/gen). -/
import Derived.Test.YtnnhbkhlipekeaaFacts
import Derived.Test.YtnnhbkhlipekeaaAsqM
import Derived.Test.YtnnhbkhlipekeaaNumW
import Derived.Test.YtnnhbkhlipekeaaWy4W
import Derived.Test.YtnnhbkhlipekeaaAs2W
namespace Go.Proofs.Ytnnhbkhlipekeaa
open Go.RowKit
set_option linter.unusedVariables false

set_option maxHeartbeats 4000000 in
theorem spec_RegretOf_any (v_p0 : Value) (p0 : List (List Int)) (p1 : Int) (p2 : Int) (W : World) (hr_p0 : RdM W v_p0 p0) {r : Int × Bool} (hm : spec_RegretOf_m p0 p1 p2 = some r) : Calls Try.prog 24 [v_p0, .int .i64 p1, .int .i64 p2].toArray W fun e w => ∃ v, e = .returned v ∧ v = .tuple #[.int .i64 r.1, .bool r.2] ∧ Mem W w [] := by
  refine x_enter Try.func24 rfl Try.ntmps24 rfl ?_
  intro a hs
  have hM := Mem.start W
  unfold spec_RegretOf_m at hm
  refine wp_seq ?_
  refine wp_region_lit ?_
  refine wl hs (y_assign hs rfl) rfl ?_; intro a hs
  refine wl hs (y_assign hs rfl) rfl ?_; intro a hs
  refine wpList_nil ?_
  refine x_nt ?_
  refine wp_seq ?_
  refine wp_seq ?_
  refine wp_region_lit ?_
  refine wl hs (y_move hs rfl) rfl ?_; intro a hs
  obtain ⟨y1, h2, hm⟩ := bindE hm
  refine wcall is_56 hs rfl rfl (spec_asAsked_any v_p0 p0 _ (RdM.below hr_p0 hM.bel) h2) ?_; rintro a _ w hs ⟨rfl, hX⟩
  have hM : Mem W w [] := hM.call hX
  refine wl hs (y_not hs rfl) rfl ?_; intro a hs
  refine wl hs (y_move hs rfl) rfl ?_; intro a hs
  obtain ⟨b3, hb4, hm⟩ := bindE hm
  refine wlguard (N := 74) (L' := [(25, .bool b3), (0, v_p0), (1, .int .i64 p1), (2, .int .i64 p2)]) (fun w => Mem W w []) 7 ?_ ?_
  · intro K; rcases Bool.eq_false_or_eq_true (!y1) with hg5 | hg5
    · have hm := condT hg5 hb4
      refine wls hs rfl hg5 rfl ?_; intro a hs
      refine wls hs rfl hg5 rfl ?_; intro a hs
      refine wls hs rfl hg5 rfl ?_; intro a hs
      refine wls hs rfl hg5 rfl ?_; intro a hs
      refine wls hs rfl hg5 rfl ?_; intro a hs
      refine wls hs rfl hg5 rfl ?_; intro a hs
      have hm : some true = some b3 := hm
      cases Option.some.inj hm
      refine wl hs (y_pickT hs rfl hg5 rfl) rfl ?_; intro a hs
      exact K _ _ (hs.sub ⟨rfl, rfl, rfl, rfl, trivial⟩) hM
    · have hm := condF hg5 hb4
      refine wlg hs rfl hg5 (y_move hs rfl) rfl ?_; intro a hs
      refine wlg hs rfl hg5 (y_move hs rfl) rfl ?_; intro a hs
      refine wlg hs rfl hg5 (y_len hu_M hs rfl (RdM.below hr_p0 hM.bel)) rfl ?_; intro a hs
      obtain ⟨n6, h7, hm⟩ := bindE hm
      refine wlg hs rfl hg5 (y_sub hs rfl rfl h7) rfl ?_; intro a hs
      obtain ⟨y8, h9, hm⟩ := bindE hm
      refine wcallg is_60 hs rfl hg5 rfl rfl (spec_l1In_any p1 0 n6 _  h9) ?_; rintro a _ w hs ⟨rfl, hX⟩
      have hM : Mem W w [] := hM.call hX
      refine wlg hs rfl hg5 (y_not hs rfl) rfl ?_; intro a hs
      have hm : some (!y8) = some b3 := hm
      cases Option.some.inj hm
      refine wl hs (y_pickF hs rfl hg5 rfl) rfl ?_; intro a hs
      exact K _ _ (hs.sub ⟨rfl, rfl, rfl, rfl, trivial⟩) hM
  intro a w hs hM
  simp only [List.drop_succ_cons, List.drop_zero]
  refine wl hs (y_move hs rfl) rfl ?_; intro a hs
  obtain ⟨b10, hb11, hm⟩ := bindE hm
  refine wlguard (N := 74) (L' := [(33, .bool b10), (0, v_p0), (1, .int .i64 p1), (2, .int .i64 p2)]) (fun w => Mem W w []) 7 ?_ ?_
  · intro K; rcases Bool.eq_false_or_eq_true b3 with hg12 | hg12
    · have hm := condT hg12 hb11
      refine wls hs rfl hg12 rfl ?_; intro a hs
      refine wls hs rfl hg12 rfl ?_; intro a hs
      refine wls hs rfl hg12 rfl ?_; intro a hs
      refine wls hs rfl hg12 rfl ?_; intro a hs
      refine wls hs rfl hg12 rfl ?_; intro a hs
      refine wls hs rfl hg12 rfl ?_; intro a hs
      have hm : some true = some b10 := hm
      cases Option.some.inj hm
      refine wl hs (y_pickT hs rfl hg12 rfl) rfl ?_; intro a hs
      exact K _ _ (hs.sub ⟨rfl, rfl, rfl, rfl, trivial⟩) hM
    · have hm := condF hg12 hb11
      refine wlg hs rfl hg12 (y_move hs rfl) rfl ?_; intro a hs
      refine wlg hs rfl hg12 (y_move hs rfl) rfl ?_; intro a hs
      refine wlg hs rfl hg12 (y_len hu_M hs rfl (RdM.below hr_p0 hM.bel)) rfl ?_; intro a hs
      obtain ⟨n13, h14, hm⟩ := bindE hm
      refine wlg hs rfl hg12 (y_sub hs rfl rfl h14) rfl ?_; intro a hs
      obtain ⟨y15, h16, hm⟩ := bindE hm
      refine wcallg is_60 hs rfl hg12 rfl rfl (spec_l1In_any p2 0 n13 _  h16) ?_; rintro a _ w hs ⟨rfl, hX⟩
      have hM : Mem W w [] := hM.call hX
      refine wlg hs rfl hg12 (y_not hs rfl) rfl ?_; intro a hs
      have hm : some (!y15) = some b10 := hm
      cases Option.some.inj hm
      refine wl hs (y_pickF hs rfl hg12 rfl) rfl ?_; intro a hs
      exact K _ _ (hs.sub ⟨rfl, rfl, rfl, rfl, trivial⟩) hM
  intro a w hs hM
  simp only [List.drop_succ_cons, List.drop_zero]
  refine wpList_nil ?_
  refine x_nt ?_
  refine x_cond hs rfl (fun hb => ?_) (fun hb => ?_)
  · replace hm := condT hb hm
    refine wp_seq ?_
    refine wp_region_lit ?_
    refine wl hs (y_assign hs rfl) rfl ?_; intro a hs
    refine wl hs (y_assign hs rfl) rfl ?_; intro a hs
    refine wpList_nil ?_
    refine x_nt ?_
    refine wp_ret ?_
    refine x_rt ?_
    have hm : some (0, false) = some r := hm
    obtain rfl := Option.some.inj hm
    refine x_ret2 rfl hs rfl rfl ⟨_, rfl, ?_⟩
    exact ⟨rfl, hM⟩
  · replace hm := condF hb hm
    refine wp_skip ?_
    refine x_nt ?_
    refine wp_seq ?_
    refine wp_region_lit ?_
    refine wl hs (y_move hs rfl) rfl ?_; intro a hs
    obtain ⟨y17, h18, hm⟩ := bindE hm
    refine wcall is_57 hs rfl rfl (spec_asBest_any v_p0 p0 _ (RdM.below hr_p0 hM.bel) h18) ?_; rintro a _ w hs ⟨v21, vs22, rfl, hX⟩
    have hM : Mem W w [aMat 23 3 v21 vs22 y17.1] := hM.call hX
    refine wl hs (y_move hs rfl) rfl ?_; intro a hs
    refine wl hs (y_extract hs rfl rfl) rfl ?_; intro a hs
    refine wl hs (y_extract hs rfl rfl) rfl ?_; intro a hs
    refine wl hs (y_assign hs rfl) rfl ?_; intro a hs
    refine wl hs (y_assign hs rfl) rfl ?_; intro a hs
    refine wpList_nil ?_
    refine x_nt ?_
    refine wp_seq ?_
    refine wp_region_lit ?_
    refine wl hs (y_assign hs rfl) rfl ?_; intro a hs
    refine wl hs (y_assign hs rfl) rfl ?_; intro a hs
    refine wpList_nil ?_
    refine x_nt ?_
    refine wp_seq ?_
    refine wp_seq ?_
    refine wp_region_lit ?_
    refine wl hs (y_move hs rfl) rfl ?_; intro a hs
    have hM := hM.nilI 3
    obtain ⟨y24, h25, hm⟩ := bindE hm
    refine wcall is_61 hs rfl rfl (spec_asAll_any v_p0 p0 (.slice none 0 0) ([]) _ _ _ hr_p0 hM h25) ?_; rintro a v26 w hs ⟨vs28, hM⟩
    have hM : Mem W w [aMat 23 3 v26 vs28 y24, aMat 23 3 v21 vs22 y17.1] := hM
    refine wl hs (y_len hu_M hs rfl (hM.rdM 0 rfl)) rfl ?_; intro a hs
    refine wl hs (y_move hs rfl) rfl ?_; intro a hs
    refine wpList_nil ?_
    refine x_nt ?_
    obtain ⟨s34, hm, hk35⟩ := bindE hm
    refine x_mid (fun a w => ∃ (b32 : Bool), ∃ (n33 : Int), (b32, n33) = s34 ∧ Fr a 74 [(9, .int .i64 y17.2), (10, .bool b32), (11, .int .i64 n33)] ∧ Mem W w []) ?_ ?_
    · refine wp_block ?_
      refine x_loop (fun k a w => ∃ (q36 : List (List Int)) (j29 : Nat) (b30 : Bool) (n31 : Int) , k = q36.length ∧ Fr a 74 [(0, v_p0), (1, .int .i64 p1), (2, .int .i64 p2), (9, .int .i64 y17.2), (10, .bool b30), (11, .int .i64 n31), (40, v26), (41, .int .i64 (y24.length : Int)), (42, .int .i64 (j29 : Int))] ∧ Mem W w [aMat 23 3 v26 vs28 y24] ∧ spec_RegretOf_l1 p0 p1 p2 q36 j29 b30 n31 = some s34 ∧ List.drop j29 y24 = q36) _ ⟨y24, 0, false, 0, rfl, hs.sub ⟨rfl, rfl, rfl, rfl, rfl, rfl, rfl, rfl, rfl, trivial⟩, (hM.keep_ 1), hm, rfl⟩ ?_
      rintro k a w ⟨q36, j29, b30, n31, rfl, hs, hM, hm, hj29⟩
      rcases q36 with _ | ⟨x37, q36⟩
      · rewrite [spec_RegretOf_l1] at hm
        refine wp_seq ?_
        refine wp_region_lit ?_
        refine wl hs (y_lss hs rfl rfl) rfl ?_; intro a hs
        refine wpList_nil ?_
        refine x_nt ?_
        refine wp_seq ?_
        refine x_condF hs rfl (drop_f hj29) ?_
        refine wp_exit ?_
        refine x_et ?_
        refine x_et ?_
        refine x_eb ?_
        have hm : some (b30, n31) = some s34 := hm
        exact ⟨b30, n31, Option.some.inj hm, hs.sub ⟨rfl, rfl, rfl, trivial⟩, hM.none_⟩
      · rewrite [spec_RegretOf_l1] at hm
        have hx38 := drop_idx hj29
        have hsj29 := ck_succ hj29 (RdS.len (hM.rdM 0 rfl))
        refine wp_seq ?_
        refine wp_region_lit ?_
        refine wl hs (y_lss hs rfl rfl) rfl ?_; intro a hs
        refine wpList_nil ?_
        refine x_nt ?_
        refine wp_seq ?_
        refine x_condT hs rfl (drop_t hj29) ?_
        refine wp_skip ?_
        refine x_nt ?_
        refine wp_seq ?_
        refine wp_block ?_
        refine wp_seq ?_
        refine wp_region_lit ?_
        obtain ⟨u40, hv41, he39⟩ := hM.atM 0 rfl hx38
        refine wl hs (y_index ht_M hs rfl rfl he39) rfl ?_; intro a hs
        refine wl hs (y_load sc_I hs rfl he39.cell) rfl ?_; intro a hs
        refine wl hs (y_assign hs rfl) rfl ?_; intro a hs
        refine wpList_nil ?_
        refine x_nt ?_
        refine wp_seq ?_
        refine wp_region_lit ?_
        refine wl hs (y_move hs rfl) rfl ?_; intro a hs
        refine wl hs (y_move hs rfl) rfl ?_; intro a hs
        obtain ⟨y42, h43, hm⟩ := bindE hm
        refine wcall is_46 hs rfl rfl (spec_asCost_any v_p0 p0 u40 x37 _ (RdM.below hr_p0 hM.bel) (hM.rdRow 0 rfl rfl hv41 (idx_spec hx38).2.2) h43) ?_; rintro a _ w hs ⟨rfl, hX⟩
        have hM : Mem W w [aMat 23 3 v26 vs28 y24] := hM.call hX
        refine wl hs (y_assign hs rfl) rfl ?_; intro a hs
        refine wpList_nil ?_
        refine x_nt ?_
        refine wp_seq ?_
        refine wp_region_lit ?_
        refine wl hs (y_move hs rfl) rfl ?_; intro a hs
        refine wl hs (y_move hs rfl) rfl ?_; intro a hs
        obtain ⟨x44, hx45, hm⟩ := bindE hm
        have he46 := RdI.at_ (hM.rdRow 0 rfl rfl hv41 (idx_spec hx38).2.2) hx45
        refine wl hs (y_index ht_I hs rfl rfl he46) rfl ?_; intro a hs
        refine wl hs (y_load sc_int hs rfl he46.cell) rfl ?_; intro a hs
        refine wl hs (y_move hs rfl) rfl ?_; intro a hs
        refine wl hs (y_eql hs rfl rfl) rfl ?_; intro a hs
        refine wl hs (y_move hs rfl) rfl ?_; intro a hs
        obtain ⟨b47, hb48, hm⟩ := bindE hm
        refine wlguard (N := 74) (L' := [(63, .bool b47), (0, v_p0), (1, .int .i64 p1), (2, .int .i64 p2), (9, .int .i64 y17.2), (10, .bool b30), (11, .int .i64 n31), (14, .int .i64 y42), (40, v26), (41, .int .i64 (y24.length : Int)), (42, .int .i64 (j29 : Int))]) (fun w => Mem W w [aMat 23 3 v26 vs28 y24]) 8 ?_ ?_
        · intro K; rcases Bool.eq_false_or_eq_true (x44 == p2) with hg49 | hg49
          · have hm := condT hg49 hb48
            refine wlg hs rfl hg49 (y_move hs rfl) rfl ?_; intro a hs
            refine wlg hs rfl hg49 (y_not hs rfl) rfl ?_; intro a hs
            refine wlg hs rfl hg49 (y_move hs rfl) rfl ?_; intro a hs
            obtain ⟨b50, hb51, hm⟩ := bindE hm
            refine wlguard (N := 74) (L' := [(62, .bool b50), (0, v_p0), (1, .int .i64 p1), (2, .int .i64 p2), (9, .int .i64 y17.2), (10, .bool b30), (11, .int .i64 n31), (14, .int .i64 y42), (40, v26), (41, .int .i64 (y24.length : Int)), (42, .int .i64 (j29 : Int)), (55, .bool (x44 == p2))]) (fun w => Mem W w [aMat 23 3 v26 vs28 y24]) 4 ?_ ?_
            · intro K; rcases Bool.eq_false_or_eq_true (!b30) with hg52 | hg52
              · have hm := condT hg52 hb51
                refine wls hs rfl hg52 rfl ?_; intro a hs
                refine wls hs rfl hg52 rfl ?_; intro a hs
                refine wls hs rfl hg52 rfl ?_; intro a hs
                have hm : some true = some b50 := hm
                cases Option.some.inj hm
                refine wlg hs rfl hg49 (y_pickT hs rfl hg52 rfl) rfl ?_; intro a hs
                exact K _ _ (hs.sub ⟨rfl, rfl, rfl, rfl, rfl, rfl, rfl, rfl, rfl, rfl, rfl, rfl, trivial⟩) hM
              · have hm := condF hg52 hb51
                refine wlg hs rfl hg52 (y_move hs rfl) rfl ?_; intro a hs
                refine wlg hs rfl hg52 (y_move hs rfl) rfl ?_; intro a hs
                refine wlg hs rfl hg52 (y_lss hs rfl rfl) rfl ?_; intro a hs
                have hm : some (decide (y42 < n31)) = some b50 := hm
                cases Option.some.inj hm
                refine wlg hs rfl hg49 (y_pickF hs rfl hg52 rfl) rfl ?_; intro a hs
                exact K _ _ (hs.sub ⟨rfl, rfl, rfl, rfl, rfl, rfl, rfl, rfl, rfl, rfl, rfl, rfl, trivial⟩) hM
            intro a w hs hM
            simp only [List.drop_succ_cons, List.drop_zero]
            have hm : some b50 = some b47 := hm
            cases Option.some.inj hm
            refine wl hs (y_pickT hs rfl hg49 rfl) rfl ?_; intro a hs
            exact K _ _ (hs.sub ⟨rfl, rfl, rfl, rfl, rfl, rfl, rfl, rfl, rfl, rfl, rfl, trivial⟩) hM
          · have hm := condF hg49 hb48
            refine wls hs rfl hg49 rfl ?_; intro a hs
            refine wls hs rfl hg49 rfl ?_; intro a hs
            refine wls hs rfl hg49 rfl ?_; intro a hs
            refine wlu hs rfl rfl ?_; intro a hs
            refine wlu hs rfl rfl ?_; intro a hs
            refine wlu hs rfl rfl ?_; intro a hs
            refine wls hs rfl hg49 rfl ?_; intro a hs
            have hm : some false = some b47 := hm
            cases Option.some.inj hm
            refine wl hs (y_pickF hs rfl hg49 rfl) rfl ?_; intro a hs
            exact K _ _ (hs.sub ⟨rfl, rfl, rfl, rfl, rfl, rfl, rfl, rfl, rfl, rfl, rfl, trivial⟩) hM
        intro a w hs hM
        simp only [List.drop_succ_cons, List.drop_zero]
        refine wpList_nil ?_
        refine x_nt ?_
        refine x_cond hs rfl (fun hb => ?_) (fun hb => ?_)
        · replace hm := condT hb hm
          refine wp_seq ?_
          refine wp_region_lit ?_
          refine wl hs (y_move hs rfl) rfl ?_; intro a hs
          refine wl hs (y_assign hs rfl) rfl ?_; intro a hs
          refine wpList_nil ?_
          refine x_nt ?_
          refine wp_region_lit ?_
          refine wl hs (y_assign hs rfl) rfl ?_; intro a hs
          refine wpList_nil ?_
          refine x_nb ?_
          refine x_nt ?_
          refine wp_region_lit ?_
          refine wl hs (y_add hs rfl rfl hsj29) rfl ?_; intro a hs
          refine wl hs (y_move hs rfl) rfl ?_; intro a hs
          refine wpList_nil ?_
          exact ⟨_, by simp, q36, j29 + 1, true, y42, rfl, hs.sub ⟨rfl, rfl, rfl, rfl, rfl, rfl, rfl, rfl, rfl, trivial⟩, hM, hm, drop_next hj29⟩
        · replace hm := condF hb hm
          refine wp_skip ?_
          refine x_nb ?_
          refine x_nt ?_
          refine wp_region_lit ?_
          refine wl hs (y_add hs rfl rfl hsj29) rfl ?_; intro a hs
          refine wl hs (y_move hs rfl) rfl ?_; intro a hs
          refine wpList_nil ?_
          exact ⟨_, by simp, q36, j29 + 1, b30, n31, rfl, hs.sub ⟨rfl, rfl, rfl, rfl, rfl, rfl, rfl, rfl, rfl, trivial⟩, hM, hm, drop_next hj29⟩
    rintro a w ⟨b32, n33, rfl, hs, hM⟩
    have hm := hk35
    refine x_nt ?_
    refine wp_seq ?_
    refine wp_seq ?_
    refine wp_region_lit ?_
    refine wl hs (y_move hs rfl) rfl ?_; intro a hs
    refine wl hs (y_not hs rfl) rfl ?_; intro a hs
    refine wpList_nil ?_
    refine x_nt ?_
    refine x_cond hs rfl (fun hb => ?_) (fun hb => ?_)
    · replace hm := condT hb hm
      refine wp_seq ?_
      refine wp_region_lit ?_
      refine wl hs (y_assign hs rfl) rfl ?_; intro a hs
      refine wl hs (y_assign hs rfl) rfl ?_; intro a hs
      refine wpList_nil ?_
      refine x_nt ?_
      refine wp_ret ?_
      refine x_rt ?_
      have hm : some (0, false) = some r := hm
      obtain rfl := Option.some.inj hm
      refine x_ret2 rfl hs rfl rfl ⟨_, rfl, ?_⟩
      exact ⟨rfl, hM⟩
    · replace hm := condF hb hm
      refine wp_skip ?_
      refine x_nt ?_
      refine wp_seq ?_
      refine wp_region_lit ?_
      refine wl hs (y_move hs rfl) rfl ?_; intro a hs
      refine wl hs (y_move hs rfl) rfl ?_; intro a hs
      obtain ⟨n53, h54, hm⟩ := bindE hm
      refine wl hs (y_sub hs rfl rfl h54) rfl ?_; intro a hs
      obtain ⟨y55, h56, hm⟩ := bindE hm
      refine wcall is_45 hs rfl rfl (spec_nuIf_any n53 _  h56) ?_; rintro a _ w hs ⟨rfl, hX⟩
      have hM : Mem W w [] := hM.call hX
      refine wl hs (y_extract hs rfl rfl) rfl ?_; intro a hs
      refine wl hs (y_extract hs rfl rfl) rfl ?_; intro a hs
      refine wl hs (y_assign hs rfl) rfl ?_; intro a hs
      refine wl hs (y_assign hs rfl) rfl ?_; intro a hs
      refine wpList_nil ?_
      refine x_nt ?_
      refine wp_ret ?_
      have hm : some (y55.1, y55.2) = some r := hm
      obtain rfl := Option.some.inj hm
      refine x_ret2 rfl hs rfl rfl ⟨_, rfl, ?_⟩
      exact ⟨rfl, hM⟩

set_option maxHeartbeats 4000000 in
theorem spec_SecondBest_any (v_p0 : Value) (p0 : List (List Int)) (W : World) (hr_p0 : RdM W v_p0 p0) {r : Int × Bool} (hm : spec_SecondBest_m p0 = some r) : Calls Try.prog 31 [v_p0].toArray W fun e w => ∃ v, e = .returned v ∧ v = .tuple #[.int .i64 r.1, .bool r.2] ∧ Mem W w [] := by
  refine x_enter Try.func31 rfl Try.ntmps31 rfl ?_
  intro a hs
  have hM := Mem.start W
  unfold spec_SecondBest_m at hm
  refine wp_seq ?_
  refine wp_region_lit ?_
  refine wl hs (y_assign hs rfl) rfl ?_; intro a hs
  refine wl hs (y_assign hs rfl) rfl ?_; intro a hs
  refine wpList_nil ?_
  refine x_nt ?_
  refine wp_seq ?_
  refine wp_seq ?_
  refine wp_region_lit ?_
  refine wl hs (y_move hs rfl) rfl ?_; intro a hs
  obtain ⟨y1, h2, hm⟩ := bindE hm
  refine wcall is_56 hs rfl rfl (spec_asAsked_any v_p0 p0 _ (RdM.below hr_p0 hM.bel) h2) ?_; rintro a _ w hs ⟨rfl, hX⟩
  have hM : Mem W w [] := hM.call hX
  refine wl hs (y_not hs rfl) rfl ?_; intro a hs
  refine wpList_nil ?_
  refine x_nt ?_
  refine x_cond hs rfl (fun hb => ?_) (fun hb => ?_)
  · replace hm := condT hb hm
    refine wp_seq ?_
    refine wp_region_lit ?_
    refine wl hs (y_assign hs rfl) rfl ?_; intro a hs
    refine wl hs (y_assign hs rfl) rfl ?_; intro a hs
    refine wpList_nil ?_
    refine x_nt ?_
    refine wp_ret ?_
    refine x_rt ?_
    have hm : some (0, false) = some r := hm
    obtain rfl := Option.some.inj hm
    refine x_ret2 rfl hs rfl rfl ⟨_, rfl, ?_⟩
    exact ⟨rfl, hM⟩
  · replace hm := condF hb hm
    refine wp_skip ?_
    refine x_nt ?_
    refine wp_seq ?_
    refine wp_region_lit ?_
    refine wl hs (y_move hs rfl) rfl ?_; intro a hs
    obtain ⟨y3, h4, hm⟩ := bindE hm
    refine wcall is_57 hs rfl rfl (spec_asBest_any v_p0 p0 _ (RdM.below hr_p0 hM.bel) h4) ?_; rintro a _ w hs ⟨v7, vs8, rfl, hX⟩
    have hM : Mem W w [aMat 23 3 v7 vs8 y3.1] := hM.call hX
    refine wl hs (y_move hs rfl) rfl ?_; intro a hs
    refine wl hs (y_extract hs rfl rfl) rfl ?_; intro a hs
    refine wl hs (y_extract hs rfl rfl) rfl ?_; intro a hs
    refine wl hs (y_assign hs rfl) rfl ?_; intro a hs
    refine wl hs (y_assign hs rfl) rfl ?_; intro a hs
    refine wpList_nil ?_
    refine x_nt ?_
    refine wp_seq ?_
    refine wp_seq ?_
    refine wp_region_lit ?_
    refine wl hs (y_move hs rfl) rfl ?_; intro a hs
    refine wl hs (y_len hu_M hs rfl (hM.rdM 0 rfl)) rfl ?_; intro a hs
    refine wl hs (y_gtr hs rfl rfl) rfl ?_; intro a hs
    refine wpList_nil ?_
    refine x_nt ?_
    refine x_cond hs rfl (fun hb => ?_) (fun hb => ?_)
    · replace hm := condT hb hm
      refine wp_seq ?_
      refine wp_region_lit ?_
      refine wl hs (y_move hs rfl) rfl ?_; intro a hs
      obtain ⟨y9, h10, hm⟩ := bindE hm
      refine wcall is_45 hs rfl rfl (spec_nuIf_any y3.2 _  h10) ?_; rintro a _ w hs ⟨rfl, hX⟩
      have hM : Mem W w [aMat 23 3 v7 vs8 y3.1] := hM.call hX
      refine wl hs (y_extract hs rfl rfl) rfl ?_; intro a hs
      refine wl hs (y_extract hs rfl rfl) rfl ?_; intro a hs
      refine wl hs (y_assign hs rfl) rfl ?_; intro a hs
      refine wl hs (y_assign hs rfl) rfl ?_; intro a hs
      refine wpList_nil ?_
      refine x_nt ?_
      refine wp_ret ?_
      refine x_rt ?_
      have hm : some (y9.1, y9.2) = some r := hm
      obtain rfl := Option.some.inj hm
      refine x_ret2 rfl hs rfl rfl ⟨_, rfl, ?_⟩
      exact ⟨rfl, hM.none_⟩
    · replace hm := condF hb hm
      refine wp_skip ?_
      refine x_nt ?_
      refine wp_seq ?_
      refine wp_region_lit ?_
      refine wl hs (y_assign hs rfl) rfl ?_; intro a hs
      refine wpList_nil ?_
      refine x_nt ?_
      refine wp_seq ?_
      refine wp_seq ?_
      refine wp_region_lit ?_
      refine wl hs (y_move hs rfl) rfl ?_; intro a hs
      have hM := hM.nilI 3
      obtain ⟨y12, h13, hm⟩ := bindE hm
      refine wcall is_61 hs rfl rfl (spec_asAll_any v_p0 p0 (.slice none 0 0) ([]) _ _ _ hr_p0 hM h13) ?_; rintro a v14 w hs ⟨vs16, hM⟩
      have hM : Mem W w [aMat 23 3 v14 vs16 y12, aMat 23 3 v7 vs8 y3.1] := hM
      refine wl hs (y_len hu_M hs rfl (hM.rdM 0 rfl)) rfl ?_; intro a hs
      refine wl hs (y_move hs rfl) rfl ?_; intro a hs
      refine wpList_nil ?_
      refine x_nt ?_
      obtain ⟨s22, hm, hk23⟩ := bindE hm
      refine x_mid (fun a w => ∃ (n20 : Int), ∃ (b21 : Bool), (n20, b21) = s22 ∧ Fr a 55 [(5, .int .i64 n20), (6, .bool b21)] ∧ Mem W w []) ?_ ?_
      · refine wp_block ?_
        refine x_loop (fun k a w => ∃ (q24 : List (List Int)) (j17 : Nat) (n18 : Int) (b19 : Bool) , k = q24.length ∧ Fr a 55 [(0, v_p0), (4, v7), (5, .int .i64 n18), (6, .bool b19), (26, v14), (27, .int .i64 (y12.length : Int)), (28, .int .i64 (j17 : Int))] ∧ Mem W w [aMat 23 3 v14 vs16 y12, aMat 23 3 v7 vs8 y3.1] ∧ spec_SecondBest_l1 p0 y3 q24 j17 n18 b19 = some s22 ∧ List.drop j17 y12 = q24) _ ⟨y12, 0, y3.2, false, rfl, hs.sub ⟨rfl, rfl, rfl, rfl, rfl, rfl, rfl, trivial⟩, hM, hm, rfl⟩ ?_
        rintro k a w ⟨q24, j17, n18, b19, rfl, hs, hM, hm, hj17⟩
        rcases q24 with _ | ⟨x25, q24⟩
        · rewrite [spec_SecondBest_l1] at hm
          refine wp_seq ?_
          refine wp_region_lit ?_
          refine wl hs (y_lss hs rfl rfl) rfl ?_; intro a hs
          refine wpList_nil ?_
          refine x_nt ?_
          refine wp_seq ?_
          refine x_condF hs rfl (drop_f hj17) ?_
          refine wp_exit ?_
          refine x_et ?_
          refine x_et ?_
          refine x_eb ?_
          have hm : some (n18, b19) = some s22 := hm
          exact ⟨n18, b19, Option.some.inj hm, hs.sub ⟨rfl, rfl, trivial⟩, hM.none_⟩
        · rewrite [spec_SecondBest_l1] at hm
          have hx26 := drop_idx hj17
          have hsj17 := ck_succ hj17 (RdS.len (hM.rdM 0 rfl))
          refine wp_seq ?_
          refine wp_region_lit ?_
          refine wl hs (y_lss hs rfl rfl) rfl ?_; intro a hs
          refine wpList_nil ?_
          refine x_nt ?_
          refine wp_seq ?_
          refine x_condT hs rfl (drop_t hj17) ?_
          refine wp_skip ?_
          refine x_nt ?_
          refine wp_seq ?_
          refine wp_block ?_
          refine wp_seq ?_
          refine wp_region_lit ?_
          obtain ⟨u28, hv29, he27⟩ := hM.atM 0 rfl hx26
          refine wl hs (y_index ht_M hs rfl rfl he27) rfl ?_; intro a hs
          refine wl hs (y_load sc_I hs rfl he27.cell) rfl ?_; intro a hs
          refine wl hs (y_assign hs rfl) rfl ?_; intro a hs
          refine wpList_nil ?_
          refine x_nt ?_
          refine wp_seq ?_
          refine wp_seq ?_
          refine wp_region_lit ?_
          refine wl hs (y_move hs rfl) rfl ?_; intro a hs
          refine wl hs (y_move hs rfl) rfl ?_; intro a hs
          obtain ⟨x30, hx31, hm⟩ := bindE hm
          obtain ⟨u33, hv34, he32⟩ := hM.atM 1 rfl hx31
          refine wl hs (y_index ht_M hs rfl rfl he32) rfl ?_; intro a hs
          refine wl hs (y_load sc_I hs rfl he32.cell) rfl ?_; intro a hs
          obtain ⟨y35, h36, hm⟩ := bindE hm
          refine wcall is_68 hs rfl rfl (spec_l1Same_any u28 x25 u33 x30 _ (hM.rdRow 0 rfl rfl hv29 (idx_spec hx26).2.2) (hM.rdRow 1 rfl rfl hv34 (idx_spec hx31).2.2) h36) ?_; rintro a _ w hs ⟨rfl, hX⟩
          have hM : Mem W w [aMat 23 3 v14 vs16 y12, aMat 23 3 v7 vs8 y3.1] := hM.call hX
          refine wpList_nil ?_
          refine x_nt ?_
          refine x_cond hs rfl (fun hb => ?_) (fun hb => ?_)
          · replace hm := condT hb hm
            refine wp_exit ?_
            refine x_et ?_
            refine x_eb ?_
            refine x_nt ?_
            refine wp_region_lit ?_
            refine wl hs (y_add hs rfl rfl hsj17) rfl ?_; intro a hs
            refine wl hs (y_move hs rfl) rfl ?_; intro a hs
            refine wpList_nil ?_
            exact ⟨_, by simp, q24, j17 + 1, n18, b19, rfl, hs.sub ⟨rfl, rfl, rfl, rfl, rfl, rfl, rfl, trivial⟩, hM, hm, drop_next hj17⟩
          · replace hm := condF hb hm
            refine wp_skip ?_
            refine x_nt ?_
            refine wp_seq ?_
            refine wp_region_lit ?_
            refine wl hs (y_move hs rfl) rfl ?_; intro a hs
            refine wl hs (y_move hs rfl) rfl ?_; intro a hs
            obtain ⟨y37, h38, hm⟩ := bindE hm
            refine wcall is_46 hs rfl rfl (spec_asCost_any v_p0 p0 u28 x25 _ (RdM.below hr_p0 hM.bel) (hM.rdRow 0 rfl rfl hv29 (idx_spec hx26).2.2) h38) ?_; rintro a _ w hs ⟨rfl, hX⟩
            have hM : Mem W w [aMat 23 3 v14 vs16 y12, aMat 23 3 v7 vs8 y3.1] := hM.call hX
            refine wl hs (y_assign hs rfl) rfl ?_; intro a hs
            refine wpList_nil ?_
            refine x_nt ?_
            refine wp_seq ?_
            refine wp_region_lit ?_
            refine wl hs (y_move hs rfl) rfl ?_; intro a hs
            refine wl hs (y_not hs rfl) rfl ?_; intro a hs
            refine wl hs (y_move hs rfl) rfl ?_; intro a hs
            obtain ⟨b39, hb40, hm⟩ := bindE hm
            refine wlguard (N := 55) (L' := [(46, .bool b39), (0, v_p0), (4, v7), (5, .int .i64 n18), (6, .bool b19), (9, .int .i64 y37), (26, v14), (27, .int .i64 (y12.length : Int)), (28, .int .i64 (j17 : Int))]) (fun w => Mem W w [aMat 23 3 v14 vs16 y12, aMat 23 3 v7 vs8 y3.1]) 4 ?_ ?_
            · intro K; rcases Bool.eq_false_or_eq_true (!b19) with hg41 | hg41
              · have hm := condT hg41 hb40
                refine wls hs rfl hg41 rfl ?_; intro a hs
                refine wls hs rfl hg41 rfl ?_; intro a hs
                refine wls hs rfl hg41 rfl ?_; intro a hs
                have hm : some true = some b39 := hm
                cases Option.some.inj hm
                refine wl hs (y_pickT hs rfl hg41 rfl) rfl ?_; intro a hs
                exact K _ _ (hs.sub ⟨rfl, rfl, rfl, rfl, rfl, rfl, rfl, rfl, rfl, trivial⟩) hM
              · have hm := condF hg41 hb40
                refine wlg hs rfl hg41 (y_move hs rfl) rfl ?_; intro a hs
                refine wlg hs rfl hg41 (y_move hs rfl) rfl ?_; intro a hs
                refine wlg hs rfl hg41 (y_lss hs rfl rfl) rfl ?_; intro a hs
                have hm : some (decide (y37 < n18)) = some b39 := hm
                cases Option.some.inj hm
                refine wl hs (y_pickF hs rfl hg41 rfl) rfl ?_; intro a hs
                exact K _ _ (hs.sub ⟨rfl, rfl, rfl, rfl, rfl, rfl, rfl, rfl, rfl, trivial⟩) hM
            intro a w hs hM
            simp only [List.drop_succ_cons, List.drop_zero]
            refine wpList_nil ?_
            refine x_nt ?_
            refine x_cond hs rfl (fun hb => ?_) (fun hb => ?_)
            · replace hm := condT hb hm
              refine wp_seq ?_
              refine wp_region_lit ?_
              refine wl hs (y_move hs rfl) rfl ?_; intro a hs
              refine wl hs (y_assign hs rfl) rfl ?_; intro a hs
              refine wpList_nil ?_
              refine x_nt ?_
              refine wp_region_lit ?_
              refine wl hs (y_assign hs rfl) rfl ?_; intro a hs
              refine wpList_nil ?_
              refine x_nb ?_
              refine x_nt ?_
              refine wp_region_lit ?_
              refine wl hs (y_add hs rfl rfl hsj17) rfl ?_; intro a hs
              refine wl hs (y_move hs rfl) rfl ?_; intro a hs
              refine wpList_nil ?_
              exact ⟨_, by simp, q24, j17 + 1, y37, true, rfl, hs.sub ⟨rfl, rfl, rfl, rfl, rfl, rfl, rfl, trivial⟩, hM, hm, drop_next hj17⟩
            · replace hm := condF hb hm
              refine wp_skip ?_
              refine x_nb ?_
              refine x_nt ?_
              refine wp_region_lit ?_
              refine wl hs (y_add hs rfl rfl hsj17) rfl ?_; intro a hs
              refine wl hs (y_move hs rfl) rfl ?_; intro a hs
              refine wpList_nil ?_
              exact ⟨_, by simp, q24, j17 + 1, n18, b19, rfl, hs.sub ⟨rfl, rfl, rfl, rfl, rfl, rfl, rfl, trivial⟩, hM, hm, drop_next hj17⟩
      rintro a w ⟨n20, b21, rfl, hs, hM⟩
      have hm := hk23
      refine x_nt ?_
      refine wp_seq ?_
      refine wp_seq ?_
      refine wp_region_lit ?_
      refine wl hs (y_move hs rfl) rfl ?_; intro a hs
      refine wl hs (y_not hs rfl) rfl ?_; intro a hs
      refine wpList_nil ?_
      refine x_nt ?_
      refine x_cond hs rfl (fun hb => ?_) (fun hb => ?_)
      · replace hm := condT hb hm
        refine wp_seq ?_
        refine wp_region_lit ?_
        refine wl hs (y_assign hs rfl) rfl ?_; intro a hs
        refine wl hs (y_assign hs rfl) rfl ?_; intro a hs
        refine wpList_nil ?_
        refine x_nt ?_
        refine wp_ret ?_
        refine x_rt ?_
        have hm : some (0, false) = some r := hm
        obtain rfl := Option.some.inj hm
        refine x_ret2 rfl hs rfl rfl ⟨_, rfl, ?_⟩
        exact ⟨rfl, hM⟩
      · replace hm := condF hb hm
        refine wp_skip ?_
        refine x_nt ?_
        refine wp_seq ?_
        refine wp_region_lit ?_
        refine wl hs (y_move hs rfl) rfl ?_; intro a hs
        obtain ⟨y42, h43, hm⟩ := bindE hm
        refine wcall is_45 hs rfl rfl (spec_nuIf_any n20 _  h43) ?_; rintro a _ w hs ⟨rfl, hX⟩
        have hM : Mem W w [] := hM.call hX
        refine wl hs (y_extract hs rfl rfl) rfl ?_; intro a hs
        refine wl hs (y_extract hs rfl rfl) rfl ?_; intro a hs
        refine wl hs (y_assign hs rfl) rfl ?_; intro a hs
        refine wl hs (y_assign hs rfl) rfl ?_; intro a hs
        refine wpList_nil ?_
        refine x_nt ?_
        refine wp_ret ?_
        have hm : some (y42.1, y42.2) = some r := hm
        obtain rfl := Option.some.inj hm
        refine x_ret2 rfl hs rfl rfl ⟨_, rfl, ?_⟩
        exact ⟨rfl, hM⟩

set_option maxHeartbeats 4000000 in
theorem spec_ForcedPairs_any (v_p0 : Value) (p0 : List (List Int)) (W : World) (hr_p0 : RdM W v_p0 p0) {r : (List (List Int)) × Bool} (hm : spec_ForcedPairs_m p0 = some r) : Calls Try.prog 33 [v_p0].toArray W fun e w => ∃ v, e = .returned v ∧ ∃ v0, ∃ vs0, v = .tuple #[v0, .bool r.2] ∧ Mem W w [aMat 23 3 v0 vs0 r.1] := by
  refine x_enter Try.func33 rfl Try.ntmps33 rfl ?_
  intro a hs
  have hM := Mem.start W
  unfold spec_ForcedPairs_m at hm
  refine wp_seq ?_
  refine wp_region_lit ?_
  refine wl hs (y_assign hs rfl) rfl ?_; intro a hs
  refine wl hs (y_assign hs rfl) rfl ?_; intro a hs
  refine wpList_nil ?_
  refine x_nt ?_
  refine wp_seq ?_
  refine wp_seq ?_
  refine wp_region_lit ?_
  refine wl hs (y_move hs rfl) rfl ?_; intro a hs
  obtain ⟨y1, h2, hm⟩ := bindE hm
  refine wcall is_56 hs rfl rfl (spec_asAsked_any v_p0 p0 _ (RdM.below hr_p0 hM.bel) h2) ?_; rintro a _ w hs ⟨rfl, hX⟩
  have hM : Mem W w [] := hM.call hX
  refine wl hs (y_not hs rfl) rfl ?_; intro a hs
  refine wpList_nil ?_
  refine x_nt ?_
  refine x_cond hs rfl (fun hb => ?_) (fun hb => ?_)
  · replace hm := condT hb hm
    refine wp_seq ?_
    refine wp_region_lit ?_
    refine wl hs (y_assign hs rfl) rfl ?_; intro a hs
    refine wl hs (y_assign hs rfl) rfl ?_; intro a hs
    refine wpList_nil ?_
    refine x_nt ?_
    refine wp_ret ?_
    refine x_rt ?_
    have hm : some ([], false) = some r := hm
    obtain rfl := Option.some.inj hm
    refine x_ret2 rfl hs rfl rfl ⟨_, rfl, ?_⟩
    have hM := hM.nilM 23 3
    exact ⟨_, _, rfl, hM⟩
  · replace hm := condF hb hm
    refine wp_skip ?_
    refine x_nt ?_
    refine wp_seq ?_
    refine wp_region_lit ?_
    refine wl hs (y_move hs rfl) rfl ?_; intro a hs
    obtain ⟨y4, h5, hm⟩ := bindE hm
    refine wcall is_57 hs rfl rfl (spec_asBest_any v_p0 p0 _ (RdM.below hr_p0 hM.bel) h5) ?_; rintro a _ w hs ⟨v8, vs9, rfl, hX⟩
    have hM : Mem W w [aMat 23 3 v8 vs9 y4.1] := hM.call hX
    refine wl hs (y_move hs rfl) rfl ?_; intro a hs
    refine wl hs (y_extract hs rfl rfl) rfl ?_; intro a hs
    refine wl hs (y_extract hs rfl rfl) rfl ?_; intro a hs
    refine wl hs (y_assign hs rfl) rfl ?_; intro a hs
    refine wl hs (y_assign hs rfl) rfl ?_; intro a hs
    refine wpList_nil ?_
    refine x_nt ?_
    refine wp_seq ?_
    refine wp_region_lit ?_
    refine wl hs (y_assign hs rfl) rfl ?_; intro a hs
    have hM := hM.nilM 23 3
    refine wpList_nil ?_
    refine x_nt ?_
    refine wp_seq ?_
    refine wp_seq ?_
    refine wp_region_lit ?_
    refine wl hs (y_move hs rfl) rfl ?_; intro a hs
    obtain ⟨x11, hx12, hm⟩ := bindE hm
    obtain ⟨u14, hv15, he13⟩ := hM.atM 1 rfl hx12
    refine wl hs (y_index ht_M hs rfl rfl he13) rfl ?_; intro a hs
    refine wl hs (y_load sc_I hs rfl he13.cell) rfl ?_; intro a hs
    refine wl hs (y_len hu_I hs rfl (hM.rdRow 1 rfl rfl hv15 (idx_spec hx12).2.2)) rfl ?_; intro a hs
    refine wl hs (y_move hs rfl) rfl ?_; intro a hs
    refine wpList_nil ?_
    refine x_nt ?_
    obtain ⟨s23, hm, hk24⟩ := bindE hm
    refine x_mid (fun a w => ∃ (v20 : Value), ∃ (vs21 : List Value), ∃ (l22 : List (List Int)), l22 = s23 ∧ Fr a 54 [(6, v20)] ∧ Mem W w [aMat 23 3 v20 vs21 l22]) ?_ ?_
    · refine wp_block ?_
      refine x_loop (fun k a w => ∃ (q25 : List Int) (j16 : Nat) (v17 : Value) (vs18 : List Value) (l19 : List (List Int)) , k = q25.length ∧ Fr a 54 [(4, v8), (6, v17), (22, u14), (23, .int .i64 (x11.length : Int)), (24, .int .i64 (j16 : Int))] ∧ Mem W w [aMat 23 3 v17 vs18 l19, aMat 23 3 v8 vs9 y4.1] ∧ spec_ForcedPairs_l1 y4 q25 j16 l19 = some s23 ∧ List.drop j16 x11 = q25) _ ⟨x11, 0, (.slice none 0 0), [], [], rfl, hs.sub ⟨rfl, rfl, rfl, rfl, rfl, trivial⟩, hM, hm, rfl⟩ ?_
      rintro k a w ⟨q25, j16, v17, vs18, l19, rfl, hs, hM, hm, hj16⟩
      rcases q25 with _ | ⟨x26, q25⟩
      · rewrite [spec_ForcedPairs_l1] at hm
        refine wp_seq ?_
        refine wp_region_lit ?_
        refine wl hs (y_lss hs rfl rfl) rfl ?_; intro a hs
        refine wpList_nil ?_
        refine x_nt ?_
        refine wp_seq ?_
        refine x_condF hs rfl (drop_f hj16) ?_
        refine wp_exit ?_
        refine x_et ?_
        refine x_et ?_
        refine x_eb ?_
        have hm : some l19 = some s23 := hm
        exact ⟨v17, vs18, l19, Option.some.inj hm, hs.sub ⟨rfl, trivial⟩, (hM.keep_ 1)⟩
      · rewrite [spec_ForcedPairs_l1] at hm
        have hx27 := drop_idx hj16
        have hsj16 := ck_succ hj16 (RdS.len (hM.rdRow 1 rfl rfl hv15 (idx_spec hx12).2.2))
        refine wp_seq ?_
        refine wp_region_lit ?_
        refine wl hs (y_lss hs rfl rfl) rfl ?_; intro a hs
        refine wpList_nil ?_
        refine x_nt ?_
        refine wp_seq ?_
        refine x_condT hs rfl (drop_t hj16) ?_
        refine wp_skip ?_
        refine x_nt ?_
        refine wp_seq ?_
        refine wp_block ?_
        refine wp_seq ?_
        refine wp_region_lit ?_
        refine wl hs (y_move hs rfl) rfl ?_; intro a hs
        have he28 := RdI.at_ (hM.rdRow 1 rfl rfl hv15 (idx_spec hx12).2.2) hx27
        refine wl hs (y_index ht_I hs rfl rfl he28) rfl ?_; intro a hs
        refine wl hs (y_load sc_int hs rfl he28.cell) rfl ?_; intro a hs
        refine wl hs (y_assign hs rfl) rfl ?_; intro a hs
        refine wl hs (y_assign hs rfl) rfl ?_; intro a hs
        refine wpList_nil ?_
        refine x_nt ?_
        refine wp_seq ?_
        refine wp_region_lit ?_
        refine wl hs (y_assign hs rfl) rfl ?_; intro a hs
        refine wpList_nil ?_
        refine x_nt ?_
        refine wp_seq ?_
        refine wp_seq ?_
        refine wp_region_lit ?_
        refine wl hs (y_move hs rfl) rfl ?_; intro a hs
        refine wl hs (y_len hu_M hs rfl (hM.rdM 1 rfl)) rfl ?_; intro a hs
        refine wl hs (y_move hs rfl) rfl ?_; intro a hs
        refine wpList_nil ?_
        refine x_nt ?_
        obtain ⟨s32, hm, hk33⟩ := bindE hm
        refine x_mid (fun a w => ∃ (b31 : Bool), b31 = s32 ∧ Fr a 54 [(4, v8), (6, v17), (7, .int .i64 (j16 : Int)), (8, .int .i64 x26), (9, .bool b31), (22, u14), (23, .int .i64 (x11.length : Int)), (24, .int .i64 (j16 : Int))] ∧ Mem W w [aMat 23 3 v17 vs18 l19, aMat 23 3 v8 vs9 y4.1]) ?_ ?_
        · refine wp_block ?_
          refine x_loop (fun k a w => ∃ (q34 : List (List Int)) (j29 : Nat) (b30 : Bool) , k = q34.length ∧ Fr a 54 [(4, v8), (6, v17), (7, .int .i64 (j16 : Int)), (8, .int .i64 x26), (9, .bool b30), (22, u14), (23, .int .i64 (x11.length : Int)), (24, .int .i64 (j16 : Int)), (29, v8), (30, .int .i64 (y4.1.length : Int)), (31, .int .i64 (j29 : Int))] ∧ Mem W w [aMat 23 3 v17 vs18 l19, aMat 23 3 v8 vs9 y4.1] ∧ spec_ForcedPairs_l2 j16 x26 q34 j29 b30 = some s32 ∧ List.drop j29 y4.1 = q34) _ ⟨y4.1, 0, true, rfl, hs.sub ⟨rfl, rfl, rfl, rfl, rfl, rfl, rfl, rfl, rfl, rfl, rfl, trivial⟩, hM, hm, rfl⟩ ?_
          rintro k a w ⟨q34, j29, b30, rfl, hs, hM, hm, hj29⟩
          rcases q34 with _ | ⟨x35, q34⟩
          · rewrite [spec_ForcedPairs_l2] at hm
            refine wp_seq ?_
            refine wp_region_lit ?_
            refine wl hs (y_lss hs rfl rfl) rfl ?_; intro a hs
            refine wpList_nil ?_
            refine x_nt ?_
            refine wp_seq ?_
            refine x_condF hs rfl (drop_f hj29) ?_
            refine wp_exit ?_
            refine x_et ?_
            refine x_et ?_
            refine x_eb ?_
            have hm : some b30 = some s32 := hm
            exact ⟨b30, Option.some.inj hm, hs.sub ⟨rfl, rfl, rfl, rfl, rfl, rfl, rfl, rfl, trivial⟩, hM⟩
          · rewrite [spec_ForcedPairs_l2] at hm
            have hx36 := drop_idx hj29
            have hsj29 := ck_succ hj29 (RdS.len (hM.rdM 1 rfl))
            refine wp_seq ?_
            refine wp_region_lit ?_
            refine wl hs (y_lss hs rfl rfl) rfl ?_; intro a hs
            refine wpList_nil ?_
            refine x_nt ?_
            refine wp_seq ?_
            refine x_condT hs rfl (drop_t hj29) ?_
            refine wp_skip ?_
            refine x_nt ?_
            refine wp_seq ?_
            refine wp_block ?_
            refine wp_seq ?_
            refine wp_region_lit ?_
            obtain ⟨u38, hv39, he37⟩ := hM.atM 1 rfl hx36
            refine wl hs (y_index ht_M hs rfl rfl he37) rfl ?_; intro a hs
            refine wl hs (y_load sc_I hs rfl he37.cell) rfl ?_; intro a hs
            refine wl hs (y_assign hs rfl) rfl ?_; intro a hs
            refine wpList_nil ?_
            refine x_nt ?_
            refine wp_region_lit ?_
            refine wl hs (y_move hs rfl) rfl ?_; intro a hs
            refine wl hs (y_move hs rfl) rfl ?_; intro a hs
            obtain ⟨b40, hb41, hm⟩ := bindE hm
            refine wlguard (N := 54) (L' := [(43, .bool b40), (4, v8), (6, v17), (7, .int .i64 (j16 : Int)), (8, .int .i64 x26), (9, .bool b30), (22, u14), (23, .int .i64 (x11.length : Int)), (24, .int .i64 (j16 : Int)), (29, v8), (30, .int .i64 (y4.1.length : Int)), (31, .int .i64 (j29 : Int))]) (fun w => Mem W w [aMat 23 3 v17 vs18 l19, aMat 23 3 v8 vs9 y4.1]) 7 ?_ ?_
            · intro K; rcases Bool.eq_false_or_eq_true b30 with hg42 | hg42
              · have hm := condT hg42 hb41
                refine wlg hs rfl hg42 (y_move hs rfl) rfl ?_; intro a hs
                refine wlg hs rfl hg42 (y_move hs rfl) rfl ?_; intro a hs
                obtain ⟨x43, hx44, hm⟩ := bindE hm
                have he45 := RdI.at_ (hM.rdRow 1 rfl rfl hv39 (idx_spec hx36).2.2) hx44
                refine wlg hs rfl hg42 (y_index ht_I hs rfl rfl he45) rfl ?_; intro a hs
                refine wlg hs rfl hg42 (y_load sc_int hs rfl he45.cell) rfl ?_; intro a hs
                refine wlg hs rfl hg42 (y_move hs rfl) rfl ?_; intro a hs
                refine wlg hs rfl hg42 (y_eql hs rfl rfl) rfl ?_; intro a hs
                have hm : some (x43 == x26) = some b40 := hm
                cases Option.some.inj hm
                refine wl hs (y_pickT hs rfl hg42 rfl) rfl ?_; intro a hs
                exact K _ _ (hs.sub ⟨rfl, rfl, rfl, rfl, rfl, rfl, rfl, rfl, rfl, rfl, rfl, rfl, trivial⟩) hM
              · have hm := condF hg42 hb41
                refine wls hs rfl hg42 rfl ?_; intro a hs
                refine wls hs rfl hg42 rfl ?_; intro a hs
                refine wls hs rfl hg42 rfl ?_; intro a hs
                refine wls hs rfl hg42 rfl ?_; intro a hs
                refine wls hs rfl hg42 rfl ?_; intro a hs
                refine wls hs rfl hg42 rfl ?_; intro a hs
                have hm : some false = some b40 := hm
                cases Option.some.inj hm
                refine wl hs (y_pickF hs rfl hg42 rfl) rfl ?_; intro a hs
                exact K _ _ (hs.sub ⟨rfl, rfl, rfl, rfl, rfl, rfl, rfl, rfl, rfl, rfl, rfl, rfl, trivial⟩) hM
            intro a w hs hM
            simp only [List.drop_succ_cons, List.drop_zero]
            refine wl hs (y_assign hs rfl) rfl ?_; intro a hs
            refine wpList_nil ?_
            refine x_nb ?_
            refine x_nt ?_
            refine wp_region_lit ?_
            refine wl hs (y_add hs rfl rfl hsj29) rfl ?_; intro a hs
            refine wl hs (y_move hs rfl) rfl ?_; intro a hs
            refine wpList_nil ?_
            exact ⟨_, by simp, q34, j29 + 1, b40, rfl, hs.sub ⟨rfl, rfl, rfl, rfl, rfl, rfl, rfl, rfl, rfl, rfl, rfl, trivial⟩, hM, hm, drop_next hj29⟩
        rintro a w ⟨b31, rfl, hs, hM⟩
        have hm := hk33
        refine x_nt ?_
        refine wp_seq ?_
        refine wp_region_lit ?_
        refine wl hs (y_move hs rfl) rfl ?_; intro a hs
        refine wpList_nil ?_
        refine x_nt ?_
        refine x_cond hs rfl (fun hb => ?_) (fun hb => ?_)
        · replace hm := condT hb hm
          refine wp_region_lit ?_
          refine wl hs (y_move hs rfl) rfl ?_; intro a hs
          refine wl hs (y_move hs rfl) rfl ?_; intro a hs
          refine wl hs (y_move hs rfl) rfl ?_; intro a hs
          refine wmem hs (x_new2I hu_I he_int hs rfl rfl hM) rfl ?_; intro a v47 w hs hM
          have hM : Mem W w [aInts 3 v47 ([(j16 : Int), x26]), aMat 23 3 v17 vs18 l19, aMat 23 3 v8 vs9 y4.1] := hM
          obtain ⟨l48, h49, hm⟩ := bindE hm
          refine wappM hu_M he_I hs (((hM.front 2 rfl).front 1 rfl).front 2 rfl) rfl rfl h49 rfl rfl rfl ?_; intro a v50 w u51 hs hM
          have hM : Mem W w [aMat 23 3 v50 (vs18 ++ [v47]) l48, aMat 23 3 v8 vs9 y4.1] := hM
          refine wl hs (y_assign hs rfl) rfl ?_; intro a hs
          refine wpList_nil ?_
          refine x_nb ?_
          refine x_nt ?_
          refine wp_region_lit ?_
          refine wl hs (y_add hs rfl rfl hsj16) rfl ?_; intro a hs
          refine wl hs (y_move hs rfl) rfl ?_; intro a hs
          refine wpList_nil ?_
          exact ⟨_, by simp, q25, j16 + 1, v50, (vs18 ++ [v47]), l48, rfl, hs.sub ⟨rfl, rfl, rfl, rfl, rfl, trivial⟩, hM, hm, drop_next hj16⟩
        · replace hm := condF hb hm
          refine wp_skip ?_
          refine x_nb ?_
          refine x_nt ?_
          refine wp_region_lit ?_
          refine wl hs (y_add hs rfl rfl hsj16) rfl ?_; intro a hs
          refine wl hs (y_move hs rfl) rfl ?_; intro a hs
          refine wpList_nil ?_
          exact ⟨_, by simp, q25, j16 + 1, v17, vs18, l19, rfl, hs.sub ⟨rfl, rfl, rfl, rfl, rfl, trivial⟩, hM, hm, drop_next hj16⟩
    rintro a w ⟨v20, vs21, l22, rfl, hs, hM⟩
    have hm := hk24
    refine x_nt ?_
    refine wp_seq ?_
    refine wp_region_lit ?_
    refine wl hs (y_move hs rfl) rfl ?_; intro a hs
    refine wl hs (y_assign hs rfl) rfl ?_; intro a hs
    refine wl hs (y_assign hs rfl) rfl ?_; intro a hs
    refine wpList_nil ?_
    refine x_nt ?_
    refine wp_ret ?_
    have hm : some (l22, true) = some r := hm
    obtain rfl := Option.some.inj hm
    refine x_ret2 rfl hs rfl rfl ⟨_, rfl, ?_⟩
    exact ⟨_, _, rfl, hM⟩

set_option maxHeartbeats 4000000 in
theorem spec_ceBefore_any (v_p0 : Value) (p0 : List Int) (v_p1 : Value) (p1 : List Int) (W : World) (hr_p0 : RdI W v_p0 p0) (hr_p1 : RdI W v_p1 p1) {r : Bool} (hm : spec_ceBefore_m p0 p1 = some r) : Calls Try.prog 94 [v_p0, v_p1].toArray W fun e w => ∃ v, e = .returned v ∧ v = .bool r ∧ Mem W w [] := by
  refine x_enter Try.func94 rfl Try.ntmps94 rfl ?_
  intro a hs
  have hM := Mem.start W
  unfold spec_ceBefore_m at hm
  refine wp_seq ?_
  refine wp_region_lit ?_
  refine wl hs (y_assign hs rfl) rfl ?_; intro a hs
  refine wpList_nil ?_
  refine x_nt ?_
  refine wp_seq ?_
  refine wp_seq ?_
  refine wp_region_lit ?_
  refine wl hs (y_move hs rfl) rfl ?_; intro a hs
  refine wl hs (y_len hu_I hs rfl (RdI.below hr_p0 hM.bel)) rfl ?_; intro a hs
  refine wl hs (y_move hs rfl) rfl ?_; intro a hs
  refine wpList_nil ?_
  refine x_nt ?_
  obtain ⟨s2, hm, hk3⟩ := bindE hm
  refine x_mid (fun a w => Sum.inr () = s2 ∧ Fr a 44 [(0, v_p0), (1, v_p1)] ∧ Mem W w []) ?_ ?_
  · refine wp_block ?_
    refine x_loop (fun k a w => ∃ (q4 : List Int) (j1 : Nat) , k = q4.length ∧ Fr a 44 [(0, v_p0), (1, v_p1), (7, v_p0), (8, .int .i64 (p0.length : Int)), (9, .int .i64 (j1 : Int))] ∧ Mem W w [] ∧ spec_ceBefore_l1 p1 q4 j1 = some s2 ∧ List.drop j1 p0 = q4) _ ⟨p0, 0, rfl, hs.sub ⟨rfl, rfl, rfl, rfl, rfl, trivial⟩, hM, hm, rfl⟩ ?_
    rintro k a w ⟨q4, j1, rfl, hs, hM, hm, hj1⟩
    rcases q4 with _ | ⟨x5, q4⟩
    · rewrite [spec_ceBefore_l1] at hm
      refine wp_seq ?_
      refine wp_region_lit ?_
      refine wl hs (y_lss hs rfl rfl) rfl ?_; intro a hs
      refine wpList_nil ?_
      refine x_nt ?_
      refine wp_seq ?_
      refine x_condF hs rfl (drop_f hj1) ?_
      refine wp_exit ?_
      refine x_et ?_
      refine x_et ?_
      refine x_eb ?_
      have hm : some (Sum.inr ()) = some s2 := hm
      exact ⟨Option.some.inj hm, hs.sub ⟨rfl, rfl, trivial⟩, hM⟩
    · rewrite [spec_ceBefore_l1] at hm
      have hx6 := drop_idx hj1
      have hsj1 := ck_succ hj1 (RdS.len (RdI.below hr_p0 hM.bel))
      refine wp_seq ?_
      refine wp_region_lit ?_
      refine wl hs (y_lss hs rfl rfl) rfl ?_; intro a hs
      refine wpList_nil ?_
      refine x_nt ?_
      refine wp_seq ?_
      refine x_condT hs rfl (drop_t hj1) ?_
      refine wp_skip ?_
      refine x_nt ?_
      refine wp_seq ?_
      refine wp_block ?_
      refine wp_seq ?_
      refine wp_region_lit ?_
      refine wl hs (y_move hs rfl) rfl ?_; intro a hs
      have he7 := RdI.at_ (RdI.below hr_p0 hM.bel) hx6
      refine wl hs (y_index ht_I hs rfl rfl he7) rfl ?_; intro a hs
      refine wl hs (y_load sc_int hs rfl he7.cell) rfl ?_; intro a hs
      refine wl hs (y_assign hs rfl) rfl ?_; intro a hs
      refine wl hs (y_assign hs rfl) rfl ?_; intro a hs
      refine wpList_nil ?_
      refine x_nt ?_
      refine wp_seq ?_
      refine wp_region_lit ?_
      refine wl hs (y_move hs rfl) rfl ?_; intro a hs
      refine wl hs (y_move hs rfl) rfl ?_; intro a hs
      refine wl hs (y_len hu_I hs rfl (RdI.below hr_p1 hM.bel)) rfl ?_; intro a hs
      refine wl hs (y_eql hs rfl rfl) rfl ?_; intro a hs
      refine wl hs (y_move hs rfl) rfl ?_; intro a hs
      obtain ⟨b8, hb9, hm⟩ := bindE hm
      refine wlguard (N := 44) (L' := [(25, .bool b8), (0, v_p0), (1, v_p1), (5, .int .i64 (j1 : Int)), (6, .int .i64 x5), (7, v_p0), (8, .int .i64 (p0.length : Int)), (9, .int .i64 (j1 : Int))]) (fun w => Mem W w []) 7 ?_ ?_
      · intro K; rcases Bool.eq_false_or_eq_true ((j1 : Int) == (p1.length : Int)) with hg10 | hg10
        · have hm := condT hg10 hb9
          refine wls hs rfl hg10 rfl ?_; intro a hs
          refine wls hs rfl hg10 rfl ?_; intro a hs
          refine wls hs rfl hg10 rfl ?_; intro a hs
          refine wls hs rfl hg10 rfl ?_; intro a hs
          refine wls hs rfl hg10 rfl ?_; intro a hs
          refine wls hs rfl hg10 rfl ?_; intro a hs
          have hm : some true = some b8 := hm
          cases Option.some.inj hm
          refine wl hs (y_pickT hs rfl hg10 rfl) rfl ?_; intro a hs
          exact K _ _ (hs.sub ⟨rfl, rfl, rfl, rfl, rfl, rfl, rfl, rfl, trivial⟩) hM
        · have hm := condF hg10 hb9
          refine wlg hs rfl hg10 (y_move hs rfl) rfl ?_; intro a hs
          refine wlg hs rfl hg10 (y_move hs rfl) rfl ?_; intro a hs
          refine wlg hs rfl hg10 (y_move hs rfl) rfl ?_; intro a hs
          obtain ⟨x11, hx12, hm⟩ := bindE hm
          have he13 := RdI.at_ (RdI.below hr_p1 hM.bel) hx12
          refine wlg hs rfl hg10 (y_index ht_I hs rfl rfl he13) rfl ?_; intro a hs
          refine wlg hs rfl hg10 (y_load sc_int hs rfl he13.cell) rfl ?_; intro a hs
          refine wlg hs rfl hg10 (y_neq hs rfl rfl) rfl ?_; intro a hs
          have hm : some (x5 != x11) = some b8 := hm
          cases Option.some.inj hm
          refine wl hs (y_pickF hs rfl hg10 rfl) rfl ?_; intro a hs
          exact K _ _ (hs.sub ⟨rfl, rfl, rfl, rfl, rfl, rfl, rfl, rfl, trivial⟩) hM
      intro a w hs hM
      simp only [List.drop_succ_cons, List.drop_zero]
      refine wpList_nil ?_
      refine x_nt ?_
      refine x_cond hs rfl (fun hb => ?_) (fun hb => ?_)
      · replace hm := condT hb hm
        refine wp_seq ?_
        refine wp_region_lit ?_
        refine wl hs (y_move hs rfl) rfl ?_; intro a hs
        refine wl hs (y_move hs rfl) rfl ?_; intro a hs
        refine wl hs (y_len hu_I hs rfl (RdI.below hr_p1 hM.bel)) rfl ?_; intro a hs
        refine wl hs (y_lss hs rfl rfl) rfl ?_; intro a hs
        refine wl hs (y_move hs rfl) rfl ?_; intro a hs
        obtain ⟨b14, hb15, hm⟩ := bindE hm
        refine wlguard (N := 44) (L' := [(37, .bool b14)]) (fun w => Mem W w []) 7 ?_ ?_
        · intro K; rcases Bool.eq_false_or_eq_true (decide ((j1 : Int) < (p1.length : Int))) with hg16 | hg16
          · have hm := condT hg16 hb15
            refine wlg hs rfl hg16 (y_move hs rfl) rfl ?_; intro a hs
            refine wlg hs rfl hg16 (y_move hs rfl) rfl ?_; intro a hs
            refine wlg hs rfl hg16 (y_move hs rfl) rfl ?_; intro a hs
            obtain ⟨x17, hx18, hm⟩ := bindE hm
            have he19 := RdI.at_ (RdI.below hr_p1 hM.bel) hx18
            refine wlg hs rfl hg16 (y_index ht_I hs rfl rfl he19) rfl ?_; intro a hs
            refine wlg hs rfl hg16 (y_load sc_int hs rfl he19.cell) rfl ?_; intro a hs
            refine wlg hs rfl hg16 (y_lss hs rfl rfl) rfl ?_; intro a hs
            have hm : some (decide (x5 < x17)) = some b14 := hm
            cases Option.some.inj hm
            refine wl hs (y_pickT hs rfl hg16 rfl) rfl ?_; intro a hs
            exact K _ _ (hs.sub ⟨rfl, trivial⟩) hM
          · have hm := condF hg16 hb15
            refine wls hs rfl hg16 rfl ?_; intro a hs
            refine wls hs rfl hg16 rfl ?_; intro a hs
            refine wls hs rfl hg16 rfl ?_; intro a hs
            refine wls hs rfl hg16 rfl ?_; intro a hs
            refine wls hs rfl hg16 rfl ?_; intro a hs
            refine wls hs rfl hg16 rfl ?_; intro a hs
            have hm : some false = some b14 := hm
            cases Option.some.inj hm
            refine wl hs (y_pickF hs rfl hg16 rfl) rfl ?_; intro a hs
            exact K _ _ (hs.sub ⟨rfl, trivial⟩) hM
        intro a w hs hM
        simp only [List.drop_succ_cons, List.drop_zero]
        refine wl hs (y_assign hs rfl) rfl ?_; intro a hs
        refine wpList_nil ?_
        refine x_nt ?_
        refine wp_ret ?_
        refine x_rb ?_
        refine x_rt ?_
        refine x_rt ?_
        refine x_rb ?_
        refine x_rt ?_
        refine x_rt ?_
        have hm : some (Sum.inl b14) = some s2 := hm
        cases Option.some.inj hm
        have hm := hk3
        have hm : some b14 = some r := hm
        obtain rfl := Option.some.inj hm
        refine x_ret1 rfl hs rfl ⟨_, rfl, ?_⟩
        exact ⟨rfl, hM⟩
      · replace hm := condF hb hm
        refine wp_skip ?_
        refine x_nb ?_
        refine x_nt ?_
        refine wp_region_lit ?_
        refine wl hs (y_add hs rfl rfl hsj1) rfl ?_; intro a hs
        refine wl hs (y_move hs rfl) rfl ?_; intro a hs
        refine wpList_nil ?_
        exact ⟨_, by simp, q4, j1 + 1, rfl, hs.sub ⟨rfl, rfl, rfl, rfl, rfl, trivial⟩, hM, hm, drop_next hj1⟩
  rintro a w ⟨rfl, hs, hM⟩
  have hm := hk3
  refine x_nt ?_
  refine wp_seq ?_
  refine wp_region_lit ?_
  refine wl hs (y_move hs rfl) rfl ?_; intro a hs
  refine wl hs (y_len hu_I hs rfl (RdI.below hr_p0 hM.bel)) rfl ?_; intro a hs
  refine wl hs (y_move hs rfl) rfl ?_; intro a hs
  refine wl hs (y_len hu_I hs rfl (RdI.below hr_p1 hM.bel)) rfl ?_; intro a hs
  refine wl hs (y_lss hs rfl rfl) rfl ?_; intro a hs
  refine wl hs (y_assign hs rfl) rfl ?_; intro a hs
  refine wpList_nil ?_
  refine x_nt ?_
  refine wp_ret ?_
  have hm : some (decide ((p0.length : Int) < (p1.length : Int))) = some r := hm
  obtain rfl := Option.some.inj hm
  refine x_ret1 rfl hs rfl ⟨_, rfl, ?_⟩
  exact ⟨rfl, hM⟩

set_option maxHeartbeats 4000000 in
theorem spec_cePut_any (v_p0 : Value) (p0 : List (List Int)) (vs_p0 : List Value)  (v_p1 : Value) (p1 : List Int)  (W w : World) (As : List Atom)  (hM : Mem W w (aMat 23 3 v_p0 vs_p0 p0 :: aInts 3 v_p1 p1 :: As)) {r : List (List Int)} (hm : spec_cePut_m p0 p1 = some r) : Calls Try.prog 73 [v_p0, v_p1].toArray w fun e w' => ∃ v, e = .returned v ∧ ∃ vs0, Mem W w' (aMat 23 3 v vs0 r :: As) := by
  refine x_enter Try.func73 rfl Try.ntmps73 rfl ?_
  intro a hs
  unfold spec_cePut_m at hm
  refine wp_seq ?_
  refine wp_region_lit ?_
  refine wl hs (y_assign hs rfl) rfl ?_; intro a hs
  refine wpList_nil ?_
  refine x_nt ?_
  refine wp_seq ?_
  refine wp_region_lit ?_
  refine wl hs (y_assign hs rfl) rfl ?_; intro a hs
  refine wpList_nil ?_
  refine x_nt ?_
  refine wp_seq ?_
  obtain ⟨s3, hm, hk4⟩ := bindE hm
  refine x_mid (fun a w => ∃ (n2 : Int), n2 = s3 ∧ Fr a 45 [(0, v_p0), (1, v_p1), (5, .int .i64 n2)] ∧ Mem W w (aMat 23 3 v_p0 vs_p0 p0 :: aInts 3 v_p1 p1 :: As)) ?_ ?_
  · refine wp_block ?_
    refine x_loop (fun k a w => ∃ (n1 : Int) , Fr a 45 [(0, v_p0), (1, v_p1), (5, .int .i64 n1)] ∧ Mem W w (aMat 23 3 v_p0 vs_p0 p0 :: aInts 3 v_p1 p1 :: As) ∧ spec_cePut_l1 p0 p1 k n1 = some s3) 4000000 ⟨0, hs.sub ⟨rfl, rfl, rfl, trivial⟩, hM, hm⟩ ?_
    rintro k a w ⟨n1, hs, hM, hm⟩
    rcases k with _ | k
    · rewrite [spec_cePut_l1] at hm; cases hm
    rewrite [spec_cePut_l1] at hm
    refine wp_seq ?_
    refine wp_seq ?_
    refine wp_region_lit ?_
    refine wl hs (y_move hs rfl) rfl ?_; intro a hs
    refine wl hs (y_move hs rfl) rfl ?_; intro a hs
    refine wl hs (y_len hu_M hs rfl (hM.rdM 0 rfl)) rfl ?_; intro a hs
    refine wl hs (y_lss hs rfl rfl) rfl ?_; intro a hs
    refine wl hs (y_move hs rfl) rfl ?_; intro a hs
    obtain ⟨b6, hb7, hm⟩ := bindE hm
    refine wlguard (N := 45) (L' := [(17, .bool b6), (0, v_p0), (1, v_p1), (5, .int .i64 n1)]) (fun w => Mem W w (aMat 23 3 v_p0 vs_p0 p0 :: aInts 3 v_p1 p1 :: As)) 7 ?_ ?_
    · intro K; rcases Bool.eq_false_or_eq_true (decide (n1 < (p0.length : Int))) with hg8 | hg8
      · have hm := condT hg8 hb7
        refine wlg hs rfl hg8 (y_move hs rfl) rfl ?_; intro a hs
        refine wlg hs rfl hg8 (y_move hs rfl) rfl ?_; intro a hs
        obtain ⟨x9, hx10, hm⟩ := bindE hm
        obtain ⟨u12, hv13, he11⟩ := hM.atM 0 rfl hx10
        refine wlg hs rfl hg8 (y_index ht_M hs rfl rfl he11) rfl ?_; intro a hs
        refine wlg hs rfl hg8 (y_load sc_I hs rfl he11.cell) rfl ?_; intro a hs
        refine wlg hs rfl hg8 (y_move hs rfl) rfl ?_; intro a hs
        obtain ⟨y14, h15, hm⟩ := bindE hm
        refine wcallg is_94 hs rfl hg8 rfl rfl (spec_ceBefore_any u12 x9 v_p1 p1 _ (hM.rdRow 0 rfl rfl hv13 (idx_spec hx10).2.2) (hM.rdI 1 rfl) h15) ?_; rintro a _ w hs ⟨rfl, hX⟩
        have hM : Mem W w (aMat 23 3 v_p0 vs_p0 p0 :: aInts 3 v_p1 p1 :: As) := hM.call hX
        have hm : some y14 = some b6 := hm
        cases Option.some.inj hm
        refine wl hs (y_pickT hs rfl hg8 rfl) rfl ?_; intro a hs
        exact K _ _ (hs.sub ⟨rfl, rfl, rfl, rfl, trivial⟩) hM
      · have hm := condF hg8 hb7
        refine wls hs rfl hg8 rfl ?_; intro a hs
        refine wls hs rfl hg8 rfl ?_; intro a hs
        refine wls hs rfl hg8 rfl ?_; intro a hs
        refine wls hs rfl hg8 rfl ?_; intro a hs
        refine wls hs rfl hg8 rfl ?_; intro a hs
        refine wls hs rfl hg8 rfl ?_; intro a hs
        have hm : some false = some b6 := hm
        cases Option.some.inj hm
        refine wl hs (y_pickF hs rfl hg8 rfl) rfl ?_; intro a hs
        exact K _ _ (hs.sub ⟨rfl, rfl, rfl, rfl, trivial⟩) hM
    intro a w hs hM
    simp only [List.drop_succ_cons, List.drop_zero]
    refine wpList_nil ?_
    refine x_nt ?_
    refine x_cond hs rfl (fun hb => ?_) (fun hb => ?_)
    · replace hm := condT hb hm
      refine wp_skip ?_
      refine x_nt ?_
      refine wp_block ?_
      refine wp_region_lit ?_
      refine wl hs (y_move hs rfl) rfl ?_; intro a hs
      obtain ⟨n16, h17, hm⟩ := bindE hm
      refine wl hs (y_add hs rfl rfl h17) rfl ?_; intro a hs
      refine wl hs (y_assign hs rfl) rfl ?_; intro a hs
      refine wpList_nil ?_
      refine x_nb ?_
      exact ⟨k, Nat.lt_succ_self _, n16, hs.sub ⟨rfl, rfl, rfl, trivial⟩, hM, hm⟩
    · replace hm := condF hb hm
      refine wp_exit ?_
      refine x_et ?_
      refine x_et ?_
      refine x_eb ?_
      have hm : some n1 = some s3 := hm
      exact ⟨n1, Option.some.inj hm, hs.sub ⟨rfl, rfl, rfl, trivial⟩, hM⟩
  rintro a w ⟨n2, rfl, hs, hM⟩
  have hm := hk4
  refine x_nt ?_
  refine wp_seq ?_
  refine wp_seq ?_
  refine wp_region_lit ?_
  refine wl hs (y_move hs rfl) rfl ?_; intro a hs
  refine wl hs (y_move hs rfl) rfl ?_; intro a hs
  refine wl hs (y_len hu_M hs rfl (hM.rdM 0 rfl)) rfl ?_; intro a hs
  refine wl hs (y_lss hs rfl rfl) rfl ?_; intro a hs
  refine wl hs (y_move hs rfl) rfl ?_; intro a hs
  obtain ⟨b18, hb19, hm⟩ := bindE hm
  refine wlguard (N := 45) (L' := [(31, .bool b18), (0, v_p0), (1, v_p1), (5, .int .i64 n2)]) (fun w => Mem W w (aMat 23 3 v_p0 vs_p0 p0 :: aInts 3 v_p1 p1 :: As)) 7 ?_ ?_
  · intro K; rcases Bool.eq_false_or_eq_true (decide (n2 < (p0.length : Int))) with hg20 | hg20
    · have hm := condT hg20 hb19
      refine wlg hs rfl hg20 (y_move hs rfl) rfl ?_; intro a hs
      refine wlg hs rfl hg20 (y_move hs rfl) rfl ?_; intro a hs
      obtain ⟨x21, hx22, hm⟩ := bindE hm
      obtain ⟨u24, hv25, he23⟩ := hM.atM 0 rfl hx22
      refine wlg hs rfl hg20 (y_index ht_M hs rfl rfl he23) rfl ?_; intro a hs
      refine wlg hs rfl hg20 (y_load sc_I hs rfl he23.cell) rfl ?_; intro a hs
      refine wlg hs rfl hg20 (y_move hs rfl) rfl ?_; intro a hs
      obtain ⟨y26, h27, hm⟩ := bindE hm
      refine wcallg is_68 hs rfl hg20 rfl rfl (spec_l1Same_any u24 x21 v_p1 p1 _ (hM.rdRow 0 rfl rfl hv25 (idx_spec hx22).2.2) (hM.rdI 1 rfl) h27) ?_; rintro a _ w hs ⟨rfl, hX⟩
      have hM : Mem W w (aMat 23 3 v_p0 vs_p0 p0 :: aInts 3 v_p1 p1 :: As) := hM.call hX
      have hm : some y26 = some b18 := hm
      cases Option.some.inj hm
      refine wl hs (y_pickT hs rfl hg20 rfl) rfl ?_; intro a hs
      exact K _ _ (hs.sub ⟨rfl, rfl, rfl, rfl, trivial⟩) hM
    · have hm := condF hg20 hb19
      refine wls hs rfl hg20 rfl ?_; intro a hs
      refine wls hs rfl hg20 rfl ?_; intro a hs
      refine wls hs rfl hg20 rfl ?_; intro a hs
      refine wls hs rfl hg20 rfl ?_; intro a hs
      refine wls hs rfl hg20 rfl ?_; intro a hs
      refine wls hs rfl hg20 rfl ?_; intro a hs
      have hm : some false = some b18 := hm
      cases Option.some.inj hm
      refine wl hs (y_pickF hs rfl hg20 rfl) rfl ?_; intro a hs
      exact K _ _ (hs.sub ⟨rfl, rfl, rfl, rfl, trivial⟩) hM
  intro a w hs hM
  simp only [List.drop_succ_cons, List.drop_zero]
  refine wpList_nil ?_
  refine x_nt ?_
  refine x_cond hs rfl (fun hb => ?_) (fun hb => ?_)
  · replace hm := condT hb hm
    refine wp_seq ?_
    refine wp_region_lit ?_
    refine wl hs (y_move hs rfl) rfl ?_; intro a hs
    refine wl hs (y_assign hs rfl) rfl ?_; intro a hs
    refine wpList_nil ?_
    refine x_nt ?_
    refine wp_ret ?_
    refine x_rt ?_
    have hm : some p0 = some r := hm
    obtain rfl := Option.some.inj hm
    refine x_ret1 rfl hs rfl ⟨_, rfl, ?_⟩
    exact ⟨_, (hM.front 1 rfl).drop⟩
  · replace hm := condF hb hm
    refine wp_skip ?_
    refine x_nt ?_
    refine wp_seq ?_
    obtain ⟨s31, hm, hk32⟩ := bindE hm
    refine x_mid (fun a w => ∃ (v28 : Value), ∃ (vs29 : List Value), ∃ (l30 : List (List Int)), l30 = s31 ∧ Fr a 45 [(4, v28)] ∧ Mem W w (aMat 23 3 v28 vs29 l30 :: As)) ?_ ?_
    · refine wc_start hmix [1, 2, 3, 5, 8, 9, 10] (fun w => Mem W w (aMat 23 3 v_p0 vs_p0 p0 :: aInts 3 v_p1 p1 :: As)) (by rfl) ?_
      refine wc (i := 1) (fuel := 12) rfl (by kernel_rfl) (fun w w2 hS hE => hS.quiet hE) hM hs (fun w1 hS => y_move hs rfl) rfl ?_; intro a hs
      refine wc (i := 2) (fuel := 11) rfl (by kernel_rfl) (fun w w2 hS hE => hS.quiet hE) hM hs (fun w1 hS => y_move hs rfl) rfl ?_; intro a hs
      obtain ⟨l33, h34, hm⟩ := bindE hm
      obtain ⟨v35, h36, hr37⟩ := HdV.cut hu_M he_I (hM.hdM 0 rfl) h34
      refine wc (i := 3) (fuel := 10) rfl (by kernel_rfl) (fun w w2 hS hE => hS.quiet hE) hM hs (fun w1 hS => y_cut hs rfl rfl h36) rfl ?_; intro a hs
      refine wc (i := 5) (fuel := 9) rfl (by kernel_rfl) (fun w w2 hS hE => hS.quiet hE) hM hs (fun w1 hS => y_move hs rfl) rfl ?_; intro a hs
      refine wc (i := 8) (fuel := 8) rfl (by kernel_rfl) (fun w w2 hS hE => hS.quiet hE) hM hs (fun w1 hS => y_move hs rfl) rfl ?_; intro a hs
      refine wc (i := 9) (fuel := 7) rfl (by kernel_rfl) (fun w w2 hS hE => hS.quiet hE) hM hs (fun w1 hS => y_move hs rfl) rfl ?_; intro a hs
      obtain ⟨l38, h39, hm⟩ := bindE hm
      obtain ⟨v40, h41, hr42⟩ := HdV.cutl hu_M he_I (hM.hdM 0 rfl) h39
      refine wc (i := 10) (fuel := 6) rfl (by kernel_rfl) (fun w w2 hS hE => hS.quiet hE) hM hs (fun w1 hS => y_cutl hs rfl rfl h41) rfl ?_; intro a hs
      obtain ⟨l5044, h5045, hm⟩ := bindE hm
      obtain ⟨l8044, h8045, hm⟩ := bindE hm
      obtain ⟨l12044, h12045, hm⟩ := bindE hm
      refine wc_abs fun T43 hT43 => ?_
      have K43_6353 : ∀ (a : Act) (w : World) (v12046 : Value) (v7045 : Value), Fr a 45 [(4, v12046)] → Mem W w (aHds 23 v12046 ((([] ++ (vs_p0.take (n2).toNat)) ++ [v_p1]) ++ (vs_p0.drop (n2).toNat)) l12044 :: aHds 23 v7045 ([v_p1]) ([p1]) :: aMat 23 3 v_p0 vs_p0 p0 :: aInts 3 v_p1 p1 :: As) → T43 0 #[true, true, true, true, true, true, true, true, true, true, true, true, true] a w := by
        intro a w v12046 v7045 hs hM; subst hT43
        refine wc_done (by kernel_rfl) ?_
        intro w hw
        replace hM := hM.quiet hw
        have hM : Mem W w (aMat 23 3 v12046 ((([] ++ (vs_p0.take (n2).toNat)) ++ [v_p1]) ++ (vs_p0.drop (n2).toNat)) l12044 :: aHds 23 v7045 ([v_p1]) ([p1]) :: As) := (((((hM.front 1 rfl).front 3 rfl).front 3 rfl).front 3 rfl)).assemble h34 h5045 h8045 h39 h12045
        have hm : some l12044 = some s31 := hm
        exact ⟨v12046, ((([] ++ (vs_p0.take (n2).toNat)) ++ [v_p1]) ++ (vs_p0.drop (n2).toNat)), l12044, Option.some.inj hm, hs.sub ⟨rfl, trivial⟩, (hM.front 1 rfl).drop⟩
      have K43_2257 : ∀ (a : Act) (w : World) (v12046 : Value) (v7045 : Value), Fr a 45 [(44, v12046)] → Mem W w (aHds 23 v12046 ((([] ++ (vs_p0.take (n2).toNat)) ++ [v_p1]) ++ (vs_p0.drop (n2).toNat)) l12044 :: aHds 23 v7045 ([v_p1]) ([p1]) :: aMat 23 3 v_p0 vs_p0 p0 :: aInts 3 v_p1 p1 :: As) → T43 1 #[true, true, true, true, true, true, true, true, true, true, true, true, false] a w := by
        intro a w v12046 v7045 hs hM; subst hT43
        refine wc_one (fuel := 0) 12 rfl (by kernel_rfl) ?_
        intro w hw
        replace hM := hM.quiet hw
        refine wl hs (y_assign hs rfl) rfl ?_; intro a hs
        refine on_nil ?_
        exact wc_at (by kernel_rfl) (K43_6353 _ _ v12046 v7045 (hs.sub ⟨rfl, trivial⟩) hM)
      have K43_209 : ∀ (a : Act) (w : World) (v8046 : Value) (v7045 : Value), Fr a 45 [(40, v8046), (43, v40)] → Mem W w (aHds 23 v8046 (([] ++ (vs_p0.take (n2).toNat)) ++ [v_p1]) l8044 :: aHds 23 v7045 ([v_p1]) ([p1]) :: aMat 23 3 v_p0 vs_p0 p0 :: aInts 3 v_p1 p1 :: As) → T43 2 #[true, true, true, true, true, true, true, true, true, true, true, false, false] a w := by
        intro a w v8046 v7045 hs hM; subst hT43
        refine wc_one (fuel := 1) 11 rfl (by kernel_rfl) ?_
        intro w hw
        replace hM := hM.quiet hw
        refine wmem hs (x_appH hu_M he_I hs rfl (hM.front 0 rfl) (hr42 _ (hM.hdM 2 rfl)) h12045) rfl ?_; intro a v12046 w hs hM
        have hM : Mem W w (aHds 23 v12046 ((([] ++ (vs_p0.take (n2).toNat)) ++ [v_p1]) ++ (vs_p0.drop (n2).toNat)) l12044 :: aHds 23 v7045 ([v_p1]) ([p1]) :: aMat 23 3 v_p0 vs_p0 p0 :: aInts 3 v_p1 p1 :: As) := hM
        refine on_nil ?_
        exact wc_at (by kernel_rfl) (K43_2257 _ _ v12046 v7045 (hs.sub ⟨rfl, trivial⟩) hM)
      have K43_81 : ∀ (a : Act) (w : World) (v5046 : Value) (v7045 : Value), Fr a 45 [(37, v5046), (39, v7045), (43, v40)] → Mem W w (aHds 23 v7045 ([v_p1]) ([p1]) :: aHds 23 v5046 ([] ++ (vs_p0.take (n2).toNat)) l5044 :: aMat 23 3 v_p0 vs_p0 p0 :: aInts 3 v_p1 p1 :: As) → T43 3 #[true, true, true, true, true, true, true, false, true, true, true, false, false] a w := by
        intro a w v5046 v7045 hs hM; subst hT43
        refine wc_oneS (fuel := 2) 7 rfl (by kernel_rfl) ?_
        intro w hw
        replace hM := hM.quiet hw
        refine wmem hs (x_appH hu_M he_I hs rfl (hM.front 1 rfl) (hM.hdA 0 rfl) h8045) rfl ?_; intro a v8046 w hs hM
        have hM : Mem W w (aHds 23 v8046 (([] ++ (vs_p0.take (n2).toNat)) ++ [v_p1]) l8044 :: aHds 23 v7045 ([v_p1]) ([p1]) :: aMat 23 3 v_p0 vs_p0 p0 :: aInts 3 v_p1 p1 :: As) := hM
        refine on_nil ⟨hM.drop.drop, ?_⟩
        exact wc_at (by kernel_rfl) (K43_209 _ _ v8046 v7045 (hs.sub ⟨rfl, rfl, trivial⟩) hM)
      have K43_17 : ∀ (a : Act) (w : World) (v5046 : Value), Fr a 45 [(37, v5046), (38, v_p1), (43, v40)] → Mem W w (aHds 23 v5046 ([] ++ (vs_p0.take (n2).toNat)) l5044 :: aMat 23 3 v_p0 vs_p0 p0 :: aInts 3 v_p1 p1 :: As) → T43 4 #[true, true, true, true, true, true, false, false, true, true, true, false, false] a w := by
        intro a w v5046 hs hM; subst hT43
        refine wc_oneS (fuel := 3) 6 rfl (by kernel_rfl) ?_
        intro w hw
        replace hM := hM.quiet hw
        refine wmem hs (x_newH1 hu_M he_I hs rfl (Mem.one (hM.front 2 rfl)) p1 hM) rfl ?_; intro a v7045 w hs hM
        have hM : Mem W w (aHds 23 v7045 ([v_p1]) ([p1]) :: aHds 23 v5046 ([] ++ (vs_p0.take (n2).toNat)) l5044 :: aMat 23 3 v_p0 vs_p0 p0 :: aInts 3 v_p1 p1 :: As) := hM
        refine on_nil ⟨hM.drop.drop, ?_⟩
        exact wc_at (by kernel_rfl) (K43_81 _ _ v5046 v7045 (hs.sub ⟨rfl, rfl, rfl, trivial⟩) hM)
      have K43_65 : ∀ (a : Act) (w : World) (v1045 : Value) (v7045 : Value), Fr a 45 [(33, v1045), (36, v35), (39, v7045), (43, v40)] → Mem W w (aHds 23 v7045 ([v_p1]) ([p1]) :: aHds 23 v1045 ([]) ([]) :: aMat 23 3 v_p0 vs_p0 p0 :: aInts 3 v_p1 p1 :: As) → T43 4 #[true, true, true, true, false, true, true, false, true, true, true, false, false] a w := by
        intro a w v1045 v7045 hs hM; subst hT43
        refine wc_oneS (fuel := 3) 4 rfl (by kernel_rfl) ?_
        intro w hw
        replace hM := hM.quiet hw
        refine wmem hs (x_appH hu_M he_I hs rfl (hM.front 1 rfl) (hr37 _ (hM.hdM 2 rfl)) h5045) rfl ?_; intro a v5046 w hs hM
        have hM : Mem W w (aHds 23 v5046 ([] ++ (vs_p0.take (n2).toNat)) l5044 :: aHds 23 v7045 ([v_p1]) ([p1]) :: aMat 23 3 v_p0 vs_p0 p0 :: aInts 3 v_p1 p1 :: As) := hM
        refine on_nil ⟨hM.drop.drop, ?_⟩
        exact wc_at (by kernel_rfl) (K43_81 _ _ v5046 v7045 (hs.sub ⟨rfl, rfl, rfl, trivial⟩) ((((hM.front 3 rfl).front 3 rfl).front 2 rfl).front 3 rfl))
      have K43_1 : ∀ (a : Act) (w : World) (v1045 : Value), Fr a 45 [(33, v1045), (36, v35), (38, v_p1), (43, v40)] → Mem W w (aHds 23 v1045 ([]) ([]) :: aMat 23 3 v_p0 vs_p0 p0 :: aInts 3 v_p1 p1 :: As) → T43 5 #[true, true, true, true, false, true, false, false, true, true, true, false, false] a w := by
        intro a w v1045 hs hM; subst hT43
        refine wc_many (fuel := 4) [4, 6] (by kernel_rfl) (by simp) ⟨?_, ?_, trivial⟩
        · rintro o ⟨rfl⟩
          intro w hw
          replace hM := hM.quiet hw
          refine wmem hs (x_appH hu_M he_I hs rfl (hM.front 0 rfl) (hr37 _ (hM.hdM 1 rfl)) h5045) rfl ?_; intro a v5046 w hs hM
          have hM : Mem W w (aHds 23 v5046 ([] ++ (vs_p0.take (n2).toNat)) l5044 :: aMat 23 3 v_p0 vs_p0 p0 :: aInts 3 v_p1 p1 :: As) := hM
          refine on_nil ⟨hM.drop, ?_⟩
          exact wc_at (by kernel_rfl) (K43_17 _ _ v5046 (hs.sub ⟨rfl, rfl, rfl, trivial⟩) hM)
        · rintro o ⟨rfl⟩
          intro w hw
          replace hM := hM.quiet hw
          refine wmem hs (x_newH1 hu_M he_I hs rfl (Mem.one (hM.front 2 rfl)) p1 hM) rfl ?_; intro a v7045 w hs hM
          have hM : Mem W w (aHds 23 v7045 ([v_p1]) ([p1]) :: aHds 23 v1045 ([]) ([]) :: aMat 23 3 v_p0 vs_p0 p0 :: aInts 3 v_p1 p1 :: As) := hM
          refine on_nil ⟨hM.drop.drop, ?_⟩
          exact wc_at (by kernel_rfl) (K43_65 _ _ v1045 v7045 (hs.sub ⟨rfl, rfl, rfl, rfl, trivial⟩) hM)
      have K43_64 : ∀ (a : Act) (w : World) (v7045 : Value), Fr a 45 [(36, v35), (39, v7045), (43, v40)] → Mem W w (aHds 23 v7045 ([v_p1]) ([p1]) :: aMat 23 3 v_p0 vs_p0 p0 :: aInts 3 v_p1 p1 :: As) → T43 5 #[false, true, true, true, false, true, true, false, true, true, true, false, false] a w := by
        intro a w v7045 hs hM; subst hT43
        refine wc_oneS (fuel := 4) 0 rfl (by kernel_rfl) ?_
        intro w hw
        replace hM := hM.quiet hw
        refine wmem hs (x_newH0 ht_M hM) rfl ?_; intro a v1045 w hs hM
        have hM : Mem W w (aHds 23 v1045 ([]) ([]) :: aHds 23 v7045 ([v_p1]) ([p1]) :: aMat 23 3 v_p0 vs_p0 p0 :: aInts 3 v_p1 p1 :: As) := hM
        refine on_nil ⟨hM.drop.drop, ?_⟩
        exact wc_at (by kernel_rfl) (K43_65 _ _ v1045 v7045 (hs.sub ⟨rfl, rfl, rfl, rfl, trivial⟩) ((((hM.front 3 rfl).front 3 rfl).front 2 rfl).front 3 rfl))
      have K43_0 : ∀ (a : Act) (w : World), Fr a 45 [(36, v35), (38, v_p1), (43, v40)] → Mem W w (aMat 23 3 v_p0 vs_p0 p0 :: aInts 3 v_p1 p1 :: As) → T43 6 #[false, true, true, true, false, true, false, false, true, true, true, false, false] a w := by
        intro a w hs hM; subst hT43
        refine wc_many (fuel := 5) [0, 6] (by kernel_rfl) (by simp) ⟨?_, ?_, trivial⟩
        · rintro o ⟨rfl⟩
          intro w hw
          replace hM := hM.quiet hw
          refine wmem hs (x_newH0 ht_M hM) rfl ?_; intro a v1045 w hs hM
          have hM : Mem W w (aHds 23 v1045 ([]) ([]) :: aMat 23 3 v_p0 vs_p0 p0 :: aInts 3 v_p1 p1 :: As) := hM
          refine on_nil ⟨hM.drop, ?_⟩
          exact wc_at (by kernel_rfl) (K43_1 _ _ v1045 (hs.sub ⟨rfl, rfl, rfl, rfl, trivial⟩) hM)
        · rintro o ⟨rfl⟩
          intro w hw
          replace hM := hM.quiet hw
          refine wmem hs (x_newH1 hu_M he_I hs rfl (Mem.one (hM.front 1 rfl)) p1 hM) rfl ?_; intro a v7045 w hs hM
          have hM : Mem W w (aHds 23 v7045 ([v_p1]) ([p1]) :: aMat 23 3 v_p0 vs_p0 p0 :: aInts 3 v_p1 p1 :: As) := hM
          refine on_nil ⟨hM.drop, ?_⟩
          exact wc_at (by kernel_rfl) (K43_64 _ _ v7045 (hs.sub ⟨rfl, rfl, rfl, trivial⟩) hM)
      exact wc_at (by kernel_rfl) (K43_0 _ _ (hs.sub ⟨rfl, rfl, rfl, trivial⟩) hM)
    rintro a w ⟨v28, vs29, l30, rfl, hs, hM⟩
    have hm := hk32
    refine x_nt ?_
    refine wp_ret ?_
    have hm : some l30 = some r := hm
    obtain rfl := Option.some.inj hm
    refine x_ret1 rfl hs rfl ⟨_, rfl, ?_⟩
    exact ⟨_, hM⟩

set_option maxHeartbeats 4000000 in
theorem spec_PossiblePairs_any (v_p0 : Value) (p0 : List (List Int)) (W : World) (hr_p0 : RdM W v_p0 p0) {r : (List (List Int)) × Bool} (hm : spec_PossiblePairs_m p0 = some r) : Calls Try.prog 36 [v_p0].toArray W fun e w => ∃ v, e = .returned v ∧ ∃ v0, ∃ vs0, v = .tuple #[v0, .bool r.2] ∧ Mem W w [aMat 23 3 v0 vs0 r.1] := by
  refine x_enter Try.func36 rfl Try.ntmps36 rfl ?_
  intro a hs
  have hM := Mem.start W
  unfold spec_PossiblePairs_m at hm
  refine wp_seq ?_
  refine wp_region_lit ?_
  refine wl hs (y_assign hs rfl) rfl ?_; intro a hs
  refine wl hs (y_assign hs rfl) rfl ?_; intro a hs
  refine wpList_nil ?_
  refine x_nt ?_
  refine wp_seq ?_
  refine wp_seq ?_
  refine wp_region_lit ?_
  refine wl hs (y_move hs rfl) rfl ?_; intro a hs
  obtain ⟨y1, h2, hm⟩ := bindE hm
  refine wcall is_56 hs rfl rfl (spec_asAsked_any v_p0 p0 _ (RdM.below hr_p0 hM.bel) h2) ?_; rintro a _ w hs ⟨rfl, hX⟩
  have hM : Mem W w [] := hM.call hX
  refine wl hs (y_not hs rfl) rfl ?_; intro a hs
  refine wpList_nil ?_
  refine x_nt ?_
  refine x_cond hs rfl (fun hb => ?_) (fun hb => ?_)
  · replace hm := condT hb hm
    refine wp_seq ?_
    refine wp_region_lit ?_
    refine wl hs (y_assign hs rfl) rfl ?_; intro a hs
    refine wl hs (y_assign hs rfl) rfl ?_; intro a hs
    refine wpList_nil ?_
    refine x_nt ?_
    refine wp_ret ?_
    refine x_rt ?_
    have hm : some ([], false) = some r := hm
    obtain rfl := Option.some.inj hm
    refine x_ret2 rfl hs rfl rfl ⟨_, rfl, ?_⟩
    have hM := hM.nilM 23 3
    exact ⟨_, _, rfl, hM⟩
  · replace hm := condF hb hm
    refine wp_skip ?_
    refine x_nt ?_
    refine wp_seq ?_
    refine wp_region_lit ?_
    refine wl hs (y_move hs rfl) rfl ?_; intro a hs
    obtain ⟨y4, h5, hm⟩ := bindE hm
    refine wcall is_57 hs rfl rfl (spec_asBest_any v_p0 p0 _ (RdM.below hr_p0 hM.bel) h5) ?_; rintro a _ w hs ⟨v8, vs9, rfl, hX⟩
    have hM : Mem W w [aMat 23 3 v8 vs9 y4.1] := hM.call hX
    refine wl hs (y_move hs rfl) rfl ?_; intro a hs
    refine wl hs (y_extract hs rfl rfl) rfl ?_; intro a hs
    refine wl hs (y_extract hs rfl rfl) rfl ?_; intro a hs
    refine wl hs (y_assign hs rfl) rfl ?_; intro a hs
    refine wl hs (y_assign hs rfl) rfl ?_; intro a hs
    refine wpList_nil ?_
    refine x_nt ?_
    refine wp_seq ?_
    refine wp_region_lit ?_
    refine wl hs (y_assign hs rfl) rfl ?_; intro a hs
    have hM := hM.nilM 23 3
    refine wpList_nil ?_
    refine x_nt ?_
    refine wp_seq ?_
    refine wp_seq ?_
    refine wp_region_lit ?_
    refine wl hs (y_move hs rfl) rfl ?_; intro a hs
    refine wl hs (y_len hu_M hs rfl (hM.rdM 1 rfl)) rfl ?_; intro a hs
    refine wl hs (y_move hs rfl) rfl ?_; intro a hs
    refine wpList_nil ?_
    refine x_nt ?_
    obtain ⟨s18, hm, hk19⟩ := bindE hm
    refine x_mid (fun a w => ∃ (v15 : Value), ∃ (vs16 : List Value), ∃ (l17 : List (List Int)), l17 = s18 ∧ Fr a 40 [(6, v15)] ∧ Mem W w [aMat 23 3 v15 vs16 l17]) ?_ ?_
    · refine wp_block ?_
      refine x_loop (fun k a w => ∃ (q20 : List (List Int)) (j11 : Nat) (v12 : Value) (vs13 : List Value) (l14 : List (List Int)) , k = q20.length ∧ Fr a 40 [(6, v12), (19, v8), (20, .int .i64 (y4.1.length : Int)), (21, .int .i64 (j11 : Int))] ∧ Mem W w [aMat 23 3 v12 vs13 l14, aMat 23 3 v8 vs9 y4.1] ∧ spec_PossiblePairs_l1 q20 j11 l14 = some s18 ∧ List.drop j11 y4.1 = q20) _ ⟨y4.1, 0, (.slice none 0 0), [], [], rfl, hs.sub ⟨rfl, rfl, rfl, rfl, trivial⟩, hM, hm, rfl⟩ ?_
      rintro k a w ⟨q20, j11, v12, vs13, l14, rfl, hs, hM, hm, hj11⟩
      rcases q20 with _ | ⟨x21, q20⟩
      · rewrite [spec_PossiblePairs_l1] at hm
        refine wp_seq ?_
        refine wp_region_lit ?_
        refine wl hs (y_lss hs rfl rfl) rfl ?_; intro a hs
        refine wpList_nil ?_
        refine x_nt ?_
        refine wp_seq ?_
        refine x_condF hs rfl (drop_f hj11) ?_
        refine wp_exit ?_
        refine x_et ?_
        refine x_et ?_
        refine x_eb ?_
        have hm : some l14 = some s18 := hm
        exact ⟨v12, vs13, l14, Option.some.inj hm, hs.sub ⟨rfl, trivial⟩, (hM.keep_ 1)⟩
      · rewrite [spec_PossiblePairs_l1] at hm
        have hx22 := drop_idx hj11
        have hsj11 := ck_succ hj11 (RdS.len (hM.rdM 1 rfl))
        refine wp_seq ?_
        refine wp_region_lit ?_
        refine wl hs (y_lss hs rfl rfl) rfl ?_; intro a hs
        refine wpList_nil ?_
        refine x_nt ?_
        refine wp_seq ?_
        refine x_condT hs rfl (drop_t hj11) ?_
        refine wp_skip ?_
        refine x_nt ?_
        refine wp_seq ?_
        refine wp_block ?_
        refine wp_seq ?_
        refine wp_region_lit ?_
        obtain ⟨u24, hv25, he23⟩ := hM.atM 1 rfl hx22
        refine wl hs (y_index ht_M hs rfl rfl he23) rfl ?_; intro a hs
        refine wl hs (y_load sc_I hs rfl he23.cell) rfl ?_; intro a hs
        refine wl hs (y_assign hs rfl) rfl ?_; intro a hs
        refine wpList_nil ?_
        refine x_nt ?_
        refine wp_seq ?_
        refine wp_region_lit ?_
        refine wl hs (y_move hs rfl) rfl ?_; intro a hs
        refine wl hs (y_len hu_I hs rfl (hM.rdRow 1 rfl rfl hv25 (idx_spec hx22).2.2)) rfl ?_; intro a hs
        refine wl hs (y_move hs rfl) rfl ?_; intro a hs
        refine wpList_nil ?_
        refine x_nt ?_
        obtain ⟨s33, hm, hk34⟩ := bindE hm
        refine x_mid (fun a w => ∃ (v30 : Value), ∃ (vs31 : List Value), ∃ (l32 : List (List Int)), l32 = s33 ∧ Fr a 40 [(6, v30), (19, v8), (20, .int .i64 (y4.1.length : Int)), (21, .int .i64 (j11 : Int))] ∧ Mem W w [aMat 23 3 v30 vs31 l32, aMat 23 3 v8 vs9 y4.1]) ?_ ?_
        · refine wp_block ?_
          refine x_loop (fun k a w => ∃ (q35 : List Int) (j26 : Nat) (v27 : Value) (vs28 : List Value) (l29 : List (List Int)) , k = q35.length ∧ Fr a 40 [(6, v27), (19, v8), (20, .int .i64 (y4.1.length : Int)), (21, .int .i64 (j11 : Int)), (25, u24), (26, .int .i64 (x21.length : Int)), (27, .int .i64 (j26 : Int))] ∧ Mem W w [aMat 23 3 v27 vs28 l29, aMat 23 3 v8 vs9 y4.1] ∧ spec_PossiblePairs_l2 q35 j26 l29 = some s33 ∧ List.drop j26 x21 = q35) _ ⟨x21, 0, v12, vs13, l14, rfl, hs.sub ⟨rfl, rfl, rfl, rfl, rfl, rfl, rfl, trivial⟩, hM, hm, rfl⟩ ?_
          rintro k a w ⟨q35, j26, v27, vs28, l29, rfl, hs, hM, hm, hj26⟩
          rcases q35 with _ | ⟨x36, q35⟩
          · rewrite [spec_PossiblePairs_l2] at hm
            refine wp_seq ?_
            refine wp_region_lit ?_
            refine wl hs (y_lss hs rfl rfl) rfl ?_; intro a hs
            refine wpList_nil ?_
            refine x_nt ?_
            refine wp_seq ?_
            refine x_condF hs rfl (drop_f hj26) ?_
            refine wp_exit ?_
            refine x_et ?_
            refine x_et ?_
            refine x_eb ?_
            have hm : some l29 = some s33 := hm
            exact ⟨v27, vs28, l29, Option.some.inj hm, hs.sub ⟨rfl, rfl, rfl, rfl, trivial⟩, hM⟩
          · rewrite [spec_PossiblePairs_l2] at hm
            have hx37 := drop_idx hj26
            have hsj26 := ck_succ hj26 (RdS.len (hM.rdRow 1 rfl rfl hv25 (idx_spec hx22).2.2))
            refine wp_seq ?_
            refine wp_region_lit ?_
            refine wl hs (y_lss hs rfl rfl) rfl ?_; intro a hs
            refine wpList_nil ?_
            refine x_nt ?_
            refine wp_seq ?_
            refine x_condT hs rfl (drop_t hj26) ?_
            refine wp_skip ?_
            refine x_nt ?_
            refine wp_seq ?_
            refine wp_block ?_
            refine wp_seq ?_
            refine wp_region_lit ?_
            refine wl hs (y_move hs rfl) rfl ?_; intro a hs
            have he38 := RdI.at_ (hM.rdRow 1 rfl rfl hv25 (idx_spec hx22).2.2) hx37
            refine wl hs (y_index ht_I hs rfl rfl he38) rfl ?_; intro a hs
            refine wl hs (y_load sc_int hs rfl he38.cell) rfl ?_; intro a hs
            refine wl hs (y_assign hs rfl) rfl ?_; intro a hs
            refine wl hs (y_assign hs rfl) rfl ?_; intro a hs
            refine wpList_nil ?_
            refine x_nt ?_
            refine wp_region_lit ?_
            refine wl hs (y_move hs rfl) rfl ?_; intro a hs
            refine wl hs (y_move hs rfl) rfl ?_; intro a hs
            refine wl hs (y_move hs rfl) rfl ?_; intro a hs
            refine wmem hs (x_new2I hu_I he_int hs rfl rfl hM) rfl ?_; intro a v40 w hs hM
            have hM : Mem W w [aInts 3 v40 ([(j26 : Int), x36]), aMat 23 3 v27 vs28 l29, aMat 23 3 v8 vs9 y4.1] := hM
            obtain ⟨y41, h42, hm⟩ := bindE hm
            refine wcall is_73 hs rfl rfl (spec_cePut_any v27 l29 _ v40 ([(j26 : Int), x36]) _ _ _  (((hM.front 2 rfl).front 1 rfl).front 2 rfl) h42) ?_; rintro a v43 w hs ⟨vs45, hM⟩
            have hM : Mem W w [aMat 23 3 v43 vs45 y41, aMat 23 3 v8 vs9 y4.1] := hM
            refine wl hs (y_assign hs rfl) rfl ?_; intro a hs
            refine wpList_nil ?_
            refine x_nb ?_
            refine x_nt ?_
            refine wp_region_lit ?_
            refine wl hs (y_add hs rfl rfl hsj26) rfl ?_; intro a hs
            refine wl hs (y_move hs rfl) rfl ?_; intro a hs
            refine wpList_nil ?_
            exact ⟨_, by simp, q35, j26 + 1, v43, vs45, y41, rfl, hs.sub ⟨rfl, rfl, rfl, rfl, rfl, rfl, rfl, trivial⟩, hM, hm, drop_next hj26⟩
        rintro a w ⟨v30, vs31, l32, rfl, hs, hM⟩
        have hm := hk34
        refine x_nb ?_
        refine x_nt ?_
        refine wp_region_lit ?_
        refine wl hs (y_add hs rfl rfl hsj11) rfl ?_; intro a hs
        refine wl hs (y_move hs rfl) rfl ?_; intro a hs
        refine wpList_nil ?_
        exact ⟨_, by simp, q20, j11 + 1, v30, vs31, l32, rfl, hs.sub ⟨rfl, rfl, rfl, rfl, trivial⟩, hM, hm, drop_next hj11⟩
    rintro a w ⟨v15, vs16, l17, rfl, hs, hM⟩
    have hm := hk19
    refine x_nt ?_
    refine wp_seq ?_
    refine wp_region_lit ?_
    refine wl hs (y_move hs rfl) rfl ?_; intro a hs
    refine wl hs (y_assign hs rfl) rfl ?_; intro a hs
    refine wl hs (y_assign hs rfl) rfl ?_; intro a hs
    refine wpList_nil ?_
    refine x_nt ?_
    refine wp_ret ?_
    have hm : some (l17, true) = some r := hm
    obtain rfl := Option.some.inj hm
    refine x_ret2 rfl hs rfl rfl ⟨_, rfl, ?_⟩
    exact ⟨_, _, rfl, hM⟩

set_option maxHeartbeats 4000000 in
theorem spec_asRows_any (v_p0 : Value) (p0 : List (List Int)) (W : World) (hr_p0 : RdM W v_p0 p0) {r : (List Int) × (List Int)} (hm : spec_asRows_m p0 = some r) : Calls Try.prog 75 [v_p0].toArray W fun e w => ∃ v, e = .returned v ∧ ∃ v0, ∃ v1, v = .tuple #[v0, v1] ∧ Mem W w [aInts 3 v0 r.1, aInts 3 v1 r.2] := by
  refine x_enter Try.func75 rfl Try.ntmps75 rfl ?_
  intro a hs
  have hM := Mem.start W
  unfold spec_asRows_m at hm
  refine wp_seq ?_
  refine wp_region_lit ?_
  refine wl hs (y_assign hs rfl) rfl ?_; intro a hs
  refine wl hs (y_assign hs rfl) rfl ?_; intro a hs
  refine wpList_nil ?_
  refine x_nt ?_
  refine wp_seq ?_
  refine wp_region_lit ?_
  refine wl hs (y_move hs rfl) rfl ?_; intro a hs
  obtain ⟨y1, h2, hm⟩ := bindE hm
  refine wcall is_57 hs rfl rfl (spec_asBest_any v_p0 p0 _ (RdM.below hr_p0 hM.bel) h2) ?_; rintro a _ w hs ⟨v5, vs6, rfl, hX⟩
  have hM : Mem W w [aMat 23 3 v5 vs6 y1.1] := hM.call hX
  refine wl hs (y_move hs rfl) rfl ?_; intro a hs
  refine wl hs (y_extract hs rfl rfl) rfl ?_; intro a hs
  refine wl hs (y_extract hs rfl rfl) rfl ?_; intro a hs
  refine wl hs (y_assign hs rfl) rfl ?_; intro a hs
  refine wl hs (y_assign hs rfl) rfl ?_; intro a hs
  refine wpList_nil ?_
  refine x_nt ?_
  refine wp_seq ?_
  refine wp_region_lit ?_
  refine wl hs (y_move hs rfl) rfl ?_; intro a hs
  obtain ⟨x7, hx8, hm⟩ := bindE hm
  obtain ⟨u10, hv11, he9⟩ := hM.atM 0 rfl hx8
  refine wl hs (y_index ht_M hs rfl rfl he9) rfl ?_; intro a hs
  refine wl hs (y_load sc_I hs rfl he9.cell) rfl ?_; intro a hs
  refine wl hs (y_assign hs rfl) rfl ?_; intro a hs
  refine wpList_nil ?_
  refine x_nt ?_
  refine wp_seq ?_
  refine wp_region_lit ?_
  refine wl hs (y_assign hs rfl) rfl ?_; intro a hs
  have hM := hM.nilM 23 3
  refine wpList_nil ?_
  refine x_nt ?_
  refine wp_seq ?_
  refine wp_seq ?_
  refine wp_region_lit ?_
  refine wl hs (y_move hs rfl) rfl ?_; intro a hs
  refine wl hs (y_len hu_M hs rfl (RdM.below hr_p0 hM.bel)) rfl ?_; intro a hs
  refine wl hs (y_move hs rfl) rfl ?_; intro a hs
  refine wpList_nil ?_
  refine x_nt ?_
  obtain ⟨s20, hm, hk21⟩ := bindE hm
  refine x_mid (fun a w => ∃ (v17 : Value), ∃ (vs18 : List Value), ∃ (l19 : List (List Int)), l19 = s20 ∧ Fr a 98 [(0, v_p0), (6, u10), (7, v17)] ∧ Mem W w [aMat 23 3 v17 vs18 l19, aMat 23 3 v5 vs6 y1.1]) ?_ ?_
  · refine wp_block ?_
    refine x_loop (fun k a w => ∃ (q22 : List (List Int)) (j13 : Nat) (v14 : Value) (vs15 : List Value) (l16 : List (List Int)) , k = q22.length ∧ Fr a 98 [(0, v_p0), (6, u10), (7, v14), (26, .int .i64 (p0.length : Int)), (27, .int .i64 (j13 : Int))] ∧ Mem W w [aMat 23 3 v14 vs15 l16, aMat 23 3 v5 vs6 y1.1] ∧ spec_asRows_l1 p0 x7 q22 j13 l16 = some s20 ∧ List.drop j13 p0 = q22) _ ⟨p0, 0, (.slice none 0 0), [], [], rfl, hs.sub ⟨rfl, rfl, rfl, rfl, rfl, trivial⟩, hM, hm, rfl⟩ ?_
    rintro k a w ⟨q22, j13, v14, vs15, l16, rfl, hs, hM, hm, hj13⟩
    rcases q22 with _ | ⟨x23, q22⟩
    · rewrite [spec_asRows_l1] at hm
      refine wp_seq ?_
      refine wp_region_lit ?_
      refine wl hs (y_lss hs rfl rfl) rfl ?_; intro a hs
      refine wpList_nil ?_
      refine x_nt ?_
      refine wp_seq ?_
      refine x_condF hs rfl (drop_f hj13) ?_
      refine wp_exit ?_
      refine x_et ?_
      refine x_et ?_
      refine x_eb ?_
      have hm : some l16 = some s20 := hm
      exact ⟨v14, vs15, l16, Option.some.inj hm, hs.sub ⟨rfl, rfl, rfl, trivial⟩, hM⟩
    · rewrite [spec_asRows_l1] at hm
      have hx24 := drop_idx hj13
      have hsj13 := ck_succ hj13 (RdS.len (RdM.below hr_p0 hM.bel))
      refine wp_seq ?_
      refine wp_region_lit ?_
      refine wl hs (y_lss hs rfl rfl) rfl ?_; intro a hs
      refine wpList_nil ?_
      refine x_nt ?_
      refine wp_seq ?_
      refine x_condT hs rfl (drop_t hj13) ?_
      refine wp_skip ?_
      refine x_nt ?_
      refine wp_seq ?_
      refine wp_block ?_
      refine wp_seq ?_
      refine wp_region_lit ?_
      refine wl hs (y_move hs rfl) rfl ?_; intro a hs
      refine wl hs (y_assign hs rfl) rfl ?_; intro a hs
      refine wpList_nil ?_
      refine x_nt ?_
      refine wp_seq ?_
      refine wp_region_lit ?_
      refine wl hs (y_assign hs rfl) rfl ?_; intro a hs
      have hM := hM.nilI 3
      refine wpList_nil ?_
      refine x_nt ?_
      refine wp_seq ?_
      refine wp_seq ?_
      refine wp_region_lit ?_
      refine wl hs (y_move hs rfl) rfl ?_; intro a hs
      refine wl hs (y_len hu_M hs rfl (RdM.below hr_p0 hM.bel)) rfl ?_; intro a hs
      refine wl hs (y_move hs rfl) rfl ?_; intro a hs
      refine wpList_nil ?_
      refine x_nt ?_
      obtain ⟨s31, hm, hk32⟩ := bindE hm
      refine x_mid (fun a w => ∃ (v29 : Value), ∃ (l30 : List Int), l30 = s31 ∧ Fr a 98 [(0, v_p0), (6, u10), (7, v14), (9, v29), (26, .int .i64 (p0.length : Int)), (27, .int .i64 (j13 : Int))] ∧ Mem W w [aInts 3 v29 l30, aMat 23 3 v14 vs15 l16, aMat 23 3 v5 vs6 y1.1]) ?_ ?_
      · refine wp_block ?_
        refine x_loop (fun k a w => ∃ (q33 : List (List Int)) (j26 : Nat) (v27 : Value) (l28 : List Int) , k = q33.length ∧ Fr a 98 [(0, v_p0), (6, u10), (7, v14), (8, .int .i64 (j13 : Int)), (9, v27), (26, .int .i64 (p0.length : Int)), (27, .int .i64 (j13 : Int)), (31, .int .i64 (p0.length : Int)), (32, .int .i64 (j26 : Int))] ∧ Mem W w [aInts 3 v27 l28, aMat 23 3 v14 vs15 l16, aMat 23 3 v5 vs6 y1.1] ∧ spec_asRows_l2 x7 j13 x23 q33 j26 l28 = some s31 ∧ List.drop j26 p0 = q33) _ ⟨p0, 0, (.slice none 0 0), [], rfl, hs.sub ⟨rfl, rfl, rfl, rfl, rfl, rfl, rfl, rfl, rfl, trivial⟩, hM, hm, rfl⟩ ?_
        rintro k a w ⟨q33, j26, v27, l28, rfl, hs, hM, hm, hj26⟩
        rcases q33 with _ | ⟨x34, q33⟩
        · rewrite [spec_asRows_l2] at hm
          refine wp_seq ?_
          refine wp_region_lit ?_
          refine wl hs (y_lss hs rfl rfl) rfl ?_; intro a hs
          refine wpList_nil ?_
          refine x_nt ?_
          refine wp_seq ?_
          refine x_condF hs rfl (drop_f hj26) ?_
          refine wp_exit ?_
          refine x_et ?_
          refine x_et ?_
          refine x_eb ?_
          have hm : some l28 = some s31 := hm
          exact ⟨v27, l28, Option.some.inj hm, hs.sub ⟨rfl, rfl, rfl, rfl, rfl, rfl, trivial⟩, hM⟩
        · rewrite [spec_asRows_l2] at hm
          have hx35 := drop_idx hj26
          have hsj26 := ck_succ hj26 (RdS.len (RdM.below hr_p0 hM.bel))
          refine wp_seq ?_
          refine wp_region_lit ?_
          refine wl hs (y_lss hs rfl rfl) rfl ?_; intro a hs
          refine wpList_nil ?_
          refine x_nt ?_
          refine wp_seq ?_
          refine x_condT hs rfl (drop_t hj26) ?_
          refine wp_skip ?_
          refine x_nt ?_
          refine wp_seq ?_
          refine wp_block ?_
          refine wp_seq ?_
          refine wp_region_lit ?_
          refine wl hs (y_move hs rfl) rfl ?_; intro a hs
          refine wl hs (y_assign hs rfl) rfl ?_; intro a hs
          refine wpList_nil ?_
          refine x_nt ?_
          refine wc_start hmix [0, 1, 2, 3, 4, 5, 6, 7, 8, 9, 10, 11, 12, 13, 14, 15, 16, 17, 18, 19, 20, 21, 22] (fun w => Mem W w [aInts 3 v27 l28, aMat 23 3 v14 vs15 l16, aMat 23 3 v5 vs6 y1.1]) (by rfl) ?_
          refine wc (i := 0) (fuel := 25) rfl (by kernel_rfl) (fun w w2 hS hE => hS.quiet hE) hM hs (fun w1 hS => y_move hs rfl) rfl ?_; intro a hs
          refine wc (i := 1) (fuel := 24) rfl (by kernel_rfl) (fun w w2 hS hE => hS.quiet hE) hM hs (fun w1 hS => y_move hs rfl) rfl ?_; intro a hs
          refine wc (i := 2) (fuel := 23) rfl (by kernel_rfl) (fun w w2 hS hE => hS.quiet hE) hM hs (fun w1 hS => y_move hs rfl) rfl ?_; intro a hs
          obtain ⟨u37, he36, hr38⟩ := RdM.at_ hr_p0 hx35
          have he39 := fun (w1 : World) (hS : Mem W w1 [aInts 3 v27 l28, aMat 23 3 v14 vs15 l16, aMat 23 3 v5 vs6 y1.1]) => he36.below hS.bel
          refine wc (i := 3) (fuel := 22) rfl (by kernel_rfl) (fun w w2 hS hE => hS.quiet hE) hM hs (fun w1 hS => y_index ht_M hs rfl rfl (he39 w1 hS)) rfl ?_; intro a hs
          refine wc (i := 4) (fuel := 21) rfl (by kernel_rfl) (fun w w2 hS hE => hS.quiet hE) hM hs (fun w1 hS => y_load sc_I hs rfl (he39 w1 hS).cell) rfl ?_; intro a hs
          refine wc (i := 5) (fuel := 20) rfl (by kernel_rfl) (fun w w2 hS hE => hS.quiet hE) hM hs (fun w1 hS => y_move hs rfl) rfl ?_; intro a hs
          refine wc (i := 6) (fuel := 19) rfl (by kernel_rfl) (fun w w2 hS hE => hS.quiet hE) hM hs (fun w1 hS => y_move hs rfl) rfl ?_; intro a hs
          obtain ⟨x40, hx41, hm⟩ := bindE hm
          have he42 := fun (w1 : World) (hS : Mem W w1 [aInts 3 v27 l28, aMat 23 3 v14 vs15 l16, aMat 23 3 v5 vs6 y1.1]) => RdI.at_ (hS.rdRow 2 rfl rfl hv11 (idx_spec hx8).2.2) hx41
          refine wc (i := 7) (fuel := 18) rfl (by kernel_rfl) (fun w w2 hS hE => hS.quiet hE) hM hs (fun w1 hS => y_index ht_I hs rfl rfl (he42 w1 hS)) rfl ?_; intro a hs
          refine wc (i := 8) (fuel := 17) rfl (by kernel_rfl) (fun w w2 hS hE => hS.quiet hE) hM hs (fun w1 hS => y_load sc_int hs rfl (he42 w1 hS).cell) rfl ?_; intro a hs
          obtain ⟨x43, hx44, hm⟩ := bindE hm
          have he45 := fun (w1 : World) (hS : Mem W w1 [aInts 3 v27 l28, aMat 23 3 v14 vs15 l16, aMat 23 3 v5 vs6 y1.1]) => RdI.at_ (RdI.below hr38 hS.bel) hx44
          refine wc (i := 9) (fuel := 16) rfl (by kernel_rfl) (fun w w2 hS hE => hS.quiet hE) hM hs (fun w1 hS => y_index ht_I hs rfl rfl (he45 w1 hS)) rfl ?_; intro a hs
          refine wc (i := 10) (fuel := 15) rfl (by kernel_rfl) (fun w w2 hS hE => hS.quiet hE) hM hs (fun w1 hS => y_load sc_int hs rfl (he45 w1 hS).cell) rfl ?_; intro a hs
          refine wc (i := 11) (fuel := 14) rfl (by kernel_rfl) (fun w w2 hS hE => hS.quiet hE) hM hs (fun w1 hS => y_move hs rfl) rfl ?_; intro a hs
          refine wc (i := 12) (fuel := 13) rfl (by kernel_rfl) (fun w w2 hS hE => hS.quiet hE) hM hs (fun w1 hS => y_move hs rfl) rfl ?_; intro a hs
          obtain ⟨u47, he46, hr48⟩ := RdM.at_ hr_p0 hx24
          have he49 := fun (w1 : World) (hS : Mem W w1 [aInts 3 v27 l28, aMat 23 3 v14 vs15 l16, aMat 23 3 v5 vs6 y1.1]) => he46.below hS.bel
          refine wc (i := 13) (fuel := 12) rfl (by kernel_rfl) (fun w w2 hS hE => hS.quiet hE) hM hs (fun w1 hS => y_index ht_M hs rfl rfl (he49 w1 hS)) rfl ?_; intro a hs
          refine wc (i := 14) (fuel := 11) rfl (by kernel_rfl) (fun w w2 hS hE => hS.quiet hE) hM hs (fun w1 hS => y_load sc_I hs rfl (he49 w1 hS).cell) rfl ?_; intro a hs
          refine wc (i := 15) (fuel := 10) rfl (by kernel_rfl) (fun w w2 hS hE => hS.quiet hE) hM hs (fun w1 hS => y_move hs rfl) rfl ?_; intro a hs
          refine wc (i := 16) (fuel := 9) rfl (by kernel_rfl) (fun w w2 hS hE => hS.quiet hE) hM hs (fun w1 hS => y_move hs rfl) rfl ?_; intro a hs
          have he50 := fun (w1 : World) (hS : Mem W w1 [aInts 3 v27 l28, aMat 23 3 v14 vs15 l16, aMat 23 3 v5 vs6 y1.1]) => RdI.at_ (hS.rdRow 2 rfl rfl hv11 (idx_spec hx8).2.2) hx41
          refine wc (i := 17) (fuel := 8) rfl (by kernel_rfl) (fun w w2 hS hE => hS.quiet hE) hM hs (fun w1 hS => y_index ht_I hs rfl rfl (he50 w1 hS)) rfl ?_; intro a hs
          refine wc (i := 18) (fuel := 7) rfl (by kernel_rfl) (fun w w2 hS hE => hS.quiet hE) hM hs (fun w1 hS => y_load sc_int hs rfl (he50 w1 hS).cell) rfl ?_; intro a hs
          obtain ⟨x51, hx52, hm⟩ := bindE hm
          have he53 := fun (w1 : World) (hS : Mem W w1 [aInts 3 v27 l28, aMat 23 3 v14 vs15 l16, aMat 23 3 v5 vs6 y1.1]) => RdI.at_ (RdI.below hr48 hS.bel) hx52
          refine wc (i := 19) (fuel := 6) rfl (by kernel_rfl) (fun w w2 hS hE => hS.quiet hE) hM hs (fun w1 hS => y_index ht_I hs rfl rfl (he53 w1 hS)) rfl ?_; intro a hs
          refine wc (i := 20) (fuel := 5) rfl (by kernel_rfl) (fun w w2 hS hE => hS.quiet hE) hM hs (fun w1 hS => y_load sc_int hs rfl (he53 w1 hS).cell) rfl ?_; intro a hs
          obtain ⟨n54, h55, hm⟩ := bindE hm
          refine wc (i := 21) (fuel := 4) rfl (by kernel_rfl) (fun w w2 hS hE => hS.quiet hE) hM hs (fun w1 hS => y_neg hs rfl h55) rfl ?_; intro a hs
          obtain ⟨y56, h57, hm⟩ := bindE hm
          refine ccall (i := 22) (fuel := 3) rfl (by kernel_rfl) (fun w w2 hS hE => hS.quiet hE) hM (v := .int .i64 y56) is_95 hs rfl rfl (fun w1 hS => cx_of (spec_nuPlus_any x43 n54 w1  h57)) ?_; intro a hs
          refine wc_oneS (fuel := 2) 23 rfl (by kernel_rfl) ?_
          intro w hw
          replace hM := hM.quiet hw
          refine wmem hs (x_new1I hu_I he_int hs rfl hM) rfl ?_; intro a v59 w hs hM
          have hM : Mem W w [aInts 3 v59 ([y56]), aInts 3 v27 l28, aMat 23 3 v14 vs15 l16, aMat 23 3 v5 vs6 y1.1] := hM
          refine on_nil ⟨hM.drop, ?_⟩
          refine wc_one (fuel := 1) 24 rfl (by kernel_rfl) ?_
          intro w hw
          replace hM := hM.quiet hw
          obtain ⟨l60, h61, hm⟩ := bindE hm
          refine wmem hs (x_appS hu_I he_int hs rfl (hM.front 1 rfl) (hM.rdI 0 rfl) h61) rfl ?_; intro a v62 w hs hM
          have hM : Mem W w [aInts 3 v62 l60, aInts 3 v59 ([y56]), aMat 23 3 v14 vs15 l16, aMat 23 3 v5 vs6 y1.1] := hM
          refine on_nil ?_
          refine wc_one (fuel := 0) 25 rfl (by kernel_rfl) ?_
          intro w hw
          replace hM := hM.quiet hw
          refine wl hs (y_assign hs rfl) rfl ?_; intro a hs
          refine on_nil ?_
          refine wc_done (by kernel_rfl) ?_
          intro w hw
          replace hM := hM.quiet hw
          refine x_nb ?_
          refine x_nt ?_
          refine wp_region_lit ?_
          refine wl hs (y_add hs rfl rfl hsj26) rfl ?_; intro a hs
          refine wl hs (y_move hs rfl) rfl ?_; intro a hs
          refine wpList_nil ?_
          exact ⟨_, by simp, q33, j26 + 1, v62, l60, rfl, hs.sub ⟨rfl, rfl, rfl, rfl, rfl, rfl, rfl, rfl, rfl, trivial⟩, (hM.front 1 rfl).drop, hm, drop_next hj26⟩
      rintro a w ⟨v29, l30, rfl, hs, hM⟩
      have hm := hk32
      refine x_nt ?_
      refine wp_region_lit ?_
      refine wl hs (y_move hs rfl) rfl ?_; intro a hs
      refine wl hs (y_move hs rfl) rfl ?_; intro a hs
      obtain ⟨l63, h64, hm⟩ := bindE hm
      refine wappM hu_M he_I hs (((hM.front 2 rfl).front 1 rfl).front 2 rfl) rfl rfl h64 rfl rfl rfl ?_; intro a v65 w u66 hs hM
      have hM : Mem W w [aMat 23 3 v65 (vs15 ++ [v29]) l63, aMat 23 3 v5 vs6 y1.1] := hM
      refine wl hs (y_assign hs rfl) rfl ?_; intro a hs
      refine wpList_nil ?_
      refine x_nb ?_
      refine x_nt ?_
      refine wp_region_lit ?_
      refine wl hs (y_add hs rfl rfl hsj13) rfl ?_; intro a hs
      refine wl hs (y_move hs rfl) rfl ?_; intro a hs
      refine wpList_nil ?_
      exact ⟨_, by simp, q22, j13 + 1, v65, (vs15 ++ [v29]), l63, rfl, hs.sub ⟨rfl, rfl, rfl, rfl, rfl, trivial⟩, hM, hm, drop_next hj13⟩
  rintro a w ⟨v17, vs18, l19, rfl, hs, hM⟩
  have hm := hk21
  refine x_nt ?_
  refine wp_seq ?_
  refine wp_region_lit ?_
  refine wl hs (y_move hs rfl) rfl ?_; intro a hs
  obtain ⟨y67, h68, hm⟩ := bindE hm
  refine wcall is_96 hs rfl rfl (spec_wyCosts_any v17 l19 _ (hM.rdM 0 rfl) h68) ?_; rintro a _ w hs ⟨v71, vs72, rfl, hX⟩
  have hM : Mem W w [aMat 23 3 v71 vs72 y67.1, aMat 23 3 v17 vs18 l19, aMat 23 3 v5 vs6 y1.1] := hM.call hX
  refine wl hs (y_move hs rfl) rfl ?_; intro a hs
  refine wl hs (y_extract hs rfl rfl) rfl ?_; intro a hs
  refine wl hs (y_extract hs rfl rfl) rfl ?_; intro a hs
  refine wl hs (y_assign hs rfl) rfl ?_; intro a hs
  refine wl hs (y_assign hs rfl) rfl ?_; intro a hs
  refine wpList_nil ?_
  refine x_nt ?_
  refine wp_seq ?_
  refine wp_region_lit ?_
  refine wl hs (y_assign hs rfl) rfl ?_; intro a hs
  have hM := hM.nilI 3
  refine wpList_nil ?_
  refine x_nt ?_
  refine wp_seq ?_
  refine wp_seq ?_
  refine wp_region_lit ?_
  refine wl hs (y_move hs rfl) rfl ?_; intro a hs
  refine wl hs (y_len hu_M hs rfl (RdM.below hr_p0 hM.bel)) rfl ?_; intro a hs
  refine wl hs (y_move hs rfl) rfl ?_; intro a hs
  refine wpList_nil ?_
  refine x_nt ?_
  obtain ⟨s79, hm, hk80⟩ := bindE hm
  refine x_mid (fun a w => ∃ (v77 : Value), ∃ (l78 : List Int), l78 = s79 ∧ Fr a 98 [(6, u10), (13, v77)] ∧ Mem W w [aInts 3 v77 l78, aMat 23 3 v5 vs6 y1.1]) ?_ ?_
  · refine wp_block ?_
    refine x_loop (fun k a w => ∃ (q81 : List (List Int)) (j74 : Nat) (v75 : Value) (l76 : List Int) , k = q81.length ∧ Fr a 98 [(0, v_p0), (6, u10), (11, v71), (13, v75), (72, .int .i64 (p0.length : Int)), (73, .int .i64 (j74 : Int))] ∧ Mem W w [aInts 3 v75 l76, aMat 23 3 v71 vs72 y67.1, aMat 23 3 v5 vs6 y1.1] ∧ spec_asRows_l3 p0 y67 q81 j74 l76 = some s79 ∧ List.drop j74 p0 = q81) _ ⟨p0, 0, (.slice none 0 0), [], rfl, hs.sub ⟨rfl, rfl, rfl, rfl, rfl, rfl, trivial⟩, (hM.front 2 rfl).drop, hm, rfl⟩ ?_
    rintro k a w ⟨q81, j74, v75, l76, rfl, hs, hM, hm, hj74⟩
    rcases q81 with _ | ⟨x82, q81⟩
    · rewrite [spec_asRows_l3] at hm
      refine wp_seq ?_
      refine wp_region_lit ?_
      refine wl hs (y_lss hs rfl rfl) rfl ?_; intro a hs
      refine wpList_nil ?_
      refine x_nt ?_
      refine wp_seq ?_
      refine x_condF hs rfl (drop_f hj74) ?_
      refine wp_exit ?_
      refine x_et ?_
      refine x_et ?_
      refine x_eb ?_
      have hm : some l76 = some s79 := hm
      exact ⟨v75, l76, Option.some.inj hm, hs.sub ⟨rfl, rfl, trivial⟩, (hM.front 1 rfl).drop⟩
    · rewrite [spec_asRows_l3] at hm
      have hx83 := drop_idx hj74
      have hsj74 := ck_succ hj74 (RdS.len (RdM.below hr_p0 hM.bel))
      refine wp_seq ?_
      refine wp_region_lit ?_
      refine wl hs (y_lss hs rfl rfl) rfl ?_; intro a hs
      refine wpList_nil ?_
      refine x_nt ?_
      refine wp_seq ?_
      refine x_condT hs rfl (drop_t hj74) ?_
      refine wp_skip ?_
      refine x_nt ?_
      refine wp_seq ?_
      refine wp_block ?_
      refine wp_seq ?_
      refine wp_region_lit ?_
      refine wl hs (y_move hs rfl) rfl ?_; intro a hs
      refine wl hs (y_assign hs rfl) rfl ?_; intro a hs
      refine wpList_nil ?_
      refine x_nt ?_
      refine wp_seq ?_
      refine wp_region_lit ?_
      refine wl hs (y_assign hs rfl) rfl ?_; intro a hs
      refine wpList_nil ?_
      refine x_nt ?_
      refine wp_seq ?_
      refine wp_seq ?_
      refine wp_region_lit ?_
      refine wl hs (y_move hs rfl) rfl ?_; intro a hs
      refine wl hs (y_len hu_M hs rfl (RdM.below hr_p0 hM.bel)) rfl ?_; intro a hs
      refine wl hs (y_move hs rfl) rfl ?_; intro a hs
      refine wpList_nil ?_
      refine x_nt ?_
      obtain ⟨s87, hm, hk88⟩ := bindE hm
      refine x_mid (fun a w => ∃ (n86 : Int), n86 = s87 ∧ Fr a 98 [(0, v_p0), (6, u10), (11, v71), (13, v75), (15, .int .i64 n86), (72, .int .i64 (p0.length : Int)), (73, .int .i64 (j74 : Int))] ∧ Mem W w [aInts 3 v75 l76, aMat 23 3 v71 vs72 y67.1, aMat 23 3 v5 vs6 y1.1]) ?_ ?_
      · refine wp_block ?_
        refine x_loop (fun k a w => ∃ (q89 : List (List Int)) (j84 : Nat) (n85 : Int) , k = q89.length ∧ Fr a 98 [(0, v_p0), (6, u10), (11, v71), (13, v75), (14, .int .i64 (j74 : Int)), (15, .int .i64 n85), (72, .int .i64 (p0.length : Int)), (73, .int .i64 (j74 : Int)), (77, .int .i64 (p0.length : Int)), (78, .int .i64 (j84 : Int))] ∧ Mem W w [aInts 3 v75 l76, aMat 23 3 v71 vs72 y67.1, aMat 23 3 v5 vs6 y1.1] ∧ spec_asRows_l4 y67 j74 q89 j84 n85 = some s87 ∧ List.drop j84 p0 = q89) _ ⟨p0, 0, 0, rfl, hs.sub ⟨rfl, rfl, rfl, rfl, rfl, rfl, rfl, rfl, rfl, rfl, trivial⟩, hM, hm, rfl⟩ ?_
        rintro k a w ⟨q89, j84, n85, rfl, hs, hM, hm, hj84⟩
        rcases q89 with _ | ⟨x90, q89⟩
        · rewrite [spec_asRows_l4] at hm
          refine wp_seq ?_
          refine wp_region_lit ?_
          refine wl hs (y_lss hs rfl rfl) rfl ?_; intro a hs
          refine wpList_nil ?_
          refine x_nt ?_
          refine wp_seq ?_
          refine x_condF hs rfl (drop_f hj84) ?_
          refine wp_exit ?_
          refine x_et ?_
          refine x_et ?_
          refine x_eb ?_
          have hm : some n85 = some s87 := hm
          exact ⟨n85, Option.some.inj hm, hs.sub ⟨rfl, rfl, rfl, rfl, rfl, rfl, rfl, trivial⟩, hM⟩
        · rewrite [spec_asRows_l4] at hm
          have hx91 := drop_idx hj84
          have hsj84 := ck_succ hj84 (RdS.len (RdM.below hr_p0 hM.bel))
          refine wp_seq ?_
          refine wp_region_lit ?_
          refine wl hs (y_lss hs rfl rfl) rfl ?_; intro a hs
          refine wpList_nil ?_
          refine x_nt ?_
          refine wp_seq ?_
          refine x_condT hs rfl (drop_t hj84) ?_
          refine wp_skip ?_
          refine x_nt ?_
          refine wp_seq ?_
          refine wp_block ?_
          refine wp_seq ?_
          refine wp_region_lit ?_
          refine wl hs (y_move hs rfl) rfl ?_; intro a hs
          refine wl hs (y_assign hs rfl) rfl ?_; intro a hs
          refine wpList_nil ?_
          refine x_nt ?_
          refine wp_region_lit ?_
          refine wl hs (y_move hs rfl) rfl ?_; intro a hs
          refine wl hs (y_move hs rfl) rfl ?_; intro a hs
          refine wl hs (y_move hs rfl) rfl ?_; intro a hs
          obtain ⟨x92, hx93, hm⟩ := bindE hm
          obtain ⟨u95, hv96, he94⟩ := hM.atM 1 rfl hx93
          refine wl hs (y_index ht_M hs rfl rfl he94) rfl ?_; intro a hs
          refine wl hs (y_load sc_I hs rfl he94.cell) rfl ?_; intro a hs
          refine wl hs (y_move hs rfl) rfl ?_; intro a hs
          obtain ⟨x97, hx98, hm⟩ := bindE hm
          have he99 := RdI.at_ (hM.rdRow 1 rfl rfl hv96 (idx_spec hx93).2.2) hx98
          refine wl hs (y_index ht_I hs rfl rfl he99) rfl ?_; intro a hs
          refine wl hs (y_load sc_int hs rfl he99.cell) rfl ?_; intro a hs
          obtain ⟨y100, h101, hm⟩ := bindE hm
          refine wcall is_97 hs rfl rfl (spec_l1Least_any n85 x97 _  h101) ?_; rintro a _ w hs ⟨rfl, hX⟩
          have hM : Mem W w [aInts 3 v75 l76, aMat 23 3 v71 vs72 y67.1, aMat 23 3 v5 vs6 y1.1] := hM.call hX
          refine wl hs (y_assign hs rfl) rfl ?_; intro a hs
          refine wpList_nil ?_
          refine x_nb ?_
          refine x_nt ?_
          refine wp_region_lit ?_
          refine wl hs (y_add hs rfl rfl hsj84) rfl ?_; intro a hs
          refine wl hs (y_move hs rfl) rfl ?_; intro a hs
          refine wpList_nil ?_
          exact ⟨_, by simp, q89, j84 + 1, y100, rfl, hs.sub ⟨rfl, rfl, rfl, rfl, rfl, rfl, rfl, rfl, rfl, rfl, trivial⟩, hM, hm, drop_next hj84⟩
      rintro a w ⟨n86, rfl, hs, hM⟩
      have hm := hk88
      refine x_nt ?_
      refine wp_region_lit ?_
      refine wl hs (y_move hs rfl) rfl ?_; intro a hs
      refine wl hs (y_move hs rfl) rfl ?_; intro a hs
      obtain ⟨l102, h103, hm⟩ := bindE hm
      refine wappI hu_I he_int hs hM rfl rfl h103 rfl rfl rfl ?_; intro a v104 w u105 hs hM
      have hM : Mem W w [aInts 3 v104 l102, aMat 23 3 v71 vs72 y67.1, aMat 23 3 v5 vs6 y1.1] := hM
      refine wl hs (y_assign hs rfl) rfl ?_; intro a hs
      refine wpList_nil ?_
      refine x_nb ?_
      refine x_nt ?_
      refine wp_region_lit ?_
      refine wl hs (y_add hs rfl rfl hsj74) rfl ?_; intro a hs
      refine wl hs (y_move hs rfl) rfl ?_; intro a hs
      refine wpList_nil ?_
      exact ⟨_, by simp, q81, j74 + 1, v104, l102, rfl, hs.sub ⟨rfl, rfl, rfl, rfl, rfl, rfl, trivial⟩, hM, hm, drop_next hj74⟩
  rintro a w ⟨v77, l78, rfl, hs, hM⟩
  have hm := hk80
  refine x_nt ?_
  refine wp_seq ?_
  refine wp_region_lit ?_
  refine wl hs (y_move hs rfl) rfl ?_; intro a hs
  refine wl hs (y_move hs rfl) rfl ?_; intro a hs
  refine wl hs (y_assign hs rfl) rfl ?_; intro a hs
  refine wl hs (y_assign hs rfl) rfl ?_; intro a hs
  refine wpList_nil ?_
  refine x_nt ?_
  refine wp_ret ?_
  have hm : some (l78, x7) = some r := hm
  obtain rfl := Option.some.inj hm
  refine x_ret2 rfl hs rfl rfl ⟨_, rfl, ?_⟩
  have hM : Mem W w [aInts 3 u10 x7, aInts 3 v77 l78] := (hM.front 1 rfl).rowOut (RowOf.row hv11 ((idx_spec hx8).2.2))
  exact ⟨_, _, rfl, (hM.front 1 rfl)⟩

theorem spec_RowPrices_any (v_p0 : Value) (p0 : List (List Int)) (W : World) (hr_p0 : RdM W v_p0 p0) {r : (List Int) × Bool} (hm : spec_RowPrices_m p0 = some r) : Calls Try.prog 38 [v_p0].toArray W fun e w => ∃ v, e = .returned v ∧ ∃ v0, v = .tuple #[v0, .bool r.2] ∧ Mem W w [aInts 3 v0 r.1] := by
  refine x_enter Try.func38 rfl Try.ntmps38 rfl ?_
  intro a hs
  have hM := Mem.start W
  unfold spec_RowPrices_m at hm
  refine wp_seq ?_
  refine wp_region_lit ?_
  refine wl hs (y_assign hs rfl) rfl ?_; intro a hs
  refine wl hs (y_assign hs rfl) rfl ?_; intro a hs
  refine wpList_nil ?_
  refine x_nt ?_
  refine wp_seq ?_
  refine wp_seq ?_
  refine wp_region_lit ?_
  refine wl hs (y_move hs rfl) rfl ?_; intro a hs
  obtain ⟨y1, h2, hm⟩ := bindE hm
  refine wcall is_56 hs rfl rfl (spec_asAsked_any v_p0 p0 _ (RdM.below hr_p0 hM.bel) h2) ?_; rintro a _ w hs ⟨rfl, hX⟩
  have hM : Mem W w [] := hM.call hX
  refine wl hs (y_not hs rfl) rfl ?_; intro a hs
  refine wpList_nil ?_
  refine x_nt ?_
  refine x_cond hs rfl (fun hb => ?_) (fun hb => ?_)
  · replace hm := condT hb hm
    refine wp_seq ?_
    refine wp_region_lit ?_
    refine wl hs (y_assign hs rfl) rfl ?_; intro a hs
    refine wl hs (y_assign hs rfl) rfl ?_; intro a hs
    refine wpList_nil ?_
    refine x_nt ?_
    refine wp_ret ?_
    refine x_rt ?_
    have hm : some ([], false) = some r := hm
    obtain rfl := Option.some.inj hm
    refine x_ret2 rfl hs rfl rfl ⟨_, rfl, ?_⟩
    have hM := hM.nilI 3
    exact ⟨_, rfl, hM⟩
  · replace hm := condF hb hm
    refine wp_skip ?_
    refine x_nt ?_
    refine wp_seq ?_
    refine wp_region_lit ?_
    refine wl hs (y_move hs rfl) rfl ?_; intro a hs
    obtain ⟨y4, h5, hm⟩ := bindE hm
    refine wcall is_75 hs rfl rfl (spec_asRows_any v_p0 p0 _ (RdM.below hr_p0 hM.bel) h5) ?_; rintro a _ w hs ⟨v8, v10, rfl, hX⟩
    have hM : Mem W w [aInts 3 v8 y4.1, aInts 3 v10 y4.2] := hM.call hX
    refine wl hs (y_move hs rfl) rfl ?_; intro a hs
    refine wl hs (y_extract hs rfl rfl) rfl ?_; intro a hs
    refine wl hs (y_extract hs rfl rfl) rfl ?_; intro a hs
    refine wl hs (y_assign hs rfl) rfl ?_; intro a hs
    refine wl hs (y_assign hs rfl) rfl ?_; intro a hs
    refine wpList_nil ?_
    refine x_nt ?_
    refine wp_seq ?_
    refine wp_seq ?_
    refine wp_region_lit ?_
    refine wl hs (y_move hs rfl) rfl ?_; intro a hs
    obtain ⟨y11, h12, hm⟩ := bindE hm
    refine wcall is_76 hs rfl rfl (spec_l1All_any v8 y4.1 (-1000000) 1000000 _ (hM.rdI 0 rfl) h12) ?_; rintro a _ w hs ⟨rfl, hX⟩
    have hM : Mem W w [aInts 3 v8 y4.1, aInts 3 v10 y4.2] := hM.call hX
    refine wl hs (y_not hs rfl) rfl ?_; intro a hs
    refine wpList_nil ?_
    refine x_nt ?_
    refine x_cond hs rfl (fun hb => ?_) (fun hb => ?_)
    · replace hm := condT hb hm
      refine wp_seq ?_
      refine wp_region_lit ?_
      refine wl hs (y_assign hs rfl) rfl ?_; intro a hs
      refine wl hs (y_assign hs rfl) rfl ?_; intro a hs
      refine wpList_nil ?_
      refine x_nt ?_
      refine wp_ret ?_
      refine x_rt ?_
      have hm : some ([], false) = some r := hm
      obtain rfl := Option.some.inj hm
      refine x_ret2 rfl hs rfl rfl ⟨_, rfl, ?_⟩
      have hM := hM.nilI 3
      exact ⟨_, rfl, (hM.keep_ 1)⟩
    · replace hm := condF hb hm
      refine wp_skip ?_
      refine x_nt ?_
      refine wp_seq ?_
      refine wp_region_lit ?_
      refine wl hs (y_move hs rfl) rfl ?_; intro a hs
      refine wl hs (y_assign hs rfl) rfl ?_; intro a hs
      refine wl hs (y_assign hs rfl) rfl ?_; intro a hs
      refine wpList_nil ?_
      refine x_nt ?_
      refine wp_ret ?_
      have hm : some (y4.1, true) = some r := hm
      obtain rfl := Option.some.inj hm
      refine x_ret2 rfl hs rfl rfl ⟨_, rfl, ?_⟩
      exact ⟨_, rfl, (hM.keep_ 1)⟩

set_option maxHeartbeats 4000000 in
theorem spec_ColumnPrices_any (v_p0 : Value) (p0 : List (List Int)) (W : World) (hr_p0 : RdM W v_p0 p0) {r : (List Int) × Bool} (hm : spec_ColumnPrices_m p0 = some r) : Calls Try.prog 40 [v_p0].toArray W fun e w => ∃ v, e = .returned v ∧ ∃ v0, v = .tuple #[v0, .bool r.2] ∧ Mem W w [aInts 3 v0 r.1] := by
  refine x_enter Try.func40 rfl Try.ntmps40 rfl ?_
  intro a hs
  have hM := Mem.start W
  unfold spec_ColumnPrices_m at hm
  refine wp_seq ?_
  refine wp_region_lit ?_
  refine wl hs (y_assign hs rfl) rfl ?_; intro a hs
  refine wl hs (y_assign hs rfl) rfl ?_; intro a hs
  refine wpList_nil ?_
  refine x_nt ?_
  refine wp_seq ?_
  refine wp_seq ?_
  refine wp_region_lit ?_
  refine wl hs (y_move hs rfl) rfl ?_; intro a hs
  obtain ⟨y1, h2, hm⟩ := bindE hm
  refine wcall is_56 hs rfl rfl (spec_asAsked_any v_p0 p0 _ (RdM.below hr_p0 hM.bel) h2) ?_; rintro a _ w hs ⟨rfl, hX⟩
  have hM : Mem W w [] := hM.call hX
  refine wl hs (y_not hs rfl) rfl ?_; intro a hs
  refine wpList_nil ?_
  refine x_nt ?_
  refine x_cond hs rfl (fun hb => ?_) (fun hb => ?_)
  · replace hm := condT hb hm
    refine wp_seq ?_
    refine wp_region_lit ?_
    refine wl hs (y_assign hs rfl) rfl ?_; intro a hs
    refine wl hs (y_assign hs rfl) rfl ?_; intro a hs
    refine wpList_nil ?_
    refine x_nt ?_
    refine wp_ret ?_
    refine x_rt ?_
    have hm : some ([], false) = some r := hm
    obtain rfl := Option.some.inj hm
    refine x_ret2 rfl hs rfl rfl ⟨_, rfl, ?_⟩
    have hM := hM.nilI 3
    exact ⟨_, rfl, hM⟩
  · replace hm := condF hb hm
    refine wp_skip ?_
    refine x_nt ?_
    refine wp_seq ?_
    refine wp_region_lit ?_
    refine wl hs (y_move hs rfl) rfl ?_; intro a hs
    obtain ⟨y4, h5, hm⟩ := bindE hm
    refine wcall is_75 hs rfl rfl (spec_asRows_any v_p0 p0 _ (RdM.below hr_p0 hM.bel) h5) ?_; rintro a _ w hs ⟨v8, v10, rfl, hX⟩
    have hM : Mem W w [aInts 3 v8 y4.1, aInts 3 v10 y4.2] := hM.call hX
    refine wl hs (y_move hs rfl) rfl ?_; intro a hs
    refine wl hs (y_extract hs rfl rfl) rfl ?_; intro a hs
    refine wl hs (y_extract hs rfl rfl) rfl ?_; intro a hs
    refine wl hs (y_assign hs rfl) rfl ?_; intro a hs
    refine wl hs (y_assign hs rfl) rfl ?_; intro a hs
    refine wpList_nil ?_
    refine x_nt ?_
    refine wp_seq ?_
    refine wp_region_lit ?_
    refine wl hs (y_move hs rfl) rfl ?_; intro a hs
    refine wl hs (y_len hu_M hs rfl (RdM.below hr_p0 hM.bel)) rfl ?_; intro a hs
    obtain ⟨_, h13, hm⟩ := bindE hm
    refine wmem hs (x_makeI hu_I he_int hs rfl hM h13) rfl ?_; intro a v12 w hs hM
    have hM : Mem W w [aInts 3 v12 (List.replicate ((p0.length : Int)).toNat (0 : Int)), aInts 3 v8 y4.1, aInts 3 v10 y4.2] := hM
    refine wl hs (y_assign hs rfl) rfl ?_; intro a hs
    refine wpList_nil ?_
    refine x_nt ?_
    refine wp_seq ?_
    refine wp_seq ?_
    refine wp_region_lit ?_
    refine wl hs (y_move hs rfl) rfl ?_; intro a hs
    refine wl hs (y_len hu_I hs rfl (hM.rdI 2 rfl)) rfl ?_; intro a hs
    refine wl hs (y_move hs rfl) rfl ?_; intro a hs
    refine wpList_nil ?_
    refine x_nt ?_
    obtain ⟨s17, hm, hk18⟩ := bindE hm
    refine x_mid (fun a w => ∃ (l16 : List Int), l16 = s17 ∧ Fr a 47 [(6, v12)] ∧ Mem W w [aInts 3 v12 l16]) ?_ ?_
    · refine wp_block ?_
      refine x_loop (fun k a w => ∃ (q19 : List Int) (j14 : Nat) (l15 : List Int) , k = q19.length ∧ Fr a 47 [(0, v_p0), (4, v8), (6, v12), (20, v10), (21, .int .i64 (y4.2.length : Int)), (22, .int .i64 (j14 : Int))] ∧ Mem W w [aInts 3 v12 l15, aInts 3 v8 y4.1, aInts 3 v10 y4.2] ∧ spec_ColumnPrices_l1 p0 y4 q19 j14 l15 = some s17 ∧ List.drop j14 y4.2 = q19) _ ⟨y4.2, 0, (List.replicate ((p0.length : Int)).toNat (0 : Int)), rfl, hs.sub ⟨rfl, rfl, rfl, rfl, rfl, rfl, trivial⟩, hM, hm, rfl⟩ ?_
      rintro k a w ⟨q19, j14, l15, rfl, hs, hM, hm, hj14⟩
      rcases q19 with _ | ⟨x20, q19⟩
      · rewrite [spec_ColumnPrices_l1] at hm
        refine wp_seq ?_
        refine wp_region_lit ?_
        refine wl hs (y_lss hs rfl rfl) rfl ?_; intro a hs
        refine wpList_nil ?_
        refine x_nt ?_
        refine wp_seq ?_
        refine x_condF hs rfl (drop_f hj14) ?_
        refine wp_exit ?_
        refine x_et ?_
        refine x_et ?_
        refine x_eb ?_
        have hm : some l15 = some s17 := hm
        exact ⟨l15, Option.some.inj hm, hs.sub ⟨rfl, trivial⟩, (hM.keep_ 1)⟩
      · rewrite [spec_ColumnPrices_l1] at hm
        have hx21 := drop_idx hj14
        have hsj14 := ck_succ hj14 (RdS.len (hM.rdI 2 rfl))
        refine wp_seq ?_
        refine wp_region_lit ?_
        refine wl hs (y_lss hs rfl rfl) rfl ?_; intro a hs
        refine wpList_nil ?_
        refine x_nt ?_
        refine wp_seq ?_
        refine x_condT hs rfl (drop_t hj14) ?_
        refine wp_skip ?_
        refine x_nt ?_
        refine wp_seq ?_
        refine wp_block ?_
        refine wp_seq ?_
        refine wp_region_lit ?_
        refine wl hs (y_move hs rfl) rfl ?_; intro a hs
        have he22 := RdI.at_ (hM.rdI 2 rfl) hx21
        refine wl hs (y_index ht_I hs rfl rfl he22) rfl ?_; intro a hs
        refine wl hs (y_load sc_int hs rfl he22.cell) rfl ?_; intro a hs
        refine wl hs (y_assign hs rfl) rfl ?_; intro a hs
        refine wl hs (y_assign hs rfl) rfl ?_; intro a hs
        refine wpList_nil ?_
        refine x_nt ?_
        refine wc_start hmix [0, 1, 2, 3, 4, 5, 6, 7, 8, 9, 10, 11, 12, 13, 14] (fun w => Mem W w [aInts 3 v12 l15, aInts 3 v8 y4.1, aInts 3 v10 y4.2]) (by rfl) ?_
        refine wc (i := 0) (fuel := 15) rfl (by kernel_rfl) (fun w w2 hS hE => hS.quiet hE) hM hs (fun w1 hS => y_move hs rfl) rfl ?_; intro a hs
        refine wc (i := 1) (fuel := 14) rfl (by kernel_rfl) (fun w w2 hS hE => hS.quiet hE) hM hs (fun w1 hS => y_move hs rfl) rfl ?_; intro a hs
        refine wc (i := 2) (fuel := 13) rfl (by kernel_rfl) (fun w w2 hS hE => hS.quiet hE) hM hs (fun w1 hS => y_move hs rfl) rfl ?_; intro a hs
        refine wc (i := 3) (fuel := 12) rfl (by kernel_rfl) (fun w w2 hS hE => hS.quiet hE) hM hs (fun w1 hS => y_move hs rfl) rfl ?_; intro a hs
        obtain ⟨x23, hx24, hm⟩ := bindE hm
        obtain ⟨u26, he25, hr27⟩ := RdM.at_ hr_p0 hx24
        have he28 := fun (w1 : World) (hS : Mem W w1 [aInts 3 v12 l15, aInts 3 v8 y4.1, aInts 3 v10 y4.2]) => he25.below hS.bel
        refine wc (i := 4) (fuel := 11) rfl (by kernel_rfl) (fun w w2 hS hE => hS.quiet hE) hM hs (fun w1 hS => y_index ht_M hs rfl rfl (he28 w1 hS)) rfl ?_; intro a hs
        refine wc (i := 5) (fuel := 10) rfl (by kernel_rfl) (fun w w2 hS hE => hS.quiet hE) hM hs (fun w1 hS => y_load sc_I hs rfl (he28 w1 hS).cell) rfl ?_; intro a hs
        refine wc (i := 6) (fuel := 9) rfl (by kernel_rfl) (fun w w2 hS hE => hS.quiet hE) hM hs (fun w1 hS => y_move hs rfl) rfl ?_; intro a hs
        obtain ⟨x29, hx30, hm⟩ := bindE hm
        have he31 := fun (w1 : World) (hS : Mem W w1 [aInts 3 v12 l15, aInts 3 v8 y4.1, aInts 3 v10 y4.2]) => RdI.at_ (RdI.below hr27 hS.bel) hx30
        refine wc (i := 7) (fuel := 8) rfl (by kernel_rfl) (fun w w2 hS hE => hS.quiet hE) hM hs (fun w1 hS => y_index ht_I hs rfl rfl (he31 w1 hS)) rfl ?_; intro a hs
        refine wc (i := 8) (fuel := 7) rfl (by kernel_rfl) (fun w w2 hS hE => hS.quiet hE) hM hs (fun w1 hS => y_load sc_int hs rfl (he31 w1 hS).cell) rfl ?_; intro a hs
        refine wc (i := 9) (fuel := 6) rfl (by kernel_rfl) (fun w w2 hS hE => hS.quiet hE) hM hs (fun w1 hS => y_move hs rfl) rfl ?_; intro a hs
        refine wc (i := 10) (fuel := 5) rfl (by kernel_rfl) (fun w w2 hS hE => hS.quiet hE) hM hs (fun w1 hS => y_move hs rfl) rfl ?_; intro a hs
        obtain ⟨x32, hx33, hm⟩ := bindE hm
        have he34 := fun (w1 : World) (hS : Mem W w1 [aInts 3 v12 l15, aInts 3 v8 y4.1, aInts 3 v10 y4.2]) => RdI.at_ (hS.rdI 1 rfl) hx33
        refine wc (i := 11) (fuel := 4) rfl (by kernel_rfl) (fun w w2 hS hE => hS.quiet hE) hM hs (fun w1 hS => y_index ht_I hs rfl rfl (he34 w1 hS)) rfl ?_; intro a hs
        refine wc (i := 12) (fuel := 3) rfl (by kernel_rfl) (fun w w2 hS hE => hS.quiet hE) hM hs (fun w1 hS => y_load sc_int hs rfl (he34 w1 hS).cell) rfl ?_; intro a hs
        obtain ⟨n35, h36, hm⟩ := bindE hm
        refine wc (i := 13) (fuel := 2) rfl (by kernel_rfl) (fun w w2 hS hE => hS.quiet hE) hM hs (fun w1 hS => y_sub hs rfl rfl h36) rfl ?_; intro a hs
        obtain ⟨x37, hx38, hm⟩ := bindE hm
        have he39 := fun (w1 : World) (hS : Mem W w1 [aInts 3 v12 l15, aInts 3 v8 y4.1, aInts 3 v10 y4.2]) => RdI.at_ (hS.rdI 0 rfl) hx38
        refine wc (i := 14) (fuel := 1) rfl (by kernel_rfl) (fun w w2 hS hE => hS.quiet hE) hM hs (fun w1 hS => y_index ht_I hs rfl rfl (he39 w1 hS)) rfl ?_; intro a hs
        refine wc_one (fuel := 0) 15 rfl (by kernel_rfl) ?_
        intro w hw
        replace hM := hM.quiet hw
        obtain ⟨l40, h41, hm⟩ := bindE hm
        refine wstore hs rfl rfl (x_storeI he_int (hM.front 0 rfl) h41) ?_; intro w hM
        have hM : Mem W w [aInts 3 v12 l40, aInts 3 v8 y4.1, aInts 3 v10 y4.2] := hM
        refine on_nil ?_
        refine wc_done (by kernel_rfl) ?_
        intro w hw
        replace hM := hM.quiet hw
        refine x_nb ?_
        refine x_nt ?_
        refine wp_region_lit ?_
        refine wl hs (y_add hs rfl rfl hsj14) rfl ?_; intro a hs
        refine wl hs (y_move hs rfl) rfl ?_; intro a hs
        refine wpList_nil ?_
        exact ⟨_, by simp, q19, j14 + 1, l40, rfl, hs.sub ⟨rfl, rfl, rfl, rfl, rfl, rfl, trivial⟩, hM, hm, drop_next hj14⟩
    rintro a w ⟨l16, rfl, hs, hM⟩
    have hm := hk18
    refine x_nt ?_
    refine wp_seq ?_
    refine wp_seq ?_
    refine wp_region_lit ?_
    refine wl hs (y_move hs rfl) rfl ?_; intro a hs
    obtain ⟨y42, h43, hm⟩ := bindE hm
    refine wcall is_76 hs rfl rfl (spec_l1All_any v12 l16 (-1000000) 1000000 _ (hM.rdI 0 rfl) h43) ?_; rintro a _ w hs ⟨rfl, hX⟩
    have hM : Mem W w [aInts 3 v12 l16] := hM.call hX
    refine wl hs (y_not hs rfl) rfl ?_; intro a hs
    refine wpList_nil ?_
    refine x_nt ?_
    refine x_cond hs rfl (fun hb => ?_) (fun hb => ?_)
    · replace hm := condT hb hm
      refine wp_seq ?_
      refine wp_region_lit ?_
      refine wl hs (y_assign hs rfl) rfl ?_; intro a hs
      refine wl hs (y_assign hs rfl) rfl ?_; intro a hs
      refine wpList_nil ?_
      refine x_nt ?_
      refine wp_ret ?_
      refine x_rt ?_
      have hm : some ([], false) = some r := hm
      obtain rfl := Option.some.inj hm
      refine x_ret2 rfl hs rfl rfl ⟨_, rfl, ?_⟩
      have hM := hM.nilI 3
      exact ⟨_, rfl, (hM.keep_ 1)⟩
    · replace hm := condF hb hm
      refine wp_skip ?_
      refine x_nt ?_
      refine wp_seq ?_
      refine wp_region_lit ?_
      refine wl hs (y_move hs rfl) rfl ?_; intro a hs
      refine wl hs (y_assign hs rfl) rfl ?_; intro a hs
      refine wl hs (y_assign hs rfl) rfl ?_; intro a hs
      refine wpList_nil ?_
      refine x_nt ?_
      refine wp_ret ?_
      have hm : some (l16, true) = some r := hm
      obtain rfl := Option.some.inj hm
      refine x_ret2 rfl hs rfl rfl ⟨_, rfl, ?_⟩
      exact ⟨_, rfl, hM⟩

end Go.Proofs.Ytnnhbkhlipekeaa
