/- The code of this unit computes what its mirrors say. Written by program (wip/gen). -/
import Derived.Test.YtaagklbiebogfaaFacts
import Derived.Test.YtaagklbiebogfaaEMeetingPairsM
import Derived.Test.YtaagklbiebogfaaNumW
import Derived.Test.YtaagklbiebogfaaLryW
import Derived.Test.YtaagklbiebogfaaRay1W
namespace Go.Proofs.Ytaagklbiebogfaa
open Go.RowKit
set_option linter.unusedVariables false

set_option maxHeartbeats 4000000 in
theorem laws_FnExactMeetingPairs_any (v_p0 : Value) (p0 : List Y3) (v_p1 : Value) (p1 : List Y3) (p2 : Int) (p3 : Int) (W : World) (hr_p0 : RdY W v_p0 p0) (hr_p1 : RdY W v_p1 p1) {r : Bool} (hm : laws_FnExactMeetingPairs_m p0 p1 p2 p3 = some r) : Calls Try.prog 13 [v_p0, v_p1, .int .i64 p2, .int .i64 p3].toArray W fun e w => ∃ v, e = .returned v ∧ v = .bool r ∧ Mem W w [] := by
  refine x_enter Try.func13 rfl Try.ntmps13 rfl ?_
  intro a hs
  have hM := Mem.start W
  unfold laws_FnExactMeetingPairs_m at hm
  refine wp_seq ?_
  refine wp_region_lit ?_
  refine wl hs (y_assign hs rfl) rfl ?_; intro a hs
  refine wpList_nil ?_
  refine x_nt ?_
  refine wp_seq ?_
  refine wp_region_lit ?_
  refine wl hs (y_assign hs rfl) rfl ?_; intro a hs
  refine wpList_nil ?_
  refine x_nt ?_
  refine wp_seq ?_
  refine wp_region_lit ?_
  refine wl hs (y_move hs rfl) rfl ?_; intro a hs
  refine wl hs (y_move hs rfl) rfl ?_; intro a hs
  obtain ⟨y1, h2, hm⟩ := bindE hm
  refine wcall is_40 hs rfl rfl (laws_szRayS_any v_p0 p0 1048576 _ (RdY.below hr_p0 hM.bel) h2) ?_; rintro a _ w hs ⟨rfl, hX⟩
  have hM : Mem W w [] := hM.call hX
  refine wl hs (y_assign hs rfl) rfl ?_; intro a hs
  refine wpList_nil ?_
  refine x_nt ?_
  refine wp_seq ?_
  refine wp_seq ?_
  refine wp_region_lit ?_
  refine wl hs (y_move hs rfl) rfl ?_; intro a hs
  refine wl hs (y_lss hs rfl rfl) rfl ?_; intro a hs
  refine wpList_nil ?_
  refine x_nt ?_
  refine x_cond hs rfl (fun hb => ?_) (fun hb => ?_)
  · replace hm := condT hb hm
    refine wp_seq ?_
    refine wp_region_lit ?_
    refine wl hs (y_assign hs rfl) rfl ?_; intro a hs
    refine wpList_nil ?_
    refine x_nt ?_
    refine wp_ret ?_
    refine x_rt ?_
    have hm : some true = some r := hm
    obtain rfl := Option.some.inj hm
    refine x_ret1 rfl hs rfl ⟨_, rfl, ?_⟩
    exact ⟨rfl, hM⟩
  · replace hm := condF hb hm
    refine wp_skip ?_
    refine x_nt ?_
    refine wp_seq ?_
    refine wp_region_lit ?_
    refine wl hs (y_move hs rfl) rfl ?_; intro a hs
    refine wl hs (y_move hs rfl) rfl ?_; intro a hs
    obtain ⟨y3, h4, hm⟩ := bindE hm
    refine wcall is_40 hs rfl rfl (laws_szRayS_any v_p1 p1 y1 _ (RdY.below hr_p1 hM.bel) h4) ?_; rintro a _ w hs ⟨rfl, hX⟩
    have hM : Mem W w [] := hM.call hX
    refine wl hs (y_assign hs rfl) rfl ?_; intro a hs
    refine wpList_nil ?_
    refine x_nt ?_
    refine wp_seq ?_
    refine wp_seq ?_
    refine wp_region_lit ?_
    refine wl hs (y_move hs rfl) rfl ?_; intro a hs
    refine wl hs (y_lss hs rfl rfl) rfl ?_; intro a hs
    refine wpList_nil ?_
    refine x_nt ?_
    refine x_cond hs rfl (fun hb => ?_) (fun hb => ?_)
    · replace hm := condT hb hm
      refine wp_seq ?_
      refine wp_region_lit ?_
      refine wl hs (y_assign hs rfl) rfl ?_; intro a hs
      refine wpList_nil ?_
      refine x_nt ?_
      refine wp_ret ?_
      refine x_rt ?_
      have hm : some true = some r := hm
      obtain rfl := Option.some.inj hm
      refine x_ret1 rfl hs rfl ⟨_, rfl, ?_⟩
      exact ⟨rfl, hM⟩
    · replace hm := condF hb hm
      refine wp_skip ?_
      refine x_nt ?_
      refine wp_seq ?_
      refine wp_region_lit ?_
      refine wl hs (y_move hs rfl) rfl ?_; intro a hs
      obtain ⟨y5, h6, hm⟩ := bindE hm
      refine wcall is_42 hs rfl rfl (laws_toRayS_any v_p0 p0 _ (RdY.below hr_p0 hM.bel) h6) ?_; rintro a v7 w hs hX
      have hM : Mem W w [aYs 82 v7 y5] := hM.call hX
      refine wl hs (y_move hs rfl) rfl ?_; intro a hs
      obtain ⟨y9, h10, hm⟩ := bindE hm
      refine wcall is_42 hs rfl rfl (laws_toRayS_any v_p1 p1 _ (RdY.below hr_p1 hM.bel) h10) ?_; rintro a v11 w hs hX
      have hM : Mem W w [aYs 82 v11 y9, aYs 82 v7 y5] := hM.call hX
      refine wl hs (y_move hs rfl) rfl ?_; intro a hs
      refine wl hs (y_move hs rfl) rfl ?_; intro a hs
      obtain ⟨y13, h14, hm⟩ := bindE hm
      refine wcall is_47 hs rfl rfl (spec_MeetingPairs_any v7 y5 v11 y9 p2 p3 _ (hM.rdY 1 rfl) (hM.rdY 0 rfl) h14) ?_; rintro a _ w hs ⟨v17, vs18, rfl, hX⟩
      have hM : Mem W w [aMat 24 3 v17 vs18 y13.1, aYs 82 v11 y9, aYs 82 v7 y5] := hM.call hX
      refine wl hs (y_move hs rfl) rfl ?_; intro a hs
      refine wl hs (y_extract hs rfl rfl) rfl ?_; intro a hs
      refine wl hs (y_extract hs rfl rfl) rfl ?_; intro a hs
      refine wl hs (y_assign hs rfl) rfl ?_; intro a hs
      refine wl hs (y_assign hs rfl) rfl ?_; intro a hs
      refine wpList_nil ?_
      refine x_nt ?_
      refine wp_seq ?_
      refine wp_region_lit ?_
      refine wl hs (y_move hs rfl) rfl ?_; intro a hs
      obtain ⟨y19, h20, hm⟩ := bindE hm
      refine wcall is_42 hs rfl rfl (laws_toRayS_any v_p0 p0 _ (RdY.below hr_p0 hM.bel) h20) ?_; rintro a v21 w hs hX
      have hM : Mem W w [aYs 82 v21 y19, aMat 24 3 v17 vs18 y13.1, aYs 82 v11 y9, aYs 82 v7 y5] := hM.call hX
      refine wl hs (y_assign hs rfl) rfl ?_; intro a hs
      refine wpList_nil ?_
      refine x_nt ?_
      refine wp_seq ?_
      refine wp_region_lit ?_
      refine wl hs (y_move hs rfl) rfl ?_; intro a hs
      obtain ⟨y23, h24, hm⟩ := bindE hm
      refine wcall is_42 hs rfl rfl (laws_toRayS_any v_p1 p1 _ (RdY.below hr_p1 hM.bel) h24) ?_; rintro a v25 w hs hX
      have hM : Mem W w [aYs 82 v25 y23, aYs 82 v21 y19, aMat 24 3 v17 vs18 y13.1, aYs 82 v11 y9, aYs 82 v7 y5] := hM.call hX
      refine wl hs (y_assign hs rfl) rfl ?_; intro a hs
      refine wpList_nil ?_
      refine x_nt ?_
      refine wp_seq ?_
      refine wp_region_lit ?_
      refine wl hs (y_move hs rfl) rfl ?_; intro a hs
      refine wl hs (y_move hs rfl) rfl ?_; intro a hs
      refine wl hs (y_move hs rfl) rfl ?_; intro a hs
      refine wl hs (y_move hs rfl) rfl ?_; intro a hs
      obtain ⟨y27, h28, hm⟩ := bindE hm
      refine wcall is_48 hs rfl rfl (impl_MeetingPairs_any v21 y19 v25 y23 p2 p3 _ (hM.rdY 1 rfl) (hM.rdY 0 rfl) h28) ?_; rintro a _ w hs ⟨v31, vs32, rfl, hX⟩
      have hM : Mem W w [aMat 24 3 v31 vs32 y27.1, aYs 82 v25 y23, aYs 82 v21 y19, aMat 24 3 v17 vs18 y13.1, aYs 82 v11 y9, aYs 82 v7 y5] := hM.call hX
      refine wl hs (y_move hs rfl) rfl ?_; intro a hs
      refine wl hs (y_extract hs rfl rfl) rfl ?_; intro a hs
      refine wl hs (y_extract hs rfl rfl) rfl ?_; intro a hs
      refine wl hs (y_assign hs rfl) rfl ?_; intro a hs
      refine wl hs (y_assign hs rfl) rfl ?_; intro a hs
      refine wpList_nil ?_
      refine x_nt ?_
      refine wp_seq ?_
      refine wp_seq ?_
      refine wp_region_lit ?_
      refine wl hs (y_move hs rfl) rfl ?_; intro a hs
      refine wl hs (y_move hs rfl) rfl ?_; intro a hs
      obtain ⟨y33, h34, hm⟩ := bindE hm
      refine wcall is_20 hs rfl rfl (laws_eqIntSS_any v31 y27.1 v17 y13.1 _ (hM.rdM 0 rfl) (hM.rdM 3 rfl) h34) ?_; rintro a _ w hs ⟨rfl, hX⟩
      have hM : Mem W w [aMat 24 3 v31 vs32 y27.1, aYs 82 v25 y23, aYs 82 v21 y19, aMat 24 3 v17 vs18 y13.1, aYs 82 v11 y9, aYs 82 v7 y5] := hM.call hX
      refine wl hs (y_not hs rfl) rfl ?_; intro a hs
      refine wl hs (y_move hs rfl) rfl ?_; intro a hs
      obtain ⟨b35, hb36, hm⟩ := bindE hm
      refine wlguard (N := 129) (L' := [(61, .bool b35), (0, v_p0), (1, v_p1), (2, .int .i64 p2), (3, .int .i64 p3), (10, v17), (11, .bool y13.2), (12, v21), (13, v25), (14, v31), (15, .bool y27.2)]) (fun w => Mem W w [aMat 24 3 v31 vs32 y27.1, aYs 82 v25 y23, aYs 82 v21 y19, aMat 24 3 v17 vs18 y13.1, aYs 82 v11 y9, aYs 82 v7 y5]) 4 ?_ ?_
      · intro K; rcases Bool.eq_false_or_eq_true (!y33) with hg37 | hg37
        · have hm := condT hg37 hb36
          refine wls hs rfl hg37 rfl ?_; intro a hs
          refine wls hs rfl hg37 rfl ?_; intro a hs
          refine wls hs rfl hg37 rfl ?_; intro a hs
          have hm : some true = some b35 := hm
          cases Option.some.inj hm
          refine wl hs (y_pickT hs rfl hg37 rfl) rfl ?_; intro a hs
          exact K _ _ (hs.sub ⟨rfl, rfl, rfl, rfl, rfl, rfl, rfl, rfl, rfl, rfl, rfl, trivial⟩) hM
        · have hm := condF hg37 hb36
          refine wlg hs rfl hg37 (y_move hs rfl) rfl ?_; intro a hs
          refine wlg hs rfl hg37 (y_move hs rfl) rfl ?_; intro a hs
          refine wlg hs rfl hg37 (y_neqB hu_bool hs rfl rfl) rfl ?_; intro a hs
          have hm : some (y27.2 != y13.2) = some b35 := hm
          cases Option.some.inj hm
          refine wl hs (y_pickF hs rfl hg37 rfl) rfl ?_; intro a hs
          exact K _ _ (hs.sub ⟨rfl, rfl, rfl, rfl, rfl, rfl, rfl, rfl, rfl, rfl, rfl, trivial⟩) hM
      intro a w hs hM
      simp only [List.drop_succ_cons, List.drop_zero]
      refine wpList_nil ?_
      refine x_nt ?_
      refine x_cond hs rfl (fun hb => ?_) (fun hb => ?_)
      · replace hm := condT hb hm
        refine wp_seq ?_
        refine wp_region_lit ?_
        refine wl hs (y_assign hs rfl) rfl ?_; intro a hs
        refine wpList_nil ?_
        refine x_nt ?_
        refine wp_ret ?_
        refine x_rt ?_
        have hm : some false = some r := hm
        obtain rfl := Option.some.inj hm
        refine x_ret1 rfl hs rfl ⟨_, rfl, ?_⟩
        exact ⟨rfl, hM.none_⟩
      · replace hm := condF hb hm
        refine wp_skip ?_
        refine x_nt ?_
        refine wp_seq ?_
        refine wp_seq ?_
        refine wp_region_lit ?_
        refine wl hs (y_move hs rfl) rfl ?_; intro a hs
        refine wl hs (y_move hs rfl) rfl ?_; intro a hs
        obtain ⟨y38, h39, hm⟩ := bindE hm
        refine wcall is_42 hs rfl rfl (laws_toRayS_any v_p0 p0 _ (RdY.below hr_p0 hM.bel) h39) ?_; rintro a v40 w hs hX
        have hM : Mem W w [aYs 82 v40 y38, aMat 24 3 v31 vs32 y27.1, aYs 82 v25 y23, aYs 82 v21 y19, aMat 24 3 v17 vs18 y13.1, aYs 82 v11 y9, aYs 82 v7 y5] := hM.call hX
        obtain ⟨y42, h43, hm⟩ := bindE hm
        refine wcall is_44 hs rfl rfl (laws_eqRayS_any v21 y19 v40 y38 _ (hM.rdY 3 rfl) (hM.rdY 0 rfl) h43) ?_; rintro a _ w hs ⟨rfl, hX⟩
        have hM : Mem W w [aYs 82 v40 y38, aMat 24 3 v31 vs32 y27.1, aYs 82 v25 y23, aYs 82 v21 y19, aMat 24 3 v17 vs18 y13.1, aYs 82 v11 y9, aYs 82 v7 y5] := hM.call hX
        refine wl hs (y_not hs rfl) rfl ?_; intro a hs
        refine wpList_nil ?_
        refine x_nt ?_
        refine x_cond hs rfl (fun hb => ?_) (fun hb => ?_)
        · replace hm := condT hb hm
          refine wp_seq ?_
          refine wp_region_lit ?_
          refine wl hs (y_assign hs rfl) rfl ?_; intro a hs
          refine wpList_nil ?_
          refine x_nt ?_
          refine wp_ret ?_
          refine x_rt ?_
          have hm : some false = some r := hm
          obtain rfl := Option.some.inj hm
          refine x_ret1 rfl hs rfl ⟨_, rfl, ?_⟩
          exact ⟨rfl, hM.none_⟩
        · replace hm := condF hb hm
          refine wp_skip ?_
          refine x_nt ?_
          refine wp_seq ?_
          refine wp_seq ?_
          refine wp_region_lit ?_
          refine wl hs (y_move hs rfl) rfl ?_; intro a hs
          refine wl hs (y_move hs rfl) rfl ?_; intro a hs
          obtain ⟨y44, h45, hm⟩ := bindE hm
          refine wcall is_42 hs rfl rfl (laws_toRayS_any v_p1 p1 _ (RdY.below hr_p1 hM.bel) h45) ?_; rintro a v46 w hs hX
          have hM : Mem W w [aYs 82 v46 y44, aYs 82 v40 y38, aMat 24 3 v31 vs32 y27.1, aYs 82 v25 y23, aYs 82 v21 y19, aMat 24 3 v17 vs18 y13.1, aYs 82 v11 y9, aYs 82 v7 y5] := hM.call hX
          obtain ⟨y48, h49, hm⟩ := bindE hm
          refine wcall is_44 hs rfl rfl (laws_eqRayS_any v25 y23 v46 y44 _ (hM.rdY 3 rfl) (hM.rdY 0 rfl) h49) ?_; rintro a _ w hs ⟨rfl, hX⟩
          have hM : Mem W w [aYs 82 v46 y44, aYs 82 v40 y38, aMat 24 3 v31 vs32 y27.1, aYs 82 v25 y23, aYs 82 v21 y19, aMat 24 3 v17 vs18 y13.1, aYs 82 v11 y9, aYs 82 v7 y5] := hM.call hX
          refine wl hs (y_not hs rfl) rfl ?_; intro a hs
          refine wpList_nil ?_
          refine x_nt ?_
          refine x_cond hs rfl (fun hb => ?_) (fun hb => ?_)
          · replace hm := condT hb hm
            refine wp_seq ?_
            refine wp_region_lit ?_
            refine wl hs (y_assign hs rfl) rfl ?_; intro a hs
            refine wpList_nil ?_
            refine x_nt ?_
            refine wp_ret ?_
            refine x_rt ?_
            have hm : some false = some r := hm
            obtain rfl := Option.some.inj hm
            refine x_ret1 rfl hs rfl ⟨_, rfl, ?_⟩
            exact ⟨rfl, hM.none_⟩
          · replace hm := condF hb hm
            refine wp_skip ?_
            refine x_nt ?_
            refine wp_seq ?_
            refine wp_region_lit ?_
            refine wl hs (y_assign hs rfl) rfl ?_; intro a hs
            refine wpList_nil ?_
            refine x_nt ?_
            refine wp_seq ?_
            refine wp_region_lit ?_
            refine wl hs (y_move hs rfl) rfl ?_; intro a hs
            refine wl hs (y_move hs rfl) rfl ?_; intro a hs
            obtain ⟨y50, h51, hm⟩ := bindE hm
            have hM : Mem W w [aYs 82 v21 y19, aYs 82 v46 y44, aYs 82 v40 y38, aMat 24 3 v31 vs32 y27.1, aYs 82 v25 y23, aMat 24 3 v17 vs18 y13.1, aYs 82 v11 y9, aYs 82 v7 y5] := ((((((((hM.front 7 rfl).front 7 rfl).front 7 rfl).front 6 rfl).front 6 rfl).front 6 rfl).front 6 rfl).front 7 rfl)
            refine wcall is_49 hs rfl rfl (laws_markRayS_any v21 y19 1 _ _ _  hM h51) ?_; rintro a _ w hs ⟨rfl, hM⟩
            have hM : Mem W w [aYs 82 v21 y50.2, aYs 82 v46 y44, aYs 82 v40 y38, aMat 24 3 v31 vs32 y27.1, aYs 82 v25 y23, aMat 24 3 v17 vs18 y13.1, aYs 82 v11 y9, aYs 82 v7 y5] := hM
            refine wl hs (y_assign hs rfl) rfl ?_; intro a hs
            refine wpList_nil ?_
            refine x_nt ?_
            refine wp_seq ?_
            refine wp_region_lit ?_
            refine wl hs (y_move hs rfl) rfl ?_; intro a hs
            refine wl hs (y_move hs rfl) rfl ?_; intro a hs
            obtain ⟨y52, h53, hm⟩ := bindE hm
            have hM : Mem W w [aYs 82 v25 y23, aYs 82 v21 y50.2, aYs 82 v46 y44, aYs 82 v40 y38, aMat 24 3 v31 vs32 y27.1, aMat 24 3 v17 vs18 y13.1, aYs 82 v11 y9, aYs 82 v7 y5] := ((((((((hM.front 7 rfl).front 7 rfl).front 7 rfl).front 6 rfl).front 6 rfl).front 6 rfl).front 6 rfl).front 7 rfl)
            refine wcall is_49 hs rfl rfl (laws_markRayS_any v25 y23 y50.1 _ _ _  hM h53) ?_; rintro a _ w hs ⟨rfl, hM⟩
            have hM : Mem W w [aYs 82 v25 y52.2, aYs 82 v21 y50.2, aYs 82 v46 y44, aYs 82 v40 y38, aMat 24 3 v31 vs32 y27.1, aMat 24 3 v17 vs18 y13.1, aYs 82 v11 y9, aYs 82 v7 y5] := hM
            refine wl hs (y_assign hs rfl) rfl ?_; intro a hs
            refine wpList_nil ?_
            refine x_nt ?_
            refine wp_seq ?_
            refine wp_seq ?_
            refine wp_region_lit ?_
            refine wl hs (y_move hs rfl) rfl ?_; intro a hs
            refine wl hs (y_lss hs rfl rfl) rfl ?_; intro a hs
            refine wl hs (y_move hs rfl) rfl ?_; intro a hs
            obtain ⟨b54, hb55, hm⟩ := bindE hm
            refine wlguard (N := 129) (L' := [(85, .bool b54), (0, v_p0), (1, v_p1), (2, .int .i64 p2), (3, .int .i64 p3), (10, v17), (11, .bool y13.2), (14, v31), (15, .bool y27.2)]) (fun w => Mem W w [aYs 82 v25 y52.2, aYs 82 v21 y50.2, aYs 82 v46 y44, aYs 82 v40 y38, aMat 24 3 v31 vs32 y27.1, aMat 24 3 v17 vs18 y13.1, aYs 82 v11 y9, aYs 82 v7 y5]) 5 ?_ ?_
            · intro K; rcases Bool.eq_false_or_eq_true (decide (y52.1 < 0)) with hg56 | hg56
              · have hm := condT hg56 hb55
                refine wls hs rfl hg56 rfl ?_; intro a hs
                refine wls hs rfl hg56 rfl ?_; intro a hs
                refine wls hs rfl hg56 rfl ?_; intro a hs
                refine wls hs rfl hg56 rfl ?_; intro a hs
                have hm : some true = some b54 := hm
                cases Option.some.inj hm
                refine wl hs (y_pickT hs rfl hg56 rfl) rfl ?_; intro a hs
                exact K _ _ (hs.sub ⟨rfl, rfl, rfl, rfl, rfl, rfl, rfl, rfl, rfl, trivial⟩) hM
              · have hm := condF hg56 hb55
                refine wlg hs rfl hg56 (y_move hs rfl) rfl ?_; intro a hs
                refine wlg hs rfl hg56 (y_move hs rfl) rfl ?_; intro a hs
                obtain ⟨y57, h58, hm⟩ := bindE hm
                refine wcallg is_20 hs rfl hg56 rfl rfl (laws_eqIntSS_any v31 y27.1 v17 y13.1 _ (hM.rdM 4 rfl) (hM.rdM 5 rfl) h58) ?_; rintro a _ w hs ⟨rfl, hX⟩
                have hM : Mem W w [aYs 82 v25 y52.2, aYs 82 v21 y50.2, aYs 82 v46 y44, aYs 82 v40 y38, aMat 24 3 v31 vs32 y27.1, aMat 24 3 v17 vs18 y13.1, aYs 82 v11 y9, aYs 82 v7 y5] := hM.call hX
                refine wlg hs rfl hg56 (y_not hs rfl) rfl ?_; intro a hs
                have hm : some (!y57) = some b54 := hm
                cases Option.some.inj hm
                refine wl hs (y_pickF hs rfl hg56 rfl) rfl ?_; intro a hs
                exact K _ _ (hs.sub ⟨rfl, rfl, rfl, rfl, rfl, rfl, rfl, rfl, rfl, trivial⟩) hM
            intro a w hs hM
            simp only [List.drop_succ_cons, List.drop_zero]
            refine wl hs (y_move hs rfl) rfl ?_; intro a hs
            obtain ⟨b59, hb60, hm⟩ := bindE hm
            refine wlguard (N := 129) (L' := [(90, .bool b59), (0, v_p0), (1, v_p1), (2, .int .i64 p2), (3, .int .i64 p3), (10, v17), (11, .bool y13.2), (14, v31)]) (fun w => Mem W w [aYs 82 v25 y52.2, aYs 82 v21 y50.2, aYs 82 v46 y44, aYs 82 v40 y38, aMat 24 3 v31 vs32 y27.1, aMat 24 3 v17 vs18 y13.1, aYs 82 v11 y9, aYs 82 v7 y5]) 4 ?_ ?_
            · intro K; rcases Bool.eq_false_or_eq_true b54 with hg61 | hg61
              · have hm := condT hg61 hb60
                refine wls hs rfl hg61 rfl ?_; intro a hs
                refine wls hs rfl hg61 rfl ?_; intro a hs
                refine wls hs rfl hg61 rfl ?_; intro a hs
                have hm : some true = some b59 := hm
                cases Option.some.inj hm
                refine wl hs (y_pickT hs rfl hg61 rfl) rfl ?_; intro a hs
                exact K _ _ (hs.sub ⟨rfl, rfl, rfl, rfl, rfl, rfl, rfl, rfl, trivial⟩) hM
              · have hm := condF hg61 hb60
                refine wlg hs rfl hg61 (y_move hs rfl) rfl ?_; intro a hs
                refine wlg hs rfl hg61 (y_move hs rfl) rfl ?_; intro a hs
                refine wlg hs rfl hg61 (y_neqB hu_bool hs rfl rfl) rfl ?_; intro a hs
                have hm : some (y27.2 != y13.2) = some b59 := hm
                cases Option.some.inj hm
                refine wl hs (y_pickF hs rfl hg61 rfl) rfl ?_; intro a hs
                exact K _ _ (hs.sub ⟨rfl, rfl, rfl, rfl, rfl, rfl, rfl, rfl, trivial⟩) hM
            intro a w hs hM
            simp only [List.drop_succ_cons, List.drop_zero]
            refine wpList_nil ?_
            refine x_nt ?_
            refine x_cond hs rfl (fun hb => ?_) (fun hb => ?_)
            · replace hm := condT hb hm
              refine wp_seq ?_
              refine wp_region_lit ?_
              refine wl hs (y_assign hs rfl) rfl ?_; intro a hs
              refine wpList_nil ?_
              refine x_nt ?_
              refine wp_ret ?_
              refine x_rt ?_
              have hm : some false = some r := hm
              obtain rfl := Option.some.inj hm
              refine x_ret1 rfl hs rfl ⟨_, rfl, ?_⟩
              exact ⟨rfl, hM.none_⟩
            · replace hm := condF hb hm
              refine wp_skip ?_
              refine x_nt ?_
              refine wp_seq ?_
              refine wp_region_lit ?_
              refine wl hs (y_assign hs rfl) rfl ?_; intro a hs
              refine wpList_nil ?_
              refine x_nt ?_
              refine wp_seq ?_
              refine wp_region_lit ?_
              refine wl hs (y_move hs rfl) rfl ?_; intro a hs
              refine wl hs (y_move hs rfl) rfl ?_; intro a hs
              obtain ⟨y62, h63, hm⟩ := bindE hm
              have hM : Mem W w [aMat 24 3 v31 vs32 y27.1, aYs 82 v25 y52.2, aYs 82 v21 y50.2, aYs 82 v46 y44, aYs 82 v40 y38, aMat 24 3 v17 vs18 y13.1, aYs 82 v11 y9, aYs 82 v7 y5] := ((((((((hM.front 7 rfl).front 7 rfl).front 7 rfl).front 6 rfl).front 6 rfl).front 6 rfl).front 6 rfl).front 7 rfl)
              refine wcall is_21 hs rfl rfl (laws_markIntSS_any v31 y27.1 _ 1 _ _ _  hM h63) ?_; rintro a _ w hs ⟨vs64, rfl, hM⟩
              have hM : Mem W w [aMat 24 3 v31 vs64 y62.2, aYs 82 v25 y52.2, aYs 82 v21 y50.2, aYs 82 v46 y44, aYs 82 v40 y38, aMat 24 3 v17 vs18 y13.1, aYs 82 v11 y9, aYs 82 v7 y5] := hM
              refine wl hs (y_assign hs rfl) rfl ?_; intro a hs
              refine wpList_nil ?_
              refine x_nt ?_
              refine wp_seq ?_
              refine wp_region_lit ?_
              refine wl hs (y_assign hs rfl) rfl ?_; intro a hs
              refine wpList_nil ?_
              refine x_nt ?_
              refine wp_seq ?_
              refine wp_region_lit ?_
              refine wl hs (y_move hs rfl) rfl ?_; intro a hs
              refine wl hs (y_move hs rfl) rfl ?_; intro a hs
              obtain ⟨y65, h66, hm⟩ := bindE hm
              refine wcall is_27 hs rfl rfl (laws_heldIntSS_any v31 y62.2 1 _ (hM.rdM 0 rfl) h66) ?_; rintro a _ w hs ⟨rfl, hX⟩
              have hM : Mem W w [aMat 24 3 v31 vs64 y62.2, aYs 82 v25 y52.2, aYs 82 v21 y50.2, aYs 82 v46 y44, aYs 82 v40 y38, aMat 24 3 v17 vs18 y13.1, aYs 82 v11 y9, aYs 82 v7 y5] := hM.call hX
              refine wl hs (y_assign hs rfl) rfl ?_; intro a hs
              refine wpList_nil ?_
              refine x_nt ?_
              refine wp_seq ?_
              refine wp_seq ?_
              refine wp_region_lit ?_
              refine wl hs (y_move hs rfl) rfl ?_; intro a hs
              refine wl hs (y_lss hs rfl rfl) rfl ?_; intro a hs
              refine wpList_nil ?_
              refine x_nt ?_
              refine x_cond hs rfl (fun hb => ?_) (fun hb => ?_)
              · replace hm := condT hb hm
                refine wp_seq ?_
                refine wp_region_lit ?_
                refine wl hs (y_assign hs rfl) rfl ?_; intro a hs
                refine wpList_nil ?_
                refine x_nt ?_
                refine wp_ret ?_
                refine x_rt ?_
                have hm : some false = some r := hm
                obtain rfl := Option.some.inj hm
                refine x_ret1 rfl hs rfl ⟨_, rfl, ?_⟩
                exact ⟨rfl, hM.none_⟩
              · replace hm := condF hb hm
                refine wp_skip ?_
                refine x_nt ?_
                refine wp_seq ?_
                refine wp_seq ?_
                refine wp_region_lit ?_
                refine wl hs (y_move hs rfl) rfl ?_; intro a hs
                refine wl hs (y_move hs rfl) rfl ?_; intro a hs
                refine wl hs (y_neq hs rfl rfl) rfl ?_; intro a hs
                refine wpList_nil ?_
                refine x_nt ?_
                refine x_cond hs rfl (fun hb => ?_) (fun hb => ?_)
                · replace hm := condT hb hm
                  refine wp_seq ?_
                  refine wp_region_lit ?_
                  refine wl hs (y_assign hs rfl) rfl ?_; intro a hs
                  refine wpList_nil ?_
                  refine x_nt ?_
                  refine wp_ret ?_
                  refine x_rt ?_
                  have hm : some false = some r := hm
                  obtain rfl := Option.some.inj hm
                  refine x_ret1 rfl hs rfl ⟨_, rfl, ?_⟩
                  exact ⟨rfl, hM.none_⟩
                · replace hm := condF hb hm
                  refine wp_skip ?_
                  refine x_nt ?_
                  refine wp_seq ?_
                  refine wp_region_lit ?_
                  refine wl hs (y_move hs rfl) rfl ?_; intro a hs
                  obtain ⟨y67, h68, hm⟩ := bindE hm
                  refine wcall is_42 hs rfl rfl (laws_toRayS_any v_p0 p0 _ (RdY.below hr_p0 hM.bel) h68) ?_; rintro a v69 w hs hX
                  have hM : Mem W w [aYs 82 v69 y67, aMat 24 3 v31 vs64 y62.2, aYs 82 v25 y52.2, aYs 82 v21 y50.2, aYs 82 v46 y44, aYs 82 v40 y38, aMat 24 3 v17 vs18 y13.1, aYs 82 v11 y9, aYs 82 v7 y5] := hM.call hX
                  refine wl hs (y_move hs rfl) rfl ?_; intro a hs
                  obtain ⟨y71, h72, hm⟩ := bindE hm
                  refine wcall is_42 hs rfl rfl (laws_toRayS_any v_p1 p1 _ (RdY.below hr_p1 hM.bel) h72) ?_; rintro a v73 w hs hX
                  have hM : Mem W w [aYs 82 v73 y71, aYs 82 v69 y67, aMat 24 3 v31 vs64 y62.2, aYs 82 v25 y52.2, aYs 82 v21 y50.2, aYs 82 v46 y44, aYs 82 v40 y38, aMat 24 3 v17 vs18 y13.1, aYs 82 v11 y9, aYs 82 v7 y5] := hM.call hX
                  refine wl hs (y_move hs rfl) rfl ?_; intro a hs
                  refine wl hs (y_move hs rfl) rfl ?_; intro a hs
                  obtain ⟨y75, h76, hm⟩ := bindE hm
                  refine wcall is_48 hs rfl rfl (impl_MeetingPairs_any v69 y67 v73 y71 p2 p3 _ (hM.rdY 1 rfl) (hM.rdY 0 rfl) h76) ?_; rintro a _ w hs ⟨v79, vs80, rfl, hX⟩
                  have hM : Mem W w [aMat 24 3 v79 vs80 y75.1, aYs 82 v73 y71, aYs 82 v69 y67, aMat 24 3 v31 vs64 y62.2, aYs 82 v25 y52.2, aYs 82 v21 y50.2, aYs 82 v46 y44, aYs 82 v40 y38, aMat 24 3 v17 vs18 y13.1, aYs 82 v11 y9, aYs 82 v7 y5] := hM.call hX
                  refine wl hs (y_move hs rfl) rfl ?_; intro a hs
                  refine wl hs (y_extract hs rfl rfl) rfl ?_; intro a hs
                  refine wl hs (y_extract hs rfl rfl) rfl ?_; intro a hs
                  refine wl hs (y_assign hs rfl) rfl ?_; intro a hs
                  refine wl hs (y_assign hs rfl) rfl ?_; intro a hs
                  refine wpList_nil ?_
                  refine x_nt ?_
                  refine wp_seq ?_
                  refine wp_seq ?_
                  refine wp_region_lit ?_
                  refine wl hs (y_move hs rfl) rfl ?_; intro a hs
                  refine wl hs (y_move hs rfl) rfl ?_; intro a hs
                  obtain ⟨y81, h82, hm⟩ := bindE hm
                  refine wcall is_20 hs rfl rfl (laws_eqIntSS_any v79 y75.1 v17 y13.1 _ (hM.rdM 0 rfl) (hM.rdM 8 rfl) h82) ?_; rintro a _ w hs ⟨rfl, hX⟩
                  have hM : Mem W w [aMat 24 3 v79 vs80 y75.1, aYs 82 v73 y71, aYs 82 v69 y67, aMat 24 3 v31 vs64 y62.2, aYs 82 v25 y52.2, aYs 82 v21 y50.2, aYs 82 v46 y44, aYs 82 v40 y38, aMat 24 3 v17 vs18 y13.1, aYs 82 v11 y9, aYs 82 v7 y5] := hM.call hX
                  refine wl hs (y_not hs rfl) rfl ?_; intro a hs
                  refine wl hs (y_move hs rfl) rfl ?_; intro a hs
                  obtain ⟨b83, hb84, hm⟩ := bindE hm
                  refine wlguard (N := 129) (L' := [(120, .bool b83), (14, v31), (17, .int .i64 y62.1)]) (fun w => Mem W w [aMat 24 3 v79 vs80 y75.1, aYs 82 v73 y71, aYs 82 v69 y67, aMat 24 3 v31 vs64 y62.2, aYs 82 v25 y52.2, aYs 82 v21 y50.2, aYs 82 v46 y44, aYs 82 v40 y38, aMat 24 3 v17 vs18 y13.1, aYs 82 v11 y9, aYs 82 v7 y5]) 4 ?_ ?_
                  · intro K; rcases Bool.eq_false_or_eq_true (!y81) with hg85 | hg85
                    · have hm := condT hg85 hb84
                      refine wls hs rfl hg85 rfl ?_; intro a hs
                      refine wls hs rfl hg85 rfl ?_; intro a hs
                      refine wls hs rfl hg85 rfl ?_; intro a hs
                      have hm : some true = some b83 := hm
                      cases Option.some.inj hm
                      refine wl hs (y_pickT hs rfl hg85 rfl) rfl ?_; intro a hs
                      exact K _ _ (hs.sub ⟨rfl, rfl, rfl, trivial⟩) hM
                    · have hm := condF hg85 hb84
                      refine wlg hs rfl hg85 (y_move hs rfl) rfl ?_; intro a hs
                      refine wlg hs rfl hg85 (y_move hs rfl) rfl ?_; intro a hs
                      refine wlg hs rfl hg85 (y_neqB hu_bool hs rfl rfl) rfl ?_; intro a hs
                      have hm : some (y75.2 != y13.2) = some b83 := hm
                      cases Option.some.inj hm
                      refine wl hs (y_pickF hs rfl hg85 rfl) rfl ?_; intro a hs
                      exact K _ _ (hs.sub ⟨rfl, rfl, rfl, trivial⟩) hM
                  intro a w hs hM
                  simp only [List.drop_succ_cons, List.drop_zero]
                  refine wpList_nil ?_
                  refine x_nt ?_
                  refine x_cond hs rfl (fun hb => ?_) (fun hb => ?_)
                  · replace hm := condT hb hm
                    refine wp_seq ?_
                    refine wp_region_lit ?_
                    refine wl hs (y_assign hs rfl) rfl ?_; intro a hs
                    refine wpList_nil ?_
                    refine x_nt ?_
                    refine wp_ret ?_
                    refine x_rt ?_
                    have hm : some false = some r := hm
                    obtain rfl := Option.some.inj hm
                    refine x_ret1 rfl hs rfl ⟨_, rfl, ?_⟩
                    exact ⟨rfl, hM.none_⟩
                  · replace hm := condF hb hm
                    refine wp_skip ?_
                    refine x_nt ?_
                    refine wp_seq ?_
                    refine wp_region_lit ?_
                    refine wl hs (y_assign hs rfl) rfl ?_; intro a hs
                    refine wpList_nil ?_
                    refine x_nt ?_
                    refine wp_seq ?_
                    refine wp_region_lit ?_
                    refine wl hs (y_move hs rfl) rfl ?_; intro a hs
                    refine wl hs (y_move hs rfl) rfl ?_; intro a hs
                    obtain ⟨y86, h87, hm⟩ := bindE hm
                    refine wcall is_27 hs rfl rfl (laws_heldIntSS_any v31 y62.2 1 _ (hM.rdM 3 rfl) h87) ?_; rintro a _ w hs ⟨rfl, hX⟩
                    have hM : Mem W w [aMat 24 3 v79 vs80 y75.1, aYs 82 v73 y71, aYs 82 v69 y67, aMat 24 3 v31 vs64 y62.2, aYs 82 v25 y52.2, aYs 82 v21 y50.2, aYs 82 v46 y44, aYs 82 v40 y38, aMat 24 3 v17 vs18 y13.1, aYs 82 v11 y9, aYs 82 v7 y5] := hM.call hX
                    refine wl hs (y_assign hs rfl) rfl ?_; intro a hs
                    refine wpList_nil ?_
                    refine x_nt ?_
                    refine wp_seq ?_
                    refine wp_seq ?_
                    refine wp_region_lit ?_
                    refine wl hs (y_move hs rfl) rfl ?_; intro a hs
                    refine wl hs (y_lss hs rfl rfl) rfl ?_; intro a hs
                    refine wpList_nil ?_
                    refine x_nt ?_
                    refine x_cond hs rfl (fun hb => ?_) (fun hb => ?_)
                    · replace hm := condT hb hm
                      refine wp_seq ?_
                      refine wp_region_lit ?_
                      refine wl hs (y_assign hs rfl) rfl ?_; intro a hs
                      refine wpList_nil ?_
                      refine x_nt ?_
                      refine wp_ret ?_
                      refine x_rt ?_
                      have hm : some false = some r := hm
                      obtain rfl := Option.some.inj hm
                      refine x_ret1 rfl hs rfl ⟨_, rfl, ?_⟩
                      exact ⟨rfl, hM.none_⟩
                    · replace hm := condF hb hm
                      refine wp_skip ?_
                      refine x_nt ?_
                      refine wp_seq ?_
                      refine wp_seq ?_
                      refine wp_region_lit ?_
                      refine wl hs (y_move hs rfl) rfl ?_; intro a hs
                      refine wl hs (y_move hs rfl) rfl ?_; intro a hs
                      refine wl hs (y_neq hs rfl rfl) rfl ?_; intro a hs
                      refine wpList_nil ?_
                      refine x_nt ?_
                      refine x_cond hs rfl (fun hb => ?_) (fun hb => ?_)
                      · replace hm := condT hb hm
                        refine wp_seq ?_
                        refine wp_region_lit ?_
                        refine wl hs (y_assign hs rfl) rfl ?_; intro a hs
                        refine wpList_nil ?_
                        refine x_nt ?_
                        refine wp_ret ?_
                        refine x_rt ?_
                        have hm : some false = some r := hm
                        obtain rfl := Option.some.inj hm
                        refine x_ret1 rfl hs rfl ⟨_, rfl, ?_⟩
                        exact ⟨rfl, hM.none_⟩
                      · replace hm := condF hb hm
                        refine wp_skip ?_
                        refine x_nt ?_
                        refine wp_seq ?_
                        refine wp_region_lit ?_
                        refine wl hs (y_assign hs rfl) rfl ?_; intro a hs
                        refine wpList_nil ?_
                        refine x_nt ?_
                        refine wp_ret ?_
                        have hm : some true = some r := hm
                        obtain rfl := Option.some.inj hm
                        refine x_ret1 rfl hs rfl ⟨_, rfl, ?_⟩
                        exact ⟨rfl, hM.none_⟩

end Go.Proofs.Ytaagklbiebogfaa
