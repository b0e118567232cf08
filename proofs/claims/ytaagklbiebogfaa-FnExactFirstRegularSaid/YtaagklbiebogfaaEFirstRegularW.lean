/- The code of this unit computes what its mirrors say. Written by program (wip/gen). -/
import Derived.Test.YtaagklbiebogfaaFacts
import Derived.Test.YtaagklbiebogfaaEFirstRegularM
import Derived.Test.YtaagklbiebogfaaNumW
import Derived.Test.YtaagklbiebogfaaChoW
import Derived.Test.YtaagklbiebogfaaChiW
namespace Go.Proofs.Ytaagklbiebogfaa
open Go.RowKit
set_option linter.unusedVariables false

theorem laws_FnExactFirstRegular_any (v_p0 : Value) (p0 : List (List Int)) (p1 : Int) (W : World) (hr_p0 : RdM W v_p0 p0) {r : Bool} (hm : laws_FnExactFirstRegular_m p0 p1 = some r) : Calls Try.prog 7 [v_p0, .int .i64 p1].toArray W fun e w => ∃ v, e = .returned v ∧ v = .bool r ∧ Mem W w [] := by
  refine x_enter Try.func7 rfl Try.ntmps7 rfl ?_
  intro a hs
  have hM := Mem.start W
  unfold laws_FnExactFirstRegular_m at hm
  refine wp_seq ?_
  refine wp_region_lit ?_
  refine wl hs (y_assign hs rfl) rfl ?_; intro a hs
  refine wpList_nil ?_
  refine x_nt ?_
  refine wp_seq ?_
  refine wp_region_lit ?_
  refine wl hs (y_assign hs rfl) rfl ?_; intro a hs
  refine wpList_nil ?_
  refine x_nt ?_
  refine wp_seq ?_
  refine wp_region_lit ?_
  refine wl hs (y_move hs rfl) rfl ?_; intro a hs
  refine wl hs (y_move hs rfl) rfl ?_; intro a hs
  obtain ⟨y1, h2, hm⟩ := bindE hm
  refine wcall is_15 hs rfl rfl (laws_szIntSS_any v_p0 p0 1048576 _ (RdM.below hr_p0 hM.bel) h2) ?_; rintro a _ w hs ⟨rfl, hX⟩
  have hM : Mem W w [] := hM.call hX
  refine wl hs (y_assign hs rfl) rfl ?_; intro a hs
  refine wpList_nil ?_
  refine x_nt ?_
  refine wp_seq ?_
  refine wp_seq ?_
  refine wp_region_lit ?_
  refine wl hs (y_move hs rfl) rfl ?_; intro a hs
  refine wl hs (y_lss hs rfl rfl) rfl ?_; intro a hs
  refine wpList_nil ?_
  refine x_nt ?_
  refine x_cond hs rfl (fun hb => ?_) (fun hb => ?_)
  · replace hm := condT hb hm
    refine wp_seq ?_
    refine wp_region_lit ?_
    refine wl hs (y_assign hs rfl) rfl ?_; intro a hs
    refine wpList_nil ?_
    refine x_nt ?_
    refine wp_ret ?_
    refine x_rt ?_
    have hm : some true = some r := hm
    obtain rfl := Option.some.inj hm
    refine x_ret1 rfl hs rfl ⟨_, rfl, ?_⟩
    exact ⟨rfl, hM⟩
  · replace hm := condF hb hm
    refine wp_skip ?_
    refine x_nt ?_
    refine wp_seq ?_
    refine wp_region_lit ?_
    refine wl hs (y_move hs rfl) rfl ?_; intro a hs
    obtain ⟨y3, h4, hm⟩ := bindE hm
    refine wcall is_17 hs rfl rfl (laws_toIntSS_any v_p0 p0 _ (RdM.below hr_p0 hM.bel) h4) ?_; rintro a v5 w hs ⟨vs7, hX⟩
    have hM : Mem W w [aMat 24 3 v5 vs7 y3] := hM.call hX
    refine wl hs (y_move hs rfl) rfl ?_; intro a hs
    obtain ⟨y8, h9, hm⟩ := bindE hm
    refine wcall is_32 hs rfl rfl (spec_FirstRegular_any v5 y3 p1 _ (hM.rdM 0 rfl) h9) ?_; rintro a _ w hs ⟨v12, v14, rfl, hX⟩
    have hM : Mem W w [aInts 3 v12 y8.1, aInts 3 v14 y8.2.1, aMat 24 3 v5 vs7 y3] := hM.call hX
    refine wl hs (y_move hs rfl) rfl ?_; intro a hs
    refine wl hs (y_extract hs rfl rfl) rfl ?_; intro a hs
    refine wl hs (y_extract hs rfl rfl) rfl ?_; intro a hs
    refine wl hs (y_extract hs rfl rfl) rfl ?_; intro a hs
    refine wl hs (y_assign hs rfl) rfl ?_; intro a hs
    refine wl hs (y_assign hs rfl) rfl ?_; intro a hs
    refine wl hs (y_assign hs rfl) rfl ?_; intro a hs
    refine wpList_nil ?_
    refine x_nt ?_
    refine wp_seq ?_
    refine wp_region_lit ?_
    refine wl hs (y_move hs rfl) rfl ?_; intro a hs
    obtain ⟨y15, h16, hm⟩ := bindE hm
    refine wcall is_17 hs rfl rfl (laws_toIntSS_any v_p0 p0 _ (RdM.below hr_p0 hM.bel) h16) ?_; rintro a v17 w hs ⟨vs19, hX⟩
    have hM : Mem W w [aMat 24 3 v17 vs19 y15, aInts 3 v12 y8.1, aInts 3 v14 y8.2.1, aMat 24 3 v5 vs7 y3] := hM.call hX
    refine wl hs (y_assign hs rfl) rfl ?_; intro a hs
    refine wpList_nil ?_
    refine x_nt ?_
    refine wp_seq ?_
    refine wp_region_lit ?_
    refine wl hs (y_move hs rfl) rfl ?_; intro a hs
    refine wl hs (y_move hs rfl) rfl ?_; intro a hs
    obtain ⟨y20, h21, hm⟩ := bindE hm
    refine wcall is_33 hs rfl rfl (impl_FirstRegular_any v17 y15 p1 _ (hM.rdM 0 rfl) h21) ?_; rintro a _ w hs ⟨v24, v26, rfl, hX⟩
    have hM : Mem W w [aInts 3 v24 y20.1, aInts 3 v26 y20.2.1, aMat 24 3 v17 vs19 y15, aInts 3 v12 y8.1, aInts 3 v14 y8.2.1, aMat 24 3 v5 vs7 y3] := hM.call hX
    refine wl hs (y_move hs rfl) rfl ?_; intro a hs
    refine wl hs (y_extract hs rfl rfl) rfl ?_; intro a hs
    refine wl hs (y_extract hs rfl rfl) rfl ?_; intro a hs
    refine wl hs (y_extract hs rfl rfl) rfl ?_; intro a hs
    refine wl hs (y_assign hs rfl) rfl ?_; intro a hs
    refine wl hs (y_assign hs rfl) rfl ?_; intro a hs
    refine wl hs (y_assign hs rfl) rfl ?_; intro a hs
    refine wpList_nil ?_
    refine x_nt ?_
    refine wp_seq ?_
    refine wp_seq ?_
    refine wp_region_lit ?_
    refine wl hs (y_move hs rfl) rfl ?_; intro a hs
    refine wl hs (y_move hs rfl) rfl ?_; intro a hs
    obtain ⟨y27, h28, hm⟩ := bindE hm
    refine wcall is_19 hs rfl rfl (laws_eqIntS_any v24 y20.1 v12 y8.1 _ (hM.rdI 0 rfl) (hM.rdI 3 rfl) h28) ?_; rintro a _ w hs ⟨rfl, hX⟩
    have hM : Mem W w [aInts 3 v24 y20.1, aInts 3 v26 y20.2.1, aMat 24 3 v17 vs19 y15, aInts 3 v12 y8.1, aInts 3 v14 y8.2.1, aMat 24 3 v5 vs7 y3] := hM.call hX
    refine wl hs (y_not hs rfl) rfl ?_; intro a hs
    refine wl hs (y_move hs rfl) rfl ?_; intro a hs
    obtain ⟨b29, hb30, hm⟩ := bindE hm
    refine wlguard (N := 138) (L' := [(50, .bool b29), (0, v_p0), (1, .int .i64 p1), (6, v12), (7, v14), (8, .bool y8.2.2), (9, v17), (10, v24), (11, v26), (12, .bool y20.2.2)]) (fun w => Mem W w [aInts 3 v24 y20.1, aInts 3 v26 y20.2.1, aMat 24 3 v17 vs19 y15, aInts 3 v12 y8.1, aInts 3 v14 y8.2.1, aMat 24 3 v5 vs7 y3]) 5 ?_ ?_
    · intro K; rcases Bool.eq_false_or_eq_true (!y27) with hg31 | hg31
      · have hm := condT hg31 hb30
        refine wls hs rfl hg31 rfl ?_; intro a hs
        refine wls hs rfl hg31 rfl ?_; intro a hs
        refine wls hs rfl hg31 rfl ?_; intro a hs
        refine wls hs rfl hg31 rfl ?_; intro a hs
        have hm : some true = some b29 := hm
        cases Option.some.inj hm
        refine wl hs (y_pickT hs rfl hg31 rfl) rfl ?_; intro a hs
        exact K _ _ (hs.sub ⟨rfl, rfl, rfl, rfl, rfl, rfl, rfl, rfl, rfl, rfl, trivial⟩) hM
      · have hm := condF hg31 hb30
        refine wlg hs rfl hg31 (y_move hs rfl) rfl ?_; intro a hs
        refine wlg hs rfl hg31 (y_move hs rfl) rfl ?_; intro a hs
        obtain ⟨y32, h33, hm⟩ := bindE hm
        refine wcallg is_19 hs rfl hg31 rfl rfl (laws_eqIntS_any v26 y20.2.1 v14 y8.2.1 _ (hM.rdI 1 rfl) (hM.rdI 4 rfl) h33) ?_; rintro a _ w hs ⟨rfl, hX⟩
        have hM : Mem W w [aInts 3 v24 y20.1, aInts 3 v26 y20.2.1, aMat 24 3 v17 vs19 y15, aInts 3 v12 y8.1, aInts 3 v14 y8.2.1, aMat 24 3 v5 vs7 y3] := hM.call hX
        refine wlg hs rfl hg31 (y_not hs rfl) rfl ?_; intro a hs
        have hm : some (!y32) = some b29 := hm
        cases Option.some.inj hm
        refine wl hs (y_pickF hs rfl hg31 rfl) rfl ?_; intro a hs
        exact K _ _ (hs.sub ⟨rfl, rfl, rfl, rfl, rfl, rfl, rfl, rfl, rfl, rfl, trivial⟩) hM
    intro a w hs hM
    simp only [List.drop_succ_cons, List.drop_zero]
    refine wl hs (y_move hs rfl) rfl ?_; intro a hs
    obtain ⟨b34, hb35, hm⟩ := bindE hm
    refine wlguard (N := 138) (L' := [(55, .bool b34), (0, v_p0), (1, .int .i64 p1), (6, v12), (7, v14), (8, .bool y8.2.2), (9, v17), (10, v24), (11, v26), (12, .bool y20.2.2)]) (fun w => Mem W w [aInts 3 v24 y20.1, aInts 3 v26 y20.2.1, aMat 24 3 v17 vs19 y15, aInts 3 v12 y8.1, aInts 3 v14 y8.2.1, aMat 24 3 v5 vs7 y3]) 4 ?_ ?_
    · intro K; rcases Bool.eq_false_or_eq_true b29 with hg36 | hg36
      · have hm := condT hg36 hb35
        refine wls hs rfl hg36 rfl ?_; intro a hs
        refine wls hs rfl hg36 rfl ?_; intro a hs
        refine wls hs rfl hg36 rfl ?_; intro a hs
        have hm : some true = some b34 := hm
        cases Option.some.inj hm
        refine wl hs (y_pickT hs rfl hg36 rfl) rfl ?_; intro a hs
        exact K _ _ (hs.sub ⟨rfl, rfl, rfl, rfl, rfl, rfl, rfl, rfl, rfl, rfl, trivial⟩) hM
      · have hm := condF hg36 hb35
        refine wlg hs rfl hg36 (y_move hs rfl) rfl ?_; intro a hs
        refine wlg hs rfl hg36 (y_move hs rfl) rfl ?_; intro a hs
        refine wlg hs rfl hg36 (y_neqB hu_bool hs rfl rfl) rfl ?_; intro a hs
        have hm : some (y20.2.2 != y8.2.2) = some b34 := hm
        cases Option.some.inj hm
        refine wl hs (y_pickF hs rfl hg36 rfl) rfl ?_; intro a hs
        exact K _ _ (hs.sub ⟨rfl, rfl, rfl, rfl, rfl, rfl, rfl, rfl, rfl, rfl, trivial⟩) hM
    intro a w hs hM
    simp only [List.drop_succ_cons, List.drop_zero]
    refine wpList_nil ?_
    refine x_nt ?_
    refine x_cond hs rfl (fun hb => ?_) (fun hb => ?_)
    · replace hm := condT hb hm
      refine wp_seq ?_
      refine wp_region_lit ?_
      refine wl hs (y_assign hs rfl) rfl ?_; intro a hs
      refine wpList_nil ?_
      refine x_nt ?_
      refine wp_ret ?_
      refine x_rt ?_
      have hm : some false = some r := hm
      obtain rfl := Option.some.inj hm
      refine x_ret1 rfl hs rfl ⟨_, rfl, ?_⟩
      exact ⟨rfl, hM.none_⟩
    · replace hm := condF hb hm
      refine wp_skip ?_
      refine x_nt ?_
      refine wp_seq ?_
      refine wp_seq ?_
      refine wp_region_lit ?_
      refine wl hs (y_move hs rfl) rfl ?_; intro a hs
      refine wl hs (y_move hs rfl) rfl ?_; intro a hs
      obtain ⟨y37, h38, hm⟩ := bindE hm
      refine wcall is_17 hs rfl rfl (laws_toIntSS_any v_p0 p0 _ (RdM.below hr_p0 hM.bel) h38) ?_; rintro a v39 w hs ⟨vs41, hX⟩
      have hM : Mem W w [aMat 24 3 v39 vs41 y37, aInts 3 v24 y20.1, aInts 3 v26 y20.2.1, aMat 24 3 v17 vs19 y15, aInts 3 v12 y8.1, aInts 3 v14 y8.2.1, aMat 24 3 v5 vs7 y3] := hM.call hX
      obtain ⟨y42, h43, hm⟩ := bindE hm
      refine wcall is_20 hs rfl rfl (laws_eqIntSS_any v17 y15 v39 y37 _ (hM.rdM 3 rfl) (hM.rdM 0 rfl) h43) ?_; rintro a _ w hs ⟨rfl, hX⟩
      have hM : Mem W w [aMat 24 3 v39 vs41 y37, aInts 3 v24 y20.1, aInts 3 v26 y20.2.1, aMat 24 3 v17 vs19 y15, aInts 3 v12 y8.1, aInts 3 v14 y8.2.1, aMat 24 3 v5 vs7 y3] := hM.call hX
      refine wl hs (y_not hs rfl) rfl ?_; intro a hs
      refine wpList_nil ?_
      refine x_nt ?_
      refine x_cond hs rfl (fun hb => ?_) (fun hb => ?_)
      · replace hm := condT hb hm
        refine wp_seq ?_
        refine wp_region_lit ?_
        refine wl hs (y_assign hs rfl) rfl ?_; intro a hs
        refine wpList_nil ?_
        refine x_nt ?_
        refine wp_ret ?_
        refine x_rt ?_
        have hm : some false = some r := hm
        obtain rfl := Option.some.inj hm
        refine x_ret1 rfl hs rfl ⟨_, rfl, ?_⟩
        exact ⟨rfl, hM.none_⟩
      · replace hm := condF hb hm
        refine wp_skip ?_
        refine x_nt ?_
        refine wp_seq ?_
        refine wp_region_lit ?_
        refine wl hs (y_assign hs rfl) rfl ?_; intro a hs
        refine wpList_nil ?_
        refine x_nt ?_
        refine wp_seq ?_
        refine wp_region_lit ?_
        refine wl hs (y_move hs rfl) rfl ?_; intro a hs
        refine wl hs (y_move hs rfl) rfl ?_; intro a hs
        obtain ⟨y44, h45, hm⟩ := bindE hm
        have hM : Mem W w [aMat 24 3 v17 vs19 y15, aMat 24 3 v39 vs41 y37, aInts 3 v24 y20.1, aInts 3 v26 y20.2.1, aInts 3 v12 y8.1, aInts 3 v14 y8.2.1, aMat 24 3 v5 vs7 y3] := (((((((hM.front 6 rfl).front 6 rfl).front 6 rfl).front 5 rfl).front 5 rfl).front 5 rfl).front 6 rfl)
        refine wcall is_21 hs rfl rfl (laws_markIntSS_any v17 y15 _ 1 _ _ _  hM h45) ?_; rintro a _ w hs ⟨vs46, rfl, hM⟩
        have hM : Mem W w [aMat 24 3 v17 vs46 y44.2, aMat 24 3 v39 vs41 y37, aInts 3 v24 y20.1, aInts 3 v26 y20.2.1, aInts 3 v12 y8.1, aInts 3 v14 y8.2.1, aMat 24 3 v5 vs7 y3] := hM
        refine wl hs (y_assign hs rfl) rfl ?_; intro a hs
        refine wpList_nil ?_
        refine x_nt ?_
        refine wp_seq ?_
        refine wp_seq ?_
        refine wp_region_lit ?_
        refine wl hs (y_move hs rfl) rfl ?_; intro a hs
        refine wl hs (y_lss hs rfl rfl) rfl ?_; intro a hs
        refine wl hs (y_move hs rfl) rfl ?_; intro a hs
        obtain ⟨b47, hb48, hm⟩ := bindE hm
        refine wlguard (N := 138) (L' := [(71, .bool b47), (0, v_p0), (1, .int .i64 p1), (6, v12), (7, v14), (8, .bool y8.2.2), (10, v24), (11, v26), (12, .bool y20.2.2)]) (fun w => Mem W w [aMat 24 3 v17 vs46 y44.2, aMat 24 3 v39 vs41 y37, aInts 3 v24 y20.1, aInts 3 v26 y20.2.1, aInts 3 v12 y8.1, aInts 3 v14 y8.2.1, aMat 24 3 v5 vs7 y3]) 5 ?_ ?_
        · intro K; rcases Bool.eq_false_or_eq_true (decide (y44.1 < 0)) with hg49 | hg49
          · have hm := condT hg49 hb48
            refine wls hs rfl hg49 rfl ?_; intro a hs
            refine wls hs rfl hg49 rfl ?_; intro a hs
            refine wls hs rfl hg49 rfl ?_; intro a hs
            refine wls hs rfl hg49 rfl ?_; intro a hs
            have hm : some true = some b47 := hm
            cases Option.some.inj hm
            refine wl hs (y_pickT hs rfl hg49 rfl) rfl ?_; intro a hs
            exact K _ _ (hs.sub ⟨rfl, rfl, rfl, rfl, rfl, rfl, rfl, rfl, rfl, trivial⟩) hM
          · have hm := condF hg49 hb48
            refine wlg hs rfl hg49 (y_move hs rfl) rfl ?_; intro a hs
            refine wlg hs rfl hg49 (y_move hs rfl) rfl ?_; intro a hs
            obtain ⟨y50, h51, hm⟩ := bindE hm
            refine wcallg is_19 hs rfl hg49 rfl rfl (laws_eqIntS_any v24 y20.1 v12 y8.1 _ (hM.rdI 2 rfl) (hM.rdI 4 rfl) h51) ?_; rintro a _ w hs ⟨rfl, hX⟩
            have hM : Mem W w [aMat 24 3 v17 vs46 y44.2, aMat 24 3 v39 vs41 y37, aInts 3 v24 y20.1, aInts 3 v26 y20.2.1, aInts 3 v12 y8.1, aInts 3 v14 y8.2.1, aMat 24 3 v5 vs7 y3] := hM.call hX
            refine wlg hs rfl hg49 (y_not hs rfl) rfl ?_; intro a hs
            have hm : some (!y50) = some b47 := hm
            cases Option.some.inj hm
            refine wl hs (y_pickF hs rfl hg49 rfl) rfl ?_; intro a hs
            exact K _ _ (hs.sub ⟨rfl, rfl, rfl, rfl, rfl, rfl, rfl, rfl, rfl, trivial⟩) hM
        intro a w hs hM
        simp only [List.drop_succ_cons, List.drop_zero]
        refine wl hs (y_move hs rfl) rfl ?_; intro a hs
        obtain ⟨b52, hb53, hm⟩ := bindE hm
        refine wlguard (N := 138) (L' := [(77, .bool b52), (0, v_p0), (1, .int .i64 p1), (6, v12), (7, v14), (8, .bool y8.2.2), (10, v24), (11, v26), (12, .bool y20.2.2)]) (fun w => Mem W w [aMat 24 3 v17 vs46 y44.2, aMat 24 3 v39 vs41 y37, aInts 3 v24 y20.1, aInts 3 v26 y20.2.1, aInts 3 v12 y8.1, aInts 3 v14 y8.2.1, aMat 24 3 v5 vs7 y3]) 5 ?_ ?_
        · intro K; rcases Bool.eq_false_or_eq_true b47 with hg54 | hg54
          · have hm := condT hg54 hb53
            refine wls hs rfl hg54 rfl ?_; intro a hs
            refine wls hs rfl hg54 rfl ?_; intro a hs
            refine wls hs rfl hg54 rfl ?_; intro a hs
            refine wls hs rfl hg54 rfl ?_; intro a hs
            have hm : some true = some b52 := hm
            cases Option.some.inj hm
            refine wl hs (y_pickT hs rfl hg54 rfl) rfl ?_; intro a hs
            exact K _ _ (hs.sub ⟨rfl, rfl, rfl, rfl, rfl, rfl, rfl, rfl, rfl, trivial⟩) hM
          · have hm := condF hg54 hb53
            refine wlg hs rfl hg54 (y_move hs rfl) rfl ?_; intro a hs
            refine wlg hs rfl hg54 (y_move hs rfl) rfl ?_; intro a hs
            obtain ⟨y55, h56, hm⟩ := bindE hm
            refine wcallg is_19 hs rfl hg54 rfl rfl (laws_eqIntS_any v26 y20.2.1 v14 y8.2.1 _ (hM.rdI 3 rfl) (hM.rdI 5 rfl) h56) ?_; rintro a _ w hs ⟨rfl, hX⟩
            have hM : Mem W w [aMat 24 3 v17 vs46 y44.2, aMat 24 3 v39 vs41 y37, aInts 3 v24 y20.1, aInts 3 v26 y20.2.1, aInts 3 v12 y8.1, aInts 3 v14 y8.2.1, aMat 24 3 v5 vs7 y3] := hM.call hX
            refine wlg hs rfl hg54 (y_not hs rfl) rfl ?_; intro a hs
            have hm : some (!y55) = some b52 := hm
            cases Option.some.inj hm
            refine wl hs (y_pickF hs rfl hg54 rfl) rfl ?_; intro a hs
            exact K _ _ (hs.sub ⟨rfl, rfl, rfl, rfl, rfl, rfl, rfl, rfl, rfl, trivial⟩) hM
        intro a w hs hM
        simp only [List.drop_succ_cons, List.drop_zero]
        refine wl hs (y_move hs rfl) rfl ?_; intro a hs
        obtain ⟨b57, hb58, hm⟩ := bindE hm
        refine wlguard (N := 138) (L' := [(82, .bool b57), (0, v_p0), (1, .int .i64 p1), (6, v12), (7, v14), (8, .bool y8.2.2), (10, v24), (11, v26)]) (fun w => Mem W w [aMat 24 3 v17 vs46 y44.2, aMat 24 3 v39 vs41 y37, aInts 3 v24 y20.1, aInts 3 v26 y20.2.1, aInts 3 v12 y8.1, aInts 3 v14 y8.2.1, aMat 24 3 v5 vs7 y3]) 4 ?_ ?_
        · intro K; rcases Bool.eq_false_or_eq_true b52 with hg59 | hg59
          · have hm := condT hg59 hb58
            refine wls hs rfl hg59 rfl ?_; intro a hs
            refine wls hs rfl hg59 rfl ?_; intro a hs
            refine wls hs rfl hg59 rfl ?_; intro a hs
            have hm : some true = some b57 := hm
            cases Option.some.inj hm
            refine wl hs (y_pickT hs rfl hg59 rfl) rfl ?_; intro a hs
            exact K _ _ (hs.sub ⟨rfl, rfl, rfl, rfl, rfl, rfl, rfl, rfl, trivial⟩) hM
          · have hm := condF hg59 hb58
            refine wlg hs rfl hg59 (y_move hs rfl) rfl ?_; intro a hs
            refine wlg hs rfl hg59 (y_move hs rfl) rfl ?_; intro a hs
            refine wlg hs rfl hg59 (y_neqB hu_bool hs rfl rfl) rfl ?_; intro a hs
            have hm : some (y20.2.2 != y8.2.2) = some b57 := hm
            cases Option.some.inj hm
            refine wl hs (y_pickF hs rfl hg59 rfl) rfl ?_; intro a hs
            exact K _ _ (hs.sub ⟨rfl, rfl, rfl, rfl, rfl, rfl, rfl, rfl, trivial⟩) hM
        intro a w hs hM
        simp only [List.drop_succ_cons, List.drop_zero]
        refine wpList_nil ?_
        refine x_nt ?_
        refine x_cond hs rfl (fun hb => ?_) (fun hb => ?_)
        · replace hm := condT hb hm
          refine wp_seq ?_
          refine wp_region_lit ?_
          refine wl hs (y_assign hs rfl) rfl ?_; intro a hs
          refine wpList_nil ?_
          refine x_nt ?_
          refine wp_ret ?_
          refine x_rt ?_
          have hm : some false = some r := hm
          obtain rfl := Option.some.inj hm
          refine x_ret1 rfl hs rfl ⟨_, rfl, ?_⟩
          exact ⟨rfl, hM.none_⟩
        · replace hm := condF hb hm
          refine wp_skip ?_
          refine x_nt ?_
          refine wp_seq ?_
          refine wp_region_lit ?_
          refine wl hs (y_assign hs rfl) rfl ?_; intro a hs
          refine wpList_nil ?_
          refine x_nt ?_
          refine wp_seq ?_
          refine wp_region_lit ?_
          refine wl hs (y_move hs rfl) rfl ?_; intro a hs
          refine wl hs (y_move hs rfl) rfl ?_; intro a hs
          obtain ⟨y60, h61, hm⟩ := bindE hm
          have hM : Mem W w [aInts 3 v24 y20.1, aMat 24 3 v17 vs46 y44.2, aMat 24 3 v39 vs41 y37, aInts 3 v26 y20.2.1, aInts 3 v12 y8.1, aInts 3 v14 y8.2.1, aMat 24 3 v5 vs7 y3] := (((((((hM.front 6 rfl).front 6 rfl).front 6 rfl).front 6 rfl).front 5 rfl).front 5 rfl).front 6 rfl)
          refine wcall is_22 hs rfl rfl (laws_markIntS_any v24 y20.1 1 _ _ _  hM h61) ?_; rintro a _ w hs ⟨rfl, hM⟩
          have hM : Mem W w [aInts 3 v24 y60.2, aMat 24 3 v17 vs46 y44.2, aMat 24 3 v39 vs41 y37, aInts 3 v26 y20.2.1, aInts 3 v12 y8.1, aInts 3 v14 y8.2.1, aMat 24 3 v5 vs7 y3] := hM
          refine wl hs (y_assign hs rfl) rfl ?_; intro a hs
          refine wpList_nil ?_
          refine x_nt ?_
          refine wp_seq ?_
          refine wp_region_lit ?_
          refine wl hs (y_move hs rfl) rfl ?_; intro a hs
          refine wl hs (y_move hs rfl) rfl ?_; intro a hs
          obtain ⟨y62, h63, hm⟩ := bindE hm
          have hM : Mem W w [aInts 3 v26 y20.2.1, aInts 3 v24 y60.2, aMat 24 3 v17 vs46 y44.2, aMat 24 3 v39 vs41 y37, aInts 3 v12 y8.1, aInts 3 v14 y8.2.1, aMat 24 3 v5 vs7 y3] := (((((((hM.front 6 rfl).front 6 rfl).front 6 rfl).front 5 rfl).front 5 rfl).front 5 rfl).front 6 rfl)
          refine wcall is_22 hs rfl rfl (laws_markIntS_any v26 y20.2.1 y60.1 _ _ _  hM h63) ?_; rintro a _ w hs ⟨rfl, hM⟩
          have hM : Mem W w [aInts 3 v26 y62.2, aInts 3 v24 y60.2, aMat 24 3 v17 vs46 y44.2, aMat 24 3 v39 vs41 y37, aInts 3 v12 y8.1, aInts 3 v14 y8.2.1, aMat 24 3 v5 vs7 y3] := hM
          refine wl hs (y_assign hs rfl) rfl ?_; intro a hs
          refine wpList_nil ?_
          refine x_nt ?_
          refine wp_seq ?_
          refine wp_region_lit ?_
          refine wl hs (y_assign hs rfl) rfl ?_; intro a hs
          refine wpList_nil ?_
          refine x_nt ?_
          refine wp_seq ?_
          refine wp_region_lit ?_
          refine wl hs (y_move hs rfl) rfl ?_; intro a hs
          refine wl hs (y_move hs rfl) rfl ?_; intro a hs
          obtain ⟨y64, h65, hm⟩ := bindE hm
          refine wcall is_23 hs rfl rfl (laws_heldIntS_any v24 y60.2 1 _ (hM.rdI 1 rfl) h65) ?_; rintro a _ w hs ⟨rfl, hX⟩
          have hM : Mem W w [aInts 3 v26 y62.2, aInts 3 v24 y60.2, aMat 24 3 v17 vs46 y44.2, aMat 24 3 v39 vs41 y37, aInts 3 v12 y8.1, aInts 3 v14 y8.2.1, aMat 24 3 v5 vs7 y3] := hM.call hX
          refine wl hs (y_assign hs rfl) rfl ?_; intro a hs
          refine wpList_nil ?_
          refine x_nt ?_
          refine wp_seq ?_
          refine wp_seq ?_
          refine wp_region_lit ?_
          refine wl hs (y_move hs rfl) rfl ?_; intro a hs
          refine wl hs (y_lss hs rfl rfl) rfl ?_; intro a hs
          refine wpList_nil ?_
          refine x_nt ?_
          refine x_cond hs rfl (fun hb => ?_) (fun hb => ?_)
          · replace hm := condT hb hm
            refine wp_seq ?_
            refine wp_region_lit ?_
            refine wl hs (y_assign hs rfl) rfl ?_; intro a hs
            refine wpList_nil ?_
            refine x_nt ?_
            refine wp_ret ?_
            refine x_rt ?_
            have hm : some false = some r := hm
            obtain rfl := Option.some.inj hm
            refine x_ret1 rfl hs rfl ⟨_, rfl, ?_⟩
            exact ⟨rfl, hM.none_⟩
          · replace hm := condF hb hm
            refine wp_skip ?_
            refine x_nt ?_
            refine wp_seq ?_
            refine wp_region_lit ?_
            refine wl hs (y_move hs rfl) rfl ?_; intro a hs
            refine wl hs (y_move hs rfl) rfl ?_; intro a hs
            obtain ⟨y66, h67, hm⟩ := bindE hm
            refine wcall is_23 hs rfl rfl (laws_heldIntS_any v26 y62.2 y64 _ (hM.rdI 0 rfl) h67) ?_; rintro a _ w hs ⟨rfl, hX⟩
            have hM : Mem W w [aInts 3 v26 y62.2, aInts 3 v24 y60.2, aMat 24 3 v17 vs46 y44.2, aMat 24 3 v39 vs41 y37, aInts 3 v12 y8.1, aInts 3 v14 y8.2.1, aMat 24 3 v5 vs7 y3] := hM.call hX
            refine wl hs (y_assign hs rfl) rfl ?_; intro a hs
            refine wpList_nil ?_
            refine x_nt ?_
            refine wp_seq ?_
            refine wp_seq ?_
            refine wp_region_lit ?_
            refine wl hs (y_move hs rfl) rfl ?_; intro a hs
            refine wl hs (y_lss hs rfl rfl) rfl ?_; intro a hs
            refine wpList_nil ?_
            refine x_nt ?_
            refine x_cond hs rfl (fun hb => ?_) (fun hb => ?_)
            · replace hm := condT hb hm
              refine wp_seq ?_
              refine wp_region_lit ?_
              refine wl hs (y_assign hs rfl) rfl ?_; intro a hs
              refine wpList_nil ?_
              refine x_nt ?_
              refine wp_ret ?_
              refine x_rt ?_
              have hm : some false = some r := hm
              obtain rfl := Option.some.inj hm
              refine x_ret1 rfl hs rfl ⟨_, rfl, ?_⟩
              exact ⟨rfl, hM.none_⟩
            · replace hm := condF hb hm
              refine wp_skip ?_
              refine x_nt ?_
              refine wp_seq ?_
              refine wp_seq ?_
              refine wp_region_lit ?_
              refine wl hs (y_move hs rfl) rfl ?_; intro a hs
              refine wl hs (y_move hs rfl) rfl ?_; intro a hs
              refine wl hs (y_neq hs rfl rfl) rfl ?_; intro a hs
              refine wpList_nil ?_
              refine x_nt ?_
              refine x_cond hs rfl (fun hb => ?_) (fun hb => ?_)
              · replace hm := condT hb hm
                refine wp_seq ?_
                refine wp_region_lit ?_
                refine wl hs (y_assign hs rfl) rfl ?_; intro a hs
                refine wpList_nil ?_
                refine x_nt ?_
                refine wp_ret ?_
                refine x_rt ?_
                have hm : some false = some r := hm
                obtain rfl := Option.some.inj hm
                refine x_ret1 rfl hs rfl ⟨_, rfl, ?_⟩
                exact ⟨rfl, hM.none_⟩
              · replace hm := condF hb hm
                refine wp_skip ?_
                refine x_nt ?_
                refine wp_seq ?_
                refine wp_region_lit ?_
                refine wl hs (y_move hs rfl) rfl ?_; intro a hs
                obtain ⟨y68, h69, hm⟩ := bindE hm
                refine wcall is_17 hs rfl rfl (laws_toIntSS_any v_p0 p0 _ (RdM.below hr_p0 hM.bel) h69) ?_; rintro a v70 w hs ⟨vs72, hX⟩
                have hM : Mem W w [aMat 24 3 v70 vs72 y68, aInts 3 v26 y62.2, aInts 3 v24 y60.2, aMat 24 3 v17 vs46 y44.2, aMat 24 3 v39 vs41 y37, aInts 3 v12 y8.1, aInts 3 v14 y8.2.1, aMat 24 3 v5 vs7 y3] := hM.call hX
                refine wl hs (y_move hs rfl) rfl ?_; intro a hs
                obtain ⟨y73, h74, hm⟩ := bindE hm
                refine wcall is_33 hs rfl rfl (impl_FirstRegular_any v70 y68 p1 _ (hM.rdM 0 rfl) h74) ?_; rintro a _ w hs ⟨v77, v79, rfl, hX⟩
                have hM : Mem W w [aInts 3 v77 y73.1, aInts 3 v79 y73.2.1, aMat 24 3 v70 vs72 y68, aInts 3 v26 y62.2, aInts 3 v24 y60.2, aMat 24 3 v17 vs46 y44.2, aMat 24 3 v39 vs41 y37, aInts 3 v12 y8.1, aInts 3 v14 y8.2.1, aMat 24 3 v5 vs7 y3] := hM.call hX
                refine wl hs (y_move hs rfl) rfl ?_; intro a hs
                refine wl hs (y_extract hs rfl rfl) rfl ?_; intro a hs
                refine wl hs (y_extract hs rfl rfl) rfl ?_; intro a hs
                refine wl hs (y_extract hs rfl rfl) rfl ?_; intro a hs
                refine wl hs (y_assign hs rfl) rfl ?_; intro a hs
                refine wl hs (y_assign hs rfl) rfl ?_; intro a hs
                refine wl hs (y_assign hs rfl) rfl ?_; intro a hs
                refine wpList_nil ?_
                refine x_nt ?_
                refine wp_seq ?_
                refine wp_seq ?_
                refine wp_region_lit ?_
                refine wl hs (y_move hs rfl) rfl ?_; intro a hs
                refine wl hs (y_move hs rfl) rfl ?_; intro a hs
                obtain ⟨y80, h81, hm⟩ := bindE hm
                refine wcall is_19 hs rfl rfl (laws_eqIntS_any v77 y73.1 v12 y8.1 _ (hM.rdI 0 rfl) (hM.rdI 7 rfl) h81) ?_; rintro a _ w hs ⟨rfl, hX⟩
                have hM : Mem W w [aInts 3 v77 y73.1, aInts 3 v79 y73.2.1, aMat 24 3 v70 vs72 y68, aInts 3 v26 y62.2, aInts 3 v24 y60.2, aMat 24 3 v17 vs46 y44.2, aMat 24 3 v39 vs41 y37, aInts 3 v12 y8.1, aInts 3 v14 y8.2.1, aMat 24 3 v5 vs7 y3] := hM.call hX
                refine wl hs (y_not hs rfl) rfl ?_; intro a hs
                refine wl hs (y_move hs rfl) rfl ?_; intro a hs
                obtain ⟨b82, hb83, hm⟩ := bindE hm
                refine wlguard (N := 138) (L' := [(119, .bool b82), (8, .bool y8.2.2), (10, v24), (11, v26), (14, .int .i64 y62.1), (18, .bool y73.2.2)]) (fun w => Mem W w [aInts 3 v77 y73.1, aInts 3 v79 y73.2.1, aMat 24 3 v70 vs72 y68, aInts 3 v26 y62.2, aInts 3 v24 y60.2, aMat 24 3 v17 vs46 y44.2, aMat 24 3 v39 vs41 y37, aInts 3 v12 y8.1, aInts 3 v14 y8.2.1, aMat 24 3 v5 vs7 y3]) 5 ?_ ?_
                · intro K; rcases Bool.eq_false_or_eq_true (!y80) with hg84 | hg84
                  · have hm := condT hg84 hb83
                    refine wls hs rfl hg84 rfl ?_; intro a hs
                    refine wls hs rfl hg84 rfl ?_; intro a hs
                    refine wls hs rfl hg84 rfl ?_; intro a hs
                    refine wls hs rfl hg84 rfl ?_; intro a hs
                    have hm : some true = some b82 := hm
                    cases Option.some.inj hm
                    refine wl hs (y_pickT hs rfl hg84 rfl) rfl ?_; intro a hs
                    exact K _ _ (hs.sub ⟨rfl, rfl, rfl, rfl, rfl, rfl, trivial⟩) hM
                  · have hm := condF hg84 hb83
                    refine wlg hs rfl hg84 (y_move hs rfl) rfl ?_; intro a hs
                    refine wlg hs rfl hg84 (y_move hs rfl) rfl ?_; intro a hs
                    obtain ⟨y85, h86, hm⟩ := bindE hm
                    refine wcallg is_19 hs rfl hg84 rfl rfl (laws_eqIntS_any v79 y73.2.1 v14 y8.2.1 _ (hM.rdI 1 rfl) (hM.rdI 8 rfl) h86) ?_; rintro a _ w hs ⟨rfl, hX⟩
                    have hM : Mem W w [aInts 3 v77 y73.1, aInts 3 v79 y73.2.1, aMat 24 3 v70 vs72 y68, aInts 3 v26 y62.2, aInts 3 v24 y60.2, aMat 24 3 v17 vs46 y44.2, aMat 24 3 v39 vs41 y37, aInts 3 v12 y8.1, aInts 3 v14 y8.2.1, aMat 24 3 v5 vs7 y3] := hM.call hX
                    refine wlg hs rfl hg84 (y_not hs rfl) rfl ?_; intro a hs
                    have hm : some (!y85) = some b82 := hm
                    cases Option.some.inj hm
                    refine wl hs (y_pickF hs rfl hg84 rfl) rfl ?_; intro a hs
                    exact K _ _ (hs.sub ⟨rfl, rfl, rfl, rfl, rfl, rfl, trivial⟩) hM
                intro a w hs hM
                simp only [List.drop_succ_cons, List.drop_zero]
                refine wl hs (y_move hs rfl) rfl ?_; intro a hs
                obtain ⟨b87, hb88, hm⟩ := bindE hm
                refine wlguard (N := 138) (L' := [(124, .bool b87), (10, v24), (11, v26), (14, .int .i64 y62.1)]) (fun w => Mem W w [aInts 3 v77 y73.1, aInts 3 v79 y73.2.1, aMat 24 3 v70 vs72 y68, aInts 3 v26 y62.2, aInts 3 v24 y60.2, aMat 24 3 v17 vs46 y44.2, aMat 24 3 v39 vs41 y37, aInts 3 v12 y8.1, aInts 3 v14 y8.2.1, aMat 24 3 v5 vs7 y3]) 4 ?_ ?_
                · intro K; rcases Bool.eq_false_or_eq_true b82 with hg89 | hg89
                  · have hm := condT hg89 hb88
                    refine wls hs rfl hg89 rfl ?_; intro a hs
                    refine wls hs rfl hg89 rfl ?_; intro a hs
                    refine wls hs rfl hg89 rfl ?_; intro a hs
                    have hm : some true = some b87 := hm
                    cases Option.some.inj hm
                    refine wl hs (y_pickT hs rfl hg89 rfl) rfl ?_; intro a hs
                    exact K _ _ (hs.sub ⟨rfl, rfl, rfl, rfl, trivial⟩) hM
                  · have hm := condF hg89 hb88
                    refine wlg hs rfl hg89 (y_move hs rfl) rfl ?_; intro a hs
                    refine wlg hs rfl hg89 (y_move hs rfl) rfl ?_; intro a hs
                    refine wlg hs rfl hg89 (y_neqB hu_bool hs rfl rfl) rfl ?_; intro a hs
                    have hm : some (y73.2.2 != y8.2.2) = some b87 := hm
                    cases Option.some.inj hm
                    refine wl hs (y_pickF hs rfl hg89 rfl) rfl ?_; intro a hs
                    exact K _ _ (hs.sub ⟨rfl, rfl, rfl, rfl, trivial⟩) hM
                intro a w hs hM
                simp only [List.drop_succ_cons, List.drop_zero]
                refine wpList_nil ?_
                refine x_nt ?_
                refine x_cond hs rfl (fun hb => ?_) (fun hb => ?_)
                · replace hm := condT hb hm
                  refine wp_seq ?_
                  refine wp_region_lit ?_
                  refine wl hs (y_assign hs rfl) rfl ?_; intro a hs
                  refine wpList_nil ?_
                  refine x_nt ?_
                  refine wp_ret ?_
                  refine x_rt ?_
                  have hm : some false = some r := hm
                  obtain rfl := Option.some.inj hm
                  refine x_ret1 rfl hs rfl ⟨_, rfl, ?_⟩
                  exact ⟨rfl, hM.none_⟩
                · replace hm := condF hb hm
                  refine wp_skip ?_
                  refine x_nt ?_
                  refine wp_seq ?_
                  refine wp_region_lit ?_
                  refine wl hs (y_assign hs rfl) rfl ?_; intro a hs
                  refine wpList_nil ?_
                  refine x_nt ?_
                  refine wp_seq ?_
                  refine wp_region_lit ?_
                  refine wl hs (y_move hs rfl) rfl ?_; intro a hs
                  refine wl hs (y_move hs rfl) rfl ?_; intro a hs
                  obtain ⟨y90, h91, hm⟩ := bindE hm
                  refine wcall is_23 hs rfl rfl (laws_heldIntS_any v24 y60.2 1 _ (hM.rdI 4 rfl) h91) ?_; rintro a _ w hs ⟨rfl, hX⟩
                  have hM : Mem W w [aInts 3 v77 y73.1, aInts 3 v79 y73.2.1, aMat 24 3 v70 vs72 y68, aInts 3 v26 y62.2, aInts 3 v24 y60.2, aMat 24 3 v17 vs46 y44.2, aMat 24 3 v39 vs41 y37, aInts 3 v12 y8.1, aInts 3 v14 y8.2.1, aMat 24 3 v5 vs7 y3] := hM.call hX
                  refine wl hs (y_assign hs rfl) rfl ?_; intro a hs
                  refine wpList_nil ?_
                  refine x_nt ?_
                  refine wp_seq ?_
                  refine wp_seq ?_
                  refine wp_region_lit ?_
                  refine wl hs (y_move hs rfl) rfl ?_; intro a hs
                  refine wl hs (y_lss hs rfl rfl) rfl ?_; intro a hs
                  refine wpList_nil ?_
                  refine x_nt ?_
                  refine x_cond hs rfl (fun hb => ?_) (fun hb => ?_)
                  · replace hm := condT hb hm
                    refine wp_seq ?_
                    refine wp_region_lit ?_
                    refine wl hs (y_assign hs rfl) rfl ?_; intro a hs
                    refine wpList_nil ?_
                    refine x_nt ?_
                    refine wp_ret ?_
                    refine x_rt ?_
                    have hm : some false = some r := hm
                    obtain rfl := Option.some.inj hm
                    refine x_ret1 rfl hs rfl ⟨_, rfl, ?_⟩
                    exact ⟨rfl, hM.none_⟩
                  · replace hm := condF hb hm
                    refine wp_skip ?_
                    refine x_nt ?_
                    refine wp_seq ?_
                    refine wp_region_lit ?_
                    refine wl hs (y_move hs rfl) rfl ?_; intro a hs
                    refine wl hs (y_move hs rfl) rfl ?_; intro a hs
                    obtain ⟨y92, h93, hm⟩ := bindE hm
                    refine wcall is_23 hs rfl rfl (laws_heldIntS_any v26 y62.2 y90 _ (hM.rdI 3 rfl) h93) ?_; rintro a _ w hs ⟨rfl, hX⟩
                    have hM : Mem W w [aInts 3 v77 y73.1, aInts 3 v79 y73.2.1, aMat 24 3 v70 vs72 y68, aInts 3 v26 y62.2, aInts 3 v24 y60.2, aMat 24 3 v17 vs46 y44.2, aMat 24 3 v39 vs41 y37, aInts 3 v12 y8.1, aInts 3 v14 y8.2.1, aMat 24 3 v5 vs7 y3] := hM.call hX
                    refine wl hs (y_assign hs rfl) rfl ?_; intro a hs
                    refine wpList_nil ?_
                    refine x_nt ?_
                    refine wp_seq ?_
                    refine wp_seq ?_
                    refine wp_region_lit ?_
                    refine wl hs (y_move hs rfl) rfl ?_; intro a hs
                    refine wl hs (y_lss hs rfl rfl) rfl ?_; intro a hs
                    refine wpList_nil ?_
                    refine x_nt ?_
                    refine x_cond hs rfl (fun hb => ?_) (fun hb => ?_)
                    · replace hm := condT hb hm
                      refine wp_seq ?_
                      refine wp_region_lit ?_
                      refine wl hs (y_assign hs rfl) rfl ?_; intro a hs
                      refine wpList_nil ?_
                      refine x_nt ?_
                      refine wp_ret ?_
                      refine x_rt ?_
                      have hm : some false = some r := hm
                      obtain rfl := Option.some.inj hm
                      refine x_ret1 rfl hs rfl ⟨_, rfl, ?_⟩
                      exact ⟨rfl, hM.none_⟩
                    · replace hm := condF hb hm
                      refine wp_skip ?_
                      refine x_nt ?_
                      refine wp_seq ?_
                      refine wp_seq ?_
                      refine wp_region_lit ?_
                      refine wl hs (y_move hs rfl) rfl ?_; intro a hs
                      refine wl hs (y_move hs rfl) rfl ?_; intro a hs
                      refine wl hs (y_neq hs rfl rfl) rfl ?_; intro a hs
                      refine wpList_nil ?_
                      refine x_nt ?_
                      refine x_cond hs rfl (fun hb => ?_) (fun hb => ?_)
                      · replace hm := condT hb hm
                        refine wp_seq ?_
                        refine wp_region_lit ?_
                        refine wl hs (y_assign hs rfl) rfl ?_; intro a hs
                        refine wpList_nil ?_
                        refine x_nt ?_
                        refine wp_ret ?_
                        refine x_rt ?_
                        have hm : some false = some r := hm
                        obtain rfl := Option.some.inj hm
                        refine x_ret1 rfl hs rfl ⟨_, rfl, ?_⟩
                        exact ⟨rfl, hM.none_⟩
                      · replace hm := condF hb hm
                        refine wp_skip ?_
                        refine x_nt ?_
                        refine wp_seq ?_
                        refine wp_region_lit ?_
                        refine wl hs (y_assign hs rfl) rfl ?_; intro a hs
                        refine wpList_nil ?_
                        refine x_nt ?_
                        refine wp_ret ?_
                        have hm : some true = some r := hm
                        obtain rfl := Option.some.inj hm
                        refine x_ret1 rfl hs rfl ⟨_, rfl, ?_⟩
                        exact ⟨rfl, hM.none_⟩

end Go.Proofs.Ytaagklbiebogfaa
