/- The code of this unit computes what its mirrors say. Written by program (wip/gen). -/
import Derived.Test.YtjicdfplhenohaaFacts
import Derived.Test.YtjicdfplhenohaaEReducedMatrixM
import Derived.Test.YtjicdfplhenohaaNumW
import Derived.Test.YtjicdfplhenohaaWy3W
namespace Go.Proofs.Ytjicdfplhenohaa
open Go.RowKit
set_option linter.unusedVariables false

theorem laws_FnExactReducedMatrix_any (v_p0 : Value) (p0 : List (List Int)) (v_p1 : Value) (p1 : List Int) (W : World) (hr_p0 : RdM W v_p0 p0) (hr_p1 : RdI W v_p1 p1) {r : Bool} (hm : laws_FnExactReducedMatrix_m p0 p1 = some r) : Calls Try.prog 9 [v_p0, v_p1].toArray W fun e w => ∃ v, e = .returned v ∧ v = .bool r ∧ Mem W w [] := by
  refine x_enter Try.func9 rfl Try.ntmps9 rfl ?_
  intro a hs
  have hM := Mem.start W
  unfold laws_FnExactReducedMatrix_m at hm
  refine wp_seq ?_
  refine wp_region_lit ?_
  refine wl hs (y_assign hs rfl) rfl ?_; intro a hs
  refine wpList_nil ?_
  refine x_nt ?_
  refine wp_seq ?_
  refine wp_seq ?_
  refine wp_region_lit ?_
  refine wl hs (y_move hs rfl) rfl ?_; intro a hs
  refine wl hs (y_len hu_I hs rfl (RdI.below hr_p1 hM.bel)) rfl ?_; intro a hs
  refine wl hs (y_gtr hs rfl rfl) rfl ?_; intro a hs
  refine wpList_nil ?_
  refine x_nt ?_
  refine x_cond hs rfl (fun hb => ?_) (fun hb => ?_)
  · replace hm := condT hb hm
    refine wp_seq ?_
    refine wp_region_lit ?_
    refine wl hs (y_assign hs rfl) rfl ?_; intro a hs
    refine wpList_nil ?_
    refine x_nt ?_
    refine wp_ret ?_
    refine x_rt ?_
    have hm : some true = some r := hm
    obtain rfl := Option.some.inj hm
    refine x_ret1 rfl hs rfl ⟨_, rfl, ?_⟩
    exact ⟨rfl, hM⟩
  · replace hm := condF hb hm
    refine wp_skip ?_
    refine x_nt ?_
    refine wp_seq ?_
    refine wp_region_lit ?_
    refine wl hs (y_assign hs rfl) rfl ?_; intro a hs
    refine wpList_nil ?_
    refine x_nt ?_
    refine wp_seq ?_
    refine wp_region_lit ?_
    refine wl hs (y_move hs rfl) rfl ?_; intro a hs
    refine wl hs (y_move hs rfl) rfl ?_; intro a hs
    obtain ⟨y1, h2, hm⟩ := bindE hm
    refine wcall is_15 hs rfl rfl (laws_szIntSS_any v_p0 p0 1048576 _ (RdM.below hr_p0 hM.bel) h2) ?_; rintro a _ w hs ⟨rfl, hX⟩
    have hM : Mem W w [] := hM.call hX
    refine wl hs (y_assign hs rfl) rfl ?_; intro a hs
    refine wpList_nil ?_
    refine x_nt ?_
    refine wp_seq ?_
    refine wp_seq ?_
    refine wp_region_lit ?_
    refine wl hs (y_move hs rfl) rfl ?_; intro a hs
    refine wl hs (y_lss hs rfl rfl) rfl ?_; intro a hs
    refine wpList_nil ?_
    refine x_nt ?_
    refine x_cond hs rfl (fun hb => ?_) (fun hb => ?_)
    · replace hm := condT hb hm
      refine wp_seq ?_
      refine wp_region_lit ?_
      refine wl hs (y_assign hs rfl) rfl ?_; intro a hs
      refine wpList_nil ?_
      refine x_nt ?_
      refine wp_ret ?_
      refine x_rt ?_
      have hm : some true = some r := hm
      obtain rfl := Option.some.inj hm
      refine x_ret1 rfl hs rfl ⟨_, rfl, ?_⟩
      exact ⟨rfl, hM⟩
    · replace hm := condF hb hm
      refine wp_skip ?_
      refine x_nt ?_
      refine wp_seq ?_
      refine wp_region_lit ?_
      refine wl hs (y_move hs rfl) rfl ?_; intro a hs
      obtain ⟨y3, h4, hm⟩ := bindE hm
      refine wcall is_17 hs rfl rfl (laws_toIntSS_any v_p0 p0 _ (RdM.below hr_p0 hM.bel) h4) ?_; rintro a v5 w hs ⟨vs7, hX⟩
      have hM : Mem W w [aMat 28 3 v5 vs7 y3] := hM.call hX
      refine wl hs (y_move hs rfl) rfl ?_; intro a hs
      obtain ⟨y8, h9, hm⟩ := bindE hm
      refine wcall is_23 hs rfl rfl (laws_toIntS_any v_p1 p1 _ (RdI.below hr_p1 hM.bel) h9) ?_; rintro a v10 w hs hX
      have hM : Mem W w [aInts 3 v10 y8, aMat 28 3 v5 vs7 y3] := hM.call hX
      obtain ⟨y12, h13, hm⟩ := bindE hm
      refine wcall is_36 hs rfl rfl (spec_ReducedMatrix_any v5 y3 v10 y8 _ (hM.rdM 1 rfl) (hM.rdI 0 rfl) h13) ?_; rintro a _ w hs ⟨v16, vs17, rfl, hX⟩
      have hM : Mem W w [aMat 28 3 v16 vs17 y12.1, aInts 3 v10 y8, aMat 28 3 v5 vs7 y3] := hM.call hX
      refine wl hs (y_move hs rfl) rfl ?_; intro a hs
      refine wl hs (y_extract hs rfl rfl) rfl ?_; intro a hs
      refine wl hs (y_extract hs rfl rfl) rfl ?_; intro a hs
      refine wl hs (y_assign hs rfl) rfl ?_; intro a hs
      refine wl hs (y_assign hs rfl) rfl ?_; intro a hs
      refine wpList_nil ?_
      refine x_nt ?_
      refine wp_seq ?_
      refine wp_region_lit ?_
      refine wl hs (y_move hs rfl) rfl ?_; intro a hs
      obtain ⟨y18, h19, hm⟩ := bindE hm
      refine wcall is_17 hs rfl rfl (laws_toIntSS_any v_p0 p0 _ (RdM.below hr_p0 hM.bel) h19) ?_; rintro a v20 w hs ⟨vs22, hX⟩
      have hM : Mem W w [aMat 28 3 v20 vs22 y18, aMat 28 3 v16 vs17 y12.1, aInts 3 v10 y8, aMat 28 3 v5 vs7 y3] := hM.call hX
      refine wl hs (y_assign hs rfl) rfl ?_; intro a hs
      refine wpList_nil ?_
      refine x_nt ?_
      refine wp_seq ?_
      refine wp_region_lit ?_
      refine wl hs (y_move hs rfl) rfl ?_; intro a hs
      obtain ⟨y23, h24, hm⟩ := bindE hm
      refine wcall is_23 hs rfl rfl (laws_toIntS_any v_p1 p1 _ (RdI.below hr_p1 hM.bel) h24) ?_; rintro a v25 w hs hX
      have hM : Mem W w [aInts 3 v25 y23, aMat 28 3 v20 vs22 y18, aMat 28 3 v16 vs17 y12.1, aInts 3 v10 y8, aMat 28 3 v5 vs7 y3] := hM.call hX
      refine wl hs (y_assign hs rfl) rfl ?_; intro a hs
      refine wpList_nil ?_
      refine x_nt ?_
      refine wp_seq ?_
      refine wp_region_lit ?_
      refine wl hs (y_move hs rfl) rfl ?_; intro a hs
      refine wl hs (y_move hs rfl) rfl ?_; intro a hs
      obtain ⟨y27, h28, hm⟩ := bindE hm
      refine wcall is_37 hs rfl rfl (impl_ReducedMatrix_any v20 y18 v25 y23 _ (hM.rdM 1 rfl) (hM.rdI 0 rfl) h28) ?_; rintro a _ w hs ⟨v31, vs32, rfl, hX⟩
      have hM : Mem W w [aMat 28 3 v31 vs32 y27.1, aInts 3 v25 y23, aMat 28 3 v20 vs22 y18, aMat 28 3 v16 vs17 y12.1, aInts 3 v10 y8, aMat 28 3 v5 vs7 y3] := hM.call hX
      refine wl hs (y_move hs rfl) rfl ?_; intro a hs
      refine wl hs (y_extract hs rfl rfl) rfl ?_; intro a hs
      refine wl hs (y_extract hs rfl rfl) rfl ?_; intro a hs
      refine wl hs (y_assign hs rfl) rfl ?_; intro a hs
      refine wl hs (y_assign hs rfl) rfl ?_; intro a hs
      refine wpList_nil ?_
      refine x_nt ?_
      refine wp_seq ?_
      refine wp_seq ?_
      refine wp_region_lit ?_
      refine wl hs (y_move hs rfl) rfl ?_; intro a hs
      refine wl hs (y_move hs rfl) rfl ?_; intro a hs
      obtain ⟨y33, h34, hm⟩ := bindE hm
      refine wcall is_19 hs rfl rfl (laws_eqIntSS_any v31 y27.1 v16 y12.1 _ (hM.rdM 0 rfl) (hM.rdM 3 rfl) h34) ?_; rintro a _ w hs ⟨rfl, hX⟩
      have hM : Mem W w [aMat 28 3 v31 vs32 y27.1, aInts 3 v25 y23, aMat 28 3 v20 vs22 y18, aMat 28 3 v16 vs17 y12.1, aInts 3 v10 y8, aMat 28 3 v5 vs7 y3] := hM.call hX
      refine wl hs (y_not hs rfl) rfl ?_; intro a hs
      refine wl hs (y_move hs rfl) rfl ?_; intro a hs
      obtain ⟨b35, hb36, hm⟩ := bindE hm
      refine wlguard (N := 117) (L' := [(51, .bool b35), (0, v_p0), (1, v_p1), (6, v16), (7, .bool y12.2), (8, v20), (9, v25), (10, v31), (11, .bool y27.2)]) (fun w => Mem W w [aMat 28 3 v31 vs32 y27.1, aInts 3 v25 y23, aMat 28 3 v20 vs22 y18, aMat 28 3 v16 vs17 y12.1, aInts 3 v10 y8, aMat 28 3 v5 vs7 y3]) 4 ?_ ?_
      · intro K; rcases Bool.eq_false_or_eq_true (!y33) with hg37 | hg37
        · have hm := condT hg37 hb36
          refine wls hs rfl hg37 rfl ?_; intro a hs
          refine wls hs rfl hg37 rfl ?_; intro a hs
          refine wls hs rfl hg37 rfl ?_; intro a hs
          have hm : some true = some b35 := hm
          cases Option.some.inj hm
          refine wl hs (y_pickT hs rfl hg37 rfl) rfl ?_; intro a hs
          exact K _ _ (hs.sub ⟨rfl, rfl, rfl, rfl, rfl, rfl, rfl, rfl, rfl, trivial⟩) hM
        · have hm := condF hg37 hb36
          refine wlg hs rfl hg37 (y_move hs rfl) rfl ?_; intro a hs
          refine wlg hs rfl hg37 (y_move hs rfl) rfl ?_; intro a hs
          refine wlg hs rfl hg37 (y_neqB hu_bool hs rfl rfl) rfl ?_; intro a hs
          have hm : some (y27.2 != y12.2) = some b35 := hm
          cases Option.some.inj hm
          refine wl hs (y_pickF hs rfl hg37 rfl) rfl ?_; intro a hs
          exact K _ _ (hs.sub ⟨rfl, rfl, rfl, rfl, rfl, rfl, rfl, rfl, rfl, trivial⟩) hM
      intro a w hs hM
      simp only [List.drop_succ_cons, List.drop_zero]
      refine wpList_nil ?_
      refine x_nt ?_
      refine x_cond hs rfl (fun hb => ?_) (fun hb => ?_)
      · replace hm := condT hb hm
        refine wp_seq ?_
        refine wp_region_lit ?_
        refine wl hs (y_assign hs rfl) rfl ?_; intro a hs
        refine wpList_nil ?_
        refine x_nt ?_
        refine wp_ret ?_
        refine x_rt ?_
        have hm : some false = some r := hm
        obtain rfl := Option.some.inj hm
        refine x_ret1 rfl hs rfl ⟨_, rfl, ?_⟩
        exact ⟨rfl, hM.none_⟩
      · replace hm := condF hb hm
        refine wp_skip ?_
        refine x_nt ?_
        refine wp_seq ?_
        refine wp_seq ?_
        refine wp_region_lit ?_
        refine wl hs (y_move hs rfl) rfl ?_; intro a hs
        refine wl hs (y_move hs rfl) rfl ?_; intro a hs
        obtain ⟨y38, h39, hm⟩ := bindE hm
        refine wcall is_17 hs rfl rfl (laws_toIntSS_any v_p0 p0 _ (RdM.below hr_p0 hM.bel) h39) ?_; rintro a v40 w hs ⟨vs42, hX⟩
        have hM : Mem W w [aMat 28 3 v40 vs42 y38, aMat 28 3 v31 vs32 y27.1, aInts 3 v25 y23, aMat 28 3 v20 vs22 y18, aMat 28 3 v16 vs17 y12.1, aInts 3 v10 y8, aMat 28 3 v5 vs7 y3] := hM.call hX
        obtain ⟨y43, h44, hm⟩ := bindE hm
        refine wcall is_19 hs rfl rfl (laws_eqIntSS_any v20 y18 v40 y38 _ (hM.rdM 3 rfl) (hM.rdM 0 rfl) h44) ?_; rintro a _ w hs ⟨rfl, hX⟩
        have hM : Mem W w [aMat 28 3 v40 vs42 y38, aMat 28 3 v31 vs32 y27.1, aInts 3 v25 y23, aMat 28 3 v20 vs22 y18, aMat 28 3 v16 vs17 y12.1, aInts 3 v10 y8, aMat 28 3 v5 vs7 y3] := hM.call hX
        refine wl hs (y_not hs rfl) rfl ?_; intro a hs
        refine wpList_nil ?_
        refine x_nt ?_
        refine x_cond hs rfl (fun hb => ?_) (fun hb => ?_)
        · replace hm := condT hb hm
          refine wp_seq ?_
          refine wp_region_lit ?_
          refine wl hs (y_assign hs rfl) rfl ?_; intro a hs
          refine wpList_nil ?_
          refine x_nt ?_
          refine wp_ret ?_
          refine x_rt ?_
          have hm : some false = some r := hm
          obtain rfl := Option.some.inj hm
          refine x_ret1 rfl hs rfl ⟨_, rfl, ?_⟩
          exact ⟨rfl, hM.none_⟩
        · replace hm := condF hb hm
          refine wp_skip ?_
          refine x_nt ?_
          refine wp_seq ?_
          refine wp_seq ?_
          refine wp_region_lit ?_
          refine wl hs (y_move hs rfl) rfl ?_; intro a hs
          refine wl hs (y_move hs rfl) rfl ?_; intro a hs
          obtain ⟨y45, h46, hm⟩ := bindE hm
          refine wcall is_23 hs rfl rfl (laws_toIntS_any v_p1 p1 _ (RdI.below hr_p1 hM.bel) h46) ?_; rintro a v47 w hs hX
          have hM : Mem W w [aInts 3 v47 y45, aMat 28 3 v40 vs42 y38, aMat 28 3 v31 vs32 y27.1, aInts 3 v25 y23, aMat 28 3 v20 vs22 y18, aMat 28 3 v16 vs17 y12.1, aInts 3 v10 y8, aMat 28 3 v5 vs7 y3] := hM.call hX
          obtain ⟨y49, h50, hm⟩ := bindE hm
          refine wcall is_25 hs rfl rfl (laws_eqIntS_any v25 y23 v47 y45 _ (hM.rdI 3 rfl) (hM.rdI 0 rfl) h50) ?_; rintro a _ w hs ⟨rfl, hX⟩
          have hM : Mem W w [aInts 3 v47 y45, aMat 28 3 v40 vs42 y38, aMat 28 3 v31 vs32 y27.1, aInts 3 v25 y23, aMat 28 3 v20 vs22 y18, aMat 28 3 v16 vs17 y12.1, aInts 3 v10 y8, aMat 28 3 v5 vs7 y3] := hM.call hX
          refine wl hs (y_not hs rfl) rfl ?_; intro a hs
          refine wpList_nil ?_
          refine x_nt ?_
          refine x_cond hs rfl (fun hb => ?_) (fun hb => ?_)
          · replace hm := condT hb hm
            refine wp_seq ?_
            refine wp_region_lit ?_
            refine wl hs (y_assign hs rfl) rfl ?_; intro a hs
            refine wpList_nil ?_
            refine x_nt ?_
            refine wp_ret ?_
            refine x_rt ?_
            have hm : some false = some r := hm
            obtain rfl := Option.some.inj hm
            refine x_ret1 rfl hs rfl ⟨_, rfl, ?_⟩
            exact ⟨rfl, hM.none_⟩
          · replace hm := condF hb hm
            refine wp_skip ?_
            refine x_nt ?_
            refine wp_seq ?_
            refine wp_region_lit ?_
            refine wl hs (y_assign hs rfl) rfl ?_; intro a hs
            refine wpList_nil ?_
            refine x_nt ?_
            refine wp_seq ?_
            refine wp_region_lit ?_
            refine wl hs (y_move hs rfl) rfl ?_; intro a hs
            refine wl hs (y_move hs rfl) rfl ?_; intro a hs
            obtain ⟨y51, h52, hm⟩ := bindE hm
            have hM : Mem W w [aMat 28 3 v20 vs22 y18, aInts 3 v47 y45, aMat 28 3 v40 vs42 y38, aMat 28 3 v31 vs32 y27.1, aInts 3 v25 y23, aMat 28 3 v16 vs17 y12.1, aInts 3 v10 y8, aMat 28 3 v5 vs7 y3] := ((((((((hM.front 7 rfl).front 7 rfl).front 7 rfl).front 6 rfl).front 6 rfl).front 6 rfl).front 6 rfl).front 7 rfl)
            refine wcall is_20 hs rfl rfl (laws_markIntSS_any v20 y18 _ 1 _ _ _  hM h52) ?_; rintro a _ w hs ⟨vs53, rfl, hM⟩
            have hM : Mem W w [aMat 28 3 v20 vs53 y51.2, aInts 3 v47 y45, aMat 28 3 v40 vs42 y38, aMat 28 3 v31 vs32 y27.1, aInts 3 v25 y23, aMat 28 3 v16 vs17 y12.1, aInts 3 v10 y8, aMat 28 3 v5 vs7 y3] := hM
            refine wl hs (y_assign hs rfl) rfl ?_; intro a hs
            refine wpList_nil ?_
            refine x_nt ?_
            refine wp_seq ?_
            refine wp_region_lit ?_
            refine wl hs (y_move hs rfl) rfl ?_; intro a hs
            refine wl hs (y_move hs rfl) rfl ?_; intro a hs
            obtain ⟨y54, h55, hm⟩ := bindE hm
            have hM : Mem W w [aInts 3 v25 y23, aMat 28 3 v20 vs53 y51.2, aInts 3 v47 y45, aMat 28 3 v40 vs42 y38, aMat 28 3 v31 vs32 y27.1, aMat 28 3 v16 vs17 y12.1, aInts 3 v10 y8, aMat 28 3 v5 vs7 y3] := ((((((((hM.front 7 rfl).front 7 rfl).front 7 rfl).front 6 rfl).front 6 rfl).front 6 rfl).front 6 rfl).front 7 rfl)
            refine wcall is_26 hs rfl rfl (laws_markIntS_any v25 y23 y51.1 _ _ _  hM h55) ?_; rintro a _ w hs ⟨rfl, hM⟩
            have hM : Mem W w [aInts 3 v25 y54.2, aMat 28 3 v20 vs53 y51.2, aInts 3 v47 y45, aMat 28 3 v40 vs42 y38, aMat 28 3 v31 vs32 y27.1, aMat 28 3 v16 vs17 y12.1, aInts 3 v10 y8, aMat 28 3 v5 vs7 y3] := hM
            refine wl hs (y_assign hs rfl) rfl ?_; intro a hs
            refine wpList_nil ?_
            refine x_nt ?_
            refine wp_seq ?_
            refine wp_seq ?_
            refine wp_region_lit ?_
            refine wl hs (y_move hs rfl) rfl ?_; intro a hs
            refine wl hs (y_lss hs rfl rfl) rfl ?_; intro a hs
            refine wl hs (y_move hs rfl) rfl ?_; intro a hs
            obtain ⟨b56, hb57, hm⟩ := bindE hm
            refine wlguard (N := 117) (L' := [(75, .bool b56), (0, v_p0), (1, v_p1), (6, v16), (7, .bool y12.2), (10, v31), (11, .bool y27.2)]) (fun w => Mem W w [aInts 3 v25 y54.2, aMat 28 3 v20 vs53 y51.2, aInts 3 v47 y45, aMat 28 3 v40 vs42 y38, aMat 28 3 v31 vs32 y27.1, aMat 28 3 v16 vs17 y12.1, aInts 3 v10 y8, aMat 28 3 v5 vs7 y3]) 5 ?_ ?_
            · intro K; rcases Bool.eq_false_or_eq_true (decide (y54.1 < 0)) with hg58 | hg58
              · have hm := condT hg58 hb57
                refine wls hs rfl hg58 rfl ?_; intro a hs
                refine wls hs rfl hg58 rfl ?_; intro a hs
                refine wls hs rfl hg58 rfl ?_; intro a hs
                refine wls hs rfl hg58 rfl ?_; intro a hs
                have hm : some true = some b56 := hm
                cases Option.some.inj hm
                refine wl hs (y_pickT hs rfl hg58 rfl) rfl ?_; intro a hs
                exact K _ _ (hs.sub ⟨rfl, rfl, rfl, rfl, rfl, rfl, rfl, trivial⟩) hM
              · have hm := condF hg58 hb57
                refine wlg hs rfl hg58 (y_move hs rfl) rfl ?_; intro a hs
                refine wlg hs rfl hg58 (y_move hs rfl) rfl ?_; intro a hs
                obtain ⟨y59, h60, hm⟩ := bindE hm
                refine wcallg is_19 hs rfl hg58 rfl rfl (laws_eqIntSS_any v31 y27.1 v16 y12.1 _ (hM.rdM 4 rfl) (hM.rdM 5 rfl) h60) ?_; rintro a _ w hs ⟨rfl, hX⟩
                have hM : Mem W w [aInts 3 v25 y54.2, aMat 28 3 v20 vs53 y51.2, aInts 3 v47 y45, aMat 28 3 v40 vs42 y38, aMat 28 3 v31 vs32 y27.1, aMat 28 3 v16 vs17 y12.1, aInts 3 v10 y8, aMat 28 3 v5 vs7 y3] := hM.call hX
                refine wlg hs rfl hg58 (y_not hs rfl) rfl ?_; intro a hs
                have hm : some (!y59) = some b56 := hm
                cases Option.some.inj hm
                refine wl hs (y_pickF hs rfl hg58 rfl) rfl ?_; intro a hs
                exact K _ _ (hs.sub ⟨rfl, rfl, rfl, rfl, rfl, rfl, rfl, trivial⟩) hM
            intro a w hs hM
            simp only [List.drop_succ_cons, List.drop_zero]
            refine wl hs (y_move hs rfl) rfl ?_; intro a hs
            obtain ⟨b61, hb62, hm⟩ := bindE hm
            refine wlguard (N := 117) (L' := [(80, .bool b61), (0, v_p0), (1, v_p1), (6, v16), (7, .bool y12.2), (10, v31)]) (fun w => Mem W w [aInts 3 v25 y54.2, aMat 28 3 v20 vs53 y51.2, aInts 3 v47 y45, aMat 28 3 v40 vs42 y38, aMat 28 3 v31 vs32 y27.1, aMat 28 3 v16 vs17 y12.1, aInts 3 v10 y8, aMat 28 3 v5 vs7 y3]) 4 ?_ ?_
            · intro K; rcases Bool.eq_false_or_eq_true b56 with hg63 | hg63
              · have hm := condT hg63 hb62
                refine wls hs rfl hg63 rfl ?_; intro a hs
                refine wls hs rfl hg63 rfl ?_; intro a hs
                refine wls hs rfl hg63 rfl ?_; intro a hs
                have hm : some true = some b61 := hm
                cases Option.some.inj hm
                refine wl hs (y_pickT hs rfl hg63 rfl) rfl ?_; intro a hs
                exact K _ _ (hs.sub ⟨rfl, rfl, rfl, rfl, rfl, rfl, trivial⟩) hM
              · have hm := condF hg63 hb62
                refine wlg hs rfl hg63 (y_move hs rfl) rfl ?_; intro a hs
                refine wlg hs rfl hg63 (y_move hs rfl) rfl ?_; intro a hs
                refine wlg hs rfl hg63 (y_neqB hu_bool hs rfl rfl) rfl ?_; intro a hs
                have hm : some (y27.2 != y12.2) = some b61 := hm
                cases Option.some.inj hm
                refine wl hs (y_pickF hs rfl hg63 rfl) rfl ?_; intro a hs
                exact K _ _ (hs.sub ⟨rfl, rfl, rfl, rfl, rfl, rfl, trivial⟩) hM
            intro a w hs hM
            simp only [List.drop_succ_cons, List.drop_zero]
            refine wpList_nil ?_
            refine x_nt ?_
            refine x_cond hs rfl (fun hb => ?_) (fun hb => ?_)
            · replace hm := condT hb hm
              refine wp_seq ?_
              refine wp_region_lit ?_
              refine wl hs (y_assign hs rfl) rfl ?_; intro a hs
              refine wpList_nil ?_
              refine x_nt ?_
              refine wp_ret ?_
              refine x_rt ?_
              have hm : some false = some r := hm
              obtain rfl := Option.some.inj hm
              refine x_ret1 rfl hs rfl ⟨_, rfl, ?_⟩
              exact ⟨rfl, hM.none_⟩
            · replace hm := condF hb hm
              refine wp_skip ?_
              refine x_nt ?_
              refine wp_seq ?_
              refine wp_region_lit ?_
              refine wl hs (y_assign hs rfl) rfl ?_; intro a hs
              refine wpList_nil ?_
              refine x_nt ?_
              refine wp_seq ?_
              refine wp_region_lit ?_
              refine wl hs (y_move hs rfl) rfl ?_; intro a hs
              refine wl hs (y_move hs rfl) rfl ?_; intro a hs
              obtain ⟨y64, h65, hm⟩ := bindE hm
              have hM : Mem W w [aMat 28 3 v31 vs32 y27.1, aInts 3 v25 y54.2, aMat 28 3 v20 vs53 y51.2, aInts 3 v47 y45, aMat 28 3 v40 vs42 y38, aMat 28 3 v16 vs17 y12.1, aInts 3 v10 y8, aMat 28 3 v5 vs7 y3] := ((((((((hM.front 7 rfl).front 7 rfl).front 7 rfl).front 6 rfl).front 6 rfl).front 6 rfl).front 6 rfl).front 7 rfl)
              refine wcall is_20 hs rfl rfl (laws_markIntSS_any v31 y27.1 _ 1 _ _ _  hM h65) ?_; rintro a _ w hs ⟨vs66, rfl, hM⟩
              have hM : Mem W w [aMat 28 3 v31 vs66 y64.2, aInts 3 v25 y54.2, aMat 28 3 v20 vs53 y51.2, aInts 3 v47 y45, aMat 28 3 v40 vs42 y38, aMat 28 3 v16 vs17 y12.1, aInts 3 v10 y8, aMat 28 3 v5 vs7 y3] := hM
              refine wl hs (y_assign hs rfl) rfl ?_; intro a hs
              refine wpList_nil ?_
              refine x_nt ?_
              refine wp_seq ?_
              refine wp_region_lit ?_
              refine wl hs (y_assign hs rfl) rfl ?_; intro a hs
              refine wpList_nil ?_
              refine x_nt ?_
              refine wp_seq ?_
              refine wp_region_lit ?_
              refine wl hs (y_move hs rfl) rfl ?_; intro a hs
              refine wl hs (y_move hs rfl) rfl ?_; intro a hs
              obtain ⟨y67, h68, hm⟩ := bindE hm
              refine wcall is_21 hs rfl rfl (laws_heldIntSS_any v31 y64.2 1 _ (hM.rdM 0 rfl) h68) ?_; rintro a _ w hs ⟨rfl, hX⟩
              have hM : Mem W w [aMat 28 3 v31 vs66 y64.2, aInts 3 v25 y54.2, aMat 28 3 v20 vs53 y51.2, aInts 3 v47 y45, aMat 28 3 v40 vs42 y38, aMat 28 3 v16 vs17 y12.1, aInts 3 v10 y8, aMat 28 3 v5 vs7 y3] := hM.call hX
              refine wl hs (y_assign hs rfl) rfl ?_; intro a hs
              refine wpList_nil ?_
              refine x_nt ?_
              refine wp_seq ?_
              refine wp_seq ?_
              refine wp_region_lit ?_
              refine wl hs (y_move hs rfl) rfl ?_; intro a hs
              refine wl hs (y_lss hs rfl rfl) rfl ?_; intro a hs
              refine wpList_nil ?_
              refine x_nt ?_
              refine x_cond hs rfl (fun hb => ?_) (fun hb => ?_)
              · replace hm := condT hb hm
                refine wp_seq ?_
                refine wp_region_lit ?_
                refine wl hs (y_assign hs rfl) rfl ?_; intro a hs
                refine wpList_nil ?_
                refine x_nt ?_
                refine wp_ret ?_
                refine x_rt ?_
                have hm : some false = some r := hm
                obtain rfl := Option.some.inj hm
                refine x_ret1 rfl hs rfl ⟨_, rfl, ?_⟩
                exact ⟨rfl, hM.none_⟩
              · replace hm := condF hb hm
                refine wp_skip ?_
                refine x_nt ?_
                refine wp_seq ?_
                refine wp_seq ?_
                refine wp_region_lit ?_
                refine wl hs (y_move hs rfl) rfl ?_; intro a hs
                refine wl hs (y_move hs rfl) rfl ?_; intro a hs
                refine wl hs (y_neq hs rfl rfl) rfl ?_; intro a hs
                refine wpList_nil ?_
                refine x_nt ?_
                refine x_cond hs rfl (fun hb => ?_) (fun hb => ?_)
                · replace hm := condT hb hm
                  refine wp_seq ?_
                  refine wp_region_lit ?_
                  refine wl hs (y_assign hs rfl) rfl ?_; intro a hs
                  refine wpList_nil ?_
                  refine x_nt ?_
                  refine wp_ret ?_
                  refine x_rt ?_
                  have hm : some false = some r := hm
                  obtain rfl := Option.some.inj hm
                  refine x_ret1 rfl hs rfl ⟨_, rfl, ?_⟩
                  exact ⟨rfl, hM.none_⟩
                · replace hm := condF hb hm
                  refine wp_skip ?_
                  refine x_nt ?_
                  refine wp_seq ?_
                  refine wp_region_lit ?_
                  refine wl hs (y_move hs rfl) rfl ?_; intro a hs
                  obtain ⟨y69, h70, hm⟩ := bindE hm
                  refine wcall is_17 hs rfl rfl (laws_toIntSS_any v_p0 p0 _ (RdM.below hr_p0 hM.bel) h70) ?_; rintro a v71 w hs ⟨vs73, hX⟩
                  have hM : Mem W w [aMat 28 3 v71 vs73 y69, aMat 28 3 v31 vs66 y64.2, aInts 3 v25 y54.2, aMat 28 3 v20 vs53 y51.2, aInts 3 v47 y45, aMat 28 3 v40 vs42 y38, aMat 28 3 v16 vs17 y12.1, aInts 3 v10 y8, aMat 28 3 v5 vs7 y3] := hM.call hX
                  refine wl hs (y_move hs rfl) rfl ?_; intro a hs
                  obtain ⟨y74, h75, hm⟩ := bindE hm
                  refine wcall is_23 hs rfl rfl (laws_toIntS_any v_p1 p1 _ (RdI.below hr_p1 hM.bel) h75) ?_; rintro a v76 w hs hX
                  have hM : Mem W w [aInts 3 v76 y74, aMat 28 3 v71 vs73 y69, aMat 28 3 v31 vs66 y64.2, aInts 3 v25 y54.2, aMat 28 3 v20 vs53 y51.2, aInts 3 v47 y45, aMat 28 3 v40 vs42 y38, aMat 28 3 v16 vs17 y12.1, aInts 3 v10 y8, aMat 28 3 v5 vs7 y3] := hM.call hX
                  obtain ⟨y78, h79, hm⟩ := bindE hm
                  refine wcall is_37 hs rfl rfl (impl_ReducedMatrix_any v71 y69 v76 y74 _ (hM.rdM 1 rfl) (hM.rdI 0 rfl) h79) ?_; rintro a _ w hs ⟨v82, vs83, rfl, hX⟩
                  have hM : Mem W w [aMat 28 3 v82 vs83 y78.1, aInts 3 v76 y74, aMat 28 3 v71 vs73 y69, aMat 28 3 v31 vs66 y64.2, aInts 3 v25 y54.2, aMat 28 3 v20 vs53 y51.2, aInts 3 v47 y45, aMat 28 3 v40 vs42 y38, aMat 28 3 v16 vs17 y12.1, aInts 3 v10 y8, aMat 28 3 v5 vs7 y3] := hM.call hX
                  refine wl hs (y_move hs rfl) rfl ?_; intro a hs
                  refine wl hs (y_extract hs rfl rfl) rfl ?_; intro a hs
                  refine wl hs (y_extract hs rfl rfl) rfl ?_; intro a hs
                  refine wl hs (y_assign hs rfl) rfl ?_; intro a hs
                  refine wl hs (y_assign hs rfl) rfl ?_; intro a hs
                  refine wpList_nil ?_
                  refine x_nt ?_
                  refine wp_seq ?_
                  refine wp_seq ?_
                  refine wp_region_lit ?_
                  refine wl hs (y_move hs rfl) rfl ?_; intro a hs
                  refine wl hs (y_move hs rfl) rfl ?_; intro a hs
                  obtain ⟨y84, h85, hm⟩ := bindE hm
                  refine wcall is_19 hs rfl rfl (laws_eqIntSS_any v82 y78.1 v16 y12.1 _ (hM.rdM 0 rfl) (hM.rdM 8 rfl) h85) ?_; rintro a _ w hs ⟨rfl, hX⟩
                  have hM : Mem W w [aMat 28 3 v82 vs83 y78.1, aInts 3 v76 y74, aMat 28 3 v71 vs73 y69, aMat 28 3 v31 vs66 y64.2, aInts 3 v25 y54.2, aMat 28 3 v20 vs53 y51.2, aInts 3 v47 y45, aMat 28 3 v40 vs42 y38, aMat 28 3 v16 vs17 y12.1, aInts 3 v10 y8, aMat 28 3 v5 vs7 y3] := hM.call hX
                  refine wl hs (y_not hs rfl) rfl ?_; intro a hs
                  refine wl hs (y_move hs rfl) rfl ?_; intro a hs
                  obtain ⟨b86, hb87, hm⟩ := bindE hm
                  refine wlguard (N := 117) (L' := [(108, .bool b86), (10, v31), (13, .int .i64 y64.1)]) (fun w => Mem W w [aMat 28 3 v82 vs83 y78.1, aInts 3 v76 y74, aMat 28 3 v71 vs73 y69, aMat 28 3 v31 vs66 y64.2, aInts 3 v25 y54.2, aMat 28 3 v20 vs53 y51.2, aInts 3 v47 y45, aMat 28 3 v40 vs42 y38, aMat 28 3 v16 vs17 y12.1, aInts 3 v10 y8, aMat 28 3 v5 vs7 y3]) 4 ?_ ?_
                  · intro K; rcases Bool.eq_false_or_eq_true (!y84) with hg88 | hg88
                    · have hm := condT hg88 hb87
                      refine wls hs rfl hg88 rfl ?_; intro a hs
                      refine wls hs rfl hg88 rfl ?_; intro a hs
                      refine wls hs rfl hg88 rfl ?_; intro a hs
                      have hm : some true = some b86 := hm
                      cases Option.some.inj hm
                      refine wl hs (y_pickT hs rfl hg88 rfl) rfl ?_; intro a hs
                      exact K _ _ (hs.sub ⟨rfl, rfl, rfl, trivial⟩) hM
                    · have hm := condF hg88 hb87
                      refine wlg hs rfl hg88 (y_move hs rfl) rfl ?_; intro a hs
                      refine wlg hs rfl hg88 (y_move hs rfl) rfl ?_; intro a hs
                      refine wlg hs rfl hg88 (y_neqB hu_bool hs rfl rfl) rfl ?_; intro a hs
                      have hm : some (y78.2 != y12.2) = some b86 := hm
                      cases Option.some.inj hm
                      refine wl hs (y_pickF hs rfl hg88 rfl) rfl ?_; intro a hs
                      exact K _ _ (hs.sub ⟨rfl, rfl, rfl, trivial⟩) hM
                  intro a w hs hM
                  simp only [List.drop_succ_cons, List.drop_zero]
                  refine wpList_nil ?_
                  refine x_nt ?_
                  refine x_cond hs rfl (fun hb => ?_) (fun hb => ?_)
                  · replace hm := condT hb hm
                    refine wp_seq ?_
                    refine wp_region_lit ?_
                    refine wl hs (y_assign hs rfl) rfl ?_; intro a hs
                    refine wpList_nil ?_
                    refine x_nt ?_
                    refine wp_ret ?_
                    refine x_rt ?_
                    have hm : some false = some r := hm
                    obtain rfl := Option.some.inj hm
                    refine x_ret1 rfl hs rfl ⟨_, rfl, ?_⟩
                    exact ⟨rfl, hM.none_⟩
                  · replace hm := condF hb hm
                    refine wp_skip ?_
                    refine x_nt ?_
                    refine wp_seq ?_
                    refine wp_region_lit ?_
                    refine wl hs (y_assign hs rfl) rfl ?_; intro a hs
                    refine wpList_nil ?_
                    refine x_nt ?_
                    refine wp_seq ?_
                    refine wp_region_lit ?_
                    refine wl hs (y_move hs rfl) rfl ?_; intro a hs
                    refine wl hs (y_move hs rfl) rfl ?_; intro a hs
                    obtain ⟨y89, h90, hm⟩ := bindE hm
                    refine wcall is_21 hs rfl rfl (laws_heldIntSS_any v31 y64.2 1 _ (hM.rdM 3 rfl) h90) ?_; rintro a _ w hs ⟨rfl, hX⟩
                    have hM : Mem W w [aMat 28 3 v82 vs83 y78.1, aInts 3 v76 y74, aMat 28 3 v71 vs73 y69, aMat 28 3 v31 vs66 y64.2, aInts 3 v25 y54.2, aMat 28 3 v20 vs53 y51.2, aInts 3 v47 y45, aMat 28 3 v40 vs42 y38, aMat 28 3 v16 vs17 y12.1, aInts 3 v10 y8, aMat 28 3 v5 vs7 y3] := hM.call hX
                    refine wl hs (y_assign hs rfl) rfl ?_; intro a hs
                    refine wpList_nil ?_
                    refine x_nt ?_
                    refine wp_seq ?_
                    refine wp_seq ?_
                    refine wp_region_lit ?_
                    refine wl hs (y_move hs rfl) rfl ?_; intro a hs
                    refine wl hs (y_lss hs rfl rfl) rfl ?_; intro a hs
                    refine wpList_nil ?_
                    refine x_nt ?_
                    refine x_cond hs rfl (fun hb => ?_) (fun hb => ?_)
                    · replace hm := condT hb hm
                      refine wp_seq ?_
                      refine wp_region_lit ?_
                      refine wl hs (y_assign hs rfl) rfl ?_; intro a hs
                      refine wpList_nil ?_
                      refine x_nt ?_
                      refine wp_ret ?_
                      refine x_rt ?_
                      have hm : some false = some r := hm
                      obtain rfl := Option.some.inj hm
                      refine x_ret1 rfl hs rfl ⟨_, rfl, ?_⟩
                      exact ⟨rfl, hM.none_⟩
                    · replace hm := condF hb hm
                      refine wp_skip ?_
                      refine x_nt ?_
                      refine wp_seq ?_
                      refine wp_seq ?_
                      refine wp_region_lit ?_
                      refine wl hs (y_move hs rfl) rfl ?_; intro a hs
                      refine wl hs (y_move hs rfl) rfl ?_; intro a hs
                      refine wl hs (y_neq hs rfl rfl) rfl ?_; intro a hs
                      refine wpList_nil ?_
                      refine x_nt ?_
                      refine x_cond hs rfl (fun hb => ?_) (fun hb => ?_)
                      · replace hm := condT hb hm
                        refine wp_seq ?_
                        refine wp_region_lit ?_
                        refine wl hs (y_assign hs rfl) rfl ?_; intro a hs
                        refine wpList_nil ?_
                        refine x_nt ?_
                        refine wp_ret ?_
                        refine x_rt ?_
                        have hm : some false = some r := hm
                        obtain rfl := Option.some.inj hm
                        refine x_ret1 rfl hs rfl ⟨_, rfl, ?_⟩
                        exact ⟨rfl, hM.none_⟩
                      · replace hm := condF hb hm
                        refine wp_skip ?_
                        refine x_nt ?_
                        refine wp_seq ?_
                        refine wp_region_lit ?_
                        refine wl hs (y_assign hs rfl) rfl ?_; intro a hs
                        refine wpList_nil ?_
                        refine x_nt ?_
                        refine wp_ret ?_
                        have hm : some true = some r := hm
                        obtain rfl := Option.some.inj hm
                        refine x_ret1 rfl hs rfl ⟨_, rfl, ?_⟩
                        exact ⟨rfl, hM.none_⟩

end Go.Proofs.Ytjicdfplhenohaa
