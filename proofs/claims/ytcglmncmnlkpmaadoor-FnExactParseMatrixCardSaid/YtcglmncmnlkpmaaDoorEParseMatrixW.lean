/- The code of this unit computes what its mirrors say. Written by program (wip/gen). -/
import Derived.Test.YtcglmncmnlkpmaaDoorFacts
import Derived.Test.YtcglmncmnlkpmaaDoorEParseMatrixM
import Derived.Test.YtcglmncmnlkpmaaDoorNumW
import Derived.Test.YtcglmncmnlkpmaaDoorTxpW
import Derived.Test.YtcglmncmnlkpmaaDoorTxrW
namespace Go.Proofs.YtcglmncmnlkpmaaDoor
open Go.RowKit
set_option linter.unusedVariables false

set_option maxHeartbeats 4000000 in
theorem laws_FnExactParseMatrix_any (p0 : List UInt8) (W : World) (hT : TabOk2 W) {r : Bool} (hm : laws_FnExactParseMatrix_m p0 = some r) : Calls Tryd.prog 4 [.string ⟨p0.toArray⟩].toArray W fun e w => ∃ v, e = .returned v ∧ v = .bool r ∧ Mem W w [] := by
  refine x_enter Tryd.func4 rfl Tryd.ntmps4 rfl ?_
  intro a hs
  have hM := Mem.start W
  unfold laws_FnExactParseMatrix_m at hm
  refine wp_seq ?_
  refine wp_region_lit ?_
  refine wl hs (y_assign hs rfl) rfl ?_; intro a hs
  refine wpList_nil ?_
  refine x_nt ?_
  refine wp_seq ?_
  refine wp_seq ?_
  refine wp_region_lit ?_
  refine wl hs (y_move hs rfl) rfl ?_; intro a hs
  refine wl hs (y_lenS hu_str hs rfl) rfl ?_; intro a hs
  refine wl hs (y_gtr hs rfl rfl) rfl ?_; intro a hs
  refine wpList_nil ?_
  refine x_nt ?_
  refine x_cond hs rfl (fun hb => ?_) (fun hb => ?_)
  · replace hm := condT hb hm
    refine wp_seq ?_
    refine wp_region_lit ?_
    refine wl hs (y_assign hs rfl) rfl ?_; intro a hs
    refine wpList_nil ?_
    refine x_nt ?_
    refine wp_ret ?_
    refine x_rt ?_
    have hm : some true = some r := hm
    obtain rfl := Option.some.inj hm
    refine x_ret1 rfl hs rfl ⟨_, rfl, ?_⟩
    exact ⟨rfl, hM⟩
  · replace hm := condF hb hm
    refine wp_skip ?_
    refine x_nt ?_
    refine wp_seq ?_
    refine wp_region_lit ?_
    refine wl hs (y_move hs rfl) rfl ?_; intro a hs
    obtain ⟨y1, h2, hm⟩ := bindE hm
    refine wcall is_10 hs rfl rfl (spec_ParseMatrix_any p0 _  h2) ?_; rintro a _ w hs ⟨v5, vs6, rfl, hX⟩
    have hM : Mem W w [aMat 33 3 v5 vs6 y1.1] := hM.call hX
    refine wl hs (y_move hs rfl) rfl ?_; intro a hs
    refine wl hs (y_extract hs rfl rfl) rfl ?_; intro a hs
    refine wl hs (y_extract hs rfl rfl) rfl ?_; intro a hs
    refine wl hs (y_assign hs rfl) rfl ?_; intro a hs
    refine wl hs (y_assign hs rfl) rfl ?_; intro a hs
    refine wpList_nil ?_
    refine x_nt ?_
    refine wp_seq ?_
    refine wp_region_lit ?_
    refine wl hs (y_move hs rfl) rfl ?_; intro a hs
    obtain ⟨y7, h8, hm⟩ := bindE hm
    refine wcall is_11 hs rfl rfl (impl_ParseMatrix_any p0 _ (hT.below hM.bel) h8) ?_; rintro a _ w hs ⟨v11, vs12, rfl, hX⟩
    have hM : Mem W w [aMat 33 3 v11 vs12 y7.1, aMat 33 3 v5 vs6 y1.1] := hM.call hX
    refine wl hs (y_move hs rfl) rfl ?_; intro a hs
    refine wl hs (y_extract hs rfl rfl) rfl ?_; intro a hs
    refine wl hs (y_extract hs rfl rfl) rfl ?_; intro a hs
    refine wl hs (y_assign hs rfl) rfl ?_; intro a hs
    refine wl hs (y_assign hs rfl) rfl ?_; intro a hs
    refine wpList_nil ?_
    refine x_nt ?_
    refine wp_seq ?_
    refine wp_seq ?_
    refine wp_region_lit ?_
    refine wl hs (y_move hs rfl) rfl ?_; intro a hs
    refine wl hs (y_move hs rfl) rfl ?_; intro a hs
    obtain ⟨y13, h14, hm⟩ := bindE hm
    refine wcall is_9 hs rfl rfl (laws_eqIntSS_any v11 y7.1 v5 y1.1 _ (hM.rdM 0 rfl) (hM.rdM 1 rfl) h14) ?_; rintro a _ w hs ⟨rfl, hX⟩
    have hM : Mem W w [aMat 33 3 v11 vs12 y7.1, aMat 33 3 v5 vs6 y1.1] := hM.call hX
    refine wl hs (y_not hs rfl) rfl ?_; intro a hs
    refine wl hs (y_move hs rfl) rfl ?_; intro a hs
    obtain ⟨b15, hb16, hm⟩ := bindE hm
    refine wlguard (N := 66) (L' := [(32, .bool b15), (0, .string ⟨p0.toArray⟩), (3, v5), (4, .bool y1.2), (5, v11)]) (fun w => Mem W w [aMat 33 3 v11 vs12 y7.1, aMat 33 3 v5 vs6 y1.1]) 4 ?_ ?_
    · intro K; rcases Bool.eq_false_or_eq_true (!y13) with hg17 | hg17
      · have hm := condT hg17 hb16
        refine wls hs rfl hg17 rfl ?_; intro a hs
        refine wls hs rfl hg17 rfl ?_; intro a hs
        refine wls hs rfl hg17 rfl ?_; intro a hs
        have hm : some true = some b15 := hm
        cases Option.some.inj hm
        refine wl hs (y_pickT hs rfl hg17 rfl) rfl ?_; intro a hs
        exact K _ _ (hs.sub ⟨rfl, rfl, rfl, rfl, rfl, trivial⟩) hM
      · have hm := condF hg17 hb16
        refine wlg hs rfl hg17 (y_move hs rfl) rfl ?_; intro a hs
        refine wlg hs rfl hg17 (y_move hs rfl) rfl ?_; intro a hs
        refine wlg hs rfl hg17 (y_neqB hu_bool hs rfl rfl) rfl ?_; intro a hs
        have hm : some (y7.2 != y1.2) = some b15 := hm
        cases Option.some.inj hm
        refine wl hs (y_pickF hs rfl hg17 rfl) rfl ?_; intro a hs
        exact K _ _ (hs.sub ⟨rfl, rfl, rfl, rfl, rfl, trivial⟩) hM
    intro a w hs hM
    simp only [List.drop_succ_cons, List.drop_zero]
    refine wpList_nil ?_
    refine x_nt ?_
    refine x_cond hs rfl (fun hb => ?_) (fun hb => ?_)
    · replace hm := condT hb hm
      refine wp_seq ?_
      refine wp_region_lit ?_
      refine wl hs (y_assign hs rfl) rfl ?_; intro a hs
      refine wpList_nil ?_
      refine x_nt ?_
      refine wp_ret ?_
      refine x_rt ?_
      have hm : some false = some r := hm
      obtain rfl := Option.some.inj hm
      refine x_ret1 rfl hs rfl ⟨_, rfl, ?_⟩
      exact ⟨rfl, hM.none_⟩
    · replace hm := condF hb hm
      refine wp_skip ?_
      refine x_nt ?_
      refine wp_seq ?_
      refine wp_region_lit ?_
      refine wl hs (y_assign hs rfl) rfl ?_; intro a hs
      refine wpList_nil ?_
      refine x_nt ?_
      refine wp_seq ?_
      refine wp_region_lit ?_
      refine wl hs (y_move hs rfl) rfl ?_; intro a hs
      refine wl hs (y_move hs rfl) rfl ?_; intro a hs
      obtain ⟨y18, h19, hm⟩ := bindE hm
      refine wcall is_12 hs rfl rfl (laws_markIntSS_any v11 y7.1 _ 1 _ _ _  hM h19) ?_; rintro a _ w hs ⟨vs20, rfl, hM⟩
      have hM : Mem W w [aMat 33 3 v11 vs20 y18.2, aMat 33 3 v5 vs6 y1.1] := hM
      refine wl hs (y_assign hs rfl) rfl ?_; intro a hs
      refine wpList_nil ?_
      refine x_nt ?_
      refine wp_seq ?_
      refine wp_region_lit ?_
      refine wl hs (y_assign hs rfl) rfl ?_; intro a hs
      refine wpList_nil ?_
      refine x_nt ?_
      refine wp_seq ?_
      refine wp_region_lit ?_
      refine wl hs (y_move hs rfl) rfl ?_; intro a hs
      refine wl hs (y_move hs rfl) rfl ?_; intro a hs
      obtain ⟨y21, h22, hm⟩ := bindE hm
      refine wcall is_13 hs rfl rfl (laws_heldIntSS_any v11 y18.2 1 _ (hM.rdM 0 rfl) h22) ?_; rintro a _ w hs ⟨rfl, hX⟩
      have hM : Mem W w [aMat 33 3 v11 vs20 y18.2, aMat 33 3 v5 vs6 y1.1] := hM.call hX
      refine wl hs (y_assign hs rfl) rfl ?_; intro a hs
      refine wpList_nil ?_
      refine x_nt ?_
      refine wp_seq ?_
      refine wp_seq ?_
      refine wp_region_lit ?_
      refine wl hs (y_move hs rfl) rfl ?_; intro a hs
      refine wl hs (y_lss hs rfl rfl) rfl ?_; intro a hs
      refine wpList_nil ?_
      refine x_nt ?_
      refine x_cond hs rfl (fun hb => ?_) (fun hb => ?_)
      · replace hm := condT hb hm
        refine wp_seq ?_
        refine wp_region_lit ?_
        refine wl hs (y_assign hs rfl) rfl ?_; intro a hs
        refine wpList_nil ?_
        refine x_nt ?_
        refine wp_ret ?_
        refine x_rt ?_
        have hm : some false = some r := hm
        obtain rfl := Option.some.inj hm
        refine x_ret1 rfl hs rfl ⟨_, rfl, ?_⟩
        exact ⟨rfl, hM.none_⟩
      · replace hm := condF hb hm
        refine wp_skip ?_
        refine x_nt ?_
        refine wp_seq ?_
        refine wp_seq ?_
        refine wp_region_lit ?_
        refine wl hs (y_move hs rfl) rfl ?_; intro a hs
        refine wl hs (y_move hs rfl) rfl ?_; intro a hs
        refine wl hs (y_neq hs rfl rfl) rfl ?_; intro a hs
        refine wpList_nil ?_
        refine x_nt ?_
        refine x_cond hs rfl (fun hb => ?_) (fun hb => ?_)
        · replace hm := condT hb hm
          refine wp_seq ?_
          refine wp_region_lit ?_
          refine wl hs (y_assign hs rfl) rfl ?_; intro a hs
          refine wpList_nil ?_
          refine x_nt ?_
          refine wp_ret ?_
          refine x_rt ?_
          have hm : some false = some r := hm
          obtain rfl := Option.some.inj hm
          refine x_ret1 rfl hs rfl ⟨_, rfl, ?_⟩
          exact ⟨rfl, hM.none_⟩
        · replace hm := condF hb hm
          refine wp_skip ?_
          refine x_nt ?_
          refine wp_seq ?_
          refine wp_region_lit ?_
          refine wl hs (y_move hs rfl) rfl ?_; intro a hs
          obtain ⟨y23, h24, hm⟩ := bindE hm
          refine wcall is_11 hs rfl rfl (impl_ParseMatrix_any p0 _ (hT.below hM.bel) h24) ?_; rintro a _ w hs ⟨v27, vs28, rfl, hX⟩
          have hM : Mem W w [aMat 33 3 v27 vs28 y23.1, aMat 33 3 v11 vs20 y18.2, aMat 33 3 v5 vs6 y1.1] := hM.call hX
          refine wl hs (y_move hs rfl) rfl ?_; intro a hs
          refine wl hs (y_extract hs rfl rfl) rfl ?_; intro a hs
          refine wl hs (y_extract hs rfl rfl) rfl ?_; intro a hs
          refine wl hs (y_assign hs rfl) rfl ?_; intro a hs
          refine wl hs (y_assign hs rfl) rfl ?_; intro a hs
          refine wpList_nil ?_
          refine x_nt ?_
          refine wp_seq ?_
          refine wp_seq ?_
          refine wp_region_lit ?_
          refine wl hs (y_move hs rfl) rfl ?_; intro a hs
          refine wl hs (y_move hs rfl) rfl ?_; intro a hs
          obtain ⟨y29, h30, hm⟩ := bindE hm
          refine wcall is_9 hs rfl rfl (laws_eqIntSS_any v27 y23.1 v5 y1.1 _ (hM.rdM 0 rfl) (hM.rdM 2 rfl) h30) ?_; rintro a _ w hs ⟨rfl, hX⟩
          have hM : Mem W w [aMat 33 3 v27 vs28 y23.1, aMat 33 3 v11 vs20 y18.2, aMat 33 3 v5 vs6 y1.1] := hM.call hX
          refine wl hs (y_not hs rfl) rfl ?_; intro a hs
          refine wl hs (y_move hs rfl) rfl ?_; intro a hs
          obtain ⟨b31, hb32, hm⟩ := bindE hm
          refine wlguard (N := 66) (L' := [(57, .bool b31), (5, v11), (7, .int .i64 y18.1)]) (fun w => Mem W w [aMat 33 3 v27 vs28 y23.1, aMat 33 3 v11 vs20 y18.2, aMat 33 3 v5 vs6 y1.1]) 4 ?_ ?_
          · intro K; rcases Bool.eq_false_or_eq_true (!y29) with hg33 | hg33
            · have hm := condT hg33 hb32
              refine wls hs rfl hg33 rfl ?_; intro a hs
              refine wls hs rfl hg33 rfl ?_; intro a hs
              refine wls hs rfl hg33 rfl ?_; intro a hs
              have hm : some true = some b31 := hm
              cases Option.some.inj hm
              refine wl hs (y_pickT hs rfl hg33 rfl) rfl ?_; intro a hs
              exact K _ _ (hs.sub ⟨rfl, rfl, rfl, trivial⟩) hM
            · have hm := condF hg33 hb32
              refine wlg hs rfl hg33 (y_move hs rfl) rfl ?_; intro a hs
              refine wlg hs rfl hg33 (y_move hs rfl) rfl ?_; intro a hs
              refine wlg hs rfl hg33 (y_neqB hu_bool hs rfl rfl) rfl ?_; intro a hs
              have hm : some (y23.2 != y1.2) = some b31 := hm
              cases Option.some.inj hm
              refine wl hs (y_pickF hs rfl hg33 rfl) rfl ?_; intro a hs
              exact K _ _ (hs.sub ⟨rfl, rfl, rfl, trivial⟩) hM
          intro a w hs hM
          simp only [List.drop_succ_cons, List.drop_zero]
          refine wpList_nil ?_
          refine x_nt ?_
          refine x_cond hs rfl (fun hb => ?_) (fun hb => ?_)
          · replace hm := condT hb hm
            refine wp_seq ?_
            refine wp_region_lit ?_
            refine wl hs (y_assign hs rfl) rfl ?_; intro a hs
            refine wpList_nil ?_
            refine x_nt ?_
            refine wp_ret ?_
            refine x_rt ?_
            have hm : some false = some r := hm
            obtain rfl := Option.some.inj hm
            refine x_ret1 rfl hs rfl ⟨_, rfl, ?_⟩
            exact ⟨rfl, hM.none_⟩
          · replace hm := condF hb hm
            refine wp_skip ?_
            refine x_nt ?_
            refine wp_seq ?_
            refine wp_region_lit ?_
            refine wl hs (y_assign hs rfl) rfl ?_; intro a hs
            refine wpList_nil ?_
            refine x_nt ?_
            refine wp_seq ?_
            refine wp_region_lit ?_
            refine wl hs (y_move hs rfl) rfl ?_; intro a hs
            refine wl hs (y_move hs rfl) rfl ?_; intro a hs
            obtain ⟨y34, h35, hm⟩ := bindE hm
            refine wcall is_13 hs rfl rfl (laws_heldIntSS_any v11 y18.2 1 _ (hM.rdM 1 rfl) h35) ?_; rintro a _ w hs ⟨rfl, hX⟩
            have hM : Mem W w [aMat 33 3 v27 vs28 y23.1, aMat 33 3 v11 vs20 y18.2, aMat 33 3 v5 vs6 y1.1] := hM.call hX
            refine wl hs (y_assign hs rfl) rfl ?_; intro a hs
            refine wpList_nil ?_
            refine x_nt ?_
            refine wp_seq ?_
            refine wp_seq ?_
            refine wp_region_lit ?_
            refine wl hs (y_move hs rfl) rfl ?_; intro a hs
            refine wl hs (y_lss hs rfl rfl) rfl ?_; intro a hs
            refine wpList_nil ?_
            refine x_nt ?_
            refine x_cond hs rfl (fun hb => ?_) (fun hb => ?_)
            · replace hm := condT hb hm
              refine wp_seq ?_
              refine wp_region_lit ?_
              refine wl hs (y_assign hs rfl) rfl ?_; intro a hs
              refine wpList_nil ?_
              refine x_nt ?_
              refine wp_ret ?_
              refine x_rt ?_
              have hm : some false = some r := hm
              obtain rfl := Option.some.inj hm
              refine x_ret1 rfl hs rfl ⟨_, rfl, ?_⟩
              exact ⟨rfl, hM.none_⟩
            · replace hm := condF hb hm
              refine wp_skip ?_
              refine x_nt ?_
              refine wp_seq ?_
              refine wp_seq ?_
              refine wp_region_lit ?_
              refine wl hs (y_move hs rfl) rfl ?_; intro a hs
              refine wl hs (y_move hs rfl) rfl ?_; intro a hs
              refine wl hs (y_neq hs rfl rfl) rfl ?_; intro a hs
              refine wpList_nil ?_
              refine x_nt ?_
              refine x_cond hs rfl (fun hb => ?_) (fun hb => ?_)
              · replace hm := condT hb hm
                refine wp_seq ?_
                refine wp_region_lit ?_
                refine wl hs (y_assign hs rfl) rfl ?_; intro a hs
                refine wpList_nil ?_
                refine x_nt ?_
                refine wp_ret ?_
                refine x_rt ?_
                have hm : some false = some r := hm
                obtain rfl := Option.some.inj hm
                refine x_ret1 rfl hs rfl ⟨_, rfl, ?_⟩
                exact ⟨rfl, hM.none_⟩
              · replace hm := condF hb hm
                refine wp_skip ?_
                refine x_nt ?_
                refine wp_seq ?_
                refine wp_region_lit ?_
                refine wl hs (y_assign hs rfl) rfl ?_; intro a hs
                refine wpList_nil ?_
                refine x_nt ?_
                refine wp_ret ?_
                have hm : some true = some r := hm
                obtain rfl := Option.some.inj hm
                refine x_ret1 rfl hs rfl ⟨_, rfl, ?_⟩
                exact ⟨rfl, hM.none_⟩

end Go.Proofs.YtcglmncmnlkpmaaDoor
