/- The code of this unit computes what its mirrors say. Written by program (wip/gen). -/
import Derived.Test.YtaagklbiebogfaaFacts
import Derived.Test.YtaagklbiebogfaaBestM
import Derived.Test.YtaagklbiebogfaaNumW
namespace Go.Proofs.Ytaagklbiebogfaa
open Go.RowKit
set_option linter.unusedVariables false

set_option maxHeartbeats 4000000 in
theorem spec_mxBest_rec : ∀ (k : Nat) (v_p0 : Value) (p0 : List (List Int)) (p1 : Int) (v_p2 : Value) (p2 : List Int) (p3 : Int) (W : World) (hr_p0 : RdM W v_p0 p0) (hr_p2 : RdI W v_p2 p2) {r : Int × Int} (hm : spec_mxBest_r k p0 p1 p2 p3 = some r), Calls Try.prog 105 [v_p0, .int .i64 p1, v_p2, .int .i64 p3].toArray W fun e w => ∃ v, e = .returned v ∧ v = .tuple #[.int .i64 r.1, .int .i64 r.2] ∧ Mem W w [] := by
  intro k
  induction k with
  | zero => intro v_p0 p0 p1 v_p2 p2 p3 W hr_p0 hr_p2 r hm; have hm : none = some r := hm; cases hm
  | succ k ih =>
  intro v_p0 p0 p1 v_p2 p2 p3 W hr_p0 hr_p2 r hm
  have hm : spec_mxBest_b (spec_mxBest_r k) p0 p1 p2 p3 = some r := hm
  generalize spec_mxBest_r k = rec at hm ih
  refine x_enter Try.func105 rfl Try.ntmps105 rfl ?_
  intro a hs
  have hM := Mem.start W
  unfold spec_mxBest_b at hm
  refine wp_seq ?_
  refine wp_region_lit ?_
  refine wl hs (y_assign hs rfl) rfl ?_; intro a hs
  refine wl hs (y_assign hs rfl) rfl ?_; intro a hs
  refine wpList_nil ?_
  refine x_nt ?_
  refine wp_seq ?_
  refine wp_seq ?_
  refine wp_region_lit ?_
  refine wl hs (y_move hs rfl) rfl ?_; intro a hs
  refine wl hs (y_move hs rfl) rfl ?_; intro a hs
  refine wl hs (y_len hu_M hs rfl (RdM.below hr_p0 hM.bel)) rfl ?_; intro a hs
  refine wl hs (y_eql hs rfl rfl) rfl ?_; intro a hs
  refine wpList_nil ?_
  refine x_nt ?_
  refine x_cond hs rfl (fun hb => ?_) (fun hb => ?_)
  · replace hm := condT hb hm
    refine wp_seq ?_
    refine wp_region_lit ?_
    refine wl hs (y_move hs rfl) rfl ?_; intro a hs
    refine wl hs (y_assign hs rfl) rfl ?_; intro a hs
    refine wl hs (y_assign hs rfl) rfl ?_; intro a hs
    refine wpList_nil ?_
    refine x_nt ?_
    refine wp_ret ?_
    refine x_rt ?_
    have hm : some (p3, 1) = some r := hm
    obtain rfl := Option.some.inj hm
    refine x_ret2 rfl hs rfl rfl ⟨_, rfl, ?_⟩
    exact ⟨rfl, hM⟩
  · replace hm := condF hb hm
    refine wp_skip ?_
    refine x_nt ?_
    refine wp_seq ?_
    refine wp_region_lit ?_
    refine wl hs (y_assign hs rfl) rfl ?_; intro a hs
    refine wl hs (y_assign hs rfl) rfl ?_; intro a hs
    refine wpList_nil ?_
    refine x_nt ?_
    refine wp_seq ?_
    refine wp_seq ?_
    refine wp_region_lit ?_
    refine wl hs (y_move hs rfl) rfl ?_; intro a hs
    refine wl hs (y_move hs rfl) rfl ?_; intro a hs
    obtain ⟨x1, hx2, hm⟩ := bindE hm
    obtain ⟨u4, he3, hr5⟩ := RdM.at_ hr_p0 hx2
    replace he3 := he3.below hM.bel
    refine wl hs (y_index ht_M hs rfl rfl he3) rfl ?_; intro a hs
    refine wl hs (y_load sc_I hs rfl he3.cell) rfl ?_; intro a hs
    refine wl hs (y_len hu_I hs rfl (RdI.below hr5 hM.bel)) rfl ?_; intro a hs
    refine wl hs (y_move hs rfl) rfl ?_; intro a hs
    refine wpList_nil ?_
    refine x_nt ?_
    obtain ⟨s11, hm, hk12⟩ := bindE hm
    refine x_mid (fun a w => ∃ (n9 : Int), ∃ (n10 : Int), (n9, n10) = s11 ∧ Fr a 65 [(10, .int .i64 n9), (11, .int .i64 n10)] ∧ Mem W w []) ?_ ?_
    · refine wp_block ?_
      refine x_loop (fun k a w => ∃ (q13 : List Int) (j6 : Nat) (n7 : Int) (n8 : Int) , k = q13.length ∧ Fr a 65 [(0, v_p0), (1, .int .i64 p1), (2, v_p2), (3, .int .i64 p3), (10, .int .i64 n7), (11, .int .i64 n8), (24, u4), (25, .int .i64 (x1.length : Int)), (26, .int .i64 (j6 : Int))] ∧ Mem W w [] ∧ spec_mxBest_l1 p0 p1 p2 p3 rec q13 j6 n7 n8 = some s11 ∧ List.drop j6 x1 = q13) _ ⟨x1, 0, 1000000000, 0, rfl, hs.sub ⟨rfl, rfl, rfl, rfl, rfl, rfl, rfl, rfl, rfl, trivial⟩, hM, hm, rfl⟩ ?_
      rintro k a w ⟨q13, j6, n7, n8, rfl, hs, hM, hm, hj6⟩
      rcases q13 with _ | ⟨x14, q13⟩
      · rewrite [spec_mxBest_l1] at hm
        refine wp_seq ?_
        refine wp_region_lit ?_
        refine wl hs (y_lss hs rfl rfl) rfl ?_; intro a hs
        refine wpList_nil ?_
        refine x_nt ?_
        refine wp_seq ?_
        refine x_condF hs rfl (drop_f hj6) ?_
        refine wp_exit ?_
        refine x_et ?_
        refine x_et ?_
        refine x_eb ?_
        have hm : some (n7, n8) = some s11 := hm
        exact ⟨n7, n8, Option.some.inj hm, hs.sub ⟨rfl, rfl, trivial⟩, hM⟩
      · rewrite [spec_mxBest_l1] at hm
        have hx15 := drop_idx hj6
        have hsj6 := ck_succ hj6 (RdS.len (RdI.below hr5 hM.bel))
        refine wp_seq ?_
        refine wp_region_lit ?_
        refine wl hs (y_lss hs rfl rfl) rfl ?_; intro a hs
        refine wpList_nil ?_
        refine x_nt ?_
        refine wp_seq ?_
        refine x_condT hs rfl (drop_t hj6) ?_
        refine wp_skip ?_
        refine x_nt ?_
        refine wp_seq ?_
        refine wp_block ?_
        refine wp_seq ?_
        refine wp_region_lit ?_
        refine wl hs (y_move hs rfl) rfl ?_; intro a hs
        have he16 := RdI.at_ (RdI.below hr5 hM.bel) hx15
        refine wl hs (y_index ht_I hs rfl rfl he16) rfl ?_; intro a hs
        refine wl hs (y_load sc_int hs rfl he16.cell) rfl ?_; intro a hs
        refine wl hs (y_assign hs rfl) rfl ?_; intro a hs
        refine wl hs (y_assign hs rfl) rfl ?_; intro a hs
        refine wpList_nil ?_
        refine x_nt ?_
        refine wp_seq ?_
        refine wp_seq ?_
        refine wp_region_lit ?_
        refine wl hs (y_move hs rfl) rfl ?_; intro a hs
        refine wl hs (y_move hs rfl) rfl ?_; intro a hs
        obtain ⟨y17, h18, hm⟩ := bindE hm
        refine wcall is_134 hs rfl rfl (spec_l1Has_any v_p2 p2 (j6 : Int) _ (RdI.below hr_p2 hM.bel) h18) ?_; rintro a _ w hs ⟨rfl, hX⟩
        have hM : Mem W w [] := hM.call hX
        refine wpList_nil ?_
        refine x_nt ?_
        refine x_cond hs rfl (fun hb => ?_) (fun hb => ?_)
        · replace hm := condT hb hm
          refine wp_exit ?_
          refine x_et ?_
          refine x_eb ?_
          refine x_nt ?_
          refine wp_region_lit ?_
          refine wl hs (y_add hs rfl rfl hsj6) rfl ?_; intro a hs
          refine wl hs (y_move hs rfl) rfl ?_; intro a hs
          refine wpList_nil ?_
          exact ⟨_, by simp, q13, j6 + 1, n7, n8, rfl, hs.sub ⟨rfl, rfl, rfl, rfl, rfl, rfl, rfl, rfl, rfl, trivial⟩, hM, hm, drop_next hj6⟩
        · replace hm := condF hb hm
          refine wp_skip ?_
          refine x_nt ?_
          refine wp_seq ?_
          refine wp_region_lit ?_
          refine wl hs (y_move hs rfl) rfl ?_; intro a hs
          refine wl hs (y_move hs rfl) rfl ?_; intro a hs
          obtain ⟨n19, h20, hm⟩ := bindE hm
          refine wl hs (y_add hs rfl rfl h20) rfl ?_; intro a hs
          refine wl hs (y_move hs rfl) rfl ?_; intro a hs
          obtain ⟨y21, h22, hm⟩ := bindE hm
          refine wcall is_135 hs rfl rfl (spec_l1Own_any v_p2 p2 _ (RdI.below hr_p2 hM.bel) h22) ?_; rintro a v23 w hs hX
          have hM : Mem W w [aInts 3 v23 y21] := hM.call hX
          refine wl hs (y_move hs rfl) rfl ?_; intro a hs
          obtain ⟨l25, h26, hm⟩ := bindE hm
          refine wappI hu_I he_int hs hM rfl rfl h26 rfl rfl rfl ?_; intro a v27 w u28 hs hM
          have hM : Mem W w [aInts 3 v27 l25] := hM
          refine wl hs (y_move hs rfl) rfl ?_; intro a hs
          refine wl hs (y_move hs rfl) rfl ?_; intro a hs
          obtain ⟨y29, h30, hm⟩ := bindE hm
          refine wcall is_136 hs rfl rfl (spec_nuPlus_any p3 x14 _  h30) ?_; rintro a _ w hs ⟨rfl, hX⟩
          have hM : Mem W w [aInts 3 v27 l25] := hM.call hX
          obtain ⟨y31, h32, hm⟩ := bindE hm
          refine wcall is_105 hs rfl rfl (ih v_p0 p0 n19 v27 l25 y29 _ (RdM.below hr_p0 hM.bel) (hM.rdI 0 rfl) h32) ?_; rintro a _ w hs ⟨rfl, hX⟩
          have hM : Mem W w [aInts 3 v27 l25] := hM.call hX
          refine wl hs (y_move hs rfl) rfl ?_; intro a hs
          refine wl hs (y_extract hs rfl rfl) rfl ?_; intro a hs
          refine wl hs (y_extract hs rfl rfl) rfl ?_; intro a hs
          refine wl hs (y_assign hs rfl) rfl ?_; intro a hs
          refine wl hs (y_assign hs rfl) rfl ?_; intro a hs
          refine wpList_nil ?_
          refine x_nt ?_
          refine wp_block ?_
          refine wp_seq ?_
          refine wp_region_lit ?_
          refine wl hs (y_move hs rfl) rfl ?_; intro a hs
          refine wl hs (y_move hs rfl) rfl ?_; intro a hs
          refine wl hs (y_lss hs rfl rfl) rfl ?_; intro a hs
          refine wl hs (y_assign hs rfl) rfl ?_; intro a hs
          refine wpList_nil ?_
          refine x_nt ?_
          refine x_cond hs rfl (fun hb => ?_) (fun hb => ?_)
          · replace hm := condT hb hm
            refine wp_seq ?_
            refine wp_region_lit ?_
            refine wl hs (y_move hs rfl) rfl ?_; intro a hs
            refine wl hs (y_assign hs rfl) rfl ?_; intro a hs
            refine wpList_nil ?_
            refine x_nt ?_
            refine wp_region_lit ?_
            refine wl hs (y_move hs rfl) rfl ?_; intro a hs
            refine wl hs (y_assign hs rfl) rfl ?_; intro a hs
            refine wpList_nil ?_
            refine x_nb ?_
            refine x_nb ?_
            refine x_nt ?_
            refine wp_region_lit ?_
            refine wl hs (y_add hs rfl rfl hsj6) rfl ?_; intro a hs
            refine wl hs (y_move hs rfl) rfl ?_; intro a hs
            refine wpList_nil ?_
            exact ⟨_, by simp, q13, j6 + 1, y31.1, y31.2, rfl, hs.sub ⟨rfl, rfl, rfl, rfl, rfl, rfl, rfl, rfl, rfl, trivial⟩, hM.none_, hm, drop_next hj6⟩
          · replace hm := condF hb hm
            refine wp_seq ?_
            refine wp_region_lit ?_
            refine wl hs (y_move hs rfl) rfl ?_; intro a hs
            refine wl hs (y_move hs rfl) rfl ?_; intro a hs
            refine wl hs (y_eql hs rfl rfl) rfl ?_; intro a hs
            refine wl hs (y_assign hs rfl) rfl ?_; intro a hs
            refine wpList_nil ?_
            refine x_nt ?_
            refine x_cond hs rfl (fun hb => ?_) (fun hb => ?_)
            · replace hm := condT hb hm
              refine wp_region_lit ?_
              refine wl hs (y_move hs rfl) rfl ?_; intro a hs
              refine wl hs (y_move hs rfl) rfl ?_; intro a hs
              obtain ⟨n33, h34, hm⟩ := bindE hm
              refine wl hs (y_add hs rfl rfl h34) rfl ?_; intro a hs
              refine wl hs (y_assign hs rfl) rfl ?_; intro a hs
              refine wpList_nil ?_
              refine x_nb ?_
              refine x_nb ?_
              refine x_nt ?_
              refine wp_region_lit ?_
              refine wl hs (y_add hs rfl rfl hsj6) rfl ?_; intro a hs
              refine wl hs (y_move hs rfl) rfl ?_; intro a hs
              refine wpList_nil ?_
              exact ⟨_, by simp, q13, j6 + 1, n7, n33, rfl, hs.sub ⟨rfl, rfl, rfl, rfl, rfl, rfl, rfl, rfl, rfl, trivial⟩, hM.none_, hm, drop_next hj6⟩
            · replace hm := condF hb hm
              refine wp_skip ?_
              refine x_nb ?_
              refine x_nb ?_
              refine x_nt ?_
              refine wp_region_lit ?_
              refine wl hs (y_add hs rfl rfl hsj6) rfl ?_; intro a hs
              refine wl hs (y_move hs rfl) rfl ?_; intro a hs
              refine wpList_nil ?_
              exact ⟨_, by simp, q13, j6 + 1, n7, n8, rfl, hs.sub ⟨rfl, rfl, rfl, rfl, rfl, rfl, rfl, rfl, rfl, trivial⟩, hM.none_, hm, drop_next hj6⟩
    rintro a w ⟨n9, n10, rfl, hs, hM⟩
    have hm := hk12
    refine x_nt ?_
    refine wp_seq ?_
    refine wp_region_lit ?_
    refine wl hs (y_move hs rfl) rfl ?_; intro a hs
    refine wl hs (y_move hs rfl) rfl ?_; intro a hs
    refine wl hs (y_assign hs rfl) rfl ?_; intro a hs
    refine wl hs (y_assign hs rfl) rfl ?_; intro a hs
    refine wpList_nil ?_
    refine x_nt ?_
    refine wp_ret ?_
    have hm : some (n9, n10) = some r := hm
    obtain rfl := Option.some.inj hm
    refine x_ret2 rfl hs rfl rfl ⟨_, rfl, ?_⟩
    exact ⟨rfl, hM⟩
theorem spec_mxBest_any (v_p0 : Value) (p0 : List (List Int)) (p1 : Int) (v_p2 : Value) (p2 : List Int) (p3 : Int) (W : World) (hr_p0 : RdM W v_p0 p0) (hr_p2 : RdI W v_p2 p2) {r : Int × Int} (hm : spec_mxBest_m p0 p1 p2 p3 = some r) : Calls Try.prog 105 [v_p0, .int .i64 p1, v_p2, .int .i64 p3].toArray W fun e w => ∃ v, e = .returned v ∧ v = .tuple #[.int .i64 r.1, .int .i64 r.2] ∧ Mem W w [] := spec_mxBest_rec 64 v_p0 p0 p1 v_p2 p2 p3 W hr_p0 hr_p2 hm

end Go.Proofs.Ytaagklbiebogfaa
