/- The code of this unit computes what its mirrors say. Written by program (wip/gen). -/
import Derived.Test.YtjicdfplhenohaaFacts
import Derived.Test.YtjicdfplhenohaaCircM
import Derived.Test.YtjicdfplhenohaaNumW
import Derived.Test.YtjicdfplhenohaaMatW
namespace Go.Proofs.Ytjicdfplhenohaa
open Go.RowKit
set_option linter.unusedVariables false

theorem spec_wyCircuit_rec : ∀ (k : Nat) (v_p0 : Value) (p0 : List (List Int)) (v_p1 : Value) (p1 : List Int)  (p2 : Int) (p3 : Int) (W w : World) (As : List Atom) (hr_p0 : RdM W v_p0 p0) (hM : Mem W w (aInts 3 v_p1 p1 :: As)) {r : (List Int) × Bool} (hm : spec_wyCircuit_r k p0 p1 p2 p3 = some r), Calls Try.prog 84 [v_p0, v_p1, .int .i64 p2, .int .i64 p3].toArray w fun e w' => ∃ v, e = .returned v ∧ ∃ v0, v = .tuple #[v0, .bool r.2] ∧ Mem W w' (aInts 3 v0 r.1 :: As) := by
  intro k
  induction k with
  | zero => intro v_p0 p0 v_p1 p1 p2 p3 W w As hr_p0 hM r hm; have hm : none = some r := hm; cases hm
  | succ k ih =>
  intro v_p0 p0 v_p1 p1 p2 p3 W w As hr_p0 hM r hm
  have hm : spec_wyCircuit_b (spec_wyCircuit_r k) p0 p1 p2 p3 = some r := hm
  generalize spec_wyCircuit_r k = rec at hm ih
  refine x_enter Try.func84 rfl Try.ntmps84 rfl ?_
  intro a hs
  unfold spec_wyCircuit_b at hm
  refine wp_seq ?_
  refine wp_region_lit ?_
  refine wl hs (y_assign hs rfl) rfl ?_; intro a hs
  refine wl hs (y_assign hs rfl) rfl ?_; intro a hs
  refine wpList_nil ?_
  refine x_nt ?_
  refine wp_seq ?_
  refine wp_region_lit ?_
  refine wl hs (y_move hs rfl) rfl ?_; intro a hs
  refine wl hs (y_move hs rfl) rfl ?_; intro a hs
  refine wl hs (y_len hu_I hs rfl (hM.rdI 0 rfl)) rfl ?_; intro a hs
  obtain ⟨n1, h2, hm⟩ := bindE hm
  refine wl hs (y_sub hs rfl rfl h2) rfl ?_; intro a hs
  obtain ⟨x3, hx4, hm⟩ := bindE hm
  have he5 := RdI.at_ (hM.rdI 0 rfl) hx4
  refine wl hs (y_index ht_I hs rfl rfl he5) rfl ?_; intro a hs
  refine wl hs (y_load sc_int hs rfl he5.cell) rfl ?_; intro a hs
  refine wl hs (y_assign hs rfl) rfl ?_; intro a hs
  refine wpList_nil ?_
  refine x_nt ?_
  refine wp_seq ?_
  refine wp_seq ?_
  refine wp_region_lit ?_
  refine wl hs (y_move hs rfl) rfl ?_; intro a hs
  refine wl hs (y_len hu_I hs rfl (hM.rdI 0 rfl)) rfl ?_; intro a hs
  refine wl hs (y_move hs rfl) rfl ?_; intro a hs
  refine wl hs (y_eql hs rfl rfl) rfl ?_; intro a hs
  refine wpList_nil ?_
  refine x_nt ?_
  refine x_cond hs rfl (fun hb => ?_) (fun hb => ?_)
  · replace hm := condT hb hm
    refine wp_seq ?_
    refine x_regq hmix (by kernel_rfl) ?_
    refine wq hs (fun w1 hw1 => y_move hs rfl) rfl ?_; intro a hs
    refine wq hs (fun w1 hw1 => y_move hs rfl) rfl ?_; intro a hs
    refine wq hs (fun w1 hw1 => y_move hs rfl) rfl ?_; intro a hs
    refine wq hs (fun w1 hw1 => y_move hs rfl) rfl ?_; intro a hs
    obtain ⟨x6, hx7, hm⟩ := bindE hm
    obtain ⟨u9, he8, hr10⟩ := RdM.at_ hr_p0 hx7
    replace he8 := he8.below hM.bel
    refine wq hs (fun w1 hw1 => y_index ht_M hs rfl rfl (he8.below hw1)) rfl ?_; intro a hs
    refine wq hs (fun w1 hw1 => y_load sc_I hs rfl (he8.below hw1).cell) rfl ?_; intro a hs
    refine wq hs (fun w1 hw1 => y_move hs rfl) rfl ?_; intro a hs
    obtain ⟨x11, hx12, hm⟩ := bindE hm
    have he13 := RdI.at_ (hM.rdI 0 rfl) hx12
    refine wq hs (fun w1 hw1 => y_index ht_I hs rfl rfl (he13.below hw1)) rfl ?_; intro a hs
    refine wq hs (fun w1 hw1 => y_load sc_int hs rfl (he13.below hw1).cell) rfl ?_; intro a hs
    obtain ⟨x14, hx15, hm⟩ := bindE hm
    have he16 := RdI.at_ (RdI.below hr10 hM.bel) hx15
    refine wq hs (fun w1 hw1 => y_index ht_I hs rfl rfl (he16.below hw1)) rfl ?_; intro a hs
    refine wq hs (fun w1 hw1 => y_load sc_int hs rfl (he16.below hw1).cell) rfl ?_; intro a hs
    obtain ⟨y17, h18, hm⟩ := bindE hm
    refine qcall (v := .int .i64 y17) is_77 hs rfl rfl (fun w1 hw1 => q_of hw1 (spec_nuPlus_any p2 x14 w1  h18)) ?_; intro a hs
    refine wq hs (fun w1 hw1 => y_lss hs rfl rfl) rfl ?_; intro a hs
    refine wq hs (fun w1 hw1 => y_assign hs rfl) rfl ?_; intro a hs
    refine wq hs (fun w1 hw1 => y_assign hs rfl) rfl ?_; intro a hs
    refine wpQuiet_nil ?_
    intro w hw
    replace hM := hM.quiet hw
    refine x_nt ?_
    refine wp_ret ?_
    refine x_rt ?_
    have hm : some (p1, decide (y17 < 0)) = some r := hm
    obtain rfl := Option.some.inj hm
    refine x_ret2 rfl hs rfl rfl ⟨_, rfl, ?_⟩
    exact ⟨_, rfl, hM⟩
  · replace hm := condF hb hm
    refine wp_skip ?_
    refine x_nt ?_
    refine wp_seq ?_
    refine wp_seq ?_
    refine wp_region_lit ?_
    refine wl hs (y_move hs rfl) rfl ?_; intro a hs
    obtain ⟨x19, hx20, hm⟩ := bindE hm
    have he21 := RdI.at_ (hM.rdI 0 rfl) hx20
    refine wl hs (y_index ht_I hs rfl rfl he21) rfl ?_; intro a hs
    refine wl hs (y_load sc_int hs rfl he21.cell) rfl ?_; intro a hs
    obtain ⟨n22, h23, hm⟩ := bindE hm
    refine wl hs (y_add hs rfl rfl h23) rfl ?_; intro a hs
    refine wl hs (y_assign hs rfl) rfl ?_; intro a hs
    refine wpList_nil ?_
    refine x_nt ?_
    obtain ⟨s25, hm, hk26⟩ := bindE hm
    refine x_mid (fun a w => Sum.inr () = s25 ∧ Fr a 82 [] ∧ Mem W w (As)) ?_ ?_
    · refine wp_block ?_
      refine x_loop (fun k a w => ∃ (n24 : Int) , Fr a 82 [(0, v_p0), (1, v_p1), (2, .int .i64 p2), (3, .int .i64 p3), (10, .int .i64 x3), (11, .int .i64 n24)] ∧ Mem W w (aInts 3 v_p1 p1 :: As) ∧ spec_wyCircuit_l1 p0 p1 p2 p3 rec x3 k n24 = some s25) 4000000 ⟨n22, hs.sub ⟨rfl, rfl, rfl, rfl, rfl, rfl, trivial⟩, hM, hm⟩ ?_
      rintro k a w ⟨n24, hs, hM, hm⟩
      rcases k with _ | k
      · rewrite [spec_wyCircuit_l1] at hm; cases hm
      rewrite [spec_wyCircuit_l1] at hm
      refine wp_seq ?_
      refine wp_seq ?_
      refine wp_region_lit ?_
      refine wl hs (y_move hs rfl) rfl ?_; intro a hs
      refine wl hs (y_move hs rfl) rfl ?_; intro a hs
      refine wl hs (y_len hu_M hs rfl (RdM.below hr_p0 hM.bel)) rfl ?_; intro a hs
      refine wl hs (y_lss hs rfl rfl) rfl ?_; intro a hs
      refine wpList_nil ?_
      refine x_nt ?_
      refine x_cond hs rfl (fun hb => ?_) (fun hb => ?_)
      · replace hm := condT hb hm
        refine wp_skip ?_
        refine x_nt ?_
        refine wp_seq ?_
        refine wp_block ?_
        refine wp_seq ?_
        refine wp_seq ?_
        refine wp_region_lit ?_
        refine wl hs (y_move hs rfl) rfl ?_; intro a hs
        refine wl hs (y_move hs rfl) rfl ?_; intro a hs
        obtain ⟨y28, h29, hm⟩ := bindE hm
        refine wcall is_101 hs rfl rfl (spec_l1Has_any v_p1 p1 n24 _ (hM.rdI 0 rfl) h29) ?_; rintro a _ w hs ⟨rfl, hX⟩
        have hM : Mem W w (aInts 3 v_p1 p1 :: As) := hM.call hX
        refine wl hs (y_move hs rfl) rfl ?_; intro a hs
        obtain ⟨b30, hb31, hm⟩ := bindE hm
        refine wlguard (N := 82) (L' := [(59, .bool b30), (0, v_p0), (1, v_p1), (2, .int .i64 p2), (3, .int .i64 p3), (10, .int .i64 x3), (11, .int .i64 n24)]) (fun w => Mem W w (aInts 3 v_p1 p1 :: As)) 9 ?_ ?_
        · intro K; rcases Bool.eq_false_or_eq_true y28 with hg32 | hg32
          · have hm := condT hg32 hb31
            refine wls hs rfl hg32 rfl ?_; intro a hs
            refine wls hs rfl hg32 rfl ?_; intro a hs
            refine wls hs rfl hg32 rfl ?_; intro a hs
            refine wls hs rfl hg32 rfl ?_; intro a hs
            refine wls hs rfl hg32 rfl ?_; intro a hs
            refine wls hs rfl hg32 rfl ?_; intro a hs
            refine wls hs rfl hg32 rfl ?_; intro a hs
            refine wls hs rfl hg32 rfl ?_; intro a hs
            have hm : some true = some b30 := hm
            cases Option.some.inj hm
            refine wl hs (y_pickT hs rfl hg32 rfl) rfl ?_; intro a hs
            exact K _ _ (hs.sub ⟨rfl, rfl, rfl, rfl, rfl, rfl, rfl, trivial⟩) hM
          · have hm := condF hg32 hb31
            refine wlg hs rfl hg32 (y_move hs rfl) rfl ?_; intro a hs
            refine wlg hs rfl hg32 (y_move hs rfl) rfl ?_; intro a hs
            obtain ⟨x33, hx34, hm⟩ := bindE hm
            obtain ⟨u36, he35, hr37⟩ := RdM.at_ hr_p0 hx34
            replace he35 := he35.below hM.bel
            refine wlg hs rfl hg32 (y_index ht_M hs rfl rfl he35) rfl ?_; intro a hs
            refine wlg hs rfl hg32 (y_load sc_I hs rfl he35.cell) rfl ?_; intro a hs
            refine wlg hs rfl hg32 (y_move hs rfl) rfl ?_; intro a hs
            obtain ⟨x38, hx39, hm⟩ := bindE hm
            have he40 := RdI.at_ (RdI.below hr37 hM.bel) hx39
            refine wlg hs rfl hg32 (y_index ht_I hs rfl rfl he40) rfl ?_; intro a hs
            refine wlg hs rfl hg32 (y_load sc_int hs rfl he40.cell) rfl ?_; intro a hs
            refine wlg hs rfl hg32 (y_eql hs rfl rfl) rfl ?_; intro a hs
            have hm : some (x38 == 1000000000) = some b30 := hm
            cases Option.some.inj hm
            refine wl hs (y_pickF hs rfl hg32 rfl) rfl ?_; intro a hs
            exact K _ _ (hs.sub ⟨rfl, rfl, rfl, rfl, rfl, rfl, rfl, trivial⟩) hM
        intro a w hs hM
        simp only [List.drop_succ_cons, List.drop_zero]
        refine wpList_nil ?_
        refine x_nt ?_
        refine x_cond hs rfl (fun hb => ?_) (fun hb => ?_)
        · replace hm := condT hb hm
          refine wp_exit ?_
          refine x_et ?_
          refine x_eb ?_
          refine x_nt ?_
          refine wp_region_lit ?_
          refine wl hs (y_move hs rfl) rfl ?_; intro a hs
          obtain ⟨n41, h42, hm⟩ := bindE hm
          refine wl hs (y_add hs rfl rfl h42) rfl ?_; intro a hs
          refine wl hs (y_assign hs rfl) rfl ?_; intro a hs
          refine wpList_nil ?_
          exact ⟨k, Nat.lt_succ_self _, n41, hs.sub ⟨rfl, rfl, rfl, rfl, rfl, rfl, trivial⟩, hM, hm⟩
        · replace hm := condF hb hm
          refine wp_skip ?_
          refine x_nt ?_
          refine wp_seq ?_
          obtain ⟨s46, hm, hk47⟩ := bindE hm
          refine x_mid (fun a w => ∃ (v43 : Value), ∃ (l44 : List Int), ∃ (b45 : Bool), (l44, b45) = s46 ∧ Fr a 82 [(0, v_p0), (1, v_p1), (2, .int .i64 p2), (3, .int .i64 p3), (10, .int .i64 x3), (11, .int .i64 n24), (12, v43), (13, .bool b45)] ∧ Mem W w (aInts 3 v43 l44 :: aInts 3 v_p1 p1 :: As)) ?_ ?_
          · refine wc_start hmix [0, 1, 3, 6, 7, 8, 9, 10, 11, 12, 13, 14, 15, 17, 18, 19, 20, 21] (fun w => Mem W w (aInts 3 v_p1 p1 :: As)) (by rfl) ?_
            refine wc (i := 0) (fuel := 21) rfl (by kernel_rfl) (fun w w2 hS hE => hS.quiet hE) hM hs (fun w1 hS => y_move hs rfl) rfl ?_; intro a hs
            refine wc (i := 1) (fuel := 20) rfl (by kernel_rfl) (fun w w2 hS hE => hS.quiet hE) hM hs (fun w1 hS => y_move hs rfl) rfl ?_; intro a hs
            refine wc (i := 3) (fuel := 19) rfl (by kernel_rfl) (fun w w2 hS hE => hS.quiet hE) hM hs (fun w1 hS => y_move hs rfl) rfl ?_; intro a hs
            refine wc (i := 6) (fuel := 18) rfl (by kernel_rfl) (fun w w2 hS hE => hS.quiet hE) hM hs (fun w1 hS => y_move hs rfl) rfl ?_; intro a hs
            refine wc (i := 7) (fuel := 17) rfl (by kernel_rfl) (fun w w2 hS hE => hS.quiet hE) hM hs (fun w1 hS => y_move hs rfl) rfl ?_; intro a hs
            refine wc (i := 8) (fuel := 16) rfl (by kernel_rfl) (fun w w2 hS hE => hS.quiet hE) hM hs (fun w1 hS => y_move hs rfl) rfl ?_; intro a hs
            obtain ⟨x48, hx49, hm⟩ := bindE hm
            obtain ⟨u51, he50, hr52⟩ := RdM.at_ hr_p0 hx49
            have he53 := fun (w1 : World) (hS : Mem W w1 (aInts 3 v_p1 p1 :: As)) => he50.below hS.bel
            refine wc (i := 9) (fuel := 15) rfl (by kernel_rfl) (fun w w2 hS hE => hS.quiet hE) hM hs (fun w1 hS => y_index ht_M hs rfl rfl (he53 w1 hS)) rfl ?_; intro a hs
            refine wc (i := 10) (fuel := 14) rfl (by kernel_rfl) (fun w w2 hS hE => hS.quiet hE) hM hs (fun w1 hS => y_load sc_I hs rfl (he53 w1 hS).cell) rfl ?_; intro a hs
            refine wc (i := 11) (fuel := 13) rfl (by kernel_rfl) (fun w w2 hS hE => hS.quiet hE) hM hs (fun w1 hS => y_move hs rfl) rfl ?_; intro a hs
            obtain ⟨x54, hx55, hm⟩ := bindE hm
            have he56 := fun (w1 : World) (hS : Mem W w1 (aInts 3 v_p1 p1 :: As)) => RdI.at_ (RdI.below hr52 hS.bel) hx55
            refine wc (i := 12) (fuel := 12) rfl (by kernel_rfl) (fun w w2 hS hE => hS.quiet hE) hM hs (fun w1 hS => y_index ht_I hs rfl rfl (he56 w1 hS)) rfl ?_; intro a hs
            refine wc (i := 13) (fuel := 11) rfl (by kernel_rfl) (fun w w2 hS hE => hS.quiet hE) hM hs (fun w1 hS => y_load sc_int hs rfl (he56 w1 hS).cell) rfl ?_; intro a hs
            obtain ⟨n57, h58, hm⟩ := bindE hm
            refine wc (i := 14) (fuel := 10) rfl (by kernel_rfl) (fun w w2 hS hE => hS.quiet hE) hM hs (fun w1 hS => y_add hs rfl rfl h58) rfl ?_; intro a hs
            refine wc (i := 15) (fuel := 9) rfl (by kernel_rfl) (fun w w2 hS hE => hS.quiet hE) hM hs (fun w1 hS => y_move hs rfl) rfl ?_; intro a hs
            obtain ⟨y3060, h3061, hm⟩ := bindE hm
            obtain ⟨l6060, h6061, hm⟩ := bindE hm
            obtain ⟨y17060, h17061, hm⟩ := bindE hm
            refine wc_abs fun T59 hT59 => ?_
            have K59_4128820 : ∀ (a : Act) (w : World) (v17064 : Value) (v5061 : Value), Fr a 82 [(0, v_p0), (1, v_p1), (2, .int .i64 p2), (3, .int .i64 p3), (10, .int .i64 x3), (11, .int .i64 n24), (12, v17064), (13, .bool y17060.2)] → Mem W w (aInts 3 v17064 y17060.1 :: aInts 3 v5061 ([n24]) :: aInts 3 v_p1 p1 :: As) → T59 0 #[true, true, true, true, true, true, true, true, true, true, true, true, true, true, true, true, true, true, true, true, true, true] a w := by
              intro a w v17064 v5061 hs hM; subst hT59
              refine wc_done (by kernel_rfl) ?_
              intro w hw
              replace hM := hM.quiet hw
              have hm : some (y17060.1, y17060.2) = some s46 := hm
              exact ⟨v17064, y17060.1, y17060.2, Option.some.inj hm, hs.sub ⟨rfl, rfl, rfl, rfl, rfl, rfl, rfl, rfl, trivial⟩, (hM.front 1 rfl).drop⟩
            have K59_2031668 : ∀ (a : Act) (w : World) (v17064 : Value) (v5061 : Value), Fr a 82 [(0, v_p0), (1, v_p1), (2, .int .i64 p2), (3, .int .i64 p3), (10, .int .i64 x3), (11, .int .i64 n24), (12, v17064), (79, .bool y17060.2)] → Mem W w (aInts 3 v17064 y17060.1 :: aInts 3 v5061 ([n24]) :: aInts 3 v_p1 p1 :: As) → T59 1 #[true, true, true, true, true, true, true, true, true, true, true, true, true, true, true, true, true, true, true, true, true, false] a w := by
              intro a w v17064 v5061 hs hM; subst hT59
              refine wc (i := 21) (fuel := 0) rfl (by kernel_rfl) (fun w w2 hS hE => hS.quiet hE) hM.drop.drop hs (fun w1 hS => y_assign hs rfl) rfl ?_; intro a hs
              exact wc_at (by kernel_rfl) (K59_4128820 _ _ v17064 v5061 (hs.sub ⟨rfl, rfl, rfl, rfl, rfl, rfl, rfl, rfl, trivial⟩) hM)
            have K59_983092 : ∀ (a : Act) (w : World) (v17064 : Value) (v5061 : Value), Fr a 82 [(0, v_p0), (1, v_p1), (2, .int .i64 p2), (3, .int .i64 p3), (10, .int .i64 x3), (11, .int .i64 n24), (78, v17064), (79, .bool y17060.2)] → Mem W w (aInts 3 v17064 y17060.1 :: aInts 3 v5061 ([n24]) :: aInts 3 v_p1 p1 :: As) → T59 2 #[true, true, true, true, true, true, true, true, true, true, true, true, true, true, true, true, true, true, true, true, false, false] a w := by
              intro a w v17064 v5061 hs hM; subst hT59
              refine wc (i := 20) (fuel := 1) rfl (by kernel_rfl) (fun w w2 hS hE => hS.quiet hE) hM.drop.drop hs (fun w1 hS => y_assign hs rfl) rfl ?_; intro a hs
              exact wc_at (by kernel_rfl) (K59_2031668 _ _ v17064 v5061 (hs.sub ⟨rfl, rfl, rfl, rfl, rfl, rfl, rfl, rfl, trivial⟩) hM)
            have K59_458804 : ∀ (a : Act) (w : World) (v17064 : Value) (v5061 : Value), Fr a 82 [(0, v_p0), (1, v_p1), (2, .int .i64 p2), (3, .int .i64 p3), (10, .int .i64 x3), (11, .int .i64 n24), (60, .tuple #[v17064, .bool y17060.2]), (78, v17064)] → Mem W w (aInts 3 v17064 y17060.1 :: aInts 3 v5061 ([n24]) :: aInts 3 v_p1 p1 :: As) → T59 3 #[true, true, true, true, true, true, true, true, true, true, true, true, true, true, true, true, true, true, true, false, false, false] a w := by
              intro a w v17064 v5061 hs hM; subst hT59
              refine wc (i := 19) (fuel := 2) rfl (by kernel_rfl) (fun w w2 hS hE => hS.quiet hE) hM.drop.drop hs (fun w1 hS => y_extract hs rfl rfl) rfl ?_; intro a hs
              exact wc_at (by kernel_rfl) (K59_983092 _ _ v17064 v5061 (hs.sub ⟨rfl, rfl, rfl, rfl, rfl, rfl, rfl, rfl, trivial⟩) hM)
            have K59_196660 : ∀ (a : Act) (w : World) (v17064 : Value) (v5061 : Value), Fr a 82 [(0, v_p0), (1, v_p1), (2, .int .i64 p2), (3, .int .i64 p3), (10, .int .i64 x3), (11, .int .i64 n24), (60, .tuple #[v17064, .bool y17060.2])] → Mem W w (aInts 3 v17064 y17060.1 :: aInts 3 v5061 ([n24]) :: aInts 3 v_p1 p1 :: As) → T59 4 #[true, true, true, true, true, true, true, true, true, true, true, true, true, true, true, true, true, true, false, false, false, false] a w := by
              intro a w v17064 v5061 hs hM; subst hT59
              refine wc (i := 18) (fuel := 3) rfl (by kernel_rfl) (fun w w2 hS hE => hS.quiet hE) hM.drop.drop hs (fun w1 hS => y_extract hs rfl rfl) rfl ?_; intro a hs
              exact wc_at (by kernel_rfl) (K59_458804 _ _ v17064 v5061 (hs.sub ⟨rfl, rfl, rfl, rfl, rfl, rfl, rfl, rfl, trivial⟩) hM)
            have K59_65588 : ∀ (a : Act) (w : World) (v17064 : Value) (v5061 : Value), Fr a 82 [(0, v_p0), (1, v_p1), (2, .int .i64 p2), (3, .int .i64 p3), (10, .int .i64 x3), (11, .int .i64 n24), (77, .tuple #[v17064, .bool y17060.2])] → Mem W w (aInts 3 v17064 y17060.1 :: aInts 3 v5061 ([n24]) :: aInts 3 v_p1 p1 :: As) → T59 5 #[true, true, true, true, true, true, true, true, true, true, true, true, true, true, true, true, true, false, false, false, false, false] a w := by
              intro a w v17064 v5061 hs hM; subst hT59
              refine wc (i := 17) (fuel := 4) rfl (by kernel_rfl) (fun w w2 hS hE => hS.quiet hE) hM.drop.drop hs (fun w1 hS => y_move hs rfl) rfl ?_; intro a hs
              exact wc_at (by kernel_rfl) (K59_196660 _ _ v17064 v5061 (hs.sub ⟨rfl, rfl, rfl, rfl, rfl, rfl, rfl, trivial⟩) hM)
            have K59_52 : ∀ (a : Act) (w : World) (v6062 : Value) (v5061 : Value), Fr a 82 [(0, v_p0), (1, v_p1), (2, .int .i64 p2), (3, .int .i64 p3), (10, .int .i64 x3), (11, .int .i64 n24), (61, v_p0), (66, v6062), (75, .int .i64 n57), (76, .int .i64 p3)] → Mem W w (aInts 3 v6062 l6060 :: aInts 3 v5061 ([n24]) :: aInts 3 v_p1 p1 :: As) → T59 6 #[true, true, true, true, true, true, true, true, true, true, true, true, true, true, true, true, false, false, false, false, false, false] a w := by
              intro a w v6062 v5061 hs hM; subst hT59
              refine wc_oneS (fuel := 5) 16 rfl (by kernel_rfl) ?_
              intro w hw
              replace hM := hM.quiet hw
              refine wcall is_84 hs rfl rfl (ih v_p0 p0 v6062 l6060 n57 p3 _ _ _ hr_p0 hM h17061) ?_; rintro a _ w hs ⟨v17064, rfl, hM⟩
              have hM : Mem W w (aInts 3 v17064 y17060.1 :: aInts 3 v5061 ([n24]) :: aInts 3 v_p1 p1 :: As) := hM
              refine on_nil ⟨hM.drop.drop, ?_⟩
              exact wc_at (by kernel_rfl) (K59_65588 _ _ v17064 v5061 (hs.sub ⟨rfl, rfl, rfl, rfl, rfl, rfl, rfl, trivial⟩) hM)
            have K59_20 : ∀ (a : Act) (w : World) (v3062 : Value) (v5061 : Value), Fr a 82 [(0, v_p0), (1, v_p1), (2, .int .i64 p2), (3, .int .i64 p3), (10, .int .i64 x3), (11, .int .i64 n24), (61, v_p0), (63, v3062), (65, v5061), (75, .int .i64 n57), (76, .int .i64 p3)] → Mem W w (aInts 3 v5061 ([n24]) :: aInts 3 v3062 y3060 :: aInts 3 v_p1 p1 :: As) → T59 7 #[true, true, true, true, true, false, true, true, true, true, true, true, true, true, true, true, false, false, false, false, false, false] a w := by
              intro a w v3062 v5061 hs hM; subst hT59
              refine wc_oneS (fuel := 6) 5 rfl (by kernel_rfl) ?_
              intro w hw
              replace hM := hM.quiet hw
              refine wmem hs (x_appS hu_I he_int hs rfl (hM.front 1 rfl) (hM.rdI 0 rfl) h6061) rfl ?_; intro a v6062 w hs hM
              have hM : Mem W w (aInts 3 v6062 l6060 :: aInts 3 v5061 ([n24]) :: aInts 3 v_p1 p1 :: As) := hM
              refine on_nil ⟨hM.drop.drop, ?_⟩
              exact wc_at (by kernel_rfl) (K59_52 _ _ v6062 v5061 (hs.sub ⟨rfl, rfl, rfl, rfl, rfl, rfl, rfl, rfl, rfl, rfl, trivial⟩) hM)
            have K59_4 : ∀ (a : Act) (w : World) (v3062 : Value), Fr a 82 [(0, v_p0), (1, v_p1), (2, .int .i64 p2), (3, .int .i64 p3), (10, .int .i64 x3), (11, .int .i64 n24), (61, v_p0), (63, v3062), (64, .int .i64 n24), (75, .int .i64 n57), (76, .int .i64 p3)] → Mem W w (aInts 3 v3062 y3060 :: aInts 3 v_p1 p1 :: As) → T59 8 #[true, true, true, true, false, false, true, true, true, true, true, true, true, true, true, true, false, false, false, false, false, false] a w := by
              intro a w v3062 hs hM; subst hT59
              refine wc_oneS (fuel := 7) 4 rfl (by kernel_rfl) ?_
              intro w hw
              replace hM := hM.quiet hw
              refine wmem hs (x_new1I hu_I he_int hs rfl hM) rfl ?_; intro a v5061 w hs hM
              have hM : Mem W w (aInts 3 v5061 ([n24]) :: aInts 3 v3062 y3060 :: aInts 3 v_p1 p1 :: As) := hM
              refine on_nil ⟨hM.drop.drop, ?_⟩
              exact wc_at (by kernel_rfl) (K59_20 _ _ v3062 v5061 (hs.sub ⟨rfl, rfl, rfl, rfl, rfl, rfl, rfl, rfl, rfl, rfl, rfl, trivial⟩) hM)
            have K59_16 : ∀ (a : Act) (w : World) (v5061 : Value), Fr a 82 [(0, v_p0), (1, v_p1), (2, .int .i64 p2), (3, .int .i64 p3), (10, .int .i64 x3), (11, .int .i64 n24), (61, v_p0), (62, v_p1), (65, v5061), (75, .int .i64 n57), (76, .int .i64 p3)] → Mem W w (aInts 3 v5061 ([n24]) :: aInts 3 v_p1 p1 :: As) → T59 8 #[true, true, false, true, true, false, true, true, true, true, true, true, true, true, true, true, false, false, false, false, false, false] a w := by
              intro a w v5061 hs hM; subst hT59
              refine wc_oneS (fuel := 7) 2 rfl (by kernel_rfl) ?_
              intro w hw
              replace hM := hM.quiet hw
              refine wcall is_95 hs rfl rfl (spec_l1Own_any v_p1 p1 _ (hM.rdI 1 rfl) h3061) ?_; rintro a v3062 w hs hX
              have hM : Mem W w (aInts 3 v3062 y3060 :: aInts 3 v5061 ([n24]) :: aInts 3 v_p1 p1 :: As) := hM.call hX
              refine on_nil ⟨hM.drop.drop, ?_⟩
              exact wc_at (by kernel_rfl) (K59_20 _ _ v3062 v5061 (hs.sub ⟨rfl, rfl, rfl, rfl, rfl, rfl, rfl, rfl, rfl, rfl, rfl, trivial⟩) (((hM.front 2 rfl).front 1 rfl).front 2 rfl))
            have K59_0 : ∀ (a : Act) (w : World), Fr a 82 [(0, v_p0), (1, v_p1), (2, .int .i64 p2), (3, .int .i64 p3), (10, .int .i64 x3), (11, .int .i64 n24), (61, v_p0), (62, v_p1), (64, .int .i64 n24), (75, .int .i64 n57), (76, .int .i64 p3)] → Mem W w (aInts 3 v_p1 p1 :: As) → T59 9 #[true, true, false, true, false, false, true, true, true, true, true, true, true, true, true, true, false, false, false, false, false, false] a w := by
              intro a w hs hM; subst hT59
              refine wc_many (fuel := 8) [2, 4] (by kernel_rfl) (by simp) ⟨?_, ?_, trivial⟩
              · rintro o ⟨rfl⟩
                intro w hw
                replace hM := hM.quiet hw
                refine wcall is_95 hs rfl rfl (spec_l1Own_any v_p1 p1 _ (hM.rdI 0 rfl) h3061) ?_; rintro a v3062 w hs hX
                have hM : Mem W w (aInts 3 v3062 y3060 :: aInts 3 v_p1 p1 :: As) := hM.call hX
                refine on_nil ⟨hM.drop, ?_⟩
                exact wc_at (by kernel_rfl) (K59_4 _ _ v3062 (hs.sub ⟨rfl, rfl, rfl, rfl, rfl, rfl, rfl, rfl, rfl, rfl, rfl, trivial⟩) hM)
              · rintro o ⟨rfl⟩
                intro w hw
                replace hM := hM.quiet hw
                refine wmem hs (x_new1I hu_I he_int hs rfl hM) rfl ?_; intro a v5061 w hs hM
                have hM : Mem W w (aInts 3 v5061 ([n24]) :: aInts 3 v_p1 p1 :: As) := hM
                refine on_nil ⟨hM.drop, ?_⟩
                exact wc_at (by kernel_rfl) (K59_16 _ _ v5061 (hs.sub ⟨rfl, rfl, rfl, rfl, rfl, rfl, rfl, rfl, rfl, rfl, rfl, trivial⟩) hM)
            exact wc_at (by kernel_rfl) (K59_0 _ _ (hs.sub ⟨rfl, rfl, rfl, rfl, rfl, rfl, rfl, rfl, rfl, rfl, rfl, trivial⟩) hM)
          rintro a w ⟨v43, l44, b45, rfl, hs, hM⟩
          have hm := hk47
          refine x_nt ?_
          refine wp_seq ?_
          refine wp_region_lit ?_
          refine wl hs (y_move hs rfl) rfl ?_; intro a hs
          refine wpList_nil ?_
          refine x_nt ?_
          refine x_cond hs rfl (fun hb => ?_) (fun hb => ?_)
          · replace hm := condT hb hm
            refine wp_seq ?_
            refine wp_region_lit ?_
            refine wl hs (y_move hs rfl) rfl ?_; intro a hs
            refine wl hs (y_assign hs rfl) rfl ?_; intro a hs
            refine wl hs (y_assign hs rfl) rfl ?_; intro a hs
            refine wpList_nil ?_
            refine x_nt ?_
            refine wp_ret ?_
            refine x_rb ?_
            refine x_rt ?_
            refine x_rt ?_
            refine x_rb ?_
            refine x_rt ?_
            refine x_rt ?_
            have hm : some (Sum.inl (l44, true)) = some s25 := hm
            cases Option.some.inj hm
            have hm := hk26
            have hm : some (l44, true) = some r := hm
            obtain rfl := Option.some.inj hm
            refine x_ret2 rfl hs rfl rfl ⟨_, rfl, ?_⟩
            exact ⟨_, rfl, (hM.front 1 rfl).drop⟩
          · replace hm := condF hb hm
            refine wp_skip ?_
            refine x_nb ?_
            refine x_nt ?_
            refine wp_region_lit ?_
            refine wl hs (y_move hs rfl) rfl ?_; intro a hs
            obtain ⟨n24060, h24061, hm⟩ := bindE hm
            refine wl hs (y_add hs rfl rfl h24061) rfl ?_; intro a hs
            refine wl hs (y_assign hs rfl) rfl ?_; intro a hs
            refine wpList_nil ?_
            exact ⟨k, Nat.lt_succ_self _, n24060, hs.sub ⟨rfl, rfl, rfl, rfl, rfl, rfl, trivial⟩, hM.drop, hm⟩
      · replace hm := condF hb hm
        refine wp_exit ?_
        refine x_et ?_
        refine x_et ?_
        refine x_eb ?_
        have hm : some (Sum.inr ()) = some s25 := hm
        exact ⟨Option.some.inj hm, hs.sub trivial, hM.drop⟩
    rintro a w ⟨rfl, hs, hM⟩
    have hm := hk26
    refine x_nt ?_
    refine wp_seq ?_
    refine wp_region_lit ?_
    refine wl hs (y_assign hs rfl) rfl ?_; intro a hs
    refine wl hs (y_assign hs rfl) rfl ?_; intro a hs
    refine wpList_nil ?_
    refine x_nt ?_
    refine wp_ret ?_
    have hm : some ([], false) = some r := hm
    obtain rfl := Option.some.inj hm
    refine x_ret2 rfl hs rfl rfl ⟨_, rfl, ?_⟩
    have hM := hM.nilI 3
    exact ⟨_, rfl, hM⟩
theorem spec_wyCircuit_any (v_p0 : Value) (p0 : List (List Int)) (v_p1 : Value) (p1 : List Int)  (p2 : Int) (p3 : Int) (W w : World) (As : List Atom) (hr_p0 : RdM W v_p0 p0) (hM : Mem W w (aInts 3 v_p1 p1 :: As)) {r : (List Int) × Bool} (hm : spec_wyCircuit_m p0 p1 p2 p3 = some r) : Calls Try.prog 84 [v_p0, v_p1, .int .i64 p2, .int .i64 p3].toArray w fun e w' => ∃ v, e = .returned v ∧ ∃ v0, v = .tuple #[v0, .bool r.2] ∧ Mem W w' (aInts 3 v0 r.1 :: As) := spec_wyCircuit_rec 64 v_p0 p0 v_p1 p1 p2 p3 W w As hr_p0 hM hm

theorem spec_NegativeCircuit_any (v_p0 : Value) (p0 : List (List Int)) (W : World) (hr_p0 : RdM W v_p0 p0) {r : (List Int) × Bool} (hm : spec_NegativeCircuit_m p0 = some r) : Calls Try.prog 40 [v_p0].toArray W fun e w => ∃ v, e = .returned v ∧ ∃ v0, v = .tuple #[v0, .bool r.2] ∧ Mem W w [aInts 3 v0 r.1] := by
  refine x_enter Try.func40 rfl Try.ntmps40 rfl ?_
  intro a hs
  have hM := Mem.start W
  unfold spec_NegativeCircuit_m at hm
  refine wp_seq ?_
  refine wp_region_lit ?_
  refine wl hs (y_assign hs rfl) rfl ?_; intro a hs
  refine wl hs (y_assign hs rfl) rfl ?_; intro a hs
  refine wpList_nil ?_
  refine x_nt ?_
  refine wp_seq ?_
  refine wp_seq ?_
  refine wp_region_lit ?_
  refine wl hs (y_move hs rfl) rfl ?_; intro a hs
  obtain ⟨y1, h2, hm⟩ := bindE hm
  refine wcall is_64 hs rfl rfl (spec_mxSquare_any v_p0 p0 _ (RdM.below hr_p0 hM.bel) h2) ?_; rintro a _ w hs ⟨rfl, hX⟩
  have hM : Mem W w [] := hM.call hX
  refine wl hs (y_not hs rfl) rfl ?_; intro a hs
  refine wpList_nil ?_
  refine x_nt ?_
  refine x_cond hs rfl (fun hb => ?_) (fun hb => ?_)
  · replace hm := condT hb hm
    refine wp_seq ?_
    refine wp_region_lit ?_
    refine wl hs (y_assign hs rfl) rfl ?_; intro a hs
    refine wl hs (y_assign hs rfl) rfl ?_; intro a hs
    refine wpList_nil ?_
    refine x_nt ?_
    refine wp_ret ?_
    refine x_rt ?_
    have hm : some ([], false) = some r := hm
    obtain rfl := Option.some.inj hm
    refine x_ret2 rfl hs rfl rfl ⟨_, rfl, ?_⟩
    have hM := hM.nilI 3
    exact ⟨_, rfl, hM⟩
  · replace hm := condF hb hm
    refine wp_skip ?_
    refine x_nt ?_
    refine wp_seq ?_
    refine wp_seq ?_
    refine wp_region_lit ?_
    refine wl hs (y_assign hs rfl) rfl ?_; intro a hs
    refine wpList_nil ?_
    refine x_nt ?_
    obtain ⟨s5, hm, hk6⟩ := bindE hm
    refine x_mid (fun a w => Sum.inr () = s5 ∧ Fr a 33 [] ∧ Mem W w []) ?_ ?_
    · refine wp_block ?_
      refine x_loop (fun k a w => ∃ (n4 : Int) , Fr a 33 [(0, v_p0), (4, .int .i64 n4)] ∧ Mem W w [] ∧ spec_NegativeCircuit_l1 p0 k n4 = some s5) 4000000 ⟨1, hs.sub ⟨rfl, rfl, trivial⟩, hM, hm⟩ ?_
      rintro k a w ⟨n4, hs, hM, hm⟩
      rcases k with _ | k
      · rewrite [spec_NegativeCircuit_l1] at hm; cases hm
      rewrite [spec_NegativeCircuit_l1] at hm
      refine wp_seq ?_
      refine wp_seq ?_
      refine wp_region_lit ?_
      refine wl hs (y_move hs rfl) rfl ?_; intro a hs
      refine wl hs (y_move hs rfl) rfl ?_; intro a hs
      refine wl hs (y_len hu_M hs rfl (RdM.below hr_p0 hM.bel)) rfl ?_; intro a hs
      refine wl hs (y_leq hs rfl rfl) rfl ?_; intro a hs
      refine wpList_nil ?_
      refine x_nt ?_
      refine x_cond hs rfl (fun hb => ?_) (fun hb => ?_)
      · replace hm := condT hb hm
        refine wp_skip ?_
        refine x_nt ?_
        refine wp_seq ?_
        refine wp_block ?_
        refine wp_seq ?_
        refine wp_region_lit ?_
        refine wl hs (y_move hs rfl) rfl ?_; intro a hs
        refine wl hs (y_len hu_M hs rfl (RdM.below hr_p0 hM.bel)) rfl ?_; intro a hs
        refine wl hs (y_move hs rfl) rfl ?_; intro a hs
        refine wpList_nil ?_
        refine x_nt ?_
        obtain ⟨s9, hm, hk10⟩ := bindE hm
        refine x_mid (fun a w => Sum.inr () = s9 ∧ Fr a 33 [(0, v_p0), (4, .int .i64 n4)] ∧ Mem W w []) ?_ ?_
        · refine wp_block ?_
          refine x_loop (fun k a w => ∃ (q11 : List (List Int)) (j8 : Nat) , k = q11.length ∧ Fr a 33 [(0, v_p0), (4, .int .i64 n4), (18, .int .i64 (p0.length : Int)), (19, .int .i64 (j8 : Int))] ∧ Mem W w [] ∧ spec_NegativeCircuit_l2 p0 n4 q11 j8 = some s9 ∧ List.drop j8 p0 = q11) _ ⟨p0, 0, rfl, hs.sub ⟨rfl, rfl, rfl, rfl, trivial⟩, hM, hm, rfl⟩ ?_
          rintro k a w ⟨q11, j8, rfl, hs, hM, hm, hj⟩
          rcases q11 with _ | ⟨x12, q11⟩
          · rewrite [spec_NegativeCircuit_l2] at hm
            refine wp_seq ?_
            refine wp_region_lit ?_
            refine wl hs (y_lss hs rfl rfl) rfl ?_; intro a hs
            refine wpList_nil ?_
            refine x_nt ?_
            refine wp_seq ?_
            refine x_condF hs rfl (drop_f hj) ?_
            refine wp_exit ?_
            refine x_et ?_
            refine x_et ?_
            refine x_eb ?_
            have hm : some (Sum.inr ()) = some s9 := hm
            exact ⟨Option.some.inj hm, hs.sub ⟨rfl, rfl, trivial⟩, hM⟩
          · rewrite [spec_NegativeCircuit_l2] at hm
            have hx13 := drop_idx hj
            have hjs := ck_succ hj (RdS.len (RdM.below hr_p0 hM.bel))
            refine wp_seq ?_
            refine wp_region_lit ?_
            refine wl hs (y_lss hs rfl rfl) rfl ?_; intro a hs
            refine wpList_nil ?_
            refine x_nt ?_
            refine wp_seq ?_
            refine x_condT hs rfl (drop_t hj) ?_
            refine wp_skip ?_
            refine x_nt ?_
            refine wp_seq ?_
            refine wp_block ?_
            refine wp_seq ?_
            refine wp_region_lit ?_
            refine wl hs (y_move hs rfl) rfl ?_; intro a hs
            refine wl hs (y_assign hs rfl) rfl ?_; intro a hs
            refine wpList_nil ?_
            refine x_nt ?_
            refine wp_seq ?_
            refine wp_region_lit ?_
            refine wl hs (y_move hs rfl) rfl ?_; intro a hs
            refine wl hs (y_move hs rfl) rfl ?_; intro a hs
            refine wmem hs (x_new1I hu_I he_int hs rfl hM) rfl ?_; intro a v15 w hs hM
            have hM : Mem W w [aInts 3 v15 ([(j8 : Int)])] := hM
            refine wl hs (y_move hs rfl) rfl ?_; intro a hs
            obtain ⟨y16, h17, hm⟩ := bindE hm
            refine wcall is_84 hs rfl rfl (spec_wyCircuit_any v_p0 p0 v15 ([(j8 : Int)]) 0 n4 _ _ _ hr_p0 hM h17) ?_; rintro a _ w hs ⟨v20, rfl, hM⟩
            have hM : Mem W w [aInts 3 v20 y16.1] := hM
            refine wl hs (y_move hs rfl) rfl ?_; intro a hs
            refine wl hs (y_extract hs rfl rfl) rfl ?_; intro a hs
            refine wl hs (y_extract hs rfl rfl) rfl ?_; intro a hs
            refine wl hs (y_assign hs rfl) rfl ?_; intro a hs
            refine wl hs (y_assign hs rfl) rfl ?_; intro a hs
            refine wpList_nil ?_
            refine x_nt ?_
            refine wp_seq ?_
            refine wp_region_lit ?_
            refine wl hs (y_move hs rfl) rfl ?_; intro a hs
            refine wpList_nil ?_
            refine x_nt ?_
            refine x_cond hs rfl (fun hb => ?_) (fun hb => ?_)
            · replace hm := condT hb hm
              refine wp_seq ?_
              refine wp_region_lit ?_
              refine wl hs (y_move hs rfl) rfl ?_; intro a hs
              refine wl hs (y_assign hs rfl) rfl ?_; intro a hs
              refine wl hs (y_assign hs rfl) rfl ?_; intro a hs
              refine wpList_nil ?_
              refine x_nt ?_
              refine wp_ret ?_
              refine x_rb ?_
              refine x_rt ?_
              refine x_rt ?_
              refine x_rb ?_
              refine x_rt ?_
              refine x_rb ?_
              refine x_rt ?_
              refine x_rt ?_
              refine x_rb ?_
              refine x_rt ?_
              refine x_rt ?_
              have hm : some (Sum.inl (y16.1, true)) = some s9 := hm
              cases Option.some.inj hm
              have hm := hk10
              have hm : some (Sum.inl (y16.1, true)) = some s5 := hm
              cases Option.some.inj hm
              have hm := hk6
              have hm : some (y16.1, true) = some r := hm
              obtain rfl := Option.some.inj hm
              refine x_ret2 rfl hs rfl rfl ⟨_, rfl, ?_⟩
              exact ⟨_, rfl, hM⟩
            · replace hm := condF hb hm
              refine wp_skip ?_
              refine x_nb ?_
              refine x_nt ?_
              refine wp_region_lit ?_
              refine wl hs (y_add hs rfl rfl hjs) rfl ?_; intro a hs
              refine wl hs (y_move hs rfl) rfl ?_; intro a hs
              refine wpList_nil ?_
              exact ⟨_, by simp, q11, j8 + 1, rfl, hs.sub ⟨rfl, rfl, rfl, rfl, trivial⟩, hM.none_, hm, drop_next hj⟩
        rintro a w ⟨rfl, hs, hM⟩
        have hm := hk10
        refine x_nb ?_
        refine x_nt ?_
        refine wp_region_lit ?_
        refine wl hs (y_move hs rfl) rfl ?_; intro a hs
        obtain ⟨n21, h22, hm⟩ := bindE hm
        refine wl hs (y_add hs rfl rfl h22) rfl ?_; intro a hs
        refine wl hs (y_assign hs rfl) rfl ?_; intro a hs
        refine wpList_nil ?_
        exact ⟨k, Nat.lt_succ_self _, n21, hs.sub ⟨rfl, rfl, trivial⟩, hM, hm⟩
      · replace hm := condF hb hm
        refine wp_exit ?_
        refine x_et ?_
        refine x_et ?_
        refine x_eb ?_
        have hm : some (Sum.inr ()) = some s5 := hm
        exact ⟨Option.some.inj hm, hs.sub trivial, hM⟩
    rintro a w ⟨rfl, hs, hM⟩
    have hm := hk6
    refine x_nt ?_
    refine wp_seq ?_
    refine wp_region_lit ?_
    refine wl hs (y_assign hs rfl) rfl ?_; intro a hs
    refine wl hs (y_assign hs rfl) rfl ?_; intro a hs
    refine wpList_nil ?_
    refine x_nt ?_
    refine wp_ret ?_
    have hm : some ([], false) = some r := hm
    obtain rfl := Option.some.inj hm
    refine x_ret2 rfl hs rfl rfl ⟨_, rfl, ?_⟩
    have hM := hM.nilI 3
    exact ⟨_, rfl, hM⟩

end Go.Proofs.Ytjicdfplhenohaa
