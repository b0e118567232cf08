/- The code of this unit computes what its mirrors say. Written by program (wip/gen). -/
import Derived.Test.YtjhaealoneennaaFacts
import Derived.Test.YtjhaealoneennaaMniM
import Derived.Test.YtjhaealoneennaaNumW
import Derived.Test.YtjhaealoneennaaMatW
import Derived.Test.YtjhaealoneennaaWy2W
import Derived.Test.YtjhaealoneennaaOwnW
import Derived.Test.YtjhaealoneennaaEigW
import Derived.Test.YtjhaealoneennaaCirW
import Derived.Test.YtjhaealoneennaaFracW
namespace Go.Proofs.Ytjhaealoneennaa
open Go.RowKit
set_option linter.unusedVariables false

theorem impl_meanOf_any (v_p0 : Value) (p0 : List (List Int)) (v_p1 : Value) (p1 : List Int) (W : World) (hr_p0 : RdM W v_p0 p0) (hr_p1 : RdI W v_p1 p1) {r : Int × Int} (hm : impl_meanOf_m p0 p1 = some r) : Calls Try.prog 76 [v_p0, v_p1].toArray W fun e w => ∃ v, e = .returned v ∧ v = .agg #[.int .i64 r.1, .int .i64 r.2] ∧ Mem W w [] := by
  refine x_enter Try.func76 rfl Try.ntmps76 rfl ?_
  intro a hs
  have hM := Mem.start W
  unfold impl_meanOf_m at hm
  refine wp_seq ?_
  refine wp_region_lit ?_
  refine wmem hs (x_allocS sT_40 hM) rfl ?_; rintro a _ w hs ⟨g2, rfl, hM⟩
  have hM : Mem W w [aBlk g2 40 [.int .i64 0, .int .i64 0]] := hM
  refine wpList_nil ?_
  refine x_nt ?_
  refine wp_seq ?_
  refine wp_region_lit ?_
  refine wl hs (y_move hs rfl) rfl ?_; intro a hs
  refine wl hs (y_move hs rfl) rfl ?_; intro a hs
  obtain ⟨y3, h4, hm⟩ := bindE hm
  refine wcall is_106 hs rfl rfl (impl_costOfCircuit_any v_p0 p0 v_p1 p1 _ (RdM.below hr_p0 hM.bel) (RdI.below hr_p1 hM.bel) h4) ?_; rintro a _ w hs ⟨rfl, hX⟩
  have hM : Mem W w [aBlk g2 40 [.int .i64 0, .int .i64 0]] := hM.call hX
  refine wl hs (y_move hs rfl) rfl ?_; intro a hs
  refine wl hs (y_len hu_I hs rfl (RdI.below hr_p1 hM.bel)) rfl ?_; intro a hs
  obtain ⟨y5, h6, hm⟩ := bindE hm
  refine wcall is_108 hs rfl rfl (impl_lowest_any y3 (p1.length : Int) _  h6) ?_; rintro a _ w hs ⟨rfl, hX⟩
  have hM : Mem W w [aBlk g2 40 [.int .i64 0, .int .i64 0]] := hM.call hX
  refine wstore hs rfl rfl (x_storeS (cs := [.int .i64 0, .int .i64 0]) (us := [.int .i64 y5.1, .int .i64 y5.2]) sT_40 ⟨rfl, rfl, trivial⟩ rfl rfl (hM.front 0 rfl)) ?_; intro w hM
  have hM : Mem W w [aBlk g2 40 [.int .i64 y5.1, .int .i64 y5.2]] := hM
  refine wpList_nil ?_
  refine x_nt ?_
  refine wp_ret ?_
  have hm : some (y5.1, y5.2) = some r := hm
  obtain rfl := Option.some.inj hm
  refine x_retR (rs := [.cell 4 40]) (vs := [.agg #[.int .i64 y5.1, .int .i64 y5.2]]) rfl hs ⟨⟨_, rfl, loadS (cs := [.int .i64 y5.1, .int .i64 y5.2]) sT_40 (hM.heapBlk 0 rfl) rfl⟩, trivial⟩ ⟨_, rfl, ?_⟩
  exact ⟨rfl, hM.none_⟩

set_option maxHeartbeats 4000000 in
theorem impl_leastMean_1_any (v_p0 : Value) (p0 : List Int) (g_m : Nat) (v_m : Value) (m : List (List Int)) (g_first : Nat) (v_first : Value) (first : List Int) (g_least : Nat) (least_0 : Int) (least_1 : Int) (g_nodes : Nat) (v_nodes : Value) (nodes : List Bool) (W w : World) (As : List Atom) (hr_m : RdM W v_m m) (hM : Mem W w (aInts 3 v_p0 p0 :: aBlk g_m 22 [v_m] :: aBlk g_first 24 [v_first] :: aInts 3 v_first first :: aBlk g_least 40 [.int .i64 least_0, .int .i64 least_1] :: aBlk g_nodes 65 [v_nodes] :: aBools 4 v_nodes nodes :: As)) {r : (List Int) × Int × Int × (List Bool)} (hm : impl_leastMean_1_m p0 m first least_0 least_1 nodes = some r) : Calls Try.prog 110 [v_p0, .pointer (some ⟨g_m, 0, none⟩), .pointer (some ⟨g_first, 0, none⟩), .pointer (some ⟨g_least, 0, none⟩), .pointer (some ⟨g_nodes, 0, none⟩)].toArray w fun e w' => ∃ v, e = .returned v ∧ ∃ v_first', ∃ v_nodes', v = .tuple #[] ∧ Mem W w' (aInts 3 v_p0 p0 :: aBlk g_m 22 [v_m] :: aBlk g_first 24 [v_first'] :: aInts 3 v_first' r.1 :: aBlk g_least 40 [.int .i64 r.2.1, .int .i64 r.2.2.1] :: aBlk g_nodes 65 [v_nodes'] :: aBools 4 v_nodes' r.2.2.2 :: As) := by
  refine x_enter Try.func110 rfl Try.ntmps110 rfl ?_
  intro a hs
  unfold impl_leastMean_1_m at hm
  refine wp_seq ?_
  refine wp_region_lit ?_
  refine wl hs (y_load sc_M hs rfl (hM.cellBlk 1 rfl 0 rfl)) rfl ?_; intro a hs
  refine wl hs (y_move hs rfl) rfl ?_; intro a hs
  obtain ⟨y1, h2, hm⟩ := bindE hm
  refine wcall is_76 hs rfl rfl (impl_meanOf_any v_m m v_p0 p0 _ (RdM.below hr_m hM.bel) (hM.rdI 0 rfl) h2) ?_; rintro a _ w hs ⟨rfl, hX⟩
  have hM : Mem W w (aInts 3 v_p0 p0 :: aBlk g_m 22 [v_m] :: aBlk g_first 24 [v_first] :: aInts 3 v_first first :: aBlk g_least 40 [.int .i64 least_0, .int .i64 least_1] :: aBlk g_nodes 65 [v_nodes] :: aBools 4 v_nodes nodes :: As) := hM.call hX
  refine wmem hs (x_allocS sT_40 hM) rfl ?_; rintro a _ w hs ⟨g4, rfl, hM⟩
  have hM : Mem W w (aBlk g4 40 [.int .i64 0, .int .i64 0] :: aInts 3 v_p0 p0 :: aBlk g_m 22 [v_m] :: aBlk g_first 24 [v_first] :: aInts 3 v_first first :: aBlk g_least 40 [.int .i64 least_0, .int .i64 least_1] :: aBlk g_nodes 65 [v_nodes] :: aBools 4 v_nodes nodes :: As) := hM
  refine wstore hs rfl rfl (x_storeS (cs := [.int .i64 0, .int .i64 0]) (us := [.int .i64 y1.1, .int .i64 y1.2]) sT_40 ⟨rfl, rfl, trivial⟩ rfl rfl (hM.front 0 rfl)) ?_; intro w hM
  have hM : Mem W w (aBlk g4 40 [.int .i64 y1.1, .int .i64 y1.2] :: aInts 3 v_p0 p0 :: aBlk g_m 22 [v_m] :: aBlk g_first 24 [v_first] :: aInts 3 v_first first :: aBlk g_least 40 [.int .i64 least_0, .int .i64 least_1] :: aBlk g_nodes 65 [v_nodes] :: aBools 4 v_nodes nodes :: As) := hM
  refine wpList_nil ?_
  refine x_nt ?_
  refine wp_seq ?_
  refine wp_seq ?_
  refine wp_region_lit ?_
  refine wl hs (y_load sc_I hs rfl (hM.cellBlk 3 rfl 0 rfl)) rfl ?_; intro a hs
  refine wl hs (y_len hu_I hs rfl (hM.rdI 4 rfl)) rfl ?_; intro a hs
  refine wl hs (y_eql hs rfl rfl) rfl ?_; intro a hs
  refine wl hs (y_move hs rfl) rfl ?_; intro a hs
  obtain ⟨b5, hb6, hm⟩ := bindE hm
  refine wlguard (N := 40) (L' := [(20, .bool b5), (0, v_p0), (1, .pointer (some ⟨g_m, 0, none⟩)), (2, .pointer (some ⟨g_first, 0, none⟩)), (3, .pointer (some ⟨g_least, 0, none⟩)), (4, .pointer (some ⟨g_nodes, 0, none⟩)), (6, .pointer (some ⟨g4, 0, none⟩))]) (fun w => Mem W w (aBlk g4 40 [.int .i64 y1.1, .int .i64 y1.2] :: aInts 3 v_p0 p0 :: aBlk g_m 22 [v_m] :: aBlk g_first 24 [v_first] :: aInts 3 v_first first :: aBlk g_least 40 [.int .i64 least_0, .int .i64 least_1] :: aBlk g_nodes 65 [v_nodes] :: aBools 4 v_nodes nodes :: As)) 5 ?_ ?_
  · intro K; rcases Bool.eq_false_or_eq_true ((first.length : Int) == 0) with hg7 | hg7
    · have hm := condT hg7 hb6
      refine wls hs rfl hg7 rfl ?_; intro a hs
      refine wls hs rfl hg7 rfl ?_; intro a hs
      refine wls hs rfl hg7 rfl ?_; intro a hs
      refine wls hs rfl hg7 rfl ?_; intro a hs
      have hm : some true = some b5 := hm
      cases Option.some.inj hm
      refine wl hs (y_pickT hs rfl hg7 rfl) rfl ?_; intro a hs
      exact K _ _ (hs.sub ⟨rfl, rfl, rfl, rfl, rfl, rfl, rfl, trivial⟩) hM
    · have hm := condF hg7 hb6
      refine wlg hs rfl hg7 (y_loadS (cs := [.int .i64 y1.1, .int .i64 y1.2]) sT_40 hs rfl (hM.heapBlk 0 rfl) rfl) rfl ?_; intro a hs
      refine wlg hs rfl hg7 (y_loadS (cs := [.int .i64 least_0, .int .i64 least_1]) sT_40 hs rfl (hM.heapBlk 5 rfl) rfl) rfl ?_; intro a hs
      obtain ⟨y8, h9, hm⟩ := bindE hm
      refine wcallg is_111 hs rfl hg7 rfl rfl (impl_Frac_compare_any y1.1 y1.2 least_0 least_1 _  h9) ?_; rintro a _ w hs ⟨rfl, hX⟩
      have hM : Mem W w (aBlk g4 40 [.int .i64 y1.1, .int .i64 y1.2] :: aInts 3 v_p0 p0 :: aBlk g_m 22 [v_m] :: aBlk g_first 24 [v_first] :: aInts 3 v_first first :: aBlk g_least 40 [.int .i64 least_0, .int .i64 least_1] :: aBlk g_nodes 65 [v_nodes] :: aBools 4 v_nodes nodes :: As) := hM.call hX
      refine wlg hs rfl hg7 (y_lss hs rfl rfl) rfl ?_; intro a hs
      have hm : some (decide (y8 < 0)) = some b5 := hm
      cases Option.some.inj hm
      refine wl hs (y_pickF hs rfl hg7 rfl) rfl ?_; intro a hs
      exact K _ _ (hs.sub ⟨rfl, rfl, rfl, rfl, rfl, rfl, rfl, trivial⟩) hM
  intro a w hs hM
  simp only [List.drop_succ_cons, List.drop_zero]
  refine wpList_nil ?_
  refine x_nt ?_
  obtain ⟨s16, hm, hk17⟩ := bindE hm
  refine x_mid (fun a w => ∃ (v10 : Value), ∃ (l11 : List Bool), ∃ (v12 : Value), ∃ (l13 : List Int), ∃ (n14 : Int), ∃ (n15 : Int), (l11, l13, n14, n15) = s16 ∧ Fr a 40 [(0, v_p0), (3, .pointer (some ⟨g_least, 0, none⟩)), (4, .pointer (some ⟨g_nodes, 0, none⟩)), (6, .pointer (some ⟨g4, 0, none⟩))] ∧ Mem W w (aBlk g_nodes 65 [v10] :: aBlk g_first 24 [v12] :: aBlk g_least 40 [.int .i64 n14, .int .i64 n15] :: aBools 4 v10 l11 :: aInts 3 v12 l13 :: aBlk g4 40 [.int .i64 y1.1, .int .i64 y1.2] :: aInts 3 v_p0 p0 :: aBlk g_m 22 [v_m] :: As)) ?_ ?_
  · refine x_cond hs rfl (fun hb => ?_) (fun hb => ?_)
    · replace hm := condT hb hm
      obtain ⟨s24, hm, hk25⟩ := bindE hm
      refine x_mid (fun a w => ∃ (v18 : Value), ∃ (l19 : List Bool), ∃ (v20 : Value), ∃ (l21 : List Int), ∃ (n22 : Int), ∃ (n23 : Int), (l19, l21, n22, n23) = s24 ∧ Fr a 40 [(0, v_p0), (3, .pointer (some ⟨g_least, 0, none⟩)), (4, .pointer (some ⟨g_nodes, 0, none⟩)), (6, .pointer (some ⟨g4, 0, none⟩))] ∧ Mem W w (aBlk g_nodes 65 [v18] :: aBlk g_first 24 [v20] :: aBlk g_least 40 [.int .i64 n22, .int .i64 n23] :: aBools 4 v18 l19 :: aInts 3 v20 l21 :: aBlk g4 40 [.int .i64 y1.1, .int .i64 y1.2] :: aInts 3 v_p0 p0 :: aBlk g_m 22 [v_m] :: As)) ?_ ?_
      · refine wc_start hmix [0, 1, 3, 4] (fun w => Mem W w (aBlk g4 40 [.int .i64 y1.1, .int .i64 y1.2] :: aInts 3 v_p0 p0 :: aBlk g_m 22 [v_m] :: aInts 3 v_first first :: aBools 4 v_nodes nodes :: As)) (by rfl) ?_
        refine wc (i := 0) (fuel := 8) rfl (by kernel_rfl) (fun w w2 hS hE => hS.quiet hE) (((hM.front 3 rfl).drop.front 4 rfl).drop.front 4 rfl).drop hs (fun w1 hS => y_loadS (cs := [.int .i64 y1.1, .int .i64 y1.2]) sT_40 hs rfl (hS.heapBlk 0 rfl) rfl) rfl ?_; intro a hs
        refine wc (i := 1) (fuel := 7) rfl (by kernel_rfl) (fun w w2 hS hE => hS.quiet hE) (((hM.front 3 rfl).drop.front 4 rfl).drop.front 4 rfl).drop hs (fun w1 hS => y_move hs rfl) rfl ?_; intro a hs
        refine wc (i := 3) (fuel := 6) rfl (by kernel_rfl) (fun w w2 hS hE => hS.quiet hE) (((hM.front 3 rfl).drop.front 4 rfl).drop.front 4 rfl).drop hs (fun w1 hS => y_load sc_M hs rfl (hS.cellBlk 2 rfl 0 rfl)) rfl ?_; intro a hs
        refine wc (i := 4) (fuel := 5) rfl (by kernel_rfl) (fun w w2 hS hE => hS.quiet hE) (((hM.front 3 rfl).drop.front 4 rfl).drop.front 4 rfl).drop hs (fun w1 hS => y_len hu_M hs rfl (RdM.below hr_m hS.bel)) rfl ?_; intro a hs
        obtain ⟨y3027, h3028, hm⟩ := bindE hm
        obtain ⟨_, h6029, hm⟩ := bindE hm
        refine wc_abs fun T26 hT26 => ?_
        have K26_484 : ∀ (a : Act) (w : World) (v6028 : Value) (v3029 : Value), Fr a 40 [(0, v_p0), (3, .pointer (some ⟨g_least, 0, none⟩)), (4, .pointer (some ⟨g_nodes, 0, none⟩)), (6, .pointer (some ⟨g4, 0, none⟩))] → Mem W w (aBlk g_nodes 65 [v6028] :: aBlk g_first 24 [v3029] :: aBlk g_least 40 [.int .i64 y1.1, .int .i64 y1.2] :: aBools 4 v6028 (List.replicate ((m.length : Int)).toNat false) :: aInts 3 v3029 y3027 :: aBlk g4 40 [.int .i64 y1.1, .int .i64 y1.2] :: aInts 3 v_p0 p0 :: aBlk g_m 22 [v_m] :: aInts 3 v_first first :: aBools 4 v_nodes nodes :: As) → T26 0 #[true, true, true, true, true, true, true, true, true] a w := by
          intro a w v6028 v3029 hs hM; subst hT26
          refine wc_done (by kernel_rfl) ?_
          intro w hw
          replace hM := hM.quiet hw
          have hm : some ((List.replicate ((m.length : Int)).toNat false), y3027, y1.1, y1.2) = some s24 := hm
          exact ⟨v6028, (List.replicate ((m.length : Int)).toNat false), v3029, y3027, y1.1, y1.2, Option.some.inj hm, hs.sub ⟨rfl, rfl, rfl, rfl, trivial⟩, ((hM.front 8 rfl).drop.front 8 rfl).drop⟩
        have K26_228 : ∀ (a : Act) (w : World) (v6028 : Value) (v3029 : Value), Fr a 40 [(0, v_p0), (3, .pointer (some ⟨g_least, 0, none⟩)), (4, .pointer (some ⟨g_nodes, 0, none⟩)), (6, .pointer (some ⟨g4, 0, none⟩)), (26, v6028)] → Mem W w (aBlk g_first 24 [v3029] :: aBlk g_least 40 [.int .i64 y1.1, .int .i64 y1.2] :: aBools 4 v6028 (List.replicate ((m.length : Int)).toNat false) :: aInts 3 v3029 y3027 :: aBlk g4 40 [.int .i64 y1.1, .int .i64 y1.2] :: aInts 3 v_p0 p0 :: aBlk g_m 22 [v_m] :: aInts 3 v_first first :: aBlk g_nodes 65 [v_nodes] :: aBools 4 v_nodes nodes :: As) → T26 1 #[true, true, true, true, true, true, true, true, false] a w := by
          intro a w v6028 v3029 hs hM; subst hT26
          refine wc_one (fuel := 0) 8 rfl (by kernel_rfl) ?_
          intro w hw
          replace hM := hM.quiet hw
          refine wstore hs rfl rfl (x_storeBlk he_B (Mem.one (hM.front 2 rfl)) (hM.front 8 rfl)) ?_; intro w hM
          have hM : Mem W w (aBlk g_nodes 65 [v6028] :: aBlk g_first 24 [v3029] :: aBlk g_least 40 [.int .i64 y1.1, .int .i64 y1.2] :: aBools 4 v6028 (List.replicate ((m.length : Int)).toNat false) :: aInts 3 v3029 y3027 :: aBlk g4 40 [.int .i64 y1.1, .int .i64 y1.2] :: aInts 3 v_p0 p0 :: aBlk g_m 22 [v_m] :: aInts 3 v_first first :: aBools 4 v_nodes nodes :: As) := hM
          refine on_nil ?_
          exact wc_at (by kernel_rfl) (K26_484 _ _ v6028 v3029 (hs.sub ⟨rfl, rfl, rfl, rfl, trivial⟩) hM)
        have K26_100 : ∀ (a : Act) (w : World) (v3029 : Value) (v6028 : Value), Fr a 40 [(0, v_p0), (2, .pointer (some ⟨g_first, 0, none⟩)), (3, .pointer (some ⟨g_least, 0, none⟩)), (4, .pointer (some ⟨g_nodes, 0, none⟩)), (6, .pointer (some ⟨g4, 0, none⟩)), (23, v3029), (26, v6028)] → Mem W w (aBlk g_least 40 [.int .i64 y1.1, .int .i64 y1.2] :: aBools 4 v6028 (List.replicate ((m.length : Int)).toNat false) :: aInts 3 v3029 y3027 :: aBlk g4 40 [.int .i64 y1.1, .int .i64 y1.2] :: aInts 3 v_p0 p0 :: aBlk g_m 22 [v_m] :: aBlk g_first 24 [v_first] :: aInts 3 v_first first :: aBlk g_nodes 65 [v_nodes] :: aBools 4 v_nodes nodes :: As) → T26 2 #[true, true, true, true, true, true, true, false, false] a w := by
          intro a w v3029 v6028 hs hM; subst hT26
          refine wc_oneS (fuel := 1) 7 rfl (by kernel_rfl) ?_
          intro w hw
          replace hM := hM.quiet hw
          refine wstore hs rfl rfl (x_storeBlk he_I (Mem.one (hM.front 2 rfl)) (hM.front 6 rfl)) ?_; intro w hM
          have hM : Mem W w (aBlk g_first 24 [v3029] :: aBlk g_least 40 [.int .i64 y1.1, .int .i64 y1.2] :: aBools 4 v6028 (List.replicate ((m.length : Int)).toNat false) :: aInts 3 v3029 y3027 :: aBlk g4 40 [.int .i64 y1.1, .int .i64 y1.2] :: aInts 3 v_p0 p0 :: aBlk g_m 22 [v_m] :: aInts 3 v_first first :: aBlk g_nodes 65 [v_nodes] :: aBools 4 v_nodes nodes :: As) := hM
          refine on_nil ⟨(hM.drop.drop.drop.drop.front 4 rfl).drop, ?_⟩
          exact wc_at (by kernel_rfl) (K26_228 _ _ v6028 v3029 (hs.sub ⟨rfl, rfl, rfl, rfl, rfl, trivial⟩) hM)
        have K26_196 : ∀ (a : Act) (w : World) (v3029 : Value), Fr a 40 [(0, v_p0), (3, .pointer (some ⟨g_least, 0, none⟩)), (4, .pointer (some ⟨g_nodes, 0, none⟩)), (6, .pointer (some ⟨g4, 0, none⟩)), (25, .int .i64 (m.length : Int))] → Mem W w (aBlk g_first 24 [v3029] :: aBlk g_least 40 [.int .i64 y1.1, .int .i64 y1.2] :: aInts 3 v3029 y3027 :: aBlk g4 40 [.int .i64 y1.1, .int .i64 y1.2] :: aInts 3 v_p0 p0 :: aBlk g_m 22 [v_m] :: aInts 3 v_first first :: aBlk g_nodes 65 [v_nodes] :: aBools 4 v_nodes nodes :: As) → T26 2 #[true, true, true, true, true, false, true, true, false] a w := by
          intro a w v3029 hs hM; subst hT26
          refine wc_oneS (fuel := 1) 5 rfl (by kernel_rfl) ?_
          intro w hw
          replace hM := hM.quiet hw
          refine wmem hs (x_makeB hu_B he_bool hs rfl hM h6029) rfl ?_; intro a v6028 w hs hM
          have hM : Mem W w (aBools 4 v6028 (List.replicate ((m.length : Int)).toNat false) :: aBlk g_first 24 [v3029] :: aBlk g_least 40 [.int .i64 y1.1, .int .i64 y1.2] :: aInts 3 v3029 y3027 :: aBlk g4 40 [.int .i64 y1.1, .int .i64 y1.2] :: aInts 3 v_p0 p0 :: aBlk g_m 22 [v_m] :: aInts 3 v_first first :: aBlk g_nodes 65 [v_nodes] :: aBools 4 v_nodes nodes :: As) := hM
          refine on_nil ⟨(hM.drop.drop.drop.drop.front 4 rfl).drop, ?_⟩
          exact wc_at (by kernel_rfl) (K26_228 _ _ v6028 v3029 (hs.sub ⟨rfl, rfl, rfl, rfl, rfl, trivial⟩) ((((((((((hM.front 9 rfl).front 9 rfl).front 9 rfl).front 9 rfl).front 9 rfl).front 9 rfl).front 9 rfl).front 7 rfl).front 9 rfl).front 9 rfl))
        have K26_36 : ∀ (a : Act) (w : World) (v3029 : Value) (v6028 : Value), Fr a 40 [(0, v_p0), (2, .pointer (some ⟨g_first, 0, none⟩)), (3, .pointer (some ⟨g_least, 0, none⟩)), (4, .pointer (some ⟨g_nodes, 0, none⟩)), (6, .pointer (some ⟨g4, 0, none⟩)), (21, .agg #[.int .i64 y1.1, .int .i64 y1.2]), (23, v3029), (26, v6028)] → Mem W w (aBools 4 v6028 (List.replicate ((m.length : Int)).toNat false) :: aInts 3 v3029 y3027 :: aBlk g4 40 [.int .i64 y1.1, .int .i64 y1.2] :: aInts 3 v_p0 p0 :: aBlk g_m 22 [v_m] :: aBlk g_first 24 [v_first] :: aInts 3 v_first first :: aBlk g_least 40 [.int .i64 least_0, .int .i64 least_1] :: aBlk g_nodes 65 [v_nodes] :: aBools 4 v_nodes nodes :: As) → T26 3 #[true, true, true, true, true, true, false, false, false] a w := by
          intro a w v3029 v6028 hs hM; subst hT26
          refine wc_oneS (fuel := 2) 6 rfl (by kernel_rfl) ?_
          intro w hw
          replace hM := hM.quiet hw
          refine wstore hs rfl rfl (x_storeS (cs := [.int .i64 least_0, .int .i64 least_1]) (us := [.int .i64 y1.1, .int .i64 y1.2]) sT_40 ⟨rfl, rfl, trivial⟩ rfl rfl (hM.front 7 rfl)) ?_; intro w hM
          have hM : Mem W w (aBlk g_least 40 [.int .i64 y1.1, .int .i64 y1.2] :: aBools 4 v6028 (List.replicate ((m.length : Int)).toNat false) :: aInts 3 v3029 y3027 :: aBlk g4 40 [.int .i64 y1.1, .int .i64 y1.2] :: aInts 3 v_p0 p0 :: aBlk g_m 22 [v_m] :: aBlk g_first 24 [v_first] :: aInts 3 v_first first :: aBlk g_nodes 65 [v_nodes] :: aBools 4 v_nodes nodes :: As) := hM
          refine on_nil ⟨((hM.drop.drop.drop.front 3 rfl).drop.front 4 rfl).drop, ?_⟩
          exact wc_at (by kernel_rfl) (K26_100 _ _ v3029 v6028 (hs.sub ⟨rfl, rfl, rfl, rfl, rfl, rfl, rfl, trivial⟩) hM)
        have K26_68 : ∀ (a : Act) (w : World) (v3029 : Value), Fr a 40 [(0, v_p0), (2, .pointer (some ⟨g_first, 0, none⟩)), (3, .pointer (some ⟨g_least, 0, none⟩)), (4, .pointer (some ⟨g_nodes, 0, none⟩)), (6, .pointer (some ⟨g4, 0, none⟩)), (23, v3029), (25, .int .i64 (m.length : Int))] → Mem W w (aBlk g_least 40 [.int .i64 y1.1, .int .i64 y1.2] :: aInts 3 v3029 y3027 :: aBlk g4 40 [.int .i64 y1.1, .int .i64 y1.2] :: aInts 3 v_p0 p0 :: aBlk g_m 22 [v_m] :: aBlk g_first 24 [v_first] :: aInts 3 v_first first :: aBlk g_nodes 65 [v_nodes] :: aBools 4 v_nodes nodes :: As) → T26 3 #[true, true, true, true, true, false, true, false, false] a w := by
          intro a w v3029 hs hM; subst hT26
          refine wc_many (fuel := 2) [5, 7] (by kernel_rfl) (by simp) ⟨?_, ?_, trivial⟩
          · rintro o ⟨rfl⟩
            intro w hw
            replace hM := hM.quiet hw
            refine wmem hs (x_makeB hu_B he_bool hs rfl hM h6029) rfl ?_; intro a v6028 w hs hM
            have hM : Mem W w (aBools 4 v6028 (List.replicate ((m.length : Int)).toNat false) :: aBlk g_least 40 [.int .i64 y1.1, .int .i64 y1.2] :: aInts 3 v3029 y3027 :: aBlk g4 40 [.int .i64 y1.1, .int .i64 y1.2] :: aInts 3 v_p0 p0 :: aBlk g_m 22 [v_m] :: aBlk g_first 24 [v_first] :: aInts 3 v_first first :: aBlk g_nodes 65 [v_nodes] :: aBools 4 v_nodes nodes :: As) := hM
            refine on_nil ⟨((hM.drop.drop.drop.front 3 rfl).drop.front 4 rfl).drop, ?_⟩
            exact wc_at (by kernel_rfl) (K26_100 _ _ v3029 v6028 (hs.sub ⟨rfl, rfl, rfl, rfl, rfl, rfl, rfl, trivial⟩) ((((((((((hM.front 9 rfl).front 9 rfl).front 9 rfl).front 9 rfl).front 9 rfl).front 9 rfl).front 9 rfl).front 9 rfl).front 8 rfl).front 9 rfl))
          · rintro o ⟨rfl⟩
            intro w hw
            replace hM := hM.quiet hw
            refine wstore hs rfl rfl (x_storeBlk he_I (Mem.one (hM.front 1 rfl)) (hM.front 5 rfl)) ?_; intro w hM
            have hM : Mem W w (aBlk g_first 24 [v3029] :: aBlk g_least 40 [.int .i64 y1.1, .int .i64 y1.2] :: aInts 3 v3029 y3027 :: aBlk g4 40 [.int .i64 y1.1, .int .i64 y1.2] :: aInts 3 v_p0 p0 :: aBlk g_m 22 [v_m] :: aInts 3 v_first first :: aBlk g_nodes 65 [v_nodes] :: aBools 4 v_nodes nodes :: As) := hM
            refine on_nil ⟨(hM.drop.drop.drop.front 4 rfl).drop, ?_⟩
            exact wc_at (by kernel_rfl) (K26_196 _ _ v3029 (hs.sub ⟨rfl, rfl, rfl, rfl, rfl, trivial⟩) hM)
        have K26_4 : ∀ (a : Act) (w : World) (v3029 : Value), Fr a 40 [(0, v_p0), (2, .pointer (some ⟨g_first, 0, none⟩)), (3, .pointer (some ⟨g_least, 0, none⟩)), (4, .pointer (some ⟨g_nodes, 0, none⟩)), (6, .pointer (some ⟨g4, 0, none⟩)), (21, .agg #[.int .i64 y1.1, .int .i64 y1.2]), (23, v3029), (25, .int .i64 (m.length : Int))] → Mem W w (aInts 3 v3029 y3027 :: aBlk g4 40 [.int .i64 y1.1, .int .i64 y1.2] :: aInts 3 v_p0 p0 :: aBlk g_m 22 [v_m] :: aBlk g_first 24 [v_first] :: aInts 3 v_first first :: aBlk g_least 40 [.int .i64 least_0, .int .i64 least_1] :: aBlk g_nodes 65 [v_nodes] :: aBools 4 v_nodes nodes :: As) → T26 4 #[true, true, true, true, true, false, false, false, false] a w := by
          intro a w v3029 hs hM; subst hT26
          refine wc_many (fuel := 3) [5, 6] (by kernel_rfl) (by simp) ⟨?_, ?_, trivial⟩
          · rintro o ⟨rfl⟩
            intro w hw
            replace hM := hM.quiet hw
            refine wmem hs (x_makeB hu_B he_bool hs rfl hM h6029) rfl ?_; intro a v6028 w hs hM
            have hM : Mem W w (aBools 4 v6028 (List.replicate ((m.length : Int)).toNat false) :: aInts 3 v3029 y3027 :: aBlk g4 40 [.int .i64 y1.1, .int .i64 y1.2] :: aInts 3 v_p0 p0 :: aBlk g_m 22 [v_m] :: aBlk g_first 24 [v_first] :: aInts 3 v_first first :: aBlk g_least 40 [.int .i64 least_0, .int .i64 least_1] :: aBlk g_nodes 65 [v_nodes] :: aBools 4 v_nodes nodes :: As) := hM
            refine on_nil ⟨(((hM.drop.drop.front 3 rfl).drop.front 4 rfl).drop.front 4 rfl).drop, ?_⟩
            exact wc_at (by kernel_rfl) (K26_36 _ _ v3029 v6028 (hs.sub ⟨rfl, rfl, rfl, rfl, rfl, rfl, rfl, rfl, trivial⟩) hM)
          · rintro o ⟨rfl⟩
            intro w hw
            replace hM := hM.quiet hw
            refine wstore hs rfl rfl (x_storeS (cs := [.int .i64 least_0, .int .i64 least_1]) (us := [.int .i64 y1.1, .int .i64 y1.2]) sT_40 ⟨rfl, rfl, trivial⟩ rfl rfl (hM.front 6 rfl)) ?_; intro w hM
            have hM : Mem W w (aBlk g_least 40 [.int .i64 y1.1, .int .i64 y1.2] :: aInts 3 v3029 y3027 :: aBlk g4 40 [.int .i64 y1.1, .int .i64 y1.2] :: aInts 3 v_p0 p0 :: aBlk g_m 22 [v_m] :: aBlk g_first 24 [v_first] :: aInts 3 v_first first :: aBlk g_nodes 65 [v_nodes] :: aBools 4 v_nodes nodes :: As) := hM
            refine on_nil ⟨((hM.drop.drop.front 3 rfl).drop.front 4 rfl).drop, ?_⟩
            exact wc_at (by kernel_rfl) (K26_68 _ _ v3029 (hs.sub ⟨rfl, rfl, rfl, rfl, rfl, rfl, rfl, trivial⟩) hM)
        have K26_32 : ∀ (a : Act) (w : World) (v6028 : Value), Fr a 40 [(0, v_p0), (2, .pointer (some ⟨g_first, 0, none⟩)), (3, .pointer (some ⟨g_least, 0, none⟩)), (4, .pointer (some ⟨g_nodes, 0, none⟩)), (6, .pointer (some ⟨g4, 0, none⟩)), (21, .agg #[.int .i64 y1.1, .int .i64 y1.2]), (22, v_p0), (26, v6028)] → Mem W w (aBools 4 v6028 (List.replicate ((m.length : Int)).toNat false) :: aBlk g4 40 [.int .i64 y1.1, .int .i64 y1.2] :: aInts 3 v_p0 p0 :: aBlk g_m 22 [v_m] :: aBlk g_first 24 [v_first] :: aInts 3 v_first first :: aBlk g_least 40 [.int .i64 least_0, .int .i64 least_1] :: aBlk g_nodes 65 [v_nodes] :: aBools 4 v_nodes nodes :: As) → T26 4 #[true, true, false, true, true, true, false, false, false] a w := by
          intro a w v6028 hs hM; subst hT26
          refine wc_oneS (fuel := 3) 2 rfl (by kernel_rfl) ?_
          intro w hw
          replace hM := hM.quiet hw
          refine wcall is_112 hs rfl rfl (slices_Clone_int_int_any v_p0 p0 _ (hM.rdI 2 rfl) h3028) ?_; rintro a v3029 w hs hX
          have hM : Mem W w (aInts 3 v3029 y3027 :: aBools 4 v6028 (List.replicate ((m.length : Int)).toNat false) :: aBlk g4 40 [.int .i64 y1.1, .int .i64 y1.2] :: aInts 3 v_p0 p0 :: aBlk g_m 22 [v_m] :: aBlk g_first 24 [v_first] :: aInts 3 v_first first :: aBlk g_least 40 [.int .i64 least_0, .int .i64 least_1] :: aBlk g_nodes 65 [v_nodes] :: aBools 4 v_nodes nodes :: As) := hM.call hX
          refine on_nil ⟨(((hM.drop.drop.front 3 rfl).drop.front 4 rfl).drop.front 4 rfl).drop, ?_⟩
          exact wc_at (by kernel_rfl) (K26_36 _ _ v3029 v6028 (hs.sub ⟨rfl, rfl, rfl, rfl, rfl, rfl, rfl, rfl, trivial⟩) ((((((((((hM.front 9 rfl).front 9 rfl).front 9 rfl).front 9 rfl).front 9 rfl).front 9 rfl).front 9 rfl).front 9 rfl).front 8 rfl).front 9 rfl))
        have K26_0 : ∀ (a : Act) (w : World), Fr a 40 [(0, v_p0), (2, .pointer (some ⟨g_first, 0, none⟩)), (3, .pointer (some ⟨g_least, 0, none⟩)), (4, .pointer (some ⟨g_nodes, 0, none⟩)), (6, .pointer (some ⟨g4, 0, none⟩)), (21, .agg #[.int .i64 y1.1, .int .i64 y1.2]), (22, v_p0), (25, .int .i64 (m.length : Int))] → Mem W w (aBlk g4 40 [.int .i64 y1.1, .int .i64 y1.2] :: aInts 3 v_p0 p0 :: aBlk g_m 22 [v_m] :: aBlk g_first 24 [v_first] :: aInts 3 v_first first :: aBlk g_least 40 [.int .i64 least_0, .int .i64 least_1] :: aBlk g_nodes 65 [v_nodes] :: aBools 4 v_nodes nodes :: As) → T26 5 #[true, true, false, true, true, false, false, false, false] a w := by
          intro a w hs hM; subst hT26
          refine wc_many (fuel := 4) [2, 5] (by kernel_rfl) (by simp) ⟨?_, ?_, trivial⟩
          · rintro o ⟨rfl⟩
            intro w hw
            replace hM := hM.quiet hw
            refine wcall is_112 hs rfl rfl (slices_Clone_int_int_any v_p0 p0 _ (hM.rdI 1 rfl) h3028) ?_; rintro a v3029 w hs hX
            have hM : Mem W w (aInts 3 v3029 y3027 :: aBlk g4 40 [.int .i64 y1.1, .int .i64 y1.2] :: aInts 3 v_p0 p0 :: aBlk g_m 22 [v_m] :: aBlk g_first 24 [v_first] :: aInts 3 v_first first :: aBlk g_least 40 [.int .i64 least_0, .int .i64 least_1] :: aBlk g_nodes 65 [v_nodes] :: aBools 4 v_nodes nodes :: As) := hM.call hX
            refine on_nil ⟨(((hM.drop.front 3 rfl).drop.front 4 rfl).drop.front 4 rfl).drop, ?_⟩
            exact wc_at (by kernel_rfl) (K26_4 _ _ v3029 (hs.sub ⟨rfl, rfl, rfl, rfl, rfl, rfl, rfl, rfl, trivial⟩) hM)
          · rintro o ⟨rfl⟩
            intro w hw
            replace hM := hM.quiet hw
            refine wmem hs (x_makeB hu_B he_bool hs rfl hM h6029) rfl ?_; intro a v6028 w hs hM
            have hM : Mem W w (aBools 4 v6028 (List.replicate ((m.length : Int)).toNat false) :: aBlk g4 40 [.int .i64 y1.1, .int .i64 y1.2] :: aInts 3 v_p0 p0 :: aBlk g_m 22 [v_m] :: aBlk g_first 24 [v_first] :: aInts 3 v_first first :: aBlk g_least 40 [.int .i64 least_0, .int .i64 least_1] :: aBlk g_nodes 65 [v_nodes] :: aBools 4 v_nodes nodes :: As) := hM
            refine on_nil ⟨(((hM.drop.front 3 rfl).drop.front 4 rfl).drop.front 4 rfl).drop, ?_⟩
            exact wc_at (by kernel_rfl) (K26_32 _ _ v6028 (hs.sub ⟨rfl, rfl, rfl, rfl, rfl, rfl, rfl, rfl, trivial⟩) hM)
        exact wc_at (by kernel_rfl) (K26_0 _ _ (hs.sub ⟨rfl, rfl, rfl, rfl, rfl, rfl, rfl, rfl, trivial⟩) hM)
      rintro a w ⟨v18, l19, v20, l21, n22, n23, rfl, hs, hM⟩
      have hm := hk25
      have hm : some (l19, l21, n22, n23) = some s16 := hm
      exact ⟨v18, l19, v20, l21, n22, n23, Option.some.inj hm, hs.sub ⟨rfl, rfl, rfl, rfl, trivial⟩, hM⟩
    · replace hm := condF hb hm
      refine wp_skip ?_
      have hm : some (nodes, first, least_0, least_1) = some s16 := hm
      exact ⟨v_nodes, nodes, v_first, first, least_0, least_1, Option.some.inj hm, hs.sub ⟨rfl, rfl, rfl, rfl, trivial⟩, ((((((((hM.front 2 rfl).front 2 rfl).front 2 rfl).front 4 rfl).front 7 rfl).front 6 rfl).front 6 rfl).front 7 rfl)⟩
  rintro a w ⟨v10, l11, v12, l13, n14, n15, rfl, hs, hM⟩
  have hm := hk17
  refine x_nt ?_
  refine wp_seq ?_
  refine wp_region_lit ?_
  refine wl hs (y_loadS (cs := [.int .i64 y1.1, .int .i64 y1.2]) sT_40 hs rfl (hM.heapBlk 5 rfl) rfl) rfl ?_; intro a hs
  refine wl hs (y_loadS (cs := [.int .i64 n14, .int .i64 n15]) sT_40 hs rfl (hM.heapBlk 2 rfl) rfl) rfl ?_; intro a hs
  refine wl hs (y_eqlS2 eqS_40 hs rfl rfl) rfl ?_; intro a hs
  refine wpList_nil ?_
  refine x_nt ?_
  refine x_cond hs rfl (fun hb => ?_) (fun hb => ?_)
  · replace hm := condT hb hm
    refine wp_seq ?_
    refine wp_region_lit ?_
    refine wl hs (y_move hs rfl) rfl ?_; intro a hs
    refine wl hs (y_len hu_I hs rfl (hM.rdI 6 rfl)) rfl ?_; intro a hs
    refine wl hs (y_move hs rfl) rfl ?_; intro a hs
    refine wpList_nil ?_
    refine x_nt ?_
    obtain ⟨s11030, hm, hk11031⟩ := bindE hm
    refine x_mid (fun a w => ∃ (l11029 : List Bool), l11029 = s11030 ∧ Fr a 40 [] ∧ Mem W w (aBlk g_nodes 65 [v10] :: aBlk g_first 24 [v12] :: aBlk g_least 40 [.int .i64 n14, .int .i64 n15] :: aBools 4 v10 l11029 :: aInts 3 v12 l13 :: aInts 3 v_p0 p0 :: aBlk g_m 22 [v_m] :: As)) ?_ ?_
    · refine wp_block ?_
      refine x_loop (fun k a w => ∃ (q11032 : List Int) (j11027 : Nat) (l11028 : List Bool) , k = q11032.length ∧ Fr a 40 [(4, .pointer (some ⟨g_nodes, 0, none⟩)), (30, v_p0), (31, .int .i64 (p0.length : Int)), (32, .int .i64 (j11027 : Int))] ∧ Mem W w (aBlk g_nodes 65 [v10] :: aBlk g_first 24 [v12] :: aBlk g_least 40 [.int .i64 n14, .int .i64 n15] :: aBools 4 v10 l11028 :: aInts 3 v12 l13 :: aInts 3 v_p0 p0 :: aBlk g_m 22 [v_m] :: As) ∧ impl_leastMean_1_l1 q11032 j11027 l11028 = some s11030 ∧ List.drop j11027 p0 = q11032) _ ⟨p0, 0, l11, rfl, hs.sub ⟨rfl, rfl, rfl, rfl, trivial⟩, (hM.front 5 rfl).drop, hm, rfl⟩ ?_
      rintro k a w ⟨q11032, j11027, l11028, rfl, hs, hM, hm, hj11027⟩
      rcases q11032 with _ | ⟨x11033, q11032⟩
      · rewrite [impl_leastMean_1_l1] at hm
        refine wp_seq ?_
        refine wp_region_lit ?_
        refine wl hs (y_lss hs rfl rfl) rfl ?_; intro a hs
        refine wpList_nil ?_
        refine x_nt ?_
        refine wp_seq ?_
        refine x_condF hs rfl (drop_f hj11027) ?_
        refine wp_exit ?_
        refine x_et ?_
        refine x_et ?_
        refine x_eb ?_
        have hm : some l11028 = some s11030 := hm
        exact ⟨l11028, Option.some.inj hm, hs.sub trivial, hM⟩
      · rewrite [impl_leastMean_1_l1] at hm
        have hx11034 := drop_idx hj11027
        have hsj11027 := ck_succ hj11027 (RdS.len (hM.rdI 5 rfl))
        refine wp_seq ?_
        refine wp_region_lit ?_
        refine wl hs (y_lss hs rfl rfl) rfl ?_; intro a hs
        refine wpList_nil ?_
        refine x_nt ?_
        refine wp_seq ?_
        refine x_condT hs rfl (drop_t hj11027) ?_
        refine wp_skip ?_
        refine x_nt ?_
        refine wp_seq ?_
        refine wp_block ?_
        refine wp_seq ?_
        refine wp_region_lit ?_
        have he11035 := RdI.at_ (hM.rdI 5 rfl) hx11034
        refine wl hs (y_index ht_I hs rfl rfl he11035) rfl ?_; intro a hs
        refine wl hs (y_load sc_int hs rfl he11035.cell) rfl ?_; intro a hs
        refine wl hs (y_assign hs rfl) rfl ?_; intro a hs
        refine wpList_nil ?_
        refine x_nt ?_
        refine wp_region_lit ?_
        refine wl hs (y_load sc_B hs rfl (hM.cellBlk 0 rfl 0 rfl)) rfl ?_; intro a hs
        refine wl hs (y_move hs rfl) rfl ?_; intro a hs
        obtain ⟨x11036, hx11037, hm⟩ := bindE hm
        have he11038 := RdB.at_ (hM.rdB 3 rfl) hx11037
        refine wl hs (y_index ht_B hs rfl rfl he11038) rfl ?_; intro a hs
        obtain ⟨l11039, h11040, hm⟩ := bindE hm
        refine wstore hs rfl rfl (x_storeB he_bool (hM.front 3 rfl) h11040) ?_; intro w hM
        have hM : Mem W w (aBools 4 v10 l11039 :: aBlk g_nodes 65 [v10] :: aBlk g_first 24 [v12] :: aBlk g_least 40 [.int .i64 n14, .int .i64 n15] :: aInts 3 v12 l13 :: aInts 3 v_p0 p0 :: aBlk g_m 22 [v_m] :: As) := hM
        refine wpList_nil ?_
        refine x_nb ?_
        refine x_nt ?_
        refine wp_region_lit ?_
        refine wl hs (y_add hs rfl rfl hsj11027) rfl ?_; intro a hs
        refine wl hs (y_move hs rfl) rfl ?_; intro a hs
        refine wpList_nil ?_
        exact ⟨_, by simp, q11032, j11027 + 1, l11039, rfl, hs.sub ⟨rfl, rfl, rfl, rfl, trivial⟩, (((((((hM.front 6 rfl).front 6 rfl).front 6 rfl).front 3 rfl).front 6 rfl).front 6 rfl).front 6 rfl), hm, drop_next hj11027⟩
    rintro a w ⟨l11029, rfl, hs, hM⟩
    have hm := hk11031
    have hm : some (l13, n14, n15, l11029) = some r := hm
    obtain rfl := Option.some.inj hm
    refine x_end0 rfl hs ⟨_, rfl, ?_⟩
    exact ⟨v12, v10, rfl, (((((((hM.front 3 rfl).front 1 rfl).front 3 rfl).front 4 rfl).front 4 rfl).front 6 rfl).front 6 rfl)⟩
  · replace hm := condF hb hm
    refine wp_skip ?_
    have hm : some (l13, n14, n15, l11) = some r := hm
    obtain rfl := Option.some.inj hm
    refine x_end0 rfl hs ⟨_, rfl, ?_⟩
    exact ⟨v12, v10, rfl, ((((((((hM.front 5 rfl).drop.front 3 rfl).front 1 rfl).front 3 rfl).front 4 rfl).front 4 rfl).front 6 rfl).front 6 rfl)⟩

set_option maxHeartbeats 4000000 in
theorem impl_circuits_1_leastMean_rec : ∀ (k : Nat) (g_l : Nat) (v_l : Value) (l : List Int) (g_mm : Nat) (v_mm : Value) (mm : List (List Int)) (g_visit : Nat) (g_next : Nat) (g_m : Nat) (v_m : Value) (m : List (List Int)) (g_first : Nat) (v_first : Value) (first : List Int) (g_least : Nat) (least_0 : Int) (least_1 : Int) (g_nodes : Nat) (v_nodes : Value) (nodes : List Bool) (W w : World) (As : List Atom) (hr_mm : RdM W v_mm mm) (hr_m : RdM W v_m m) (hM : Mem W w (aBlk g_l 24 [v_l] :: aInts 3 v_l l :: aBlk g_mm 22 [v_mm] :: aBlk g_visit 88 [.func (.func 110) #[] #[.pointer (some ⟨g_m, 0, none⟩), .pointer (some ⟨g_first, 0, none⟩), .pointer (some ⟨g_least, 0, none⟩), .pointer (some ⟨g_nodes, 0, none⟩)]] :: aBlk g_next 1 [.func (.func 129) #[] #[.pointer (some ⟨g_l, 0, none⟩), .pointer (some ⟨g_mm, 0, none⟩), .pointer (some ⟨g_visit, 0, none⟩), .pointer (some ⟨g_next, 0, none⟩)]] :: aBlk g_m 22 [v_m] :: aBlk g_first 24 [v_first] :: aInts 3 v_first first :: aBlk g_least 40 [.int .i64 least_0, .int .i64 least_1] :: aBlk g_nodes 65 [v_nodes] :: aBools 4 v_nodes nodes :: As)) {r : (List Int) × (List Int) × Int × Int × (List Bool)} (hm : impl_circuits_1_leastMean_r k l mm m first least_0 least_1 nodes = some r), Calls Try.prog 129 [.pointer (some ⟨g_l, 0, none⟩), .pointer (some ⟨g_mm, 0, none⟩), .pointer (some ⟨g_visit, 0, none⟩), .pointer (some ⟨g_next, 0, none⟩)].toArray w fun e w' => ∃ v, e = .returned v ∧ ∃ v_l', ∃ v_first', ∃ v_nodes', v = .tuple #[] ∧ Mem W w' (aBlk g_l 24 [v_l'] :: aInts 3 v_l' r.1 :: aBlk g_mm 22 [v_mm] :: aBlk g_visit 88 [.func (.func 110) #[] #[.pointer (some ⟨g_m, 0, none⟩), .pointer (some ⟨g_first, 0, none⟩), .pointer (some ⟨g_least, 0, none⟩), .pointer (some ⟨g_nodes, 0, none⟩)]] :: aBlk g_next 1 [.func (.func 129) #[] #[.pointer (some ⟨g_l, 0, none⟩), .pointer (some ⟨g_mm, 0, none⟩), .pointer (some ⟨g_visit, 0, none⟩), .pointer (some ⟨g_next, 0, none⟩)]] :: aBlk g_m 22 [v_m] :: aBlk g_first 24 [v_first'] :: aInts 3 v_first' r.2.1 :: aBlk g_least 40 [.int .i64 r.2.2.1, .int .i64 r.2.2.2.1] :: aBlk g_nodes 65 [v_nodes'] :: aBools 4 v_nodes' r.2.2.2.2 :: As) := by
  intro k
  induction k with
  | zero => intro g_l v_l l g_mm v_mm mm g_visit g_next g_m v_m m g_first v_first first g_least least_0 least_1 g_nodes v_nodes nodes W w As hr_mm hr_m hM r hm; have hm : none = some r := hm; cases hm
  | succ k ih =>
  intro g_l v_l l g_mm v_mm mm g_visit g_next g_m v_m m g_first v_first first g_least least_0 least_1 g_nodes v_nodes nodes W w As hr_mm hr_m hM r hm
  have hm : impl_circuits_1_leastMean_b (impl_circuits_1_leastMean_r k) l mm m first least_0 least_1 nodes = some r := hm
  generalize impl_circuits_1_leastMean_r k = rec at hm ih
  refine x_enter Try.func129 rfl Try.ntmps129 rfl ?_
  intro a hs
  unfold impl_circuits_1_leastMean_b at hm
  refine wp_seq ?_
  refine wp_region_lit ?_
  refine wl hs (y_load sc_I hs rfl (hM.cellBlk 0 rfl 0 rfl)) rfl ?_; intro a hs
  refine wl hs (y_load sc_I hs rfl (hM.cellBlk 0 rfl 0 rfl)) rfl ?_; intro a hs
  refine wl hs (y_len hu_I hs rfl (hM.rdI 1 rfl)) rfl ?_; intro a hs
  obtain ⟨n1, h2, hm⟩ := bindE hm
  refine wl hs (y_sub hs rfl rfl h2) rfl ?_; intro a hs
  obtain ⟨x3, hx4, hm⟩ := bindE hm
  have he5 := RdI.at_ (hM.rdI 1 rfl) hx4
  refine wl hs (y_index ht_I hs rfl rfl he5) rfl ?_; intro a hs
  refine wl hs (y_load sc_int hs rfl he5.cell) rfl ?_; intro a hs
  refine wl hs (y_assign hs rfl) rfl ?_; intro a hs
  refine wpList_nil ?_
  refine x_nt ?_
  refine wp_seq ?_
  refine wp_seq ?_
  refine x_regq hmix (by kernel_rfl) ?_
  refine wq hs (fun w1 hw1 => y_load sc_M hs rfl ((hM.quiet hw1).cellBlk 2 rfl 0 rfl)) rfl ?_; intro a hs
  refine wq hs (fun w1 hw1 => y_move hs rfl) rfl ?_; intro a hs
  obtain ⟨x6, hx7, hm⟩ := bindE hm
  obtain ⟨u9, he8, hr10⟩ := RdM.at_ hr_mm hx7
  replace he8 := he8.below hM.bel
  refine wq hs (fun w1 hw1 => y_index ht_M hs rfl rfl (he8.below hw1)) rfl ?_; intro a hs
  refine wq hs (fun w1 hw1 => y_load sc_I hs rfl (he8.below hw1).cell) rfl ?_; intro a hs
  refine wq hs (fun w1 hw1 => y_load sc_I hs rfl ((hM.quiet hw1).cellBlk 0 rfl 0 rfl)) rfl ?_; intro a hs
  obtain ⟨x11, hx12, hm⟩ := bindE hm
  have he13 := RdI.at_ (hM.rdI 1 rfl) hx12
  refine wq hs (fun w1 hw1 => y_index ht_I hs rfl rfl (he13.below hw1)) rfl ?_; intro a hs
  refine wq hs (fun w1 hw1 => y_load sc_int hs rfl (he13.below hw1).cell) rfl ?_; intro a hs
  obtain ⟨x14, hx15, hm⟩ := bindE hm
  have he16 := RdI.at_ (RdI.below hr10 hM.bel) hx15
  refine wq hs (fun w1 hw1 => y_index ht_I hs rfl rfl (he16.below hw1)) rfl ?_; intro a hs
  refine wq hs (fun w1 hw1 => y_load sc_int hs rfl (he16.below hw1).cell) rfl ?_; intro a hs
  refine wq hs (fun w1 hw1 => y_neq hs rfl rfl) rfl ?_; intro a hs
  refine wpQuiet_nil ?_
  intro w hw
  replace hM := hM.quiet hw
  refine x_nt ?_
  obtain ⟨s23, hm, hk24⟩ := bindE hm
  refine x_mid (fun a w => ∃ (v17 : Value), ∃ (l18 : List Int), ∃ (v19 : Value), ∃ (l20 : List Bool), ∃ (n21 : Int), ∃ (n22 : Int), (l18, l20, n21, n22) = s23 ∧ Fr a 60 [(0, .pointer (some ⟨g_l, 0, none⟩)), (1, .pointer (some ⟨g_mm, 0, none⟩)), (3, .pointer (some ⟨g_next, 0, none⟩)), (4, .int .i64 x3)] ∧ Mem W w (aInts 3 v_l l :: aBlk g_m 22 [v_m] :: aBlk g_first 24 [v17] :: aInts 3 v17 l18 :: aBlk g_least 40 [.int .i64 n21, .int .i64 n22] :: aBlk g_nodes 65 [v19] :: aBools 4 v19 l20 :: aBlk g_l 24 [v_l] :: aBlk g_mm 22 [v_mm] :: aBlk g_visit 88 [.func (.func 110) #[] #[.pointer (some ⟨g_m, 0, none⟩), .pointer (some ⟨g_first, 0, none⟩), .pointer (some ⟨g_least, 0, none⟩), .pointer (some ⟨g_nodes, 0, none⟩)]] :: aBlk g_next 1 [.func (.func 129) #[] #[.pointer (some ⟨g_l, 0, none⟩), .pointer (some ⟨g_mm, 0, none⟩), .pointer (some ⟨g_visit, 0, none⟩), .pointer (some ⟨g_next, 0, none⟩)]] :: As)) ?_ ?_
  · refine x_cond hs rfl (fun hb => ?_) (fun hb => ?_)
    · replace hm := condT hb hm
      refine wp_region_lit ?_
      refine wl hs (y_load sc_88 hs rfl (hM.cellBlk 3 rfl 0 rfl)) rfl ?_; intro a hs
      refine wl hs (y_load sc_I hs rfl (hM.cellBlk 0 rfl 0 rfl)) rfl ?_; intro a hs
      obtain ⟨y25, h26, hm⟩ := bindE hm
      refine wcallv is_110 hs rfl rfl rfl (impl_leastMean_1_any v_l l g_m v_m m g_first v_first first g_least least_0 least_1 g_nodes v_nodes nodes _ _ _ hr_m (((((((((((hM.front 4 rfl).front 4 rfl).front 4 rfl).front 3 rfl).front 10 rfl).front 10 rfl).front 10 rfl).front 10 rfl).front 10 rfl).front 10 rfl).front 10 rfl) h26) ?_; rintro a _ w hs ⟨v27, v28, rfl, hM⟩
      have hM : Mem W w (aInts 3 v_l l :: aBlk g_m 22 [v_m] :: aBlk g_first 24 [v27] :: aInts 3 v27 y25.1 :: aBlk g_least 40 [.int .i64 y25.2.1, .int .i64 y25.2.2.1] :: aBlk g_nodes 65 [v28] :: aBools 4 v28 y25.2.2.2 :: aBlk g_l 24 [v_l] :: aBlk g_mm 22 [v_mm] :: aBlk g_visit 88 [.func (.func 110) #[] #[.pointer (some ⟨g_m, 0, none⟩), .pointer (some ⟨g_first, 0, none⟩), .pointer (some ⟨g_least, 0, none⟩), .pointer (some ⟨g_nodes, 0, none⟩)]] :: aBlk g_next 1 [.func (.func 129) #[] #[.pointer (some ⟨g_l, 0, none⟩), .pointer (some ⟨g_mm, 0, none⟩), .pointer (some ⟨g_visit, 0, none⟩), .pointer (some ⟨g_next, 0, none⟩)]] :: As) := hM
      refine wpList_nil ?_
      have hm : some (y25.1, y25.2.2.2, y25.2.1, y25.2.2.1) = some s23 := hm
      exact ⟨v27, y25.1, v28, y25.2.2.2, y25.2.1, y25.2.2.1, Option.some.inj hm, hs.sub ⟨rfl, rfl, rfl, rfl, trivial⟩, hM⟩
    · replace hm := condF hb hm
      refine wp_skip ?_
      have hm : some (first, nodes, least_0, least_1) = some s23 := hm
      exact ⟨v_first, first, v_nodes, nodes, least_0, least_1, Option.some.inj hm, hs.sub ⟨rfl, rfl, rfl, rfl, trivial⟩, (((((((((((hM.front 4 rfl).front 4 rfl).front 4 rfl).front 3 rfl).front 10 rfl).front 10 rfl).front 10 rfl).front 10 rfl).front 10 rfl).front 10 rfl).front 10 rfl)⟩
  rintro a w ⟨v17, l18, v19, l20, n21, n22, rfl, hs, hM⟩
  have hm := hk24
  refine x_nt ?_
  refine wp_seq ?_
  refine wp_region_lit ?_
  refine wl hs (y_load sc_I hs rfl (hM.cellBlk 7 rfl 0 rfl)) rfl ?_; intro a hs
  have he29 := RdI.at_ (hM.rdI 0 rfl) hx12
  refine wl hs (y_index ht_I hs rfl rfl he29) rfl ?_; intro a hs
  refine wl hs (y_load sc_int hs rfl he29.cell) rfl ?_; intro a hs
  obtain ⟨n30, h31, hm⟩ := bindE hm
  refine wl hs (y_add hs rfl rfl h31) rfl ?_; intro a hs
  refine wl hs (y_assign hs rfl) rfl ?_; intro a hs
  refine wpList_nil ?_
  refine x_nt ?_
  obtain ⟨s49, hm, hk50⟩ := bindE hm
  refine x_mid (fun a w => ∃ (v41 : Value), ∃ (l42 : List Int), ∃ (v43 : Value), ∃ (l44 : List Int), ∃ (v45 : Value), ∃ (l46 : List Bool), ∃ (n47 : Int), ∃ (n48 : Int), (l42, l44, l46, n47, n48) = s49 ∧ Fr a 60 [] ∧ Mem W w (aInts 3 v41 l42 :: aBlk g_m 22 [v_m] :: aBlk g_first 24 [v43] :: aInts 3 v43 l44 :: aBlk g_least 40 [.int .i64 n47, .int .i64 n48] :: aBlk g_nodes 65 [v45] :: aBools 4 v45 l46 :: aBlk g_l 24 [v41] :: aBlk g_mm 22 [v_mm] :: aBlk g_visit 88 [.func (.func 110) #[] #[.pointer (some ⟨g_m, 0, none⟩), .pointer (some ⟨g_first, 0, none⟩), .pointer (some ⟨g_least, 0, none⟩), .pointer (some ⟨g_nodes, 0, none⟩)]] :: aBlk g_next 1 [.func (.func 129) #[] #[.pointer (some ⟨g_l, 0, none⟩), .pointer (some ⟨g_mm, 0, none⟩), .pointer (some ⟨g_visit, 0, none⟩), .pointer (some ⟨g_next, 0, none⟩)]] :: As)) ?_ ?_
  · refine wp_block ?_
    refine x_loop (fun k a w => ∃ (v32 : Value) (l33 : List Int) (v34 : Value) (l35 : List Int) (v36 : Value) (l37 : List Bool) (n38 : Int) (n39 : Int) (n40 : Int) , Fr a 60 [(0, .pointer (some ⟨g_l, 0, none⟩)), (1, .pointer (some ⟨g_mm, 0, none⟩)), (3, .pointer (some ⟨g_next, 0, none⟩)), (4, .int .i64 x3), (5, .int .i64 n40)] ∧ Mem W w (aInts 3 v32 l33 :: aBlk g_m 22 [v_m] :: aBlk g_first 24 [v34] :: aInts 3 v34 l35 :: aBlk g_least 40 [.int .i64 n38, .int .i64 n39] :: aBlk g_nodes 65 [v36] :: aBools 4 v36 l37 :: aBlk g_l 24 [v32] :: aBlk g_mm 22 [v_mm] :: aBlk g_visit 88 [.func (.func 110) #[] #[.pointer (some ⟨g_m, 0, none⟩), .pointer (some ⟨g_first, 0, none⟩), .pointer (some ⟨g_least, 0, none⟩), .pointer (some ⟨g_nodes, 0, none⟩)]] :: aBlk g_next 1 [.func (.func 129) #[] #[.pointer (some ⟨g_l, 0, none⟩), .pointer (some ⟨g_mm, 0, none⟩), .pointer (some ⟨g_visit, 0, none⟩), .pointer (some ⟨g_next, 0, none⟩)]] :: As) ∧ impl_circuits_1_leastMean_l1 mm m rec x6 k l33 l35 l37 n38 n39 n40 = some s49) 4000000 ⟨v_l, l, v17, l18, v19, l20, n21, n22, n30, hs.sub ⟨rfl, rfl, rfl, rfl, rfl, trivial⟩, hM, hm⟩ ?_
    rintro k a w ⟨v32, l33, v34, l35, v36, l37, n38, n39, n40, hs, hM, hm⟩
    rcases k with _ | k
    · rewrite [impl_circuits_1_leastMean_l1] at hm; cases hm
    rewrite [impl_circuits_1_leastMean_l1] at hm
    refine wp_seq ?_
    refine wp_seq ?_
    refine wp_region_lit ?_
    refine wl hs (y_move hs rfl) rfl ?_; intro a hs
    refine wl hs (y_load sc_M hs rfl (hM.cellBlk 8 rfl 0 rfl)) rfl ?_; intro a hs
    refine wl hs (y_len hu_M hs rfl (RdM.below hr_mm hM.bel)) rfl ?_; intro a hs
    refine wl hs (y_lss hs rfl rfl) rfl ?_; intro a hs
    refine wpList_nil ?_
    refine x_nt ?_
    refine x_cond hs rfl (fun hb => ?_) (fun hb => ?_)
    · replace hm := condT hb hm
      refine wp_skip ?_
      refine x_nt ?_
      refine wp_seq ?_
      refine wp_block ?_
      refine wp_seq ?_
      refine wp_region_lit ?_
      refine wl hs (y_load sc_M hs rfl (hM.cellBlk 8 rfl 0 rfl)) rfl ?_; intro a hs
      refine wl hs (y_move hs rfl) rfl ?_; intro a hs
      obtain ⟨u53, he52, hr54⟩ := RdM.at_ hr_mm hx7
      replace he52 := he52.below hM.bel
      refine wl hs (y_index ht_M hs rfl rfl he52) rfl ?_; intro a hs
      refine wl hs (y_load sc_I hs rfl he52.cell) rfl ?_; intro a hs
      refine wl hs (y_move hs rfl) rfl ?_; intro a hs
      obtain ⟨x55, hx56, hm⟩ := bindE hm
      have he57 := RdI.at_ (RdI.below hr54 hM.bel) hx56
      refine wl hs (y_index ht_I hs rfl rfl he57) rfl ?_; intro a hs
      refine wl hs (y_load sc_int hs rfl he57.cell) rfl ?_; intro a hs
      refine wl hs (y_neq hs rfl rfl) rfl ?_; intro a hs
      refine wl hs (y_move hs rfl) rfl ?_; intro a hs
      obtain ⟨b58, hb59, hm⟩ := bindE hm
      refine wlguard (N := 60) (L' := [(48, .bool b58), (0, .pointer (some ⟨g_l, 0, none⟩)), (1, .pointer (some ⟨g_mm, 0, none⟩)), (3, .pointer (some ⟨g_next, 0, none⟩)), (4, .int .i64 x3), (5, .int .i64 n40)]) (fun w => Mem W w (aInts 3 v32 l33 :: aBlk g_m 22 [v_m] :: aBlk g_first 24 [v34] :: aInts 3 v34 l35 :: aBlk g_least 40 [.int .i64 n38, .int .i64 n39] :: aBlk g_nodes 65 [v36] :: aBools 4 v36 l37 :: aBlk g_l 24 [v32] :: aBlk g_mm 22 [v_mm] :: aBlk g_visit 88 [.func (.func 110) #[] #[.pointer (some ⟨g_m, 0, none⟩), .pointer (some ⟨g_first, 0, none⟩), .pointer (some ⟨g_least, 0, none⟩), .pointer (some ⟨g_nodes, 0, none⟩)]] :: aBlk g_next 1 [.func (.func 129) #[] #[.pointer (some ⟨g_l, 0, none⟩), .pointer (some ⟨g_mm, 0, none⟩), .pointer (some ⟨g_visit, 0, none⟩), .pointer (some ⟨g_next, 0, none⟩)]] :: As)) 5 ?_ ?_
      · intro K; rcases Bool.eq_false_or_eq_true (x55 != 1000000000) with hg60 | hg60
        · have hm := condT hg60 hb59
          refine wlg hs rfl hg60 (y_load sc_I hs rfl (hM.cellBlk 7 rfl 0 rfl)) rfl ?_; intro a hs
          refine wlg hs rfl hg60 (y_move hs rfl) rfl ?_; intro a hs
          obtain ⟨y61, h62, hm⟩ := bindE hm
          refine wcallg is_103 hs rfl hg60 rfl rfl (slices_Contains_int_int_any v32 l33 n40 _ (hM.rdI 0 rfl) h62) ?_; rintro a _ w hs ⟨rfl, hX⟩
          have hM : Mem W w (aInts 3 v32 l33 :: aBlk g_m 22 [v_m] :: aBlk g_first 24 [v34] :: aInts 3 v34 l35 :: aBlk g_least 40 [.int .i64 n38, .int .i64 n39] :: aBlk g_nodes 65 [v36] :: aBools 4 v36 l37 :: aBlk g_l 24 [v32] :: aBlk g_mm 22 [v_mm] :: aBlk g_visit 88 [.func (.func 110) #[] #[.pointer (some ⟨g_m, 0, none⟩), .pointer (some ⟨g_first, 0, none⟩), .pointer (some ⟨g_least, 0, none⟩), .pointer (some ⟨g_nodes, 0, none⟩)]] :: aBlk g_next 1 [.func (.func 129) #[] #[.pointer (some ⟨g_l, 0, none⟩), .pointer (some ⟨g_mm, 0, none⟩), .pointer (some ⟨g_visit, 0, none⟩), .pointer (some ⟨g_next, 0, none⟩)]] :: As) := hM.call hX
          refine wlg hs rfl hg60 (y_not hs rfl) rfl ?_; intro a hs
          have hm : some (!y61) = some b58 := hm
          cases Option.some.inj hm
          refine wl hs (y_pickT hs rfl hg60 rfl) rfl ?_; intro a hs
          exact K _ _ (hs.sub ⟨rfl, rfl, rfl, rfl, rfl, rfl, trivial⟩) hM
        · have hm := condF hg60 hb59
          refine wls hs rfl hg60 rfl ?_; intro a hs
          refine wls hs rfl hg60 rfl ?_; intro a hs
          refine wls hs rfl hg60 rfl ?_; intro a hs
          refine wls hs rfl hg60 rfl ?_; intro a hs
          have hm : some false = some b58 := hm
          cases Option.some.inj hm
          refine wl hs (y_pickF hs rfl hg60 rfl) rfl ?_; intro a hs
          exact K _ _ (hs.sub ⟨rfl, rfl, rfl, rfl, rfl, rfl, trivial⟩) hM
      intro a w hs hM
      simp only [List.drop_succ_cons, List.drop_zero]
      refine wpList_nil ?_
      refine x_nt ?_
      refine x_cond hs rfl (fun hb => ?_) (fun hb => ?_)
      · replace hm := condT hb hm
        refine wp_seq ?_
        refine wp_region_lit ?_
        refine wl hs (y_load sc_I hs rfl (hM.cellBlk 7 rfl 0 rfl)) rfl ?_; intro a hs
        refine wl hs (y_move hs rfl) rfl ?_; intro a hs
        obtain ⟨l63, h64, hm⟩ := bindE hm
        refine wappI hu_I he_int hs hM rfl rfl h64 rfl rfl rfl ?_; intro a v65 w u66 hs hM
        have hM : Mem W w (aInts 3 v65 l63 :: aBlk g_m 22 [v_m] :: aBlk g_first 24 [v34] :: aInts 3 v34 l35 :: aBlk g_least 40 [.int .i64 n38, .int .i64 n39] :: aBlk g_nodes 65 [v36] :: aBools 4 v36 l37 :: aBlk g_l 24 [v32] :: aBlk g_mm 22 [v_mm] :: aBlk g_visit 88 [.func (.func 110) #[] #[.pointer (some ⟨g_m, 0, none⟩), .pointer (some ⟨g_first, 0, none⟩), .pointer (some ⟨g_least, 0, none⟩), .pointer (some ⟨g_nodes, 0, none⟩)]] :: aBlk g_next 1 [.func (.func 129) #[] #[.pointer (some ⟨g_l, 0, none⟩), .pointer (some ⟨g_mm, 0, none⟩), .pointer (some ⟨g_visit, 0, none⟩), .pointer (some ⟨g_next, 0, none⟩)]] :: As) := hM
        refine wstore hs rfl rfl (x_storeBlk he_I (Mem.one (hM.front 0 rfl)) (hM.front 7 rfl)) ?_; intro w hM
        have hM : Mem W w (aBlk g_l 24 [v65] :: aInts 3 v65 l63 :: aBlk g_m 22 [v_m] :: aBlk g_first 24 [v34] :: aInts 3 v34 l35 :: aBlk g_least 40 [.int .i64 n38, .int .i64 n39] :: aBlk g_nodes 65 [v36] :: aBools 4 v36 l37 :: aBlk g_mm 22 [v_mm] :: aBlk g_visit 88 [.func (.func 110) #[] #[.pointer (some ⟨g_m, 0, none⟩), .pointer (some ⟨g_first, 0, none⟩), .pointer (some ⟨g_least, 0, none⟩), .pointer (some ⟨g_nodes, 0, none⟩)]] :: aBlk g_next 1 [.func (.func 129) #[] #[.pointer (some ⟨g_l, 0, none⟩), .pointer (some ⟨g_mm, 0, none⟩), .pointer (some ⟨g_visit, 0, none⟩), .pointer (some ⟨g_next, 0, none⟩)]] :: As) := hM
        refine wpList_nil ?_
        refine x_nt ?_
        refine wp_seq ?_
        refine wp_region_lit ?_
        refine wl hs (y_load sc_1 hs rfl (hM.cellBlk 10 rfl 0 rfl)) rfl ?_; intro a hs
        obtain ⟨y67, h68, hm⟩ := bindE hm
        refine wcallv is_129 hs rfl rfl rfl (ih g_l v65 l63 g_mm v_mm mm g_visit g_next g_m v_m m g_first v34 l35 g_least n38 n39 g_nodes v36 l37 _ _ _ hr_mm hr_m (((((((((((hM.front 7 rfl).front 7 rfl).front 7 rfl).front 7 rfl).front 7 rfl).front 7 rfl).front 10 rfl).front 10 rfl).front 10 rfl).front 10 rfl).front 10 rfl) h68) ?_; rintro a _ w hs ⟨v69, v70, v71, rfl, hM⟩
        have hM : Mem W w (aBlk g_l 24 [v69] :: aInts 3 v69 y67.1 :: aBlk g_mm 22 [v_mm] :: aBlk g_visit 88 [.func (.func 110) #[] #[.pointer (some ⟨g_m, 0, none⟩), .pointer (some ⟨g_first, 0, none⟩), .pointer (some ⟨g_least, 0, none⟩), .pointer (some ⟨g_nodes, 0, none⟩)]] :: aBlk g_next 1 [.func (.func 129) #[] #[.pointer (some ⟨g_l, 0, none⟩), .pointer (some ⟨g_mm, 0, none⟩), .pointer (some ⟨g_visit, 0, none⟩), .pointer (some ⟨g_next, 0, none⟩)]] :: aBlk g_m 22 [v_m] :: aBlk g_first 24 [v70] :: aInts 3 v70 y67.2.1 :: aBlk g_least 40 [.int .i64 y67.2.2.1, .int .i64 y67.2.2.2.1] :: aBlk g_nodes 65 [v71] :: aBools 4 v71 y67.2.2.2.2 :: As) := hM
        refine wpList_nil ?_
        refine x_nt ?_
        refine wp_region_lit ?_
        refine wl hs (y_load sc_I hs rfl (hM.cellBlk 0 rfl 0 rfl)) rfl ?_; intro a hs
        refine wl hs (y_load sc_I hs rfl (hM.cellBlk 0 rfl 0 rfl)) rfl ?_; intro a hs
        refine wl hs (y_len hu_I hs rfl (hM.rdI 1 rfl)) rfl ?_; intro a hs
        obtain ⟨n72, h73, hm⟩ := bindE hm
        refine wl hs (y_sub hs rfl rfl h73) rfl ?_; intro a hs
        obtain ⟨l74, h75, hm⟩ := bindE hm
        obtain ⟨v76, h77, hM⟩ := (hM.front 1 rfl).cutI hu_I he_int h75
        have hM : Mem W w (aInts 3 v76 l74 :: aBlk g_l 24 [v69] :: aBlk g_mm 22 [v_mm] :: aBlk g_visit 88 [.func (.func 110) #[] #[.pointer (some ⟨g_m, 0, none⟩), .pointer (some ⟨g_first, 0, none⟩), .pointer (some ⟨g_least, 0, none⟩), .pointer (some ⟨g_nodes, 0, none⟩)]] :: aBlk g_next 1 [.func (.func 129) #[] #[.pointer (some ⟨g_l, 0, none⟩), .pointer (some ⟨g_mm, 0, none⟩), .pointer (some ⟨g_visit, 0, none⟩), .pointer (some ⟨g_next, 0, none⟩)]] :: aBlk g_m 22 [v_m] :: aBlk g_first 24 [v70] :: aInts 3 v70 y67.2.1 :: aBlk g_least 40 [.int .i64 y67.2.2.1, .int .i64 y67.2.2.2.1] :: aBlk g_nodes 65 [v71] :: aBools 4 v71 y67.2.2.2.2 :: As) := hM
        refine wl hs (y_cut hs rfl rfl h77) rfl ?_; intro a hs
        refine wstore hs rfl rfl (x_storeBlk he_I (Mem.one (hM.front 0 rfl)) (hM.front 1 rfl)) ?_; intro w hM
        have hM : Mem W w (aBlk g_l 24 [v76] :: aInts 3 v76 l74 :: aBlk g_mm 22 [v_mm] :: aBlk g_visit 88 [.func (.func 110) #[] #[.pointer (some ⟨g_m, 0, none⟩), .pointer (some ⟨g_first, 0, none⟩), .pointer (some ⟨g_least, 0, none⟩), .pointer (some ⟨g_nodes, 0, none⟩)]] :: aBlk g_next 1 [.func (.func 129) #[] #[.pointer (some ⟨g_l, 0, none⟩), .pointer (some ⟨g_mm, 0, none⟩), .pointer (some ⟨g_visit, 0, none⟩), .pointer (some ⟨g_next, 0, none⟩)]] :: aBlk g_m 22 [v_m] :: aBlk g_first 24 [v70] :: aInts 3 v70 y67.2.1 :: aBlk g_least 40 [.int .i64 y67.2.2.1, .int .i64 y67.2.2.2.1] :: aBlk g_nodes 65 [v71] :: aBools 4 v71 y67.2.2.2.2 :: As) := hM
        refine wpList_nil ?_
        refine x_nb ?_
        refine x_nt ?_
        refine wp_region_lit ?_
        refine wl hs (y_move hs rfl) rfl ?_; intro a hs
        obtain ⟨n78, h79, hm⟩ := bindE hm
        refine wl hs (y_add hs rfl rfl h79) rfl ?_; intro a hs
        refine wl hs (y_assign hs rfl) rfl ?_; intro a hs
        refine wpList_nil ?_
        exact ⟨k, Nat.lt_succ_self _, v76, l74, v70, y67.2.1, v71, y67.2.2.2.2, y67.2.2.1, y67.2.2.2.1, n78, hs.sub ⟨rfl, rfl, rfl, rfl, rfl, trivial⟩, (((((((((((hM.front 4 rfl).front 4 rfl).front 4 rfl).front 3 rfl).front 10 rfl).front 10 rfl).front 10 rfl).front 10 rfl).front 10 rfl).front 10 rfl).front 10 rfl), hm⟩
      · replace hm := condF hb hm
        refine wp_skip ?_
        refine x_nb ?_
        refine x_nt ?_
        refine wp_region_lit ?_
        refine wl hs (y_move hs rfl) rfl ?_; intro a hs
        obtain ⟨n80, h81, hm⟩ := bindE hm
        refine wl hs (y_add hs rfl rfl h81) rfl ?_; intro a hs
        refine wl hs (y_assign hs rfl) rfl ?_; intro a hs
        refine wpList_nil ?_
        exact ⟨k, Nat.lt_succ_self _, v32, l33, v34, l35, v36, l37, n38, n39, n80, hs.sub ⟨rfl, rfl, rfl, rfl, rfl, trivial⟩, hM, hm⟩
    · replace hm := condF hb hm
      refine wp_exit ?_
      refine x_et ?_
      refine x_et ?_
      refine x_eb ?_
      have hm : some (l33, l35, l37, n38, n39) = some s49 := hm
      exact ⟨v32, l33, v34, l35, v36, l37, n38, n39, Option.some.inj hm, hs.sub trivial, hM⟩
  rintro a w ⟨v41, l42, v43, l44, v45, l46, n47, n48, rfl, hs, hM⟩
  have hm := hk50
  have hm : some (l42, l44, n47, n48, l46) = some r := hm
  obtain rfl := Option.some.inj hm
  refine x_end0 rfl hs ⟨_, rfl, ?_⟩
  exact ⟨v41, v43, v45, rfl, (((((((((((hM.front 6 rfl).front 6 rfl).front 6 rfl).front 6 rfl).front 6 rfl).front 6 rfl).front 10 rfl).front 10 rfl).front 10 rfl).front 9 rfl).front 10 rfl)⟩
theorem impl_circuits_1_leastMean_any (g_l : Nat) (v_l : Value) (l : List Int) (g_mm : Nat) (v_mm : Value) (mm : List (List Int)) (g_visit : Nat) (g_next : Nat) (g_m : Nat) (v_m : Value) (m : List (List Int)) (g_first : Nat) (v_first : Value) (first : List Int) (g_least : Nat) (least_0 : Int) (least_1 : Int) (g_nodes : Nat) (v_nodes : Value) (nodes : List Bool) (W w : World) (As : List Atom) (hr_mm : RdM W v_mm mm) (hr_m : RdM W v_m m) (hM : Mem W w (aBlk g_l 24 [v_l] :: aInts 3 v_l l :: aBlk g_mm 22 [v_mm] :: aBlk g_visit 88 [.func (.func 110) #[] #[.pointer (some ⟨g_m, 0, none⟩), .pointer (some ⟨g_first, 0, none⟩), .pointer (some ⟨g_least, 0, none⟩), .pointer (some ⟨g_nodes, 0, none⟩)]] :: aBlk g_next 1 [.func (.func 129) #[] #[.pointer (some ⟨g_l, 0, none⟩), .pointer (some ⟨g_mm, 0, none⟩), .pointer (some ⟨g_visit, 0, none⟩), .pointer (some ⟨g_next, 0, none⟩)]] :: aBlk g_m 22 [v_m] :: aBlk g_first 24 [v_first] :: aInts 3 v_first first :: aBlk g_least 40 [.int .i64 least_0, .int .i64 least_1] :: aBlk g_nodes 65 [v_nodes] :: aBools 4 v_nodes nodes :: As)) {r : (List Int) × (List Int) × Int × Int × (List Bool)} (hm : impl_circuits_1_leastMean_m l mm m first least_0 least_1 nodes = some r) : Calls Try.prog 129 [.pointer (some ⟨g_l, 0, none⟩), .pointer (some ⟨g_mm, 0, none⟩), .pointer (some ⟨g_visit, 0, none⟩), .pointer (some ⟨g_next, 0, none⟩)].toArray w fun e w' => ∃ v, e = .returned v ∧ ∃ v_l', ∃ v_first', ∃ v_nodes', v = .tuple #[] ∧ Mem W w' (aBlk g_l 24 [v_l'] :: aInts 3 v_l' r.1 :: aBlk g_mm 22 [v_mm] :: aBlk g_visit 88 [.func (.func 110) #[] #[.pointer (some ⟨g_m, 0, none⟩), .pointer (some ⟨g_first, 0, none⟩), .pointer (some ⟨g_least, 0, none⟩), .pointer (some ⟨g_nodes, 0, none⟩)]] :: aBlk g_next 1 [.func (.func 129) #[] #[.pointer (some ⟨g_l, 0, none⟩), .pointer (some ⟨g_mm, 0, none⟩), .pointer (some ⟨g_visit, 0, none⟩), .pointer (some ⟨g_next, 0, none⟩)]] :: aBlk g_m 22 [v_m] :: aBlk g_first 24 [v_first'] :: aInts 3 v_first' r.2.1 :: aBlk g_least 40 [.int .i64 r.2.2.1, .int .i64 r.2.2.2.1] :: aBlk g_nodes 65 [v_nodes'] :: aBools 4 v_nodes' r.2.2.2.2 :: As) := impl_circuits_1_leastMean_rec 64 g_l v_l l g_mm v_mm mm g_visit g_next g_m v_m m g_first v_first first g_least least_0 least_1 g_nodes v_nodes nodes W w As hr_mm hr_m hM hm

theorem impl_circuits_leastMean_any (v_p0 : Value) (p0 : List (List Int)) (g_m : Nat) (v_m : Value) (m : List (List Int)) (g_first : Nat) (v_first : Value) (first : List Int) (g_least : Nat) (least_0 : Int) (least_1 : Int) (g_nodes : Nat) (v_nodes : Value) (nodes : List Bool) (W w : World) (As : List Atom) (hr_p0 : RdM W v_p0 p0) (hr_m : RdM W v_m m) (hM : Mem W w (aBlk g_m 22 [v_m] :: aBlk g_first 24 [v_first] :: aInts 3 v_first first :: aBlk g_least 40 [.int .i64 least_0, .int .i64 least_1] :: aBlk g_nodes 65 [v_nodes] :: aBools 4 v_nodes nodes :: As)) {r : (List Int) × Int × Int × (List Bool)} (hm : impl_circuits_leastMean_m p0 m first least_0 least_1 nodes = some r) : Calls Try.prog 109 [v_p0, .func (.func 110) #[] #[.pointer (some ⟨g_m, 0, none⟩), .pointer (some ⟨g_first, 0, none⟩), .pointer (some ⟨g_least, 0, none⟩), .pointer (some ⟨g_nodes, 0, none⟩)]].toArray w fun e w' => ∃ v, e = .returned v ∧ ∃ v_first', ∃ v_nodes', v = .tuple #[] ∧ Mem W w' (aBlk g_m 22 [v_m] :: aBlk g_first 24 [v_first'] :: aInts 3 v_first' r.1 :: aBlk g_least 40 [.int .i64 r.2.1, .int .i64 r.2.2.1] :: aBlk g_nodes 65 [v_nodes'] :: aBools 4 v_nodes' r.2.2.2 :: As) := by
  refine x_enter Try.func109 rfl Try.ntmps109 rfl ?_
  intro a hs
  unfold impl_circuits_leastMean_m at hm
  refine wp_seq ?_
  refine wp_region_lit ?_
  refine wmem hs (x_box (RdS.one hr_p0) hs rfl hM) rfl ?_; rintro a _ w hs ⟨g2, rfl, hM⟩
  have hM : Mem W w (aBlk g2 22 [v_p0] :: aBlk g_m 22 [v_m] :: aBlk g_first 24 [v_first] :: aInts 3 v_first first :: aBlk g_least 40 [.int .i64 least_0, .int .i64 least_1] :: aBlk g_nodes 65 [v_nodes] :: aBools 4 v_nodes nodes :: As) := hM
  refine wmem hs (x_box rfl hs rfl hM) rfl ?_; rintro a _ w hs ⟨g4, rfl, hM⟩
  have hM : Mem W w (aBlk g4 88 [.func (.func 110) #[] #[.pointer (some ⟨g_m, 0, none⟩), .pointer (some ⟨g_first, 0, none⟩), .pointer (some ⟨g_least, 0, none⟩), .pointer (some ⟨g_nodes, 0, none⟩)]] :: aBlk g2 22 [v_p0] :: aBlk g_m 22 [v_m] :: aBlk g_first 24 [v_first] :: aInts 3 v_first first :: aBlk g_least 40 [.int .i64 least_0, .int .i64 least_1] :: aBlk g_nodes 65 [v_nodes] :: aBools 4 v_nodes nodes :: As) := hM
  refine wpList_nil ?_
  refine x_nt ?_
  refine wp_seq ?_
  refine wp_region_lit ?_
  refine wmem hs (x_new0I ht_I hM) rfl ?_; intro a v6 w hs hM
  have hM : Mem W w (aInts 3 v6 ([]) :: aBlk g4 88 [.func (.func 110) #[] #[.pointer (some ⟨g_m, 0, none⟩), .pointer (some ⟨g_first, 0, none⟩), .pointer (some ⟨g_least, 0, none⟩), .pointer (some ⟨g_nodes, 0, none⟩)]] :: aBlk g2 22 [v_p0] :: aBlk g_m 22 [v_m] :: aBlk g_first 24 [v_first] :: aInts 3 v_first first :: aBlk g_least 40 [.int .i64 least_0, .int .i64 least_1] :: aBlk g_nodes 65 [v_nodes] :: aBools 4 v_nodes nodes :: As) := hM
  refine wmem hs (x_alloc he_I rfl hM) rfl ?_; rintro a _ w hs ⟨g8, rfl, hM⟩
  have hM : Mem W w (aBlk g8 24 [.slice none 0 0] :: aInts 3 v6 ([]) :: aBlk g4 88 [.func (.func 110) #[] #[.pointer (some ⟨g_m, 0, none⟩), .pointer (some ⟨g_first, 0, none⟩), .pointer (some ⟨g_least, 0, none⟩), .pointer (some ⟨g_nodes, 0, none⟩)]] :: aBlk g2 22 [v_p0] :: aBlk g_m 22 [v_m] :: aBlk g_first 24 [v_first] :: aInts 3 v_first first :: aBlk g_least 40 [.int .i64 least_0, .int .i64 least_1] :: aBlk g_nodes 65 [v_nodes] :: aBools 4 v_nodes nodes :: As) := hM
  refine wstore hs rfl rfl (x_storeBlk he_I (Mem.one (hM.front 1 rfl)) (hM.front 0 rfl)) ?_; intro w hM
  have hM : Mem W w (aBlk g8 24 [v6] :: aInts 3 v6 ([]) :: aBlk g4 88 [.func (.func 110) #[] #[.pointer (some ⟨g_m, 0, none⟩), .pointer (some ⟨g_first, 0, none⟩), .pointer (some ⟨g_least, 0, none⟩), .pointer (some ⟨g_nodes, 0, none⟩)]] :: aBlk g2 22 [v_p0] :: aBlk g_m 22 [v_m] :: aBlk g_first 24 [v_first] :: aInts 3 v_first first :: aBlk g_least 40 [.int .i64 least_0, .int .i64 least_1] :: aBlk g_nodes 65 [v_nodes] :: aBools 4 v_nodes nodes :: As) := hM
  refine wpList_nil ?_
  refine x_nt ?_
  refine wp_seq ?_
  refine wp_region_lit ?_
  refine wmem hs (x_alloc he_1 rfl hM) rfl ?_; rintro a _ w hs ⟨g10, rfl, hM⟩
  have hM : Mem W w (aBlk g10 1 [.nilFunc] :: aBlk g8 24 [v6] :: aInts 3 v6 ([]) :: aBlk g4 88 [.func (.func 110) #[] #[.pointer (some ⟨g_m, 0, none⟩), .pointer (some ⟨g_first, 0, none⟩), .pointer (some ⟨g_least, 0, none⟩), .pointer (some ⟨g_nodes, 0, none⟩)]] :: aBlk g2 22 [v_p0] :: aBlk g_m 22 [v_m] :: aBlk g_first 24 [v_first] :: aInts 3 v_first first :: aBlk g_least 40 [.int .i64 least_0, .int .i64 least_1] :: aBlk g_nodes 65 [v_nodes] :: aBools 4 v_nodes nodes :: As) := hM
  refine wpList_nil ?_
  refine x_nt ?_
  refine wp_seq ?_
  refine wp_region_lit ?_
  refine wl hs (y_makeFunc hs rfl) rfl ?_; intro a hs
  refine wstore hs rfl rfl (x_storeBlk he_1 rfl (hM.front 0 rfl)) ?_; intro w hM
  have hM : Mem W w (aBlk g10 1 [.func (.func 129) #[] #[.pointer (some ⟨g8, 0, none⟩), .pointer (some ⟨g2, 0, none⟩), .pointer (some ⟨g4, 0, none⟩), .pointer (some ⟨g10, 0, none⟩)]] :: aBlk g8 24 [v6] :: aInts 3 v6 ([]) :: aBlk g4 88 [.func (.func 110) #[] #[.pointer (some ⟨g_m, 0, none⟩), .pointer (some ⟨g_first, 0, none⟩), .pointer (some ⟨g_least, 0, none⟩), .pointer (some ⟨g_nodes, 0, none⟩)]] :: aBlk g2 22 [v_p0] :: aBlk g_m 22 [v_m] :: aBlk g_first 24 [v_first] :: aInts 3 v_first first :: aBlk g_least 40 [.int .i64 least_0, .int .i64 least_1] :: aBlk g_nodes 65 [v_nodes] :: aBools 4 v_nodes nodes :: As) := hM
  refine wpList_nil ?_
  refine x_nt ?_
  refine wp_seq ?_
  refine wp_region_lit ?_
  refine wl hs (y_load sc_M hs rfl (hM.cellBlk 4 rfl 0 rfl)) rfl ?_; intro a hs
  refine wl hs (y_len hu_M hs rfl (RdM.below hr_p0 hM.bel)) rfl ?_; intro a hs
  refine wl hs (y_move hs rfl) rfl ?_; intro a hs
  refine wpList_nil ?_
  refine x_nt ?_
  obtain ⟨s28, hm, hk29⟩ := bindE hm
  refine x_mid (fun a w => ∃ (v22 : Value), ∃ (l23 : List Int), ∃ (v24 : Value), ∃ (l25 : List Bool), ∃ (n26 : Int), ∃ (n27 : Int), (l23, l25, n26, n27) = s28 ∧ Fr a 19 [] ∧ Mem W w (aBlk g_m 22 [v_m] :: aBlk g_first 24 [v22] :: aInts 3 v22 l23 :: aBlk g_least 40 [.int .i64 n26, .int .i64 n27] :: aBlk g_nodes 65 [v24] :: aBools 4 v24 l25 :: As)) ?_ ?_
  · refine wp_block ?_
    refine x_loop (fun k a w => ∃ (q30 : List (List Int)) (j13 : Nat) (v14 : Value) (l15 : List Int) (v16 : Value) (l17 : List Int) (v18 : Value) (l19 : List Bool) (n20 : Int) (n21 : Int) , k = q30.length ∧ Fr a 19 [(4, .pointer (some ⟨g8, 0, none⟩)), (5, .pointer (some ⟨g10, 0, none⟩)), (10, .int .i64 (p0.length : Int)), (11, .int .i64 (j13 : Int))] ∧ Mem W w (aBlk g10 1 [.func (.func 129) #[] #[.pointer (some ⟨g8, 0, none⟩), .pointer (some ⟨g2, 0, none⟩), .pointer (some ⟨g4, 0, none⟩), .pointer (some ⟨g10, 0, none⟩)]] :: aBlk g8 24 [v14] :: aInts 3 v14 l15 :: aBlk g4 88 [.func (.func 110) #[] #[.pointer (some ⟨g_m, 0, none⟩), .pointer (some ⟨g_first, 0, none⟩), .pointer (some ⟨g_least, 0, none⟩), .pointer (some ⟨g_nodes, 0, none⟩)]] :: aBlk g2 22 [v_p0] :: aBlk g_m 22 [v_m] :: aBlk g_first 24 [v16] :: aInts 3 v16 l17 :: aBlk g_least 40 [.int .i64 n20, .int .i64 n21] :: aBlk g_nodes 65 [v18] :: aBools 4 v18 l19 :: As) ∧ impl_circuits_leastMean_l1 p0 m q30 j13 l15 l17 l19 n20 n21 = some s28 ∧ List.drop j13 p0 = q30) _ ⟨p0, 0, v6, [], v_first, first, v_nodes, nodes, least_0, least_1, rfl, hs.sub ⟨rfl, rfl, rfl, rfl, trivial⟩, hM, hm, rfl⟩ ?_
    rintro k a w ⟨q30, j13, v14, l15, v16, l17, v18, l19, n20, n21, rfl, hs, hM, hm, hj13⟩
    rcases q30 with _ | ⟨x31, q30⟩
    · rewrite [impl_circuits_leastMean_l1] at hm
      refine wp_seq ?_
      refine wp_region_lit ?_
      refine wl hs (y_lss hs rfl rfl) rfl ?_; intro a hs
      refine wpList_nil ?_
      refine x_nt ?_
      refine wp_seq ?_
      refine x_condF hs rfl (drop_f hj13) ?_
      refine wp_exit ?_
      refine x_et ?_
      refine x_et ?_
      refine x_eb ?_
      have hm : some (l17, l19, n20, n21) = some s28 := hm
      exact ⟨v16, l17, v18, l19, n20, n21, Option.some.inj hm, hs.sub trivial, hM.drop.drop.drop.drop.drop⟩
    · rewrite [impl_circuits_leastMean_l1] at hm
      have hx32 := drop_idx hj13
      have hsj13 := ck_succ hj13 (RdS.len (RdM.below hr_p0 hM.bel))
      refine wp_seq ?_
      refine wp_region_lit ?_
      refine wl hs (y_lss hs rfl rfl) rfl ?_; intro a hs
      refine wpList_nil ?_
      refine x_nt ?_
      refine wp_seq ?_
      refine x_condT hs rfl (drop_t hj13) ?_
      refine wp_skip ?_
      refine x_nt ?_
      refine wp_seq ?_
      refine wp_block ?_
      refine wp_seq ?_
      refine wp_region_lit ?_
      refine wl hs (y_move hs rfl) rfl ?_; intro a hs
      refine wl hs (y_assign hs rfl) rfl ?_; intro a hs
      refine wpList_nil ?_
      refine x_nt ?_
      refine wp_seq ?_
      refine wp_region_lit ?_
      refine wl hs (y_move hs rfl) rfl ?_; intro a hs
      refine wmem hs (x_new1I hu_I he_int hs rfl hM) rfl ?_; intro a v34 w hs hM
      have hM : Mem W w (aInts 3 v34 ([(j13 : Int)]) :: aBlk g10 1 [.func (.func 129) #[] #[.pointer (some ⟨g8, 0, none⟩), .pointer (some ⟨g2, 0, none⟩), .pointer (some ⟨g4, 0, none⟩), .pointer (some ⟨g10, 0, none⟩)]] :: aBlk g8 24 [v14] :: aInts 3 v14 l15 :: aBlk g4 88 [.func (.func 110) #[] #[.pointer (some ⟨g_m, 0, none⟩), .pointer (some ⟨g_first, 0, none⟩), .pointer (some ⟨g_least, 0, none⟩), .pointer (some ⟨g_nodes, 0, none⟩)]] :: aBlk g2 22 [v_p0] :: aBlk g_m 22 [v_m] :: aBlk g_first 24 [v16] :: aInts 3 v16 l17 :: aBlk g_least 40 [.int .i64 n20, .int .i64 n21] :: aBlk g_nodes 65 [v18] :: aBools 4 v18 l19 :: As) := hM
      refine wstore hs rfl rfl (x_storeBlk he_I (Mem.one (hM.front 0 rfl)) (hM.front 2 rfl)) ?_; intro w hM
      have hM : Mem W w (aBlk g8 24 [v34] :: aInts 3 v34 ([(j13 : Int)]) :: aBlk g10 1 [.func (.func 129) #[] #[.pointer (some ⟨g8, 0, none⟩), .pointer (some ⟨g2, 0, none⟩), .pointer (some ⟨g4, 0, none⟩), .pointer (some ⟨g10, 0, none⟩)]] :: aInts 3 v14 l15 :: aBlk g4 88 [.func (.func 110) #[] #[.pointer (some ⟨g_m, 0, none⟩), .pointer (some ⟨g_first, 0, none⟩), .pointer (some ⟨g_least, 0, none⟩), .pointer (some ⟨g_nodes, 0, none⟩)]] :: aBlk g2 22 [v_p0] :: aBlk g_m 22 [v_m] :: aBlk g_first 24 [v16] :: aInts 3 v16 l17 :: aBlk g_least 40 [.int .i64 n20, .int .i64 n21] :: aBlk g_nodes 65 [v18] :: aBools 4 v18 l19 :: As) := hM
      refine wpList_nil ?_
      refine x_nt ?_
      refine wp_region_lit ?_
      refine wl hs (y_load sc_1 hs rfl (hM.cellBlk 2 rfl 0 rfl)) rfl ?_; intro a hs
      obtain ⟨y35, h36, hm⟩ := bindE hm
      refine wcallv is_129 hs rfl rfl rfl (impl_circuits_1_leastMean_any g8 v34 ([(j13 : Int)]) g2 v_p0 p0 g4 g10 g_m v_m m g_first v16 l17 g_least n20 n21 g_nodes v18 l19 _ _ _ hr_p0 hr_m ((((((((((((hM.front 3 rfl).front 11 rfl).front 11 rfl).front 11 rfl).front 11 rfl).front 11 rfl).front 11 rfl).front 9 rfl).front 10 rfl).front 11 rfl).front 11 rfl).front 11 rfl) h36) ?_; rintro a _ w hs ⟨v37, v38, v39, rfl, hM⟩
      have hM : Mem W w (aBlk g8 24 [v37] :: aInts 3 v37 y35.1 :: aBlk g2 22 [v_p0] :: aBlk g4 88 [.func (.func 110) #[] #[.pointer (some ⟨g_m, 0, none⟩), .pointer (some ⟨g_first, 0, none⟩), .pointer (some ⟨g_least, 0, none⟩), .pointer (some ⟨g_nodes, 0, none⟩)]] :: aBlk g10 1 [.func (.func 129) #[] #[.pointer (some ⟨g8, 0, none⟩), .pointer (some ⟨g2, 0, none⟩), .pointer (some ⟨g4, 0, none⟩), .pointer (some ⟨g10, 0, none⟩)]] :: aBlk g_m 22 [v_m] :: aBlk g_first 24 [v38] :: aInts 3 v38 y35.2.1 :: aBlk g_least 40 [.int .i64 y35.2.2.1, .int .i64 y35.2.2.2.1] :: aBlk g_nodes 65 [v39] :: aBools 4 v39 y35.2.2.2.2 :: aInts 3 v14 l15 :: As) := hM
      refine wpList_nil ?_
      refine x_nb ?_
      refine x_nt ?_
      refine wp_region_lit ?_
      refine wl hs (y_add hs rfl rfl hsj13) rfl ?_; intro a hs
      refine wl hs (y_move hs rfl) rfl ?_; intro a hs
      refine wpList_nil ?_
      exact ⟨_, by simp, q30, j13 + 1, v37, y35.1, v38, y35.2.1, v39, y35.2.2.2.2, y35.2.2.1, y35.2.2.2.1, rfl, hs.sub ⟨rfl, rfl, rfl, rfl, trivial⟩, ((((((((((((hM.front 11 rfl).drop.front 10 rfl).front 10 rfl).front 10 rfl).front 10 rfl).front 10 rfl).front 10 rfl).front 8 rfl).front 9 rfl).front 9 rfl).front 9 rfl).front 10 rfl), hm, drop_next hj13⟩
  rintro a w ⟨v22, l23, v24, l25, n26, n27, rfl, hs, hM⟩
  have hm := hk29
  have hm : some (l23, n26, n27, l25) = some r := hm
  obtain rfl := Option.some.inj hm
  refine x_end0 rfl hs ⟨_, rfl, ?_⟩
  exact ⟨v22, v24, rfl, hM⟩

set_option maxHeartbeats 4000000 in
theorem impl_leastMean_any (v_p0 : Value) (p0 : List (List Int)) (W : World) (hr_p0 : RdM W v_p0 p0) {r : Int × Int × (List Int) × (List Bool) × Bool} (hm : impl_leastMean_m p0 = some r) : Calls Try.prog 78 [v_p0].toArray W fun e w => ∃ v, e = .returned v ∧ ∃ v2, ∃ v3, v = .tuple #[.agg #[.int .i64 r.1, .int .i64 r.2.1], v2, v3, .bool r.2.2.2.2] ∧ Mem W w [aInts 3 v2 r.2.2.1, aBools 4 v3 r.2.2.2.1] := by
  refine x_enter Try.func78 rfl Try.ntmps78 rfl ?_
  intro a hs
  have hM := Mem.start W
  unfold impl_leastMean_m at hm
  refine wp_seq ?_
  refine wp_region_lit ?_
  refine wmem hs (x_box (RdS.one hr_p0) hs rfl hM) rfl ?_; rintro a _ w hs ⟨g2, rfl, hM⟩
  have hM : Mem W w [aBlk g2 22 [v_p0]] := hM
  refine wmem hs (x_allocS sT_40 hM) rfl ?_; rintro a _ w hs ⟨g4, rfl, hM⟩
  have hM : Mem W w [aBlk g4 40 [.int .i64 0, .int .i64 0], aBlk g2 22 [v_p0]] := hM
  refine wl hs (y_assign hs rfl) rfl ?_; intro a hs
  refine wl hs (y_assign hs rfl) rfl ?_; intro a hs
  refine wl hs (y_assign hs rfl) rfl ?_; intro a hs
  refine wpList_nil ?_
  refine x_nt ?_
  refine wp_seq ?_
  obtain ⟨s14, hm, hk15⟩ := bindE hm
  refine x_mid (fun a w => ∃ (g5 : Nat), ∃ (g6 : Nat), ∃ (g7 : Nat), ∃ (v8 : Value), ∃ (l9 : List Bool), ∃ (v10 : Value), ∃ (l11 : List Int), ∃ (n12 : Int), ∃ (n13 : Int), (l9, l11, n12, n13) = s14 ∧ Fr a 23 [(1, .pointer (some ⟨g2, 0, none⟩)), (2, .pointer (some ⟨g4, 0, none⟩)), (6, .pointer (some ⟨g7, 0, none⟩)), (7, .pointer (some ⟨g6, 0, none⟩)), (8, .pointer (some ⟨g5, 0, none⟩))] ∧ Mem W w [aBlk g5 65 [v8], aBlk g6 24 [v10], aBlk g7 40 [.int .i64 n12, .int .i64 n13], aBools 4 v8 l9, aInts 3 v10 l11, aBlk g4 40 [.int .i64 0, .int .i64 0], aBlk g2 22 [v_p0]]) ?_ ?_
  · refine wc_start hmix [0, 2, 3] (fun w => Mem W w [aBlk g4 40 [.int .i64 0, .int .i64 0], aBlk g2 22 [v_p0]]) (by rfl) ?_
    refine wc (i := 0) (fuel := 10) rfl (by kernel_rfl) (fun w w2 hS hE => hS.quiet hE) hM hs (fun w1 hS => y_build (cs := [.int .i64 0, .int .i64 0]) sT_40 hs rfl trivial rfl) rfl ?_; intro a hs
    refine wc (i := 2) (fuel := 9) rfl (by kernel_rfl) (fun w w2 hS hE => hS.quiet hE) hM hs (fun w1 hS => y_load sc_M hs rfl (hS.cellBlk 1 rfl 0 rfl)) rfl ?_; intro a hs
    refine wc (i := 3) (fuel := 8) rfl (by kernel_rfl) (fun w w2 hS hE => hS.quiet hE) hM hs (fun w1 hS => y_len hu_M hs rfl (RdM.below hr_p0 hS.bel)) rfl ?_; intro a hs
    obtain ⟨_, h5019, hm⟩ := bindE hm
    refine wc_abs fun T16 hT16 => ?_
    have K16_2034 : ∀ (a : Act) (w : World) (g6018 : Nat) (g7018 : Nat) (g8018 : Nat) (v5018 : Value) (v2018 : Value), Fr a 23 [(1, .pointer (some ⟨g2, 0, none⟩)), (2, .pointer (some ⟨g4, 0, none⟩)), (6, .pointer (some ⟨g6018, 0, none⟩)), (7, .pointer (some ⟨g7018, 0, none⟩)), (8, .pointer (some ⟨g8018, 0, none⟩))] → Mem W w [aBlk g8018 65 [v5018], aBlk g7018 24 [v2018], aBlk g6018 40 [.int .i64 0, .int .i64 0], aBools 4 v5018 (List.replicate ((p0.length : Int)).toNat false), aInts 3 v2018 ([]), aBlk g4 40 [.int .i64 0, .int .i64 0], aBlk g2 22 [v_p0]] → T16 0 #[true, true, true, true, true, true, true, true, true, true, true] a w := by
      intro a w g6018 g7018 g8018 v5018 v2018 hs hM; subst hT16
      refine wc_done (by kernel_rfl) ?_
      intro w hw
      replace hM := hM.quiet hw
      have hm : some ((List.replicate ((p0.length : Int)).toNat false), [], 0, 0) = some s14 := hm
      exact ⟨g8018, g7018, g6018, v5018, (List.replicate ((p0.length : Int)).toNat false), v2018, [], 0, 0, Option.some.inj hm, hs.sub ⟨rfl, rfl, rfl, rfl, rfl, trivial⟩, hM⟩
    have K16_1010 : ∀ (a : Act) (w : World) (g6018 : Nat) (g7018 : Nat) (g8018 : Nat) (v5018 : Value) (v2018 : Value), Fr a 23 [(1, .pointer (some ⟨g2, 0, none⟩)), (2, .pointer (some ⟨g4, 0, none⟩)), (6, .pointer (some ⟨g6018, 0, none⟩)), (7, .pointer (some ⟨g7018, 0, none⟩)), (8, .pointer (some ⟨g8018, 0, none⟩)), (13, v5018)] → Mem W w [aBlk g7018 24 [v2018], aBlk g6018 40 [.int .i64 0, .int .i64 0], aBlk g8018 65 [.slice none 0 0], aBools 4 v5018 (List.replicate ((p0.length : Int)).toNat false), aInts 3 v2018 ([]), aBlk g4 40 [.int .i64 0, .int .i64 0], aBlk g2 22 [v_p0]] → T16 1 #[true, true, true, true, true, true, true, true, true, true, false] a w := by
      intro a w g6018 g7018 g8018 v5018 v2018 hs hM; subst hT16
      refine wc_one (fuel := 0) 10 rfl (by kernel_rfl) ?_
      intro w hw
      replace hM := hM.quiet hw
      refine wstore hs rfl rfl (x_storeBlk he_B (Mem.one (hM.front 3 rfl)) (hM.front 2 rfl)) ?_; intro w hM
      have hM : Mem W w [aBlk g8018 65 [v5018], aBlk g7018 24 [v2018], aBlk g6018 40 [.int .i64 0, .int .i64 0], aBools 4 v5018 (List.replicate ((p0.length : Int)).toNat false), aInts 3 v2018 ([]), aBlk g4 40 [.int .i64 0, .int .i64 0], aBlk g2 22 [v_p0]] := hM
      refine on_nil ?_
      exact wc_at (by kernel_rfl) (K16_2034 _ _ g6018 g7018 g8018 v5018 v2018 (hs.sub ⟨rfl, rfl, rfl, rfl, rfl, trivial⟩) hM)
    have K16_498 : ∀ (a : Act) (w : World) (g6018 : Nat) (g7018 : Nat) (g8018 : Nat) (v2018 : Value) (v5018 : Value), Fr a 23 [(1, .pointer (some ⟨g2, 0, none⟩)), (2, .pointer (some ⟨g4, 0, none⟩)), (6, .pointer (some ⟨g6018, 0, none⟩)), (7, .pointer (some ⟨g7018, 0, none⟩)), (8, .pointer (some ⟨g8018, 0, none⟩)), (10, v2018), (13, v5018)] → Mem W w [aBlk g6018 40 [.int .i64 0, .int .i64 0], aBlk g8018 65 [.slice none 0 0], aBlk g7018 24 [.slice none 0 0], aBools 4 v5018 (List.replicate ((p0.length : Int)).toNat false), aInts 3 v2018 ([]), aBlk g4 40 [.int .i64 0, .int .i64 0], aBlk g2 22 [v_p0]] → T16 2 #[true, true, true, true, true, true, true, true, true, false, false] a w := by
      intro a w g6018 g7018 g8018 v2018 v5018 hs hM; subst hT16
      refine wc_oneS (fuel := 1) 9 rfl (by kernel_rfl) ?_
      intro w hw
      replace hM := hM.quiet hw
      refine wstore hs rfl rfl (x_storeBlk he_I (Mem.one (hM.front 4 rfl)) (hM.front 2 rfl)) ?_; intro w hM
      have hM : Mem W w [aBlk g7018 24 [v2018], aBlk g6018 40 [.int .i64 0, .int .i64 0], aBlk g8018 65 [.slice none 0 0], aBools 4 v5018 (List.replicate ((p0.length : Int)).toNat false), aInts 3 v2018 ([]), aBlk g4 40 [.int .i64 0, .int .i64 0], aBlk g2 22 [v_p0]] := hM
      refine on_nil ⟨hM.drop.drop.drop.drop.drop, ?_⟩
      exact wc_at (by kernel_rfl) (K16_1010 _ _ g6018 g7018 g8018 v5018 v2018 (hs.sub ⟨rfl, rfl, rfl, rfl, rfl, rfl, trivial⟩) hM)
    have K16_994 : ∀ (a : Act) (w : World) (g6018 : Nat) (g7018 : Nat) (g8018 : Nat) (v2018 : Value), Fr a 23 [(1, .pointer (some ⟨g2, 0, none⟩)), (2, .pointer (some ⟨g4, 0, none⟩)), (6, .pointer (some ⟨g6018, 0, none⟩)), (7, .pointer (some ⟨g7018, 0, none⟩)), (8, .pointer (some ⟨g8018, 0, none⟩)), (12, .int .i64 (p0.length : Int))] → Mem W w [aBlk g7018 24 [v2018], aBlk g6018 40 [.int .i64 0, .int .i64 0], aBlk g8018 65 [.slice none 0 0], aInts 3 v2018 ([]), aBlk g4 40 [.int .i64 0, .int .i64 0], aBlk g2 22 [v_p0]] → T16 2 #[true, true, true, true, false, true, true, true, true, true, false] a w := by
      intro a w g6018 g7018 g8018 v2018 hs hM; subst hT16
      refine wc_oneS (fuel := 1) 4 rfl (by kernel_rfl) ?_
      intro w hw
      replace hM := hM.quiet hw
      refine wmem hs (x_makeB hu_B he_bool hs rfl hM h5019) rfl ?_; intro a v5018 w hs hM
      have hM : Mem W w [aBools 4 v5018 (List.replicate ((p0.length : Int)).toNat false), aBlk g7018 24 [v2018], aBlk g6018 40 [.int .i64 0, .int .i64 0], aBlk g8018 65 [.slice none 0 0], aInts 3 v2018 ([]), aBlk g4 40 [.int .i64 0, .int .i64 0], aBlk g2 22 [v_p0]] := hM
      refine on_nil ⟨hM.drop.drop.drop.drop.drop, ?_⟩
      exact wc_at (by kernel_rfl) (K16_1010 _ _ g6018 g7018 g8018 v5018 v2018 (hs.sub ⟨rfl, rfl, rfl, rfl, rfl, rfl, trivial⟩) (((((((hM.front 6 rfl).front 6 rfl).front 6 rfl).front 3 rfl).front 6 rfl).front 6 rfl).front 6 rfl))
    have K16_242 : ∀ (a : Act) (w : World) (g6018 : Nat) (g7018 : Nat) (g8018 : Nat) (v2018 : Value) (v5018 : Value), Fr a 23 [(1, .pointer (some ⟨g2, 0, none⟩)), (2, .pointer (some ⟨g4, 0, none⟩)), (6, .pointer (some ⟨g6018, 0, none⟩)), (7, .pointer (some ⟨g7018, 0, none⟩)), (8, .pointer (some ⟨g8018, 0, none⟩)), (9, .agg #[.int .i64 0, .int .i64 0]), (10, v2018), (13, v5018)] → Mem W w [aBlk g8018 65 [.slice none 0 0], aBlk g7018 24 [.slice none 0 0], aBlk g6018 40 [.int .i64 0, .int .i64 0], aBools 4 v5018 (List.replicate ((p0.length : Int)).toNat false), aInts 3 v2018 ([]), aBlk g4 40 [.int .i64 0, .int .i64 0], aBlk g2 22 [v_p0]] → T16 3 #[true, true, true, true, true, true, true, true, false, false, false] a w := by
      intro a w g6018 g7018 g8018 v2018 v5018 hs hM; subst hT16
      refine wc_oneS (fuel := 2) 8 rfl (by kernel_rfl) ?_
      intro w hw
      replace hM := hM.quiet hw
      refine wstore hs rfl rfl (x_storeS (cs := [.int .i64 0, .int .i64 0]) (us := [.int .i64 0, .int .i64 0]) sT_40 ⟨rfl, rfl, trivial⟩ rfl rfl (hM.front 2 rfl)) ?_; intro w hM
      have hM : Mem W w [aBlk g6018 40 [.int .i64 0, .int .i64 0], aBlk g8018 65 [.slice none 0 0], aBlk g7018 24 [.slice none 0 0], aBools 4 v5018 (List.replicate ((p0.length : Int)).toNat false), aInts 3 v2018 ([]), aBlk g4 40 [.int .i64 0, .int .i64 0], aBlk g2 22 [v_p0]] := hM
      refine on_nil ⟨hM.drop.drop.drop.drop.drop, ?_⟩
      exact wc_at (by kernel_rfl) (K16_498 _ _ g6018 g7018 g8018 v2018 v5018 (hs.sub ⟨rfl, rfl, rfl, rfl, rfl, rfl, rfl, trivial⟩) hM)
    have K16_482 : ∀ (a : Act) (w : World) (g6018 : Nat) (g7018 : Nat) (g8018 : Nat) (v2018 : Value), Fr a 23 [(1, .pointer (some ⟨g2, 0, none⟩)), (2, .pointer (some ⟨g4, 0, none⟩)), (6, .pointer (some ⟨g6018, 0, none⟩)), (7, .pointer (some ⟨g7018, 0, none⟩)), (8, .pointer (some ⟨g8018, 0, none⟩)), (10, v2018), (12, .int .i64 (p0.length : Int))] → Mem W w [aBlk g6018 40 [.int .i64 0, .int .i64 0], aBlk g8018 65 [.slice none 0 0], aBlk g7018 24 [.slice none 0 0], aInts 3 v2018 ([]), aBlk g4 40 [.int .i64 0, .int .i64 0], aBlk g2 22 [v_p0]] → T16 3 #[true, true, true, true, false, true, true, true, true, false, false] a w := by
      intro a w g6018 g7018 g8018 v2018 hs hM; subst hT16
      refine wc_many (fuel := 2) [4, 9] (by kernel_rfl) (by simp) ⟨?_, ?_, trivial⟩
      · rintro o ⟨rfl⟩
        intro w hw
        replace hM := hM.quiet hw
        refine wmem hs (x_makeB hu_B he_bool hs rfl hM h5019) rfl ?_; intro a v5018 w hs hM
        have hM : Mem W w [aBools 4 v5018 (List.replicate ((p0.length : Int)).toNat false), aBlk g6018 40 [.int .i64 0, .int .i64 0], aBlk g8018 65 [.slice none 0 0], aBlk g7018 24 [.slice none 0 0], aInts 3 v2018 ([]), aBlk g4 40 [.int .i64 0, .int .i64 0], aBlk g2 22 [v_p0]] := hM
        refine on_nil ⟨hM.drop.drop.drop.drop.drop, ?_⟩
        exact wc_at (by kernel_rfl) (K16_498 _ _ g6018 g7018 g8018 v2018 v5018 (hs.sub ⟨rfl, rfl, rfl, rfl, rfl, rfl, rfl, trivial⟩) (((((((hM.front 6 rfl).front 6 rfl).front 6 rfl).front 3 rfl).front 6 rfl).front 6 rfl).front 6 rfl))
      · rintro o ⟨rfl⟩
        intro w hw
        replace hM := hM.quiet hw
        refine wstore hs rfl rfl (x_storeBlk he_I (Mem.one (hM.front 3 rfl)) (hM.front 2 rfl)) ?_; intro w hM
        have hM : Mem W w [aBlk g7018 24 [v2018], aBlk g6018 40 [.int .i64 0, .int .i64 0], aBlk g8018 65 [.slice none 0 0], aInts 3 v2018 ([]), aBlk g4 40 [.int .i64 0, .int .i64 0], aBlk g2 22 [v_p0]] := hM
        refine on_nil ⟨hM.drop.drop.drop.drop, ?_⟩
        exact wc_at (by kernel_rfl) (K16_994 _ _ g6018 g7018 g8018 v2018 (hs.sub ⟨rfl, rfl, rfl, rfl, rfl, rfl, trivial⟩) hM)
    have K16_496 : ∀ (a : Act) (w : World) (g6018 : Nat) (g7018 : Nat) (g8018 : Nat) (v5018 : Value), Fr a 23 [(1, .pointer (some ⟨g2, 0, none⟩)), (2, .pointer (some ⟨g4, 0, none⟩)), (6, .pointer (some ⟨g6018, 0, none⟩)), (7, .pointer (some ⟨g7018, 0, none⟩)), (8, .pointer (some ⟨g8018, 0, none⟩)), (13, v5018)] → Mem W w [aBlk g6018 40 [.int .i64 0, .int .i64 0], aBlk g8018 65 [.slice none 0 0], aBlk g7018 24 [.slice none 0 0], aBools 4 v5018 (List.replicate ((p0.length : Int)).toNat false), aBlk g4 40 [.int .i64 0, .int .i64 0], aBlk g2 22 [v_p0]] → T16 3 #[true, false, true, true, true, true, true, true, true, false, false] a w := by
      intro a w g6018 g7018 g8018 v5018 hs hM; subst hT16
      refine wc_oneS (fuel := 2) 1 rfl (by kernel_rfl) ?_
      intro w hw
      replace hM := hM.quiet hw
      refine wmem hs (x_new0I ht_I hM) rfl ?_; intro a v2018 w hs hM
      have hM : Mem W w [aInts 3 v2018 ([]), aBlk g6018 40 [.int .i64 0, .int .i64 0], aBlk g8018 65 [.slice none 0 0], aBlk g7018 24 [.slice none 0 0], aBools 4 v5018 (List.replicate ((p0.length : Int)).toNat false), aBlk g4 40 [.int .i64 0, .int .i64 0], aBlk g2 22 [v_p0]] := hM
      refine on_nil ⟨hM.drop.drop.drop.drop.drop, ?_⟩
      exact wc_at (by kernel_rfl) (K16_498 _ _ g6018 g7018 g8018 v2018 v5018 (hs.sub ⟨rfl, rfl, rfl, rfl, rfl, rfl, rfl, trivial⟩) (((((((hM.front 6 rfl).front 6 rfl).front 2 rfl).front 6 rfl).front 6 rfl).front 6 rfl).front 6 rfl))
    have K16_114 : ∀ (a : Act) (w : World) (g6018 : Nat) (g7018 : Nat) (v2018 : Value) (v5018 : Value), Fr a 23 [(1, .pointer (some ⟨g2, 0, none⟩)), (2, .pointer (some ⟨g4, 0, none⟩)), (6, .pointer (some ⟨g6018, 0, none⟩)), (7, .pointer (some ⟨g7018, 0, none⟩)), (9, .agg #[.int .i64 0, .int .i64 0]), (10, v2018), (13, v5018)] → Mem W w [aBlk g7018 24 [.slice none 0 0], aBlk g6018 40 [.int .i64 0, .int .i64 0], aBools 4 v5018 (List.replicate ((p0.length : Int)).toNat false), aInts 3 v2018 ([]), aBlk g4 40 [.int .i64 0, .int .i64 0], aBlk g2 22 [v_p0]] → T16 4 #[true, true, true, true, true, true, true, false, false, false, false] a w := by
      intro a w g6018 g7018 v2018 v5018 hs hM; subst hT16
      refine wc_oneS (fuel := 3) 7 rfl (by kernel_rfl) ?_
      intro w hw
      replace hM := hM.quiet hw
      refine wmem hs (x_alloc he_B rfl hM) rfl ?_; rintro a _ w hs ⟨g8018, rfl, hM⟩
      have hM : Mem W w [aBlk g8018 65 [.slice none 0 0], aBlk g7018 24 [.slice none 0 0], aBlk g6018 40 [.int .i64 0, .int .i64 0], aBools 4 v5018 (List.replicate ((p0.length : Int)).toNat false), aInts 3 v2018 ([]), aBlk g4 40 [.int .i64 0, .int .i64 0], aBlk g2 22 [v_p0]] := hM
      refine on_nil ⟨hM.drop.drop.drop.drop.drop, ?_⟩
      exact wc_at (by kernel_rfl) (K16_242 _ _ g6018 g7018 g8018 v2018 v5018 (hs.sub ⟨rfl, rfl, rfl, rfl, rfl, rfl, rfl, rfl, trivial⟩) hM)
    have K16_178 : ∀ (a : Act) (w : World) (g6018 : Nat) (g8018 : Nat) (v2018 : Value) (v5018 : Value), Fr a 23 [(1, .pointer (some ⟨g2, 0, none⟩)), (2, .pointer (some ⟨g4, 0, none⟩)), (6, .pointer (some ⟨g6018, 0, none⟩)), (8, .pointer (some ⟨g8018, 0, none⟩)), (9, .agg #[.int .i64 0, .int .i64 0]), (10, v2018), (13, v5018)] → Mem W w [aBlk g8018 65 [.slice none 0 0], aBlk g6018 40 [.int .i64 0, .int .i64 0], aBools 4 v5018 (List.replicate ((p0.length : Int)).toNat false), aInts 3 v2018 ([]), aBlk g4 40 [.int .i64 0, .int .i64 0], aBlk g2 22 [v_p0]] → T16 4 #[true, true, true, true, true, true, false, true, false, false, false] a w := by
      intro a w g6018 g8018 v2018 v5018 hs hM; subst hT16
      refine wc_oneS (fuel := 3) 6 rfl (by kernel_rfl) ?_
      intro w hw
      replace hM := hM.quiet hw
      refine wmem hs (x_alloc he_I rfl hM) rfl ?_; rintro a _ w hs ⟨g7018, rfl, hM⟩
      have hM : Mem W w [aBlk g7018 24 [.slice none 0 0], aBlk g8018 65 [.slice none 0 0], aBlk g6018 40 [.int .i64 0, .int .i64 0], aBools 4 v5018 (List.replicate ((p0.length : Int)).toNat false), aInts 3 v2018 ([]), aBlk g4 40 [.int .i64 0, .int .i64 0], aBlk g2 22 [v_p0]] := hM
      refine on_nil ⟨hM.drop.drop.drop.drop.drop, ?_⟩
      exact wc_at (by kernel_rfl) (K16_242 _ _ g6018 g7018 g8018 v2018 v5018 (hs.sub ⟨rfl, rfl, rfl, rfl, rfl, rfl, rfl, rfl, trivial⟩) (((((((hM.front 6 rfl).front 6 rfl).front 6 rfl).front 6 rfl).front 6 rfl).front 5 rfl).front 6 rfl))
    have K16_210 : ∀ (a : Act) (w : World) (g7018 : Nat) (g8018 : Nat) (v2018 : Value) (v5018 : Value), Fr a 23 [(1, .pointer (some ⟨g2, 0, none⟩)), (2, .pointer (some ⟨g4, 0, none⟩)), (7, .pointer (some ⟨g7018, 0, none⟩)), (8, .pointer (some ⟨g8018, 0, none⟩)), (9, .agg #[.int .i64 0, .int .i64 0]), (10, v2018), (13, v5018)] → Mem W w [aBlk g8018 65 [.slice none 0 0], aBlk g7018 24 [.slice none 0 0], aBools 4 v5018 (List.replicate ((p0.length : Int)).toNat false), aInts 3 v2018 ([]), aBlk g4 40 [.int .i64 0, .int .i64 0], aBlk g2 22 [v_p0]] → T16 4 #[true, true, true, true, true, false, true, true, false, false, false] a w := by
      intro a w g7018 g8018 v2018 v5018 hs hM; subst hT16
      refine wc_oneS (fuel := 3) 5 rfl (by kernel_rfl) ?_
      intro w hw
      replace hM := hM.quiet hw
      refine wmem hs (x_allocS sT_40 hM) rfl ?_; rintro a _ w hs ⟨g6018, rfl, hM⟩
      have hM : Mem W w [aBlk g6018 40 [.int .i64 0, .int .i64 0], aBlk g8018 65 [.slice none 0 0], aBlk g7018 24 [.slice none 0 0], aBools 4 v5018 (List.replicate ((p0.length : Int)).toNat false), aInts 3 v2018 ([]), aBlk g4 40 [.int .i64 0, .int .i64 0], aBlk g2 22 [v_p0]] := hM
      refine on_nil ⟨hM.drop.drop.drop.drop.drop, ?_⟩
      exact wc_at (by kernel_rfl) (K16_242 _ _ g6018 g7018 g8018 v2018 v5018 (hs.sub ⟨rfl, rfl, rfl, rfl, rfl, rfl, rfl, rfl, trivial⟩) (((((((hM.front 6 rfl).front 6 rfl).front 6 rfl).front 6 rfl).front 4 rfl).front 6 rfl).front 6 rfl))
    have K16_226 : ∀ (a : Act) (w : World) (g6018 : Nat) (g7018 : Nat) (g8018 : Nat) (v2018 : Value), Fr a 23 [(1, .pointer (some ⟨g2, 0, none⟩)), (2, .pointer (some ⟨g4, 0, none⟩)), (6, .pointer (some ⟨g6018, 0, none⟩)), (7, .pointer (some ⟨g7018, 0, none⟩)), (8, .pointer (some ⟨g8018, 0, none⟩)), (9, .agg #[.int .i64 0, .int .i64 0]), (10, v2018), (12, .int .i64 (p0.length : Int))] → Mem W w [aBlk g8018 65 [.slice none 0 0], aBlk g7018 24 [.slice none 0 0], aBlk g6018 40 [.int .i64 0, .int .i64 0], aInts 3 v2018 ([]), aBlk g4 40 [.int .i64 0, .int .i64 0], aBlk g2 22 [v_p0]] → T16 4 #[true, true, true, true, false, true, true, true, false, false, false] a w := by
      intro a w g6018 g7018 g8018 v2018 hs hM; subst hT16
      refine wc_many (fuel := 3) [4, 8] (by kernel_rfl) (by simp) ⟨?_, ?_, trivial⟩
      · rintro o ⟨rfl⟩
        intro w hw
        replace hM := hM.quiet hw
        refine wmem hs (x_makeB hu_B he_bool hs rfl hM h5019) rfl ?_; intro a v5018 w hs hM
        have hM : Mem W w [aBools 4 v5018 (List.replicate ((p0.length : Int)).toNat false), aBlk g8018 65 [.slice none 0 0], aBlk g7018 24 [.slice none 0 0], aBlk g6018 40 [.int .i64 0, .int .i64 0], aInts 3 v2018 ([]), aBlk g4 40 [.int .i64 0, .int .i64 0], aBlk g2 22 [v_p0]] := hM
        refine on_nil ⟨hM.drop.drop.drop.drop.drop, ?_⟩
        exact wc_at (by kernel_rfl) (K16_242 _ _ g6018 g7018 g8018 v2018 v5018 (hs.sub ⟨rfl, rfl, rfl, rfl, rfl, rfl, rfl, rfl, trivial⟩) (((((((hM.front 6 rfl).front 6 rfl).front 6 rfl).front 3 rfl).front 6 rfl).front 6 rfl).front 6 rfl))
      · rintro o ⟨rfl⟩
        intro w hw
        replace hM := hM.quiet hw
        refine wstore hs rfl rfl (x_storeS (cs := [.int .i64 0, .int .i64 0]) (us := [.int .i64 0, .int .i64 0]) sT_40 ⟨rfl, rfl, trivial⟩ rfl rfl (hM.front 2 rfl)) ?_; intro w hM
        have hM : Mem W w [aBlk g6018 40 [.int .i64 0, .int .i64 0], aBlk g8018 65 [.slice none 0 0], aBlk g7018 24 [.slice none 0 0], aInts 3 v2018 ([]), aBlk g4 40 [.int .i64 0, .int .i64 0], aBlk g2 22 [v_p0]] := hM
        refine on_nil ⟨hM.drop.drop.drop.drop, ?_⟩
        exact wc_at (by kernel_rfl) (K16_482 _ _ g6018 g7018 g8018 v2018 (hs.sub ⟨rfl, rfl, rfl, rfl, rfl, rfl, rfl, trivial⟩) hM)
    have K16_240 : ∀ (a : Act) (w : World) (g6018 : Nat) (g7018 : Nat) (g8018 : Nat) (v5018 : Value), Fr a 23 [(1, .pointer (some ⟨g2, 0, none⟩)), (2, .pointer (some ⟨g4, 0, none⟩)), (6, .pointer (some ⟨g6018, 0, none⟩)), (7, .pointer (some ⟨g7018, 0, none⟩)), (8, .pointer (some ⟨g8018, 0, none⟩)), (9, .agg #[.int .i64 0, .int .i64 0]), (13, v5018)] → Mem W w [aBlk g8018 65 [.slice none 0 0], aBlk g7018 24 [.slice none 0 0], aBlk g6018 40 [.int .i64 0, .int .i64 0], aBools 4 v5018 (List.replicate ((p0.length : Int)).toNat false), aBlk g4 40 [.int .i64 0, .int .i64 0], aBlk g2 22 [v_p0]] → T16 4 #[true, false, true, true, true, true, true, true, false, false, false] a w := by
      intro a w g6018 g7018 g8018 v5018 hs hM; subst hT16
      refine wc_many (fuel := 3) [1, 8] (by kernel_rfl) (by simp) ⟨?_, ?_, trivial⟩
      · rintro o ⟨rfl⟩
        intro w hw
        replace hM := hM.quiet hw
        refine wmem hs (x_new0I ht_I hM) rfl ?_; intro a v2018 w hs hM
        have hM : Mem W w [aInts 3 v2018 ([]), aBlk g8018 65 [.slice none 0 0], aBlk g7018 24 [.slice none 0 0], aBlk g6018 40 [.int .i64 0, .int .i64 0], aBools 4 v5018 (List.replicate ((p0.length : Int)).toNat false), aBlk g4 40 [.int .i64 0, .int .i64 0], aBlk g2 22 [v_p0]] := hM
        refine on_nil ⟨hM.drop.drop.drop.drop.drop, ?_⟩
        exact wc_at (by kernel_rfl) (K16_242 _ _ g6018 g7018 g8018 v2018 v5018 (hs.sub ⟨rfl, rfl, rfl, rfl, rfl, rfl, rfl, rfl, trivial⟩) (((((((hM.front 6 rfl).front 6 rfl).front 2 rfl).front 6 rfl).front 6 rfl).front 6 rfl).front 6 rfl))
      · rintro o ⟨rfl⟩
        intro w hw
        replace hM := hM.quiet hw
        refine wstore hs rfl rfl (x_storeS (cs := [.int .i64 0, .int .i64 0]) (us := [.int .i64 0, .int .i64 0]) sT_40 ⟨rfl, rfl, trivial⟩ rfl rfl (hM.front 2 rfl)) ?_; intro w hM
        have hM : Mem W w [aBlk g6018 40 [.int .i64 0, .int .i64 0], aBlk g8018 65 [.slice none 0 0], aBlk g7018 24 [.slice none 0 0], aBools 4 v5018 (List.replicate ((p0.length : Int)).toNat false), aBlk g4 40 [.int .i64 0, .int .i64 0], aBlk g2 22 [v_p0]] := hM
        refine on_nil ⟨hM.drop.drop.drop.drop, ?_⟩
        exact wc_at (by kernel_rfl) (K16_496 _ _ g6018 g7018 g8018 v5018 (hs.sub ⟨rfl, rfl, rfl, rfl, rfl, rfl, trivial⟩) hM)
    have K16_480 : ∀ (a : Act) (w : World) (g6018 : Nat) (g7018 : Nat) (g8018 : Nat), Fr a 23 [(1, .pointer (some ⟨g2, 0, none⟩)), (2, .pointer (some ⟨g4, 0, none⟩)), (6, .pointer (some ⟨g6018, 0, none⟩)), (7, .pointer (some ⟨g7018, 0, none⟩)), (8, .pointer (some ⟨g8018, 0, none⟩)), (12, .int .i64 (p0.length : Int))] → Mem W w [aBlk g6018 40 [.int .i64 0, .int .i64 0], aBlk g8018 65 [.slice none 0 0], aBlk g7018 24 [.slice none 0 0], aBlk g4 40 [.int .i64 0, .int .i64 0], aBlk g2 22 [v_p0]] → T16 4 #[true, false, true, true, false, true, true, true, true, false, false] a w := by
      intro a w g6018 g7018 g8018 hs hM; subst hT16
      refine wc_many (fuel := 3) [1, 4] (by kernel_rfl) (by simp) ⟨?_, ?_, trivial⟩
      · rintro o ⟨rfl⟩
        intro w hw
        replace hM := hM.quiet hw
        refine wmem hs (x_new0I ht_I hM) rfl ?_; intro a v2018 w hs hM
        have hM : Mem W w [aInts 3 v2018 ([]), aBlk g6018 40 [.int .i64 0, .int .i64 0], aBlk g8018 65 [.slice none 0 0], aBlk g7018 24 [.slice none 0 0], aBlk g4 40 [.int .i64 0, .int .i64 0], aBlk g2 22 [v_p0]] := hM
        refine on_nil ⟨hM.drop.drop.drop.drop, ?_⟩
        exact wc_at (by kernel_rfl) (K16_482 _ _ g6018 g7018 g8018 v2018 (hs.sub ⟨rfl, rfl, rfl, rfl, rfl, rfl, rfl, trivial⟩) ((((((hM.front 5 rfl).front 5 rfl).front 2 rfl).front 5 rfl).front 5 rfl).front 5 rfl))
      · rintro o ⟨rfl⟩
        intro w hw
        replace hM := hM.quiet hw
        refine wmem hs (x_makeB hu_B he_bool hs rfl hM h5019) rfl ?_; intro a v5018 w hs hM
        have hM : Mem W w [aBools 4 v5018 (List.replicate ((p0.length : Int)).toNat false), aBlk g6018 40 [.int .i64 0, .int .i64 0], aBlk g8018 65 [.slice none 0 0], aBlk g7018 24 [.slice none 0 0], aBlk g4 40 [.int .i64 0, .int .i64 0], aBlk g2 22 [v_p0]] := hM
        refine on_nil ⟨hM.drop.drop.drop.drop, ?_⟩
        exact wc_at (by kernel_rfl) (K16_496 _ _ g6018 g7018 g8018 v5018 (hs.sub ⟨rfl, rfl, rfl, rfl, rfl, rfl, trivial⟩) ((((((hM.front 5 rfl).front 5 rfl).front 2 rfl).front 5 rfl).front 5 rfl).front 5 rfl))
    have K16_50 : ∀ (a : Act) (w : World) (g6018 : Nat) (v2018 : Value) (v5018 : Value), Fr a 23 [(1, .pointer (some ⟨g2, 0, none⟩)), (2, .pointer (some ⟨g4, 0, none⟩)), (6, .pointer (some ⟨g6018, 0, none⟩)), (9, .agg #[.int .i64 0, .int .i64 0]), (10, v2018), (13, v5018)] → Mem W w [aBlk g6018 40 [.int .i64 0, .int .i64 0], aBools 4 v5018 (List.replicate ((p0.length : Int)).toNat false), aInts 3 v2018 ([]), aBlk g4 40 [.int .i64 0, .int .i64 0], aBlk g2 22 [v_p0]] → T16 5 #[true, true, true, true, true, true, false, false, false, false, false] a w := by
      intro a w g6018 v2018 v5018 hs hM; subst hT16
      refine wc_many (fuel := 4) [6, 7] (by kernel_rfl) (by simp) ⟨?_, ?_, trivial⟩
      · rintro o ⟨rfl⟩
        intro w hw
        replace hM := hM.quiet hw
        refine wmem hs (x_alloc he_I rfl hM) rfl ?_; rintro a _ w hs ⟨g7018, rfl, hM⟩
        have hM : Mem W w [aBlk g7018 24 [.slice none 0 0], aBlk g6018 40 [.int .i64 0, .int .i64 0], aBools 4 v5018 (List.replicate ((p0.length : Int)).toNat false), aInts 3 v2018 ([]), aBlk g4 40 [.int .i64 0, .int .i64 0], aBlk g2 22 [v_p0]] := hM
        refine on_nil ⟨hM.drop.drop.drop.drop, ?_⟩
        exact wc_at (by kernel_rfl) (K16_114 _ _ g6018 g7018 v2018 v5018 (hs.sub ⟨rfl, rfl, rfl, rfl, rfl, rfl, rfl, trivial⟩) hM)
      · rintro o ⟨rfl⟩
        intro w hw
        replace hM := hM.quiet hw
        refine wmem hs (x_alloc he_B rfl hM) rfl ?_; rintro a _ w hs ⟨g8018, rfl, hM⟩
        have hM : Mem W w [aBlk g8018 65 [.slice none 0 0], aBlk g6018 40 [.int .i64 0, .int .i64 0], aBools 4 v5018 (List.replicate ((p0.length : Int)).toNat false), aInts 3 v2018 ([]), aBlk g4 40 [.int .i64 0, .int .i64 0], aBlk g2 22 [v_p0]] := hM
        refine on_nil ⟨hM.drop.drop.drop.drop, ?_⟩
        exact wc_at (by kernel_rfl) (K16_178 _ _ g6018 g8018 v2018 v5018 (hs.sub ⟨rfl, rfl, rfl, rfl, rfl, rfl, rfl, trivial⟩) hM)
    have K16_82 : ∀ (a : Act) (w : World) (g7018 : Nat) (v2018 : Value) (v5018 : Value), Fr a 23 [(1, .pointer (some ⟨g2, 0, none⟩)), (2, .pointer (some ⟨g4, 0, none⟩)), (7, .pointer (some ⟨g7018, 0, none⟩)), (9, .agg #[.int .i64 0, .int .i64 0]), (10, v2018), (13, v5018)] → Mem W w [aBlk g7018 24 [.slice none 0 0], aBools 4 v5018 (List.replicate ((p0.length : Int)).toNat false), aInts 3 v2018 ([]), aBlk g4 40 [.int .i64 0, .int .i64 0], aBlk g2 22 [v_p0]] → T16 5 #[true, true, true, true, true, false, true, false, false, false, false] a w := by
      intro a w g7018 v2018 v5018 hs hM; subst hT16
      refine wc_many (fuel := 4) [5, 7] (by kernel_rfl) (by simp) ⟨?_, ?_, trivial⟩
      · rintro o ⟨rfl⟩
        intro w hw
        replace hM := hM.quiet hw
        refine wmem hs (x_allocS sT_40 hM) rfl ?_; rintro a _ w hs ⟨g6018, rfl, hM⟩
        have hM : Mem W w [aBlk g6018 40 [.int .i64 0, .int .i64 0], aBlk g7018 24 [.slice none 0 0], aBools 4 v5018 (List.replicate ((p0.length : Int)).toNat false), aInts 3 v2018 ([]), aBlk g4 40 [.int .i64 0, .int .i64 0], aBlk g2 22 [v_p0]] := hM
        refine on_nil ⟨hM.drop.drop.drop.drop, ?_⟩
        exact wc_at (by kernel_rfl) (K16_114 _ _ g6018 g7018 v2018 v5018 (hs.sub ⟨rfl, rfl, rfl, rfl, rfl, rfl, rfl, trivial⟩) ((((((hM.front 5 rfl).front 5 rfl).front 5 rfl).front 5 rfl).front 4 rfl).front 5 rfl))
      · rintro o ⟨rfl⟩
        intro w hw
        replace hM := hM.quiet hw
        refine wmem hs (x_alloc he_B rfl hM) rfl ?_; rintro a _ w hs ⟨g8018, rfl, hM⟩
        have hM : Mem W w [aBlk g8018 65 [.slice none 0 0], aBlk g7018 24 [.slice none 0 0], aBools 4 v5018 (List.replicate ((p0.length : Int)).toNat false), aInts 3 v2018 ([]), aBlk g4 40 [.int .i64 0, .int .i64 0], aBlk g2 22 [v_p0]] := hM
        refine on_nil ⟨hM.drop.drop.drop.drop, ?_⟩
        exact wc_at (by kernel_rfl) (K16_210 _ _ g7018 g8018 v2018 v5018 (hs.sub ⟨rfl, rfl, rfl, rfl, rfl, rfl, rfl, trivial⟩) hM)
    have K16_146 : ∀ (a : Act) (w : World) (g8018 : Nat) (v2018 : Value) (v5018 : Value), Fr a 23 [(1, .pointer (some ⟨g2, 0, none⟩)), (2, .pointer (some ⟨g4, 0, none⟩)), (8, .pointer (some ⟨g8018, 0, none⟩)), (9, .agg #[.int .i64 0, .int .i64 0]), (10, v2018), (13, v5018)] → Mem W w [aBlk g8018 65 [.slice none 0 0], aBools 4 v5018 (List.replicate ((p0.length : Int)).toNat false), aInts 3 v2018 ([]), aBlk g4 40 [.int .i64 0, .int .i64 0], aBlk g2 22 [v_p0]] → T16 5 #[true, true, true, true, true, false, false, true, false, false, false] a w := by
      intro a w g8018 v2018 v5018 hs hM; subst hT16
      refine wc_many (fuel := 4) [5, 6] (by kernel_rfl) (by simp) ⟨?_, ?_, trivial⟩
      · rintro o ⟨rfl⟩
        intro w hw
        replace hM := hM.quiet hw
        refine wmem hs (x_allocS sT_40 hM) rfl ?_; rintro a _ w hs ⟨g6018, rfl, hM⟩
        have hM : Mem W w [aBlk g6018 40 [.int .i64 0, .int .i64 0], aBlk g8018 65 [.slice none 0 0], aBools 4 v5018 (List.replicate ((p0.length : Int)).toNat false), aInts 3 v2018 ([]), aBlk g4 40 [.int .i64 0, .int .i64 0], aBlk g2 22 [v_p0]] := hM
        refine on_nil ⟨hM.drop.drop.drop.drop, ?_⟩
        exact wc_at (by kernel_rfl) (K16_178 _ _ g6018 g8018 v2018 v5018 (hs.sub ⟨rfl, rfl, rfl, rfl, rfl, rfl, rfl, trivial⟩) ((((((hM.front 5 rfl).front 5 rfl).front 5 rfl).front 5 rfl).front 4 rfl).front 5 rfl))
      · rintro o ⟨rfl⟩
        intro w hw
        replace hM := hM.quiet hw
        refine wmem hs (x_alloc he_I rfl hM) rfl ?_; rintro a _ w hs ⟨g7018, rfl, hM⟩
        have hM : Mem W w [aBlk g7018 24 [.slice none 0 0], aBlk g8018 65 [.slice none 0 0], aBools 4 v5018 (List.replicate ((p0.length : Int)).toNat false), aInts 3 v2018 ([]), aBlk g4 40 [.int .i64 0, .int .i64 0], aBlk g2 22 [v_p0]] := hM
        refine on_nil ⟨hM.drop.drop.drop.drop, ?_⟩
        exact wc_at (by kernel_rfl) (K16_210 _ _ g7018 g8018 v2018 v5018 (hs.sub ⟨rfl, rfl, rfl, rfl, rfl, rfl, rfl, trivial⟩) ((((((hM.front 5 rfl).front 5 rfl).front 5 rfl).front 5 rfl).front 4 rfl).front 5 rfl))
    have K16_98 : ∀ (a : Act) (w : World) (g6018 : Nat) (g7018 : Nat) (v2018 : Value), Fr a 23 [(1, .pointer (some ⟨g2, 0, none⟩)), (2, .pointer (some ⟨g4, 0, none⟩)), (6, .pointer (some ⟨g6018, 0, none⟩)), (7, .pointer (some ⟨g7018, 0, none⟩)), (9, .agg #[.int .i64 0, .int .i64 0]), (10, v2018), (12, .int .i64 (p0.length : Int))] → Mem W w [aBlk g7018 24 [.slice none 0 0], aBlk g6018 40 [.int .i64 0, .int .i64 0], aInts 3 v2018 ([]), aBlk g4 40 [.int .i64 0, .int .i64 0], aBlk g2 22 [v_p0]] → T16 5 #[true, true, true, true, false, true, true, false, false, false, false] a w := by
      intro a w g6018 g7018 v2018 hs hM; subst hT16
      refine wc_many (fuel := 4) [4, 7] (by kernel_rfl) (by simp) ⟨?_, ?_, trivial⟩
      · rintro o ⟨rfl⟩
        intro w hw
        replace hM := hM.quiet hw
        refine wmem hs (x_makeB hu_B he_bool hs rfl hM h5019) rfl ?_; intro a v5018 w hs hM
        have hM : Mem W w [aBools 4 v5018 (List.replicate ((p0.length : Int)).toNat false), aBlk g7018 24 [.slice none 0 0], aBlk g6018 40 [.int .i64 0, .int .i64 0], aInts 3 v2018 ([]), aBlk g4 40 [.int .i64 0, .int .i64 0], aBlk g2 22 [v_p0]] := hM
        refine on_nil ⟨hM.drop.drop.drop.drop, ?_⟩
        exact wc_at (by kernel_rfl) (K16_114 _ _ g6018 g7018 v2018 v5018 (hs.sub ⟨rfl, rfl, rfl, rfl, rfl, rfl, rfl, trivial⟩) ((((((hM.front 5 rfl).front 5 rfl).front 5 rfl).front 3 rfl).front 5 rfl).front 5 rfl))
      · rintro o ⟨rfl⟩
        intro w hw
        replace hM := hM.quiet hw
        refine wmem hs (x_alloc he_B rfl hM) rfl ?_; rintro a _ w hs ⟨g8018, rfl, hM⟩
        have hM : Mem W w [aBlk g8018 65 [.slice none 0 0], aBlk g7018 24 [.slice none 0 0], aBlk g6018 40 [.int .i64 0, .int .i64 0], aInts 3 v2018 ([]), aBlk g4 40 [.int .i64 0, .int .i64 0], aBlk g2 22 [v_p0]] := hM
        refine on_nil ⟨hM.drop.drop.drop.drop, ?_⟩
        exact wc_at (by kernel_rfl) (K16_226 _ _ g6018 g7018 g8018 v2018 (hs.sub ⟨rfl, rfl, rfl, rfl, rfl, rfl, rfl, rfl, trivial⟩) hM)
    have K16_162 : ∀ (a : Act) (w : World) (g6018 : Nat) (g8018 : Nat) (v2018 : Value), Fr a 23 [(1, .pointer (some ⟨g2, 0, none⟩)), (2, .pointer (some ⟨g4, 0, none⟩)), (6, .pointer (some ⟨g6018, 0, none⟩)), (8, .pointer (some ⟨g8018, 0, none⟩)), (9, .agg #[.int .i64 0, .int .i64 0]), (10, v2018), (12, .int .i64 (p0.length : Int))] → Mem W w [aBlk g8018 65 [.slice none 0 0], aBlk g6018 40 [.int .i64 0, .int .i64 0], aInts 3 v2018 ([]), aBlk g4 40 [.int .i64 0, .int .i64 0], aBlk g2 22 [v_p0]] → T16 5 #[true, true, true, true, false, true, false, true, false, false, false] a w := by
      intro a w g6018 g8018 v2018 hs hM; subst hT16
      refine wc_many (fuel := 4) [4, 6] (by kernel_rfl) (by simp) ⟨?_, ?_, trivial⟩
      · rintro o ⟨rfl⟩
        intro w hw
        replace hM := hM.quiet hw
        refine wmem hs (x_makeB hu_B he_bool hs rfl hM h5019) rfl ?_; intro a v5018 w hs hM
        have hM : Mem W w [aBools 4 v5018 (List.replicate ((p0.length : Int)).toNat false), aBlk g8018 65 [.slice none 0 0], aBlk g6018 40 [.int .i64 0, .int .i64 0], aInts 3 v2018 ([]), aBlk g4 40 [.int .i64 0, .int .i64 0], aBlk g2 22 [v_p0]] := hM
        refine on_nil ⟨hM.drop.drop.drop.drop, ?_⟩
        exact wc_at (by kernel_rfl) (K16_178 _ _ g6018 g8018 v2018 v5018 (hs.sub ⟨rfl, rfl, rfl, rfl, rfl, rfl, rfl, trivial⟩) ((((((hM.front 5 rfl).front 5 rfl).front 5 rfl).front 3 rfl).front 5 rfl).front 5 rfl))
      · rintro o ⟨rfl⟩
        intro w hw
        replace hM := hM.quiet hw
        refine wmem hs (x_alloc he_I rfl hM) rfl ?_; rintro a _ w hs ⟨g7018, rfl, hM⟩
        have hM : Mem W w [aBlk g7018 24 [.slice none 0 0], aBlk g8018 65 [.slice none 0 0], aBlk g6018 40 [.int .i64 0, .int .i64 0], aInts 3 v2018 ([]), aBlk g4 40 [.int .i64 0, .int .i64 0], aBlk g2 22 [v_p0]] := hM
        refine on_nil ⟨hM.drop.drop.drop.drop, ?_⟩
        exact wc_at (by kernel_rfl) (K16_226 _ _ g6018 g7018 g8018 v2018 (hs.sub ⟨rfl, rfl, rfl, rfl, rfl, rfl, rfl, rfl, trivial⟩) ((((((hM.front 5 rfl).front 5 rfl).front 5 rfl).front 5 rfl).front 4 rfl).front 5 rfl))
    have K16_194 : ∀ (a : Act) (w : World) (g7018 : Nat) (g8018 : Nat) (v2018 : Value), Fr a 23 [(1, .pointer (some ⟨g2, 0, none⟩)), (2, .pointer (some ⟨g4, 0, none⟩)), (7, .pointer (some ⟨g7018, 0, none⟩)), (8, .pointer (some ⟨g8018, 0, none⟩)), (9, .agg #[.int .i64 0, .int .i64 0]), (10, v2018), (12, .int .i64 (p0.length : Int))] → Mem W w [aBlk g8018 65 [.slice none 0 0], aBlk g7018 24 [.slice none 0 0], aInts 3 v2018 ([]), aBlk g4 40 [.int .i64 0, .int .i64 0], aBlk g2 22 [v_p0]] → T16 5 #[true, true, true, true, false, false, true, true, false, false, false] a w := by
      intro a w g7018 g8018 v2018 hs hM; subst hT16
      refine wc_many (fuel := 4) [4, 5] (by kernel_rfl) (by simp) ⟨?_, ?_, trivial⟩
      · rintro o ⟨rfl⟩
        intro w hw
        replace hM := hM.quiet hw
        refine wmem hs (x_makeB hu_B he_bool hs rfl hM h5019) rfl ?_; intro a v5018 w hs hM
        have hM : Mem W w [aBools 4 v5018 (List.replicate ((p0.length : Int)).toNat false), aBlk g8018 65 [.slice none 0 0], aBlk g7018 24 [.slice none 0 0], aInts 3 v2018 ([]), aBlk g4 40 [.int .i64 0, .int .i64 0], aBlk g2 22 [v_p0]] := hM
        refine on_nil ⟨hM.drop.drop.drop.drop, ?_⟩
        exact wc_at (by kernel_rfl) (K16_210 _ _ g7018 g8018 v2018 v5018 (hs.sub ⟨rfl, rfl, rfl, rfl, rfl, rfl, rfl, trivial⟩) ((((((hM.front 5 rfl).front 5 rfl).front 5 rfl).front 3 rfl).front 5 rfl).front 5 rfl))
      · rintro o ⟨rfl⟩
        intro w hw
        replace hM := hM.quiet hw
        refine wmem hs (x_allocS sT_40 hM) rfl ?_; rintro a _ w hs ⟨g6018, rfl, hM⟩
        have hM : Mem W w [aBlk g6018 40 [.int .i64 0, .int .i64 0], aBlk g8018 65 [.slice none 0 0], aBlk g7018 24 [.slice none 0 0], aInts 3 v2018 ([]), aBlk g4 40 [.int .i64 0, .int .i64 0], aBlk g2 22 [v_p0]] := hM
        refine on_nil ⟨hM.drop.drop.drop.drop, ?_⟩
        exact wc_at (by kernel_rfl) (K16_226 _ _ g6018 g7018 g8018 v2018 (hs.sub ⟨rfl, rfl, rfl, rfl, rfl, rfl, rfl, rfl, trivial⟩) ((((((hM.front 5 rfl).front 5 rfl).front 5 rfl).front 3 rfl).front 5 rfl).front 5 rfl))
    have K16_112 : ∀ (a : Act) (w : World) (g6018 : Nat) (g7018 : Nat) (v5018 : Value), Fr a 23 [(1, .pointer (some ⟨g2, 0, none⟩)), (2, .pointer (some ⟨g4, 0, none⟩)), (6, .pointer (some ⟨g6018, 0, none⟩)), (7, .pointer (some ⟨g7018, 0, none⟩)), (9, .agg #[.int .i64 0, .int .i64 0]), (13, v5018)] → Mem W w [aBlk g7018 24 [.slice none 0 0], aBlk g6018 40 [.int .i64 0, .int .i64 0], aBools 4 v5018 (List.replicate ((p0.length : Int)).toNat false), aBlk g4 40 [.int .i64 0, .int .i64 0], aBlk g2 22 [v_p0]] → T16 5 #[true, false, true, true, true, true, true, false, false, false, false] a w := by
      intro a w g6018 g7018 v5018 hs hM; subst hT16
      refine wc_many (fuel := 4) [1, 7] (by kernel_rfl) (by simp) ⟨?_, ?_, trivial⟩
      · rintro o ⟨rfl⟩
        intro w hw
        replace hM := hM.quiet hw
        refine wmem hs (x_new0I ht_I hM) rfl ?_; intro a v2018 w hs hM
        have hM : Mem W w [aInts 3 v2018 ([]), aBlk g7018 24 [.slice none 0 0], aBlk g6018 40 [.int .i64 0, .int .i64 0], aBools 4 v5018 (List.replicate ((p0.length : Int)).toNat false), aBlk g4 40 [.int .i64 0, .int .i64 0], aBlk g2 22 [v_p0]] := hM
        refine on_nil ⟨hM.drop.drop.drop.drop, ?_⟩
        exact wc_at (by kernel_rfl) (K16_114 _ _ g6018 g7018 v2018 v5018 (hs.sub ⟨rfl, rfl, rfl, rfl, rfl, rfl, rfl, trivial⟩) ((((((hM.front 5 rfl).front 5 rfl).front 2 rfl).front 5 rfl).front 5 rfl).front 5 rfl))
      · rintro o ⟨rfl⟩
        intro w hw
        replace hM := hM.quiet hw
        refine wmem hs (x_alloc he_B rfl hM) rfl ?_; rintro a _ w hs ⟨g8018, rfl, hM⟩
        have hM : Mem W w [aBlk g8018 65 [.slice none 0 0], aBlk g7018 24 [.slice none 0 0], aBlk g6018 40 [.int .i64 0, .int .i64 0], aBools 4 v5018 (List.replicate ((p0.length : Int)).toNat false), aBlk g4 40 [.int .i64 0, .int .i64 0], aBlk g2 22 [v_p0]] := hM
        refine on_nil ⟨hM.drop.drop.drop.drop, ?_⟩
        exact wc_at (by kernel_rfl) (K16_240 _ _ g6018 g7018 g8018 v5018 (hs.sub ⟨rfl, rfl, rfl, rfl, rfl, rfl, rfl, trivial⟩) hM)
    have K16_176 : ∀ (a : Act) (w : World) (g6018 : Nat) (g8018 : Nat) (v5018 : Value), Fr a 23 [(1, .pointer (some ⟨g2, 0, none⟩)), (2, .pointer (some ⟨g4, 0, none⟩)), (6, .pointer (some ⟨g6018, 0, none⟩)), (8, .pointer (some ⟨g8018, 0, none⟩)), (9, .agg #[.int .i64 0, .int .i64 0]), (13, v5018)] → Mem W w [aBlk g8018 65 [.slice none 0 0], aBlk g6018 40 [.int .i64 0, .int .i64 0], aBools 4 v5018 (List.replicate ((p0.length : Int)).toNat false), aBlk g4 40 [.int .i64 0, .int .i64 0], aBlk g2 22 [v_p0]] → T16 5 #[true, false, true, true, true, true, false, true, false, false, false] a w := by
      intro a w g6018 g8018 v5018 hs hM; subst hT16
      refine wc_many (fuel := 4) [1, 6] (by kernel_rfl) (by simp) ⟨?_, ?_, trivial⟩
      · rintro o ⟨rfl⟩
        intro w hw
        replace hM := hM.quiet hw
        refine wmem hs (x_new0I ht_I hM) rfl ?_; intro a v2018 w hs hM
        have hM : Mem W w [aInts 3 v2018 ([]), aBlk g8018 65 [.slice none 0 0], aBlk g6018 40 [.int .i64 0, .int .i64 0], aBools 4 v5018 (List.replicate ((p0.length : Int)).toNat false), aBlk g4 40 [.int .i64 0, .int .i64 0], aBlk g2 22 [v_p0]] := hM
        refine on_nil ⟨hM.drop.drop.drop.drop, ?_⟩
        exact wc_at (by kernel_rfl) (K16_178 _ _ g6018 g8018 v2018 v5018 (hs.sub ⟨rfl, rfl, rfl, rfl, rfl, rfl, rfl, trivial⟩) ((((((hM.front 5 rfl).front 5 rfl).front 2 rfl).front 5 rfl).front 5 rfl).front 5 rfl))
      · rintro o ⟨rfl⟩
        intro w hw
        replace hM := hM.quiet hw
        refine wmem hs (x_alloc he_I rfl hM) rfl ?_; rintro a _ w hs ⟨g7018, rfl, hM⟩
        have hM : Mem W w [aBlk g7018 24 [.slice none 0 0], aBlk g8018 65 [.slice none 0 0], aBlk g6018 40 [.int .i64 0, .int .i64 0], aBools 4 v5018 (List.replicate ((p0.length : Int)).toNat false), aBlk g4 40 [.int .i64 0, .int .i64 0], aBlk g2 22 [v_p0]] := hM
        refine on_nil ⟨hM.drop.drop.drop.drop, ?_⟩
        exact wc_at (by kernel_rfl) (K16_240 _ _ g6018 g7018 g8018 v5018 (hs.sub ⟨rfl, rfl, rfl, rfl, rfl, rfl, rfl, trivial⟩) ((((((hM.front 5 rfl).front 5 rfl).front 5 rfl).front 5 rfl).front 4 rfl).front 5 rfl))
    have K16_208 : ∀ (a : Act) (w : World) (g7018 : Nat) (g8018 : Nat) (v5018 : Value), Fr a 23 [(1, .pointer (some ⟨g2, 0, none⟩)), (2, .pointer (some ⟨g4, 0, none⟩)), (7, .pointer (some ⟨g7018, 0, none⟩)), (8, .pointer (some ⟨g8018, 0, none⟩)), (9, .agg #[.int .i64 0, .int .i64 0]), (13, v5018)] → Mem W w [aBlk g8018 65 [.slice none 0 0], aBlk g7018 24 [.slice none 0 0], aBools 4 v5018 (List.replicate ((p0.length : Int)).toNat false), aBlk g4 40 [.int .i64 0, .int .i64 0], aBlk g2 22 [v_p0]] → T16 5 #[true, false, true, true, true, false, true, true, false, false, false] a w := by
      intro a w g7018 g8018 v5018 hs hM; subst hT16
      refine wc_many (fuel := 4) [1, 5] (by kernel_rfl) (by simp) ⟨?_, ?_, trivial⟩
      · rintro o ⟨rfl⟩
        intro w hw
        replace hM := hM.quiet hw
        refine wmem hs (x_new0I ht_I hM) rfl ?_; intro a v2018 w hs hM
        have hM : Mem W w [aInts 3 v2018 ([]), aBlk g8018 65 [.slice none 0 0], aBlk g7018 24 [.slice none 0 0], aBools 4 v5018 (List.replicate ((p0.length : Int)).toNat false), aBlk g4 40 [.int .i64 0, .int .i64 0], aBlk g2 22 [v_p0]] := hM
        refine on_nil ⟨hM.drop.drop.drop.drop, ?_⟩
        exact wc_at (by kernel_rfl) (K16_210 _ _ g7018 g8018 v2018 v5018 (hs.sub ⟨rfl, rfl, rfl, rfl, rfl, rfl, rfl, trivial⟩) ((((((hM.front 5 rfl).front 5 rfl).front 2 rfl).front 5 rfl).front 5 rfl).front 5 rfl))
      · rintro o ⟨rfl⟩
        intro w hw
        replace hM := hM.quiet hw
        refine wmem hs (x_allocS sT_40 hM) rfl ?_; rintro a _ w hs ⟨g6018, rfl, hM⟩
        have hM : Mem W w [aBlk g6018 40 [.int .i64 0, .int .i64 0], aBlk g8018 65 [.slice none 0 0], aBlk g7018 24 [.slice none 0 0], aBools 4 v5018 (List.replicate ((p0.length : Int)).toNat false), aBlk g4 40 [.int .i64 0, .int .i64 0], aBlk g2 22 [v_p0]] := hM
        refine on_nil ⟨hM.drop.drop.drop.drop, ?_⟩
        exact wc_at (by kernel_rfl) (K16_240 _ _ g6018 g7018 g8018 v5018 (hs.sub ⟨rfl, rfl, rfl, rfl, rfl, rfl, rfl, trivial⟩) ((((((hM.front 5 rfl).front 5 rfl).front 5 rfl).front 3 rfl).front 5 rfl).front 5 rfl))
    have K16_224 : ∀ (a : Act) (w : World) (g6018 : Nat) (g7018 : Nat) (g8018 : Nat), Fr a 23 [(1, .pointer (some ⟨g2, 0, none⟩)), (2, .pointer (some ⟨g4, 0, none⟩)), (6, .pointer (some ⟨g6018, 0, none⟩)), (7, .pointer (some ⟨g7018, 0, none⟩)), (8, .pointer (some ⟨g8018, 0, none⟩)), (9, .agg #[.int .i64 0, .int .i64 0]), (12, .int .i64 (p0.length : Int))] → Mem W w [aBlk g8018 65 [.slice none 0 0], aBlk g7018 24 [.slice none 0 0], aBlk g6018 40 [.int .i64 0, .int .i64 0], aBlk g4 40 [.int .i64 0, .int .i64 0], aBlk g2 22 [v_p0]] → T16 5 #[true, false, true, true, false, true, true, true, false, false, false] a w := by
      intro a w g6018 g7018 g8018 hs hM; subst hT16
      refine wc_many (fuel := 4) [1, 4, 8] (by kernel_rfl) (by simp) ⟨?_, ?_, ?_, trivial⟩
      · rintro o ⟨rfl⟩
        intro w hw
        replace hM := hM.quiet hw
        refine wmem hs (x_new0I ht_I hM) rfl ?_; intro a v2018 w hs hM
        have hM : Mem W w [aInts 3 v2018 ([]), aBlk g8018 65 [.slice none 0 0], aBlk g7018 24 [.slice none 0 0], aBlk g6018 40 [.int .i64 0, .int .i64 0], aBlk g4 40 [.int .i64 0, .int .i64 0], aBlk g2 22 [v_p0]] := hM
        refine on_nil ⟨hM.drop.drop.drop.drop, ?_⟩
        exact wc_at (by kernel_rfl) (K16_226 _ _ g6018 g7018 g8018 v2018 (hs.sub ⟨rfl, rfl, rfl, rfl, rfl, rfl, rfl, rfl, trivial⟩) ((((((hM.front 5 rfl).front 5 rfl).front 2 rfl).front 5 rfl).front 5 rfl).front 5 rfl))
      · rintro o ⟨rfl⟩
        intro w hw
        replace hM := hM.quiet hw
        refine wmem hs (x_makeB hu_B he_bool hs rfl hM h5019) rfl ?_; intro a v5018 w hs hM
        have hM : Mem W w [aBools 4 v5018 (List.replicate ((p0.length : Int)).toNat false), aBlk g8018 65 [.slice none 0 0], aBlk g7018 24 [.slice none 0 0], aBlk g6018 40 [.int .i64 0, .int .i64 0], aBlk g4 40 [.int .i64 0, .int .i64 0], aBlk g2 22 [v_p0]] := hM
        refine on_nil ⟨hM.drop.drop.drop.drop, ?_⟩
        exact wc_at (by kernel_rfl) (K16_240 _ _ g6018 g7018 g8018 v5018 (hs.sub ⟨rfl, rfl, rfl, rfl, rfl, rfl, rfl, trivial⟩) ((((((hM.front 5 rfl).front 5 rfl).front 2 rfl).front 5 rfl).front 5 rfl).front 5 rfl))
      · rintro o ⟨rfl⟩
        intro w hw
        replace hM := hM.quiet hw
        refine wstore hs rfl rfl (x_storeS (cs := [.int .i64 0, .int .i64 0]) (us := [.int .i64 0, .int .i64 0]) sT_40 ⟨rfl, rfl, trivial⟩ rfl rfl (hM.front 2 rfl)) ?_; intro w hM
        have hM : Mem W w [aBlk g6018 40 [.int .i64 0, .int .i64 0], aBlk g8018 65 [.slice none 0 0], aBlk g7018 24 [.slice none 0 0], aBlk g4 40 [.int .i64 0, .int .i64 0], aBlk g2 22 [v_p0]] := hM
        refine on_nil ⟨hM.drop.drop.drop, ?_⟩
        exact wc_at (by kernel_rfl) (K16_480 _ _ g6018 g7018 g8018 (hs.sub ⟨rfl, rfl, rfl, rfl, rfl, rfl, trivial⟩) hM)
    have K16_18 : ∀ (a : Act) (w : World) (v2018 : Value) (v5018 : Value), Fr a 23 [(1, .pointer (some ⟨g2, 0, none⟩)), (2, .pointer (some ⟨g4, 0, none⟩)), (9, .agg #[.int .i64 0, .int .i64 0]), (10, v2018), (13, v5018)] → Mem W w [aBools 4 v5018 (List.replicate ((p0.length : Int)).toNat false), aInts 3 v2018 ([]), aBlk g4 40 [.int .i64 0, .int .i64 0], aBlk g2 22 [v_p0]] → T16 6 #[true, true, true, true, true, false, false, false, false, false, false] a w := by
      intro a w v2018 v5018 hs hM; subst hT16
      refine wc_many (fuel := 5) [5, 6, 7] (by kernel_rfl) (by simp) ⟨?_, ?_, ?_, trivial⟩
      · rintro o ⟨rfl⟩
        intro w hw
        replace hM := hM.quiet hw
        refine wmem hs (x_allocS sT_40 hM) rfl ?_; rintro a _ w hs ⟨g6018, rfl, hM⟩
        have hM : Mem W w [aBlk g6018 40 [.int .i64 0, .int .i64 0], aBools 4 v5018 (List.replicate ((p0.length : Int)).toNat false), aInts 3 v2018 ([]), aBlk g4 40 [.int .i64 0, .int .i64 0], aBlk g2 22 [v_p0]] := hM
        refine on_nil ⟨hM.drop.drop.drop, ?_⟩
        exact wc_at (by kernel_rfl) (K16_50 _ _ g6018 v2018 v5018 (hs.sub ⟨rfl, rfl, rfl, rfl, rfl, rfl, trivial⟩) hM)
      · rintro o ⟨rfl⟩
        intro w hw
        replace hM := hM.quiet hw
        refine wmem hs (x_alloc he_I rfl hM) rfl ?_; rintro a _ w hs ⟨g7018, rfl, hM⟩
        have hM : Mem W w [aBlk g7018 24 [.slice none 0 0], aBools 4 v5018 (List.replicate ((p0.length : Int)).toNat false), aInts 3 v2018 ([]), aBlk g4 40 [.int .i64 0, .int .i64 0], aBlk g2 22 [v_p0]] := hM
        refine on_nil ⟨hM.drop.drop.drop, ?_⟩
        exact wc_at (by kernel_rfl) (K16_82 _ _ g7018 v2018 v5018 (hs.sub ⟨rfl, rfl, rfl, rfl, rfl, rfl, trivial⟩) hM)
      · rintro o ⟨rfl⟩
        intro w hw
        replace hM := hM.quiet hw
        refine wmem hs (x_alloc he_B rfl hM) rfl ?_; rintro a _ w hs ⟨g8018, rfl, hM⟩
        have hM : Mem W w [aBlk g8018 65 [.slice none 0 0], aBools 4 v5018 (List.replicate ((p0.length : Int)).toNat false), aInts 3 v2018 ([]), aBlk g4 40 [.int .i64 0, .int .i64 0], aBlk g2 22 [v_p0]] := hM
        refine on_nil ⟨hM.drop.drop.drop, ?_⟩
        exact wc_at (by kernel_rfl) (K16_146 _ _ g8018 v2018 v5018 (hs.sub ⟨rfl, rfl, rfl, rfl, rfl, rfl, trivial⟩) hM)
    have K16_34 : ∀ (a : Act) (w : World) (g6018 : Nat) (v2018 : Value), Fr a 23 [(1, .pointer (some ⟨g2, 0, none⟩)), (2, .pointer (some ⟨g4, 0, none⟩)), (6, .pointer (some ⟨g6018, 0, none⟩)), (9, .agg #[.int .i64 0, .int .i64 0]), (10, v2018), (12, .int .i64 (p0.length : Int))] → Mem W w [aBlk g6018 40 [.int .i64 0, .int .i64 0], aInts 3 v2018 ([]), aBlk g4 40 [.int .i64 0, .int .i64 0], aBlk g2 22 [v_p0]] → T16 6 #[true, true, true, true, false, true, false, false, false, false, false] a w := by
      intro a w g6018 v2018 hs hM; subst hT16
      refine wc_many (fuel := 5) [4, 6, 7] (by kernel_rfl) (by simp) ⟨?_, ?_, ?_, trivial⟩
      · rintro o ⟨rfl⟩
        intro w hw
        replace hM := hM.quiet hw
        refine wmem hs (x_makeB hu_B he_bool hs rfl hM h5019) rfl ?_; intro a v5018 w hs hM
        have hM : Mem W w [aBools 4 v5018 (List.replicate ((p0.length : Int)).toNat false), aBlk g6018 40 [.int .i64 0, .int .i64 0], aInts 3 v2018 ([]), aBlk g4 40 [.int .i64 0, .int .i64 0], aBlk g2 22 [v_p0]] := hM
        refine on_nil ⟨hM.drop.drop.drop, ?_⟩
        exact wc_at (by kernel_rfl) (K16_50 _ _ g6018 v2018 v5018 (hs.sub ⟨rfl, rfl, rfl, rfl, rfl, rfl, trivial⟩) (((((hM.front 4 rfl).front 4 rfl).front 4 rfl).front 3 rfl).front 4 rfl))
      · rintro o ⟨rfl⟩
        intro w hw
        replace hM := hM.quiet hw
        refine wmem hs (x_alloc he_I rfl hM) rfl ?_; rintro a _ w hs ⟨g7018, rfl, hM⟩
        have hM : Mem W w [aBlk g7018 24 [.slice none 0 0], aBlk g6018 40 [.int .i64 0, .int .i64 0], aInts 3 v2018 ([]), aBlk g4 40 [.int .i64 0, .int .i64 0], aBlk g2 22 [v_p0]] := hM
        refine on_nil ⟨hM.drop.drop.drop, ?_⟩
        exact wc_at (by kernel_rfl) (K16_98 _ _ g6018 g7018 v2018 (hs.sub ⟨rfl, rfl, rfl, rfl, rfl, rfl, rfl, trivial⟩) hM)
      · rintro o ⟨rfl⟩
        intro w hw
        replace hM := hM.quiet hw
        refine wmem hs (x_alloc he_B rfl hM) rfl ?_; rintro a _ w hs ⟨g8018, rfl, hM⟩
        have hM : Mem W w [aBlk g8018 65 [.slice none 0 0], aBlk g6018 40 [.int .i64 0, .int .i64 0], aInts 3 v2018 ([]), aBlk g4 40 [.int .i64 0, .int .i64 0], aBlk g2 22 [v_p0]] := hM
        refine on_nil ⟨hM.drop.drop.drop, ?_⟩
        exact wc_at (by kernel_rfl) (K16_162 _ _ g6018 g8018 v2018 (hs.sub ⟨rfl, rfl, rfl, rfl, rfl, rfl, rfl, trivial⟩) hM)
    have K16_66 : ∀ (a : Act) (w : World) (g7018 : Nat) (v2018 : Value), Fr a 23 [(1, .pointer (some ⟨g2, 0, none⟩)), (2, .pointer (some ⟨g4, 0, none⟩)), (7, .pointer (some ⟨g7018, 0, none⟩)), (9, .agg #[.int .i64 0, .int .i64 0]), (10, v2018), (12, .int .i64 (p0.length : Int))] → Mem W w [aBlk g7018 24 [.slice none 0 0], aInts 3 v2018 ([]), aBlk g4 40 [.int .i64 0, .int .i64 0], aBlk g2 22 [v_p0]] → T16 6 #[true, true, true, true, false, false, true, false, false, false, false] a w := by
      intro a w g7018 v2018 hs hM; subst hT16
      refine wc_many (fuel := 5) [4, 5, 7] (by kernel_rfl) (by simp) ⟨?_, ?_, ?_, trivial⟩
      · rintro o ⟨rfl⟩
        intro w hw
        replace hM := hM.quiet hw
        refine wmem hs (x_makeB hu_B he_bool hs rfl hM h5019) rfl ?_; intro a v5018 w hs hM
        have hM : Mem W w [aBools 4 v5018 (List.replicate ((p0.length : Int)).toNat false), aBlk g7018 24 [.slice none 0 0], aInts 3 v2018 ([]), aBlk g4 40 [.int .i64 0, .int .i64 0], aBlk g2 22 [v_p0]] := hM
        refine on_nil ⟨hM.drop.drop.drop, ?_⟩
        exact wc_at (by kernel_rfl) (K16_82 _ _ g7018 v2018 v5018 (hs.sub ⟨rfl, rfl, rfl, rfl, rfl, rfl, trivial⟩) (((((hM.front 4 rfl).front 4 rfl).front 4 rfl).front 3 rfl).front 4 rfl))
      · rintro o ⟨rfl⟩
        intro w hw
        replace hM := hM.quiet hw
        refine wmem hs (x_allocS sT_40 hM) rfl ?_; rintro a _ w hs ⟨g6018, rfl, hM⟩
        have hM : Mem W w [aBlk g6018 40 [.int .i64 0, .int .i64 0], aBlk g7018 24 [.slice none 0 0], aInts 3 v2018 ([]), aBlk g4 40 [.int .i64 0, .int .i64 0], aBlk g2 22 [v_p0]] := hM
        refine on_nil ⟨hM.drop.drop.drop, ?_⟩
        exact wc_at (by kernel_rfl) (K16_98 _ _ g6018 g7018 v2018 (hs.sub ⟨rfl, rfl, rfl, rfl, rfl, rfl, rfl, trivial⟩) (((((hM.front 4 rfl).front 4 rfl).front 4 rfl).front 3 rfl).front 4 rfl))
      · rintro o ⟨rfl⟩
        intro w hw
        replace hM := hM.quiet hw
        refine wmem hs (x_alloc he_B rfl hM) rfl ?_; rintro a _ w hs ⟨g8018, rfl, hM⟩
        have hM : Mem W w [aBlk g8018 65 [.slice none 0 0], aBlk g7018 24 [.slice none 0 0], aInts 3 v2018 ([]), aBlk g4 40 [.int .i64 0, .int .i64 0], aBlk g2 22 [v_p0]] := hM
        refine on_nil ⟨hM.drop.drop.drop, ?_⟩
        exact wc_at (by kernel_rfl) (K16_194 _ _ g7018 g8018 v2018 (hs.sub ⟨rfl, rfl, rfl, rfl, rfl, rfl, rfl, trivial⟩) hM)
    have K16_130 : ∀ (a : Act) (w : World) (g8018 : Nat) (v2018 : Value), Fr a 23 [(1, .pointer (some ⟨g2, 0, none⟩)), (2, .pointer (some ⟨g4, 0, none⟩)), (8, .pointer (some ⟨g8018, 0, none⟩)), (9, .agg #[.int .i64 0, .int .i64 0]), (10, v2018), (12, .int .i64 (p0.length : Int))] → Mem W w [aBlk g8018 65 [.slice none 0 0], aInts 3 v2018 ([]), aBlk g4 40 [.int .i64 0, .int .i64 0], aBlk g2 22 [v_p0]] → T16 6 #[true, true, true, true, false, false, false, true, false, false, false] a w := by
      intro a w g8018 v2018 hs hM; subst hT16
      refine wc_many (fuel := 5) [4, 5, 6] (by kernel_rfl) (by simp) ⟨?_, ?_, ?_, trivial⟩
      · rintro o ⟨rfl⟩
        intro w hw
        replace hM := hM.quiet hw
        refine wmem hs (x_makeB hu_B he_bool hs rfl hM h5019) rfl ?_; intro a v5018 w hs hM
        have hM : Mem W w [aBools 4 v5018 (List.replicate ((p0.length : Int)).toNat false), aBlk g8018 65 [.slice none 0 0], aInts 3 v2018 ([]), aBlk g4 40 [.int .i64 0, .int .i64 0], aBlk g2 22 [v_p0]] := hM
        refine on_nil ⟨hM.drop.drop.drop, ?_⟩
        exact wc_at (by kernel_rfl) (K16_146 _ _ g8018 v2018 v5018 (hs.sub ⟨rfl, rfl, rfl, rfl, rfl, rfl, trivial⟩) (((((hM.front 4 rfl).front 4 rfl).front 4 rfl).front 3 rfl).front 4 rfl))
      · rintro o ⟨rfl⟩
        intro w hw
        replace hM := hM.quiet hw
        refine wmem hs (x_allocS sT_40 hM) rfl ?_; rintro a _ w hs ⟨g6018, rfl, hM⟩
        have hM : Mem W w [aBlk g6018 40 [.int .i64 0, .int .i64 0], aBlk g8018 65 [.slice none 0 0], aInts 3 v2018 ([]), aBlk g4 40 [.int .i64 0, .int .i64 0], aBlk g2 22 [v_p0]] := hM
        refine on_nil ⟨hM.drop.drop.drop, ?_⟩
        exact wc_at (by kernel_rfl) (K16_162 _ _ g6018 g8018 v2018 (hs.sub ⟨rfl, rfl, rfl, rfl, rfl, rfl, rfl, trivial⟩) (((((hM.front 4 rfl).front 4 rfl).front 4 rfl).front 3 rfl).front 4 rfl))
      · rintro o ⟨rfl⟩
        intro w hw
        replace hM := hM.quiet hw
        refine wmem hs (x_alloc he_I rfl hM) rfl ?_; rintro a _ w hs ⟨g7018, rfl, hM⟩
        have hM : Mem W w [aBlk g7018 24 [.slice none 0 0], aBlk g8018 65 [.slice none 0 0], aInts 3 v2018 ([]), aBlk g4 40 [.int .i64 0, .int .i64 0], aBlk g2 22 [v_p0]] := hM
        refine on_nil ⟨hM.drop.drop.drop, ?_⟩
        exact wc_at (by kernel_rfl) (K16_194 _ _ g7018 g8018 v2018 (hs.sub ⟨rfl, rfl, rfl, rfl, rfl, rfl, rfl, trivial⟩) (((((hM.front 4 rfl).front 4 rfl).front 4 rfl).front 3 rfl).front 4 rfl))
    have K16_48 : ∀ (a : Act) (w : World) (g6018 : Nat) (v5018 : Value), Fr a 23 [(1, .pointer (some ⟨g2, 0, none⟩)), (2, .pointer (some ⟨g4, 0, none⟩)), (6, .pointer (some ⟨g6018, 0, none⟩)), (9, .agg #[.int .i64 0, .int .i64 0]), (13, v5018)] → Mem W w [aBlk g6018 40 [.int .i64 0, .int .i64 0], aBools 4 v5018 (List.replicate ((p0.length : Int)).toNat false), aBlk g4 40 [.int .i64 0, .int .i64 0], aBlk g2 22 [v_p0]] → T16 6 #[true, false, true, true, true, true, false, false, false, false, false] a w := by
      intro a w g6018 v5018 hs hM; subst hT16
      refine wc_many (fuel := 5) [1, 6, 7] (by kernel_rfl) (by simp) ⟨?_, ?_, ?_, trivial⟩
      · rintro o ⟨rfl⟩
        intro w hw
        replace hM := hM.quiet hw
        refine wmem hs (x_new0I ht_I hM) rfl ?_; intro a v2018 w hs hM
        have hM : Mem W w [aInts 3 v2018 ([]), aBlk g6018 40 [.int .i64 0, .int .i64 0], aBools 4 v5018 (List.replicate ((p0.length : Int)).toNat false), aBlk g4 40 [.int .i64 0, .int .i64 0], aBlk g2 22 [v_p0]] := hM
        refine on_nil ⟨hM.drop.drop.drop, ?_⟩
        exact wc_at (by kernel_rfl) (K16_50 _ _ g6018 v2018 v5018 (hs.sub ⟨rfl, rfl, rfl, rfl, rfl, rfl, trivial⟩) (((((hM.front 4 rfl).front 4 rfl).front 2 rfl).front 4 rfl).front 4 rfl))
      · rintro o ⟨rfl⟩
        intro w hw
        replace hM := hM.quiet hw
        refine wmem hs (x_alloc he_I rfl hM) rfl ?_; rintro a _ w hs ⟨g7018, rfl, hM⟩
        have hM : Mem W w [aBlk g7018 24 [.slice none 0 0], aBlk g6018 40 [.int .i64 0, .int .i64 0], aBools 4 v5018 (List.replicate ((p0.length : Int)).toNat false), aBlk g4 40 [.int .i64 0, .int .i64 0], aBlk g2 22 [v_p0]] := hM
        refine on_nil ⟨hM.drop.drop.drop, ?_⟩
        exact wc_at (by kernel_rfl) (K16_112 _ _ g6018 g7018 v5018 (hs.sub ⟨rfl, rfl, rfl, rfl, rfl, rfl, trivial⟩) hM)
      · rintro o ⟨rfl⟩
        intro w hw
        replace hM := hM.quiet hw
        refine wmem hs (x_alloc he_B rfl hM) rfl ?_; rintro a _ w hs ⟨g8018, rfl, hM⟩
        have hM : Mem W w [aBlk g8018 65 [.slice none 0 0], aBlk g6018 40 [.int .i64 0, .int .i64 0], aBools 4 v5018 (List.replicate ((p0.length : Int)).toNat false), aBlk g4 40 [.int .i64 0, .int .i64 0], aBlk g2 22 [v_p0]] := hM
        refine on_nil ⟨hM.drop.drop.drop, ?_⟩
        exact wc_at (by kernel_rfl) (K16_176 _ _ g6018 g8018 v5018 (hs.sub ⟨rfl, rfl, rfl, rfl, rfl, rfl, trivial⟩) hM)
    have K16_80 : ∀ (a : Act) (w : World) (g7018 : Nat) (v5018 : Value), Fr a 23 [(1, .pointer (some ⟨g2, 0, none⟩)), (2, .pointer (some ⟨g4, 0, none⟩)), (7, .pointer (some ⟨g7018, 0, none⟩)), (9, .agg #[.int .i64 0, .int .i64 0]), (13, v5018)] → Mem W w [aBlk g7018 24 [.slice none 0 0], aBools 4 v5018 (List.replicate ((p0.length : Int)).toNat false), aBlk g4 40 [.int .i64 0, .int .i64 0], aBlk g2 22 [v_p0]] → T16 6 #[true, false, true, true, true, false, true, false, false, false, false] a w := by
      intro a w g7018 v5018 hs hM; subst hT16
      refine wc_many (fuel := 5) [1, 5, 7] (by kernel_rfl) (by simp) ⟨?_, ?_, ?_, trivial⟩
      · rintro o ⟨rfl⟩
        intro w hw
        replace hM := hM.quiet hw
        refine wmem hs (x_new0I ht_I hM) rfl ?_; intro a v2018 w hs hM
        have hM : Mem W w [aInts 3 v2018 ([]), aBlk g7018 24 [.slice none 0 0], aBools 4 v5018 (List.replicate ((p0.length : Int)).toNat false), aBlk g4 40 [.int .i64 0, .int .i64 0], aBlk g2 22 [v_p0]] := hM
        refine on_nil ⟨hM.drop.drop.drop, ?_⟩
        exact wc_at (by kernel_rfl) (K16_82 _ _ g7018 v2018 v5018 (hs.sub ⟨rfl, rfl, rfl, rfl, rfl, rfl, trivial⟩) (((((hM.front 4 rfl).front 4 rfl).front 2 rfl).front 4 rfl).front 4 rfl))
      · rintro o ⟨rfl⟩
        intro w hw
        replace hM := hM.quiet hw
        refine wmem hs (x_allocS sT_40 hM) rfl ?_; rintro a _ w hs ⟨g6018, rfl, hM⟩
        have hM : Mem W w [aBlk g6018 40 [.int .i64 0, .int .i64 0], aBlk g7018 24 [.slice none 0 0], aBools 4 v5018 (List.replicate ((p0.length : Int)).toNat false), aBlk g4 40 [.int .i64 0, .int .i64 0], aBlk g2 22 [v_p0]] := hM
        refine on_nil ⟨hM.drop.drop.drop, ?_⟩
        exact wc_at (by kernel_rfl) (K16_112 _ _ g6018 g7018 v5018 (hs.sub ⟨rfl, rfl, rfl, rfl, rfl, rfl, trivial⟩) (((((hM.front 4 rfl).front 4 rfl).front 4 rfl).front 3 rfl).front 4 rfl))
      · rintro o ⟨rfl⟩
        intro w hw
        replace hM := hM.quiet hw
        refine wmem hs (x_alloc he_B rfl hM) rfl ?_; rintro a _ w hs ⟨g8018, rfl, hM⟩
        have hM : Mem W w [aBlk g8018 65 [.slice none 0 0], aBlk g7018 24 [.slice none 0 0], aBools 4 v5018 (List.replicate ((p0.length : Int)).toNat false), aBlk g4 40 [.int .i64 0, .int .i64 0], aBlk g2 22 [v_p0]] := hM
        refine on_nil ⟨hM.drop.drop.drop, ?_⟩
        exact wc_at (by kernel_rfl) (K16_208 _ _ g7018 g8018 v5018 (hs.sub ⟨rfl, rfl, rfl, rfl, rfl, rfl, trivial⟩) hM)
    have K16_144 : ∀ (a : Act) (w : World) (g8018 : Nat) (v5018 : Value), Fr a 23 [(1, .pointer (some ⟨g2, 0, none⟩)), (2, .pointer (some ⟨g4, 0, none⟩)), (8, .pointer (some ⟨g8018, 0, none⟩)), (9, .agg #[.int .i64 0, .int .i64 0]), (13, v5018)] → Mem W w [aBlk g8018 65 [.slice none 0 0], aBools 4 v5018 (List.replicate ((p0.length : Int)).toNat false), aBlk g4 40 [.int .i64 0, .int .i64 0], aBlk g2 22 [v_p0]] → T16 6 #[true, false, true, true, true, false, false, true, false, false, false] a w := by
      intro a w g8018 v5018 hs hM; subst hT16
      refine wc_many (fuel := 5) [1, 5, 6] (by kernel_rfl) (by simp) ⟨?_, ?_, ?_, trivial⟩
      · rintro o ⟨rfl⟩
        intro w hw
        replace hM := hM.quiet hw
        refine wmem hs (x_new0I ht_I hM) rfl ?_; intro a v2018 w hs hM
        have hM : Mem W w [aInts 3 v2018 ([]), aBlk g8018 65 [.slice none 0 0], aBools 4 v5018 (List.replicate ((p0.length : Int)).toNat false), aBlk g4 40 [.int .i64 0, .int .i64 0], aBlk g2 22 [v_p0]] := hM
        refine on_nil ⟨hM.drop.drop.drop, ?_⟩
        exact wc_at (by kernel_rfl) (K16_146 _ _ g8018 v2018 v5018 (hs.sub ⟨rfl, rfl, rfl, rfl, rfl, rfl, trivial⟩) (((((hM.front 4 rfl).front 4 rfl).front 2 rfl).front 4 rfl).front 4 rfl))
      · rintro o ⟨rfl⟩
        intro w hw
        replace hM := hM.quiet hw
        refine wmem hs (x_allocS sT_40 hM) rfl ?_; rintro a _ w hs ⟨g6018, rfl, hM⟩
        have hM : Mem W w [aBlk g6018 40 [.int .i64 0, .int .i64 0], aBlk g8018 65 [.slice none 0 0], aBools 4 v5018 (List.replicate ((p0.length : Int)).toNat false), aBlk g4 40 [.int .i64 0, .int .i64 0], aBlk g2 22 [v_p0]] := hM
        refine on_nil ⟨hM.drop.drop.drop, ?_⟩
        exact wc_at (by kernel_rfl) (K16_176 _ _ g6018 g8018 v5018 (hs.sub ⟨rfl, rfl, rfl, rfl, rfl, rfl, trivial⟩) (((((hM.front 4 rfl).front 4 rfl).front 4 rfl).front 3 rfl).front 4 rfl))
      · rintro o ⟨rfl⟩
        intro w hw
        replace hM := hM.quiet hw
        refine wmem hs (x_alloc he_I rfl hM) rfl ?_; rintro a _ w hs ⟨g7018, rfl, hM⟩
        have hM : Mem W w [aBlk g7018 24 [.slice none 0 0], aBlk g8018 65 [.slice none 0 0], aBools 4 v5018 (List.replicate ((p0.length : Int)).toNat false), aBlk g4 40 [.int .i64 0, .int .i64 0], aBlk g2 22 [v_p0]] := hM
        refine on_nil ⟨hM.drop.drop.drop, ?_⟩
        exact wc_at (by kernel_rfl) (K16_208 _ _ g7018 g8018 v5018 (hs.sub ⟨rfl, rfl, rfl, rfl, rfl, rfl, trivial⟩) (((((hM.front 4 rfl).front 4 rfl).front 4 rfl).front 3 rfl).front 4 rfl))
    have K16_96 : ∀ (a : Act) (w : World) (g6018 : Nat) (g7018 : Nat), Fr a 23 [(1, .pointer (some ⟨g2, 0, none⟩)), (2, .pointer (some ⟨g4, 0, none⟩)), (6, .pointer (some ⟨g6018, 0, none⟩)), (7, .pointer (some ⟨g7018, 0, none⟩)), (9, .agg #[.int .i64 0, .int .i64 0]), (12, .int .i64 (p0.length : Int))] → Mem W w [aBlk g7018 24 [.slice none 0 0], aBlk g6018 40 [.int .i64 0, .int .i64 0], aBlk g4 40 [.int .i64 0, .int .i64 0], aBlk g2 22 [v_p0]] → T16 6 #[true, false, true, true, false, true, true, false, false, false, false] a w := by
      intro a w g6018 g7018 hs hM; subst hT16
      refine wc_many (fuel := 5) [1, 4, 7] (by kernel_rfl) (by simp) ⟨?_, ?_, ?_, trivial⟩
      · rintro o ⟨rfl⟩
        intro w hw
        replace hM := hM.quiet hw
        refine wmem hs (x_new0I ht_I hM) rfl ?_; intro a v2018 w hs hM
        have hM : Mem W w [aInts 3 v2018 ([]), aBlk g7018 24 [.slice none 0 0], aBlk g6018 40 [.int .i64 0, .int .i64 0], aBlk g4 40 [.int .i64 0, .int .i64 0], aBlk g2 22 [v_p0]] := hM
        refine on_nil ⟨hM.drop.drop.drop, ?_⟩
        exact wc_at (by kernel_rfl) (K16_98 _ _ g6018 g7018 v2018 (hs.sub ⟨rfl, rfl, rfl, rfl, rfl, rfl, rfl, trivial⟩) (((((hM.front 4 rfl).front 4 rfl).front 2 rfl).front 4 rfl).front 4 rfl))
      · rintro o ⟨rfl⟩
        intro w hw
        replace hM := hM.quiet hw
        refine wmem hs (x_makeB hu_B he_bool hs rfl hM h5019) rfl ?_; intro a v5018 w hs hM
        have hM : Mem W w [aBools 4 v5018 (List.replicate ((p0.length : Int)).toNat false), aBlk g7018 24 [.slice none 0 0], aBlk g6018 40 [.int .i64 0, .int .i64 0], aBlk g4 40 [.int .i64 0, .int .i64 0], aBlk g2 22 [v_p0]] := hM
        refine on_nil ⟨hM.drop.drop.drop, ?_⟩
        exact wc_at (by kernel_rfl) (K16_112 _ _ g6018 g7018 v5018 (hs.sub ⟨rfl, rfl, rfl, rfl, rfl, rfl, trivial⟩) (((((hM.front 4 rfl).front 4 rfl).front 2 rfl).front 4 rfl).front 4 rfl))
      · rintro o ⟨rfl⟩
        intro w hw
        replace hM := hM.quiet hw
        refine wmem hs (x_alloc he_B rfl hM) rfl ?_; rintro a _ w hs ⟨g8018, rfl, hM⟩
        have hM : Mem W w [aBlk g8018 65 [.slice none 0 0], aBlk g7018 24 [.slice none 0 0], aBlk g6018 40 [.int .i64 0, .int .i64 0], aBlk g4 40 [.int .i64 0, .int .i64 0], aBlk g2 22 [v_p0]] := hM
        refine on_nil ⟨hM.drop.drop.drop, ?_⟩
        exact wc_at (by kernel_rfl) (K16_224 _ _ g6018 g7018 g8018 (hs.sub ⟨rfl, rfl, rfl, rfl, rfl, rfl, rfl, trivial⟩) hM)
    have K16_160 : ∀ (a : Act) (w : World) (g6018 : Nat) (g8018 : Nat), Fr a 23 [(1, .pointer (some ⟨g2, 0, none⟩)), (2, .pointer (some ⟨g4, 0, none⟩)), (6, .pointer (some ⟨g6018, 0, none⟩)), (8, .pointer (some ⟨g8018, 0, none⟩)), (9, .agg #[.int .i64 0, .int .i64 0]), (12, .int .i64 (p0.length : Int))] → Mem W w [aBlk g8018 65 [.slice none 0 0], aBlk g6018 40 [.int .i64 0, .int .i64 0], aBlk g4 40 [.int .i64 0, .int .i64 0], aBlk g2 22 [v_p0]] → T16 6 #[true, false, true, true, false, true, false, true, false, false, false] a w := by
      intro a w g6018 g8018 hs hM; subst hT16
      refine wc_many (fuel := 5) [1, 4, 6] (by kernel_rfl) (by simp) ⟨?_, ?_, ?_, trivial⟩
      · rintro o ⟨rfl⟩
        intro w hw
        replace hM := hM.quiet hw
        refine wmem hs (x_new0I ht_I hM) rfl ?_; intro a v2018 w hs hM
        have hM : Mem W w [aInts 3 v2018 ([]), aBlk g8018 65 [.slice none 0 0], aBlk g6018 40 [.int .i64 0, .int .i64 0], aBlk g4 40 [.int .i64 0, .int .i64 0], aBlk g2 22 [v_p0]] := hM
        refine on_nil ⟨hM.drop.drop.drop, ?_⟩
        exact wc_at (by kernel_rfl) (K16_162 _ _ g6018 g8018 v2018 (hs.sub ⟨rfl, rfl, rfl, rfl, rfl, rfl, rfl, trivial⟩) (((((hM.front 4 rfl).front 4 rfl).front 2 rfl).front 4 rfl).front 4 rfl))
      · rintro o ⟨rfl⟩
        intro w hw
        replace hM := hM.quiet hw
        refine wmem hs (x_makeB hu_B he_bool hs rfl hM h5019) rfl ?_; intro a v5018 w hs hM
        have hM : Mem W w [aBools 4 v5018 (List.replicate ((p0.length : Int)).toNat false), aBlk g8018 65 [.slice none 0 0], aBlk g6018 40 [.int .i64 0, .int .i64 0], aBlk g4 40 [.int .i64 0, .int .i64 0], aBlk g2 22 [v_p0]] := hM
        refine on_nil ⟨hM.drop.drop.drop, ?_⟩
        exact wc_at (by kernel_rfl) (K16_176 _ _ g6018 g8018 v5018 (hs.sub ⟨rfl, rfl, rfl, rfl, rfl, rfl, trivial⟩) (((((hM.front 4 rfl).front 4 rfl).front 2 rfl).front 4 rfl).front 4 rfl))
      · rintro o ⟨rfl⟩
        intro w hw
        replace hM := hM.quiet hw
        refine wmem hs (x_alloc he_I rfl hM) rfl ?_; rintro a _ w hs ⟨g7018, rfl, hM⟩
        have hM : Mem W w [aBlk g7018 24 [.slice none 0 0], aBlk g8018 65 [.slice none 0 0], aBlk g6018 40 [.int .i64 0, .int .i64 0], aBlk g4 40 [.int .i64 0, .int .i64 0], aBlk g2 22 [v_p0]] := hM
        refine on_nil ⟨hM.drop.drop.drop, ?_⟩
        exact wc_at (by kernel_rfl) (K16_224 _ _ g6018 g7018 g8018 (hs.sub ⟨rfl, rfl, rfl, rfl, rfl, rfl, rfl, trivial⟩) (((((hM.front 4 rfl).front 4 rfl).front 4 rfl).front 3 rfl).front 4 rfl))
    have K16_192 : ∀ (a : Act) (w : World) (g7018 : Nat) (g8018 : Nat), Fr a 23 [(1, .pointer (some ⟨g2, 0, none⟩)), (2, .pointer (some ⟨g4, 0, none⟩)), (7, .pointer (some ⟨g7018, 0, none⟩)), (8, .pointer (some ⟨g8018, 0, none⟩)), (9, .agg #[.int .i64 0, .int .i64 0]), (12, .int .i64 (p0.length : Int))] → Mem W w [aBlk g8018 65 [.slice none 0 0], aBlk g7018 24 [.slice none 0 0], aBlk g4 40 [.int .i64 0, .int .i64 0], aBlk g2 22 [v_p0]] → T16 6 #[true, false, true, true, false, false, true, true, false, false, false] a w := by
      intro a w g7018 g8018 hs hM; subst hT16
      refine wc_many (fuel := 5) [1, 4, 5] (by kernel_rfl) (by simp) ⟨?_, ?_, ?_, trivial⟩
      · rintro o ⟨rfl⟩
        intro w hw
        replace hM := hM.quiet hw
        refine wmem hs (x_new0I ht_I hM) rfl ?_; intro a v2018 w hs hM
        have hM : Mem W w [aInts 3 v2018 ([]), aBlk g8018 65 [.slice none 0 0], aBlk g7018 24 [.slice none 0 0], aBlk g4 40 [.int .i64 0, .int .i64 0], aBlk g2 22 [v_p0]] := hM
        refine on_nil ⟨hM.drop.drop.drop, ?_⟩
        exact wc_at (by kernel_rfl) (K16_194 _ _ g7018 g8018 v2018 (hs.sub ⟨rfl, rfl, rfl, rfl, rfl, rfl, rfl, trivial⟩) (((((hM.front 4 rfl).front 4 rfl).front 2 rfl).front 4 rfl).front 4 rfl))
      · rintro o ⟨rfl⟩
        intro w hw
        replace hM := hM.quiet hw
        refine wmem hs (x_makeB hu_B he_bool hs rfl hM h5019) rfl ?_; intro a v5018 w hs hM
        have hM : Mem W w [aBools 4 v5018 (List.replicate ((p0.length : Int)).toNat false), aBlk g8018 65 [.slice none 0 0], aBlk g7018 24 [.slice none 0 0], aBlk g4 40 [.int .i64 0, .int .i64 0], aBlk g2 22 [v_p0]] := hM
        refine on_nil ⟨hM.drop.drop.drop, ?_⟩
        exact wc_at (by kernel_rfl) (K16_208 _ _ g7018 g8018 v5018 (hs.sub ⟨rfl, rfl, rfl, rfl, rfl, rfl, trivial⟩) (((((hM.front 4 rfl).front 4 rfl).front 2 rfl).front 4 rfl).front 4 rfl))
      · rintro o ⟨rfl⟩
        intro w hw
        replace hM := hM.quiet hw
        refine wmem hs (x_allocS sT_40 hM) rfl ?_; rintro a _ w hs ⟨g6018, rfl, hM⟩
        have hM : Mem W w [aBlk g6018 40 [.int .i64 0, .int .i64 0], aBlk g8018 65 [.slice none 0 0], aBlk g7018 24 [.slice none 0 0], aBlk g4 40 [.int .i64 0, .int .i64 0], aBlk g2 22 [v_p0]] := hM
        refine on_nil ⟨hM.drop.drop.drop, ?_⟩
        exact wc_at (by kernel_rfl) (K16_224 _ _ g6018 g7018 g8018 (hs.sub ⟨rfl, rfl, rfl, rfl, rfl, rfl, rfl, trivial⟩) (((((hM.front 4 rfl).front 4 rfl).front 2 rfl).front 4 rfl).front 4 rfl))
    have K16_2 : ∀ (a : Act) (w : World) (v2018 : Value), Fr a 23 [(1, .pointer (some ⟨g2, 0, none⟩)), (2, .pointer (some ⟨g4, 0, none⟩)), (9, .agg #[.int .i64 0, .int .i64 0]), (10, v2018), (12, .int .i64 (p0.length : Int))] → Mem W w [aInts 3 v2018 ([]), aBlk g4 40 [.int .i64 0, .int .i64 0], aBlk g2 22 [v_p0]] → T16 7 #[true, true, true, true, false, false, false, false, false, false, false] a w := by
      intro a w v2018 hs hM; subst hT16
      refine wc_many (fuel := 6) [4, 5, 6, 7] (by kernel_rfl) (by simp) ⟨?_, ?_, ?_, ?_, trivial⟩
      · rintro o ⟨rfl⟩
        intro w hw
        replace hM := hM.quiet hw
        refine wmem hs (x_makeB hu_B he_bool hs rfl hM h5019) rfl ?_; intro a v5018 w hs hM
        have hM : Mem W w [aBools 4 v5018 (List.replicate ((p0.length : Int)).toNat false), aInts 3 v2018 ([]), aBlk g4 40 [.int .i64 0, .int .i64 0], aBlk g2 22 [v_p0]] := hM
        refine on_nil ⟨hM.drop.drop, ?_⟩
        exact wc_at (by kernel_rfl) (K16_18 _ _ v2018 v5018 (hs.sub ⟨rfl, rfl, rfl, rfl, rfl, trivial⟩) hM)
      · rintro o ⟨rfl⟩
        intro w hw
        replace hM := hM.quiet hw
        refine wmem hs (x_allocS sT_40 hM) rfl ?_; rintro a _ w hs ⟨g6018, rfl, hM⟩
        have hM : Mem W w [aBlk g6018 40 [.int .i64 0, .int .i64 0], aInts 3 v2018 ([]), aBlk g4 40 [.int .i64 0, .int .i64 0], aBlk g2 22 [v_p0]] := hM
        refine on_nil ⟨hM.drop.drop, ?_⟩
        exact wc_at (by kernel_rfl) (K16_34 _ _ g6018 v2018 (hs.sub ⟨rfl, rfl, rfl, rfl, rfl, rfl, trivial⟩) hM)
      · rintro o ⟨rfl⟩
        intro w hw
        replace hM := hM.quiet hw
        refine wmem hs (x_alloc he_I rfl hM) rfl ?_; rintro a _ w hs ⟨g7018, rfl, hM⟩
        have hM : Mem W w [aBlk g7018 24 [.slice none 0 0], aInts 3 v2018 ([]), aBlk g4 40 [.int .i64 0, .int .i64 0], aBlk g2 22 [v_p0]] := hM
        refine on_nil ⟨hM.drop.drop, ?_⟩
        exact wc_at (by kernel_rfl) (K16_66 _ _ g7018 v2018 (hs.sub ⟨rfl, rfl, rfl, rfl, rfl, rfl, trivial⟩) hM)
      · rintro o ⟨rfl⟩
        intro w hw
        replace hM := hM.quiet hw
        refine wmem hs (x_alloc he_B rfl hM) rfl ?_; rintro a _ w hs ⟨g8018, rfl, hM⟩
        have hM : Mem W w [aBlk g8018 65 [.slice none 0 0], aInts 3 v2018 ([]), aBlk g4 40 [.int .i64 0, .int .i64 0], aBlk g2 22 [v_p0]] := hM
        refine on_nil ⟨hM.drop.drop, ?_⟩
        exact wc_at (by kernel_rfl) (K16_130 _ _ g8018 v2018 (hs.sub ⟨rfl, rfl, rfl, rfl, rfl, rfl, trivial⟩) hM)
    have K16_16 : ∀ (a : Act) (w : World) (v5018 : Value), Fr a 23 [(1, .pointer (some ⟨g2, 0, none⟩)), (2, .pointer (some ⟨g4, 0, none⟩)), (9, .agg #[.int .i64 0, .int .i64 0]), (13, v5018)] → Mem W w [aBools 4 v5018 (List.replicate ((p0.length : Int)).toNat false), aBlk g4 40 [.int .i64 0, .int .i64 0], aBlk g2 22 [v_p0]] → T16 7 #[true, false, true, true, true, false, false, false, false, false, false] a w := by
      intro a w v5018 hs hM; subst hT16
      refine wc_many (fuel := 6) [1, 5, 6, 7] (by kernel_rfl) (by simp) ⟨?_, ?_, ?_, ?_, trivial⟩
      · rintro o ⟨rfl⟩
        intro w hw
        replace hM := hM.quiet hw
        refine wmem hs (x_new0I ht_I hM) rfl ?_; intro a v2018 w hs hM
        have hM : Mem W w [aInts 3 v2018 ([]), aBools 4 v5018 (List.replicate ((p0.length : Int)).toNat false), aBlk g4 40 [.int .i64 0, .int .i64 0], aBlk g2 22 [v_p0]] := hM
        refine on_nil ⟨hM.drop.drop, ?_⟩
        exact wc_at (by kernel_rfl) (K16_18 _ _ v2018 v5018 (hs.sub ⟨rfl, rfl, rfl, rfl, rfl, trivial⟩) ((((hM.front 3 rfl).front 3 rfl).front 2 rfl).front 3 rfl))
      · rintro o ⟨rfl⟩
        intro w hw
        replace hM := hM.quiet hw
        refine wmem hs (x_allocS sT_40 hM) rfl ?_; rintro a _ w hs ⟨g6018, rfl, hM⟩
        have hM : Mem W w [aBlk g6018 40 [.int .i64 0, .int .i64 0], aBools 4 v5018 (List.replicate ((p0.length : Int)).toNat false), aBlk g4 40 [.int .i64 0, .int .i64 0], aBlk g2 22 [v_p0]] := hM
        refine on_nil ⟨hM.drop.drop, ?_⟩
        exact wc_at (by kernel_rfl) (K16_48 _ _ g6018 v5018 (hs.sub ⟨rfl, rfl, rfl, rfl, rfl, trivial⟩) hM)
      · rintro o ⟨rfl⟩
        intro w hw
        replace hM := hM.quiet hw
        refine wmem hs (x_alloc he_I rfl hM) rfl ?_; rintro a _ w hs ⟨g7018, rfl, hM⟩
        have hM : Mem W w [aBlk g7018 24 [.slice none 0 0], aBools 4 v5018 (List.replicate ((p0.length : Int)).toNat false), aBlk g4 40 [.int .i64 0, .int .i64 0], aBlk g2 22 [v_p0]] := hM
        refine on_nil ⟨hM.drop.drop, ?_⟩
        exact wc_at (by kernel_rfl) (K16_80 _ _ g7018 v5018 (hs.sub ⟨rfl, rfl, rfl, rfl, rfl, trivial⟩) hM)
      · rintro o ⟨rfl⟩
        intro w hw
        replace hM := hM.quiet hw
        refine wmem hs (x_alloc he_B rfl hM) rfl ?_; rintro a _ w hs ⟨g8018, rfl, hM⟩
        have hM : Mem W w [aBlk g8018 65 [.slice none 0 0], aBools 4 v5018 (List.replicate ((p0.length : Int)).toNat false), aBlk g4 40 [.int .i64 0, .int .i64 0], aBlk g2 22 [v_p0]] := hM
        refine on_nil ⟨hM.drop.drop, ?_⟩
        exact wc_at (by kernel_rfl) (K16_144 _ _ g8018 v5018 (hs.sub ⟨rfl, rfl, rfl, rfl, rfl, trivial⟩) hM)
    have K16_32 : ∀ (a : Act) (w : World) (g6018 : Nat), Fr a 23 [(1, .pointer (some ⟨g2, 0, none⟩)), (2, .pointer (some ⟨g4, 0, none⟩)), (6, .pointer (some ⟨g6018, 0, none⟩)), (9, .agg #[.int .i64 0, .int .i64 0]), (12, .int .i64 (p0.length : Int))] → Mem W w [aBlk g6018 40 [.int .i64 0, .int .i64 0], aBlk g4 40 [.int .i64 0, .int .i64 0], aBlk g2 22 [v_p0]] → T16 7 #[true, false, true, true, false, true, false, false, false, false, false] a w := by
      intro a w g6018 hs hM; subst hT16
      refine wc_many (fuel := 6) [1, 4, 6, 7] (by kernel_rfl) (by simp) ⟨?_, ?_, ?_, ?_, trivial⟩
      · rintro o ⟨rfl⟩
        intro w hw
        replace hM := hM.quiet hw
        refine wmem hs (x_new0I ht_I hM) rfl ?_; intro a v2018 w hs hM
        have hM : Mem W w [aInts 3 v2018 ([]), aBlk g6018 40 [.int .i64 0, .int .i64 0], aBlk g4 40 [.int .i64 0, .int .i64 0], aBlk g2 22 [v_p0]] := hM
        refine on_nil ⟨hM.drop.drop, ?_⟩
        exact wc_at (by kernel_rfl) (K16_34 _ _ g6018 v2018 (hs.sub ⟨rfl, rfl, rfl, rfl, rfl, rfl, trivial⟩) ((((hM.front 3 rfl).front 3 rfl).front 2 rfl).front 3 rfl))
      · rintro o ⟨rfl⟩
        intro w hw
        replace hM := hM.quiet hw
        refine wmem hs (x_makeB hu_B he_bool hs rfl hM h5019) rfl ?_; intro a v5018 w hs hM
        have hM : Mem W w [aBools 4 v5018 (List.replicate ((p0.length : Int)).toNat false), aBlk g6018 40 [.int .i64 0, .int .i64 0], aBlk g4 40 [.int .i64 0, .int .i64 0], aBlk g2 22 [v_p0]] := hM
        refine on_nil ⟨hM.drop.drop, ?_⟩
        exact wc_at (by kernel_rfl) (K16_48 _ _ g6018 v5018 (hs.sub ⟨rfl, rfl, rfl, rfl, rfl, trivial⟩) ((((hM.front 3 rfl).front 3 rfl).front 2 rfl).front 3 rfl))
      · rintro o ⟨rfl⟩
        intro w hw
        replace hM := hM.quiet hw
        refine wmem hs (x_alloc he_I rfl hM) rfl ?_; rintro a _ w hs ⟨g7018, rfl, hM⟩
        have hM : Mem W w [aBlk g7018 24 [.slice none 0 0], aBlk g6018 40 [.int .i64 0, .int .i64 0], aBlk g4 40 [.int .i64 0, .int .i64 0], aBlk g2 22 [v_p0]] := hM
        refine on_nil ⟨hM.drop.drop, ?_⟩
        exact wc_at (by kernel_rfl) (K16_96 _ _ g6018 g7018 (hs.sub ⟨rfl, rfl, rfl, rfl, rfl, rfl, trivial⟩) hM)
      · rintro o ⟨rfl⟩
        intro w hw
        replace hM := hM.quiet hw
        refine wmem hs (x_alloc he_B rfl hM) rfl ?_; rintro a _ w hs ⟨g8018, rfl, hM⟩
        have hM : Mem W w [aBlk g8018 65 [.slice none 0 0], aBlk g6018 40 [.int .i64 0, .int .i64 0], aBlk g4 40 [.int .i64 0, .int .i64 0], aBlk g2 22 [v_p0]] := hM
        refine on_nil ⟨hM.drop.drop, ?_⟩
        exact wc_at (by kernel_rfl) (K16_160 _ _ g6018 g8018 (hs.sub ⟨rfl, rfl, rfl, rfl, rfl, rfl, trivial⟩) hM)
    have K16_64 : ∀ (a : Act) (w : World) (g7018 : Nat), Fr a 23 [(1, .pointer (some ⟨g2, 0, none⟩)), (2, .pointer (some ⟨g4, 0, none⟩)), (7, .pointer (some ⟨g7018, 0, none⟩)), (9, .agg #[.int .i64 0, .int .i64 0]), (12, .int .i64 (p0.length : Int))] → Mem W w [aBlk g7018 24 [.slice none 0 0], aBlk g4 40 [.int .i64 0, .int .i64 0], aBlk g2 22 [v_p0]] → T16 7 #[true, false, true, true, false, false, true, false, false, false, false] a w := by
      intro a w g7018 hs hM; subst hT16
      refine wc_many (fuel := 6) [1, 4, 5, 7] (by kernel_rfl) (by simp) ⟨?_, ?_, ?_, ?_, trivial⟩
      · rintro o ⟨rfl⟩
        intro w hw
        replace hM := hM.quiet hw
        refine wmem hs (x_new0I ht_I hM) rfl ?_; intro a v2018 w hs hM
        have hM : Mem W w [aInts 3 v2018 ([]), aBlk g7018 24 [.slice none 0 0], aBlk g4 40 [.int .i64 0, .int .i64 0], aBlk g2 22 [v_p0]] := hM
        refine on_nil ⟨hM.drop.drop, ?_⟩
        exact wc_at (by kernel_rfl) (K16_66 _ _ g7018 v2018 (hs.sub ⟨rfl, rfl, rfl, rfl, rfl, rfl, trivial⟩) ((((hM.front 3 rfl).front 3 rfl).front 2 rfl).front 3 rfl))
      · rintro o ⟨rfl⟩
        intro w hw
        replace hM := hM.quiet hw
        refine wmem hs (x_makeB hu_B he_bool hs rfl hM h5019) rfl ?_; intro a v5018 w hs hM
        have hM : Mem W w [aBools 4 v5018 (List.replicate ((p0.length : Int)).toNat false), aBlk g7018 24 [.slice none 0 0], aBlk g4 40 [.int .i64 0, .int .i64 0], aBlk g2 22 [v_p0]] := hM
        refine on_nil ⟨hM.drop.drop, ?_⟩
        exact wc_at (by kernel_rfl) (K16_80 _ _ g7018 v5018 (hs.sub ⟨rfl, rfl, rfl, rfl, rfl, trivial⟩) ((((hM.front 3 rfl).front 3 rfl).front 2 rfl).front 3 rfl))
      · rintro o ⟨rfl⟩
        intro w hw
        replace hM := hM.quiet hw
        refine wmem hs (x_allocS sT_40 hM) rfl ?_; rintro a _ w hs ⟨g6018, rfl, hM⟩
        have hM : Mem W w [aBlk g6018 40 [.int .i64 0, .int .i64 0], aBlk g7018 24 [.slice none 0 0], aBlk g4 40 [.int .i64 0, .int .i64 0], aBlk g2 22 [v_p0]] := hM
        refine on_nil ⟨hM.drop.drop, ?_⟩
        exact wc_at (by kernel_rfl) (K16_96 _ _ g6018 g7018 (hs.sub ⟨rfl, rfl, rfl, rfl, rfl, rfl, trivial⟩) ((((hM.front 3 rfl).front 3 rfl).front 2 rfl).front 3 rfl))
      · rintro o ⟨rfl⟩
        intro w hw
        replace hM := hM.quiet hw
        refine wmem hs (x_alloc he_B rfl hM) rfl ?_; rintro a _ w hs ⟨g8018, rfl, hM⟩
        have hM : Mem W w [aBlk g8018 65 [.slice none 0 0], aBlk g7018 24 [.slice none 0 0], aBlk g4 40 [.int .i64 0, .int .i64 0], aBlk g2 22 [v_p0]] := hM
        refine on_nil ⟨hM.drop.drop, ?_⟩
        exact wc_at (by kernel_rfl) (K16_192 _ _ g7018 g8018 (hs.sub ⟨rfl, rfl, rfl, rfl, rfl, rfl, trivial⟩) hM)
    have K16_128 : ∀ (a : Act) (w : World) (g8018 : Nat), Fr a 23 [(1, .pointer (some ⟨g2, 0, none⟩)), (2, .pointer (some ⟨g4, 0, none⟩)), (8, .pointer (some ⟨g8018, 0, none⟩)), (9, .agg #[.int .i64 0, .int .i64 0]), (12, .int .i64 (p0.length : Int))] → Mem W w [aBlk g8018 65 [.slice none 0 0], aBlk g4 40 [.int .i64 0, .int .i64 0], aBlk g2 22 [v_p0]] → T16 7 #[true, false, true, true, false, false, false, true, false, false, false] a w := by
      intro a w g8018 hs hM; subst hT16
      refine wc_many (fuel := 6) [1, 4, 5, 6] (by kernel_rfl) (by simp) ⟨?_, ?_, ?_, ?_, trivial⟩
      · rintro o ⟨rfl⟩
        intro w hw
        replace hM := hM.quiet hw
        refine wmem hs (x_new0I ht_I hM) rfl ?_; intro a v2018 w hs hM
        have hM : Mem W w [aInts 3 v2018 ([]), aBlk g8018 65 [.slice none 0 0], aBlk g4 40 [.int .i64 0, .int .i64 0], aBlk g2 22 [v_p0]] := hM
        refine on_nil ⟨hM.drop.drop, ?_⟩
        exact wc_at (by kernel_rfl) (K16_130 _ _ g8018 v2018 (hs.sub ⟨rfl, rfl, rfl, rfl, rfl, rfl, trivial⟩) ((((hM.front 3 rfl).front 3 rfl).front 2 rfl).front 3 rfl))
      · rintro o ⟨rfl⟩
        intro w hw
        replace hM := hM.quiet hw
        refine wmem hs (x_makeB hu_B he_bool hs rfl hM h5019) rfl ?_; intro a v5018 w hs hM
        have hM : Mem W w [aBools 4 v5018 (List.replicate ((p0.length : Int)).toNat false), aBlk g8018 65 [.slice none 0 0], aBlk g4 40 [.int .i64 0, .int .i64 0], aBlk g2 22 [v_p0]] := hM
        refine on_nil ⟨hM.drop.drop, ?_⟩
        exact wc_at (by kernel_rfl) (K16_144 _ _ g8018 v5018 (hs.sub ⟨rfl, rfl, rfl, rfl, rfl, trivial⟩) ((((hM.front 3 rfl).front 3 rfl).front 2 rfl).front 3 rfl))
      · rintro o ⟨rfl⟩
        intro w hw
        replace hM := hM.quiet hw
        refine wmem hs (x_allocS sT_40 hM) rfl ?_; rintro a _ w hs ⟨g6018, rfl, hM⟩
        have hM : Mem W w [aBlk g6018 40 [.int .i64 0, .int .i64 0], aBlk g8018 65 [.slice none 0 0], aBlk g4 40 [.int .i64 0, .int .i64 0], aBlk g2 22 [v_p0]] := hM
        refine on_nil ⟨hM.drop.drop, ?_⟩
        exact wc_at (by kernel_rfl) (K16_160 _ _ g6018 g8018 (hs.sub ⟨rfl, rfl, rfl, rfl, rfl, rfl, trivial⟩) ((((hM.front 3 rfl).front 3 rfl).front 2 rfl).front 3 rfl))
      · rintro o ⟨rfl⟩
        intro w hw
        replace hM := hM.quiet hw
        refine wmem hs (x_alloc he_I rfl hM) rfl ?_; rintro a _ w hs ⟨g7018, rfl, hM⟩
        have hM : Mem W w [aBlk g7018 24 [.slice none 0 0], aBlk g8018 65 [.slice none 0 0], aBlk g4 40 [.int .i64 0, .int .i64 0], aBlk g2 22 [v_p0]] := hM
        refine on_nil ⟨hM.drop.drop, ?_⟩
        exact wc_at (by kernel_rfl) (K16_192 _ _ g7018 g8018 (hs.sub ⟨rfl, rfl, rfl, rfl, rfl, rfl, trivial⟩) ((((hM.front 3 rfl).front 3 rfl).front 2 rfl).front 3 rfl))
    have K16_0 : ∀ (a : Act) (w : World), Fr a 23 [(1, .pointer (some ⟨g2, 0, none⟩)), (2, .pointer (some ⟨g4, 0, none⟩)), (9, .agg #[.int .i64 0, .int .i64 0]), (12, .int .i64 (p0.length : Int))] → Mem W w [aBlk g4 40 [.int .i64 0, .int .i64 0], aBlk g2 22 [v_p0]] → T16 8 #[true, false, true, true, false, false, false, false, false, false, false] a w := by
      intro a w hs hM; subst hT16
      refine wc_many (fuel := 7) [1, 4, 5, 6, 7] (by kernel_rfl) (by simp) ⟨?_, ?_, ?_, ?_, ?_, trivial⟩
      · rintro o ⟨rfl⟩
        intro w hw
        replace hM := hM.quiet hw
        refine wmem hs (x_new0I ht_I hM) rfl ?_; intro a v2018 w hs hM
        have hM : Mem W w [aInts 3 v2018 ([]), aBlk g4 40 [.int .i64 0, .int .i64 0], aBlk g2 22 [v_p0]] := hM
        refine on_nil ⟨hM.drop, ?_⟩
        exact wc_at (by kernel_rfl) (K16_2 _ _ v2018 (hs.sub ⟨rfl, rfl, rfl, rfl, rfl, trivial⟩) hM)
      · rintro o ⟨rfl⟩
        intro w hw
        replace hM := hM.quiet hw
        refine wmem hs (x_makeB hu_B he_bool hs rfl hM h5019) rfl ?_; intro a v5018 w hs hM
        have hM : Mem W w [aBools 4 v5018 (List.replicate ((p0.length : Int)).toNat false), aBlk g4 40 [.int .i64 0, .int .i64 0], aBlk g2 22 [v_p0]] := hM
        refine on_nil ⟨hM.drop, ?_⟩
        exact wc_at (by kernel_rfl) (K16_16 _ _ v5018 (hs.sub ⟨rfl, rfl, rfl, rfl, trivial⟩) hM)
      · rintro o ⟨rfl⟩
        intro w hw
        replace hM := hM.quiet hw
        refine wmem hs (x_allocS sT_40 hM) rfl ?_; rintro a _ w hs ⟨g6018, rfl, hM⟩
        have hM : Mem W w [aBlk g6018 40 [.int .i64 0, .int .i64 0], aBlk g4 40 [.int .i64 0, .int .i64 0], aBlk g2 22 [v_p0]] := hM
        refine on_nil ⟨hM.drop, ?_⟩
        exact wc_at (by kernel_rfl) (K16_32 _ _ g6018 (hs.sub ⟨rfl, rfl, rfl, rfl, rfl, trivial⟩) hM)
      · rintro o ⟨rfl⟩
        intro w hw
        replace hM := hM.quiet hw
        refine wmem hs (x_alloc he_I rfl hM) rfl ?_; rintro a _ w hs ⟨g7018, rfl, hM⟩
        have hM : Mem W w [aBlk g7018 24 [.slice none 0 0], aBlk g4 40 [.int .i64 0, .int .i64 0], aBlk g2 22 [v_p0]] := hM
        refine on_nil ⟨hM.drop, ?_⟩
        exact wc_at (by kernel_rfl) (K16_64 _ _ g7018 (hs.sub ⟨rfl, rfl, rfl, rfl, rfl, trivial⟩) hM)
      · rintro o ⟨rfl⟩
        intro w hw
        replace hM := hM.quiet hw
        refine wmem hs (x_alloc he_B rfl hM) rfl ?_; rintro a _ w hs ⟨g8018, rfl, hM⟩
        have hM : Mem W w [aBlk g8018 65 [.slice none 0 0], aBlk g4 40 [.int .i64 0, .int .i64 0], aBlk g2 22 [v_p0]] := hM
        refine on_nil ⟨hM.drop, ?_⟩
        exact wc_at (by kernel_rfl) (K16_128 _ _ g8018 (hs.sub ⟨rfl, rfl, rfl, rfl, rfl, trivial⟩) hM)
    exact wc_at (by kernel_rfl) (K16_0 _ _ (hs.sub ⟨rfl, rfl, rfl, rfl, trivial⟩) hM)
  rintro a w ⟨g5, g6, g7, v8, l9, v10, l11, n12, n13, rfl, hs, hM⟩
  have hm := hk15
  refine x_nt ?_
  refine wp_seq ?_
  refine wp_region_lit ?_
  refine wl hs (y_load sc_M hs rfl (hM.cellBlk 6 rfl 0 rfl)) rfl ?_; intro a hs
  refine wl hs (y_makeFunc hs rfl) rfl ?_; intro a hs
  obtain ⟨y13017, h13018, hm⟩ := bindE hm
  refine wcall is_109 hs rfl rfl (impl_circuits_leastMean_any v_p0 p0 g2 v_p0 p0 g6 v10 l11 g7 n12 n13 g5 v8 l9 _ _ _ hr_p0 hr_p0 (((((((hM.front 5 rfl).front 4 rfl).front 2 rfl).front 4 rfl).front 5 rfl).front 5 rfl).front 6 rfl) h13018) ?_; rintro a _ w hs ⟨v13019, v13020, rfl, hM⟩
  have hM : Mem W w [aBlk g2 22 [v_p0], aBlk g6 24 [v13019], aInts 3 v13019 y13017.1, aBlk g7 40 [.int .i64 y13017.2.1, .int .i64 y13017.2.2.1], aBlk g5 65 [v13020], aBools 4 v13020 y13017.2.2.2, aBlk g4 40 [.int .i64 0, .int .i64 0]] := hM
  refine wpList_nil ?_
  refine x_nt ?_
  refine wp_seq ?_
  refine wc_start hmix [0, 1, 2, 3, 4, 5] (fun w => Mem W w [aBlk g2 22 [v_p0], aBlk g6 24 [v13019], aInts 3 v13019 y13017.1, aBlk g7 40 [.int .i64 y13017.2.1, .int .i64 y13017.2.2.1], aBlk g5 65 [v13020], aBools 4 v13020 y13017.2.2.2]) (by rfl) ?_
  refine wc (i := 0) (fuel := 9) rfl (by kernel_rfl) (fun w w2 hS hE => hS.quiet hE) (hM.keep_ 6) hs (fun w1 hS => y_loadS (cs := [.int .i64 y13017.2.1, .int .i64 y13017.2.2.1]) sT_40 hs rfl (hS.heapBlk 3 rfl) rfl) rfl ?_; intro a hs
  refine wc (i := 1) (fuel := 8) rfl (by kernel_rfl) (fun w w2 hS hE => hS.quiet hE) (hM.keep_ 6) hs (fun w1 hS => y_load sc_I hs rfl (hS.cellBlk 1 rfl 0 rfl)) rfl ?_; intro a hs
  refine wc (i := 2) (fuel := 7) rfl (by kernel_rfl) (fun w w2 hS hE => hS.quiet hE) (hM.keep_ 6) hs (fun w1 hS => y_load sc_B hs rfl (hS.cellBlk 4 rfl 0 rfl)) rfl ?_; intro a hs
  refine wc (i := 3) (fuel := 6) rfl (by kernel_rfl) (fun w w2 hS hE => hS.quiet hE) (hM.keep_ 6) hs (fun w1 hS => y_load sc_I hs rfl (hS.cellBlk 1 rfl 0 rfl)) rfl ?_; intro a hs
  refine wc (i := 4) (fuel := 5) rfl (by kernel_rfl) (fun w w2 hS hE => hS.quiet hE) (hM.keep_ 6) hs (fun w1 hS => y_len hu_I hs rfl (hS.rdI 2 rfl)) rfl ?_; intro a hs
  refine wc (i := 5) (fuel := 4) rfl (by kernel_rfl) (fun w w2 hS hE => hS.quiet hE) (hM.keep_ 6) hs (fun w1 hS => y_gtr hs rfl rfl) rfl ?_; intro a hs
  refine wc_oneS (fuel := 3) 6 rfl (by kernel_rfl) ?_
  intro w hw
  replace hM := hM.quiet hw
  refine wstore hs rfl rfl (x_storeS (cs := [.int .i64 0, .int .i64 0]) (us := [.int .i64 y13017.2.1, .int .i64 y13017.2.2.1]) sT_40 ⟨rfl, rfl, trivial⟩ rfl rfl (hM.front 6 rfl)) ?_; intro w hM
  have hM : Mem W w [aBlk g4 40 [.int .i64 y13017.2.1, .int .i64 y13017.2.2.1], aBlk g2 22 [v_p0], aBlk g6 24 [v13019], aInts 3 v13019 y13017.1, aBlk g7 40 [.int .i64 y13017.2.1, .int .i64 y13017.2.2.1], aBlk g5 65 [v13020], aBools 4 v13020 y13017.2.2.2] := hM
  refine on_nil ⟨hM.drop, ?_⟩
  refine wc_oneS (fuel := 2) 7 rfl (by kernel_rfl) ?_
  intro w hw
  replace hM := hM.quiet hw
  refine wl hs (y_assign hs rfl) rfl ?_; intro a hs
  refine on_nil ⟨hM.drop, ?_⟩
  refine wc_oneS (fuel := 1) 8 rfl (by kernel_rfl) ?_
  intro w hw
  replace hM := hM.quiet hw
  refine wl hs (y_assign hs rfl) rfl ?_; intro a hs
  refine on_nil ⟨hM.drop, ?_⟩
  refine wc_one (fuel := 0) 9 rfl (by kernel_rfl) ?_
  intro w hw
  replace hM := hM.quiet hw
  refine wl hs (y_assign hs rfl) rfl ?_; intro a hs
  refine on_nil ?_
  refine wc_done (by kernel_rfl) ?_
  intro w hw
  replace hM := hM.quiet hw
  refine x_nt ?_
  refine wp_ret ?_
  have hm : some (y13017.2.1, y13017.2.2.1, y13017.1, y13017.2.2.2, decide ((y13017.1.length : Int) > 0)) = some r := hm
  obtain rfl := Option.some.inj hm
  refine x_retR (rs := [.cell 2 40, .tmp 3, .tmp 4, .tmp 5]) (vs := [.agg #[.int .i64 y13017.2.1, .int .i64 y13017.2.2.1], v13019, v13020, .bool (decide ((y13017.1.length : Int) > 0))]) rfl hs ⟨⟨_, rfl, loadS (cs := [.int .i64 y13017.2.1, .int .i64 y13017.2.2.1]) sT_40 (hM.heapBlk 0 rfl) rfl⟩, rfl, rfl, rfl, trivial⟩ ⟨_, rfl, ?_⟩
  exact ⟨_, _, rfl, ((hM.drop.drop.drop.front 1 rfl).drop.front 1 rfl).drop⟩

theorem impl_LeastMean_any (v_p0 : Value) (p0 : List (List Int)) (W : World) (hr_p0 : RdM W v_p0 p0) {r : Int × Int × Bool} (hm : impl_LeastMean_m p0 = some r) : Calls Try.prog 34 [v_p0].toArray W fun e w => ∃ v, e = .returned v ∧ v = .tuple #[.agg #[.int .i64 r.1, .int .i64 r.2.1], .bool r.2.2] ∧ Mem W w [] := by
  refine x_enter Try.func34 rfl Try.ntmps34 rfl ?_
  intro a hs
  have hM := Mem.start W
  unfold impl_LeastMean_m at hm
  refine wp_seq ?_
  refine wp_region_lit ?_
  refine wmem hs (x_allocS sT_40 hM) rfl ?_; rintro a _ w hs ⟨g2, rfl, hM⟩
  have hM : Mem W w [aBlk g2 40 [.int .i64 0, .int .i64 0]] := hM
  refine wl hs (y_assign hs rfl) rfl ?_; intro a hs
  refine wpList_nil ?_
  refine x_nt ?_
  refine wp_seq ?_
  refine wp_seq ?_
  refine wp_region_lit ?_
  refine wl hs (y_move hs rfl) rfl ?_; intro a hs
  obtain ⟨y3, h4, hm⟩ := bindE hm
  refine wcall is_50 hs rfl rfl (impl_isSquare_any v_p0 p0 _ (RdM.below hr_p0 hM.bel) h4) ?_; rintro a _ w hs ⟨rfl, hX⟩
  have hM : Mem W w [aBlk g2 40 [.int .i64 0, .int .i64 0]] := hM.call hX
  refine wl hs (y_not hs rfl) rfl ?_; intro a hs
  refine wpList_nil ?_
  refine x_nt ?_
  refine x_cond hs rfl (fun hb => ?_) (fun hb => ?_)
  · replace hm := condT hb hm
    refine wp_seq ?_
    refine wp_region_lit ?_
    refine wl hs (y_build (cs := [.int .i64 0, .int .i64 0]) sT_40 hs rfl trivial rfl) rfl ?_; intro a hs
    refine wstore hs rfl rfl (x_storeS (cs := [.int .i64 0, .int .i64 0]) (us := [.int .i64 0, .int .i64 0]) sT_40 ⟨rfl, rfl, trivial⟩ rfl rfl (hM.front 0 rfl)) ?_; intro w hM
    have hM : Mem W w [aBlk g2 40 [.int .i64 0, .int .i64 0]] := hM
    refine wl hs (y_assign hs rfl) rfl ?_; intro a hs
    refine wpList_nil ?_
    refine x_nt ?_
    refine wp_ret ?_
    refine x_rt ?_
    have hm : some (0, 0, false) = some r := hm
    obtain rfl := Option.some.inj hm
    refine x_retR (rs := [.cell 2 40, .tmp 3]) (vs := [.agg #[.int .i64 0, .int .i64 0], .bool false]) rfl hs ⟨⟨_, rfl, loadS (cs := [.int .i64 0, .int .i64 0]) sT_40 (hM.heapBlk 0 rfl) rfl⟩, rfl, trivial⟩ ⟨_, rfl, ?_⟩
    exact ⟨rfl, hM.none_⟩
  · replace hm := condF hb hm
    refine wp_skip ?_
    refine x_nt ?_
    refine wp_seq ?_
    refine wp_region_lit ?_
    refine wl hs (y_move hs rfl) rfl ?_; intro a hs
    obtain ⟨y5, h6, hm⟩ := bindE hm
    refine wcall is_78 hs rfl rfl (impl_leastMean_any v_p0 p0 _ (RdM.below hr_p0 hM.bel) h6) ?_; rintro a _ w hs ⟨v9, v11, rfl, hX⟩
    have hM : Mem W w [aInts 3 v9 y5.2.2.1, aBools 4 v11 y5.2.2.2.1, aBlk g2 40 [.int .i64 0, .int .i64 0]] := hM.call hX
    refine wl hs (y_move hs rfl) rfl ?_; intro a hs
    refine wl hs (y_extract hs rfl rfl) rfl ?_; intro a hs
    refine wl hs (y_extract hs rfl rfl) rfl ?_; intro a hs
    refine wl hs (y_extract hs rfl rfl) rfl ?_; intro a hs
    refine wl hs (y_extract hs rfl rfl) rfl ?_; intro a hs
    refine wmem hs (x_allocS sT_40 hM) rfl ?_; rintro a _ w hs ⟨g13, rfl, hM⟩
    have hM : Mem W w [aBlk g13 40 [.int .i64 0, .int .i64 0], aInts 3 v9 y5.2.2.1, aBools 4 v11 y5.2.2.2.1, aBlk g2 40 [.int .i64 0, .int .i64 0]] := hM
    refine wstore hs rfl rfl (x_storeS (cs := [.int .i64 0, .int .i64 0]) (us := [.int .i64 y5.1, .int .i64 y5.2.1]) sT_40 ⟨rfl, rfl, trivial⟩ rfl rfl (hM.front 0 rfl)) ?_; intro w hM
    have hM : Mem W w [aBlk g13 40 [.int .i64 y5.1, .int .i64 y5.2.1], aInts 3 v9 y5.2.2.1, aBools 4 v11 y5.2.2.2.1, aBlk g2 40 [.int .i64 0, .int .i64 0]] := hM
    refine wl hs (y_assign hs rfl) rfl ?_; intro a hs
    refine wl hs (y_assign hs rfl) rfl ?_; intro a hs
    refine wl hs (y_assign hs rfl) rfl ?_; intro a hs
    refine wpList_nil ?_
    refine x_nt ?_
    refine wp_seq ?_
    refine wp_region_lit ?_
    refine wl hs (y_loadS (cs := [.int .i64 y5.1, .int .i64 y5.2.1]) sT_40 hs rfl (hM.heapBlk 0 rfl) rfl) rfl ?_; intro a hs
    refine wl hs (y_move hs rfl) rfl ?_; intro a hs
    refine wstore hs rfl rfl (x_storeS (cs := [.int .i64 0, .int .i64 0]) (us := [.int .i64 y5.1, .int .i64 y5.2.1]) sT_40 ⟨rfl, rfl, trivial⟩ rfl rfl (hM.front 3 rfl)) ?_; intro w hM
    have hM : Mem W w [aBlk g2 40 [.int .i64 y5.1, .int .i64 y5.2.1], aBlk g13 40 [.int .i64 y5.1, .int .i64 y5.2.1], aInts 3 v9 y5.2.2.1, aBools 4 v11 y5.2.2.2.1] := hM
    refine wl hs (y_assign hs rfl) rfl ?_; intro a hs
    refine wpList_nil ?_
    refine x_nt ?_
    refine wp_ret ?_
    have hm : some (y5.1, y5.2.1, y5.2.2.2.2) = some r := hm
    obtain rfl := Option.some.inj hm
    refine x_retR (rs := [.cell 2 40, .tmp 3]) (vs := [.agg #[.int .i64 y5.1, .int .i64 y5.2.1], .bool y5.2.2.2.2]) rfl hs ⟨⟨_, rfl, loadS (cs := [.int .i64 y5.1, .int .i64 y5.2.1]) sT_40 (hM.heapBlk 0 rfl) rfl⟩, rfl, trivial⟩ ⟨_, rfl, ?_⟩
    exact ⟨rfl, hM.none_⟩

theorem impl_LeastCircuit_any (v_p0 : Value) (p0 : List (List Int)) (W : World) (hr_p0 : RdM W v_p0 p0) {r : (List Int) × Bool} (hm : impl_LeastCircuit_m p0 = some r) : Calls Try.prog 36 [v_p0].toArray W fun e w => ∃ v, e = .returned v ∧ ∃ v0, v = .tuple #[v0, .bool r.2] ∧ Mem W w [aInts 3 v0 r.1] := by
  refine x_enter Try.func36 rfl Try.ntmps36 rfl ?_
  intro a hs
  have hM := Mem.start W
  unfold impl_LeastCircuit_m at hm
  refine wp_seq ?_
  refine wp_region_lit ?_
  refine wl hs (y_assign hs rfl) rfl ?_; intro a hs
  refine wl hs (y_assign hs rfl) rfl ?_; intro a hs
  refine wpList_nil ?_
  refine x_nt ?_
  refine wp_seq ?_
  refine wp_seq ?_
  refine wp_region_lit ?_
  refine wl hs (y_move hs rfl) rfl ?_; intro a hs
  obtain ⟨y1, h2, hm⟩ := bindE hm
  refine wcall is_50 hs rfl rfl (impl_isSquare_any v_p0 p0 _ (RdM.below hr_p0 hM.bel) h2) ?_; rintro a _ w hs ⟨rfl, hX⟩
  have hM : Mem W w [] := hM.call hX
  refine wl hs (y_not hs rfl) rfl ?_; intro a hs
  refine wpList_nil ?_
  refine x_nt ?_
  refine x_cond hs rfl (fun hb => ?_) (fun hb => ?_)
  · replace hm := condT hb hm
    refine wp_seq ?_
    refine wp_region_lit ?_
    refine wl hs (y_assign hs rfl) rfl ?_; intro a hs
    refine wl hs (y_assign hs rfl) rfl ?_; intro a hs
    refine wpList_nil ?_
    refine x_nt ?_
    refine wp_ret ?_
    refine x_rt ?_
    have hm : some ([], false) = some r := hm
    obtain rfl := Option.some.inj hm
    refine x_ret2 rfl hs rfl rfl ⟨_, rfl, ?_⟩
    have hM := hM.nilI 3
    exact ⟨_, rfl, hM⟩
  · replace hm := condF hb hm
    refine wp_skip ?_
    refine x_nt ?_
    refine wp_seq ?_
    refine wp_region_lit ?_
    refine wl hs (y_move hs rfl) rfl ?_; intro a hs
    obtain ⟨y4, h5, hm⟩ := bindE hm
    refine wcall is_78 hs rfl rfl (impl_leastMean_any v_p0 p0 _ (RdM.below hr_p0 hM.bel) h5) ?_; rintro a _ w hs ⟨v8, v10, rfl, hX⟩
    have hM : Mem W w [aInts 3 v8 y4.2.2.1, aBools 4 v10 y4.2.2.2.1] := hM.call hX
    refine wl hs (y_move hs rfl) rfl ?_; intro a hs
    refine wl hs (y_extract hs rfl rfl) rfl ?_; intro a hs
    refine wl hs (y_extract hs rfl rfl) rfl ?_; intro a hs
    refine wl hs (y_extract hs rfl rfl) rfl ?_; intro a hs
    refine wl hs (y_extract hs rfl rfl) rfl ?_; intro a hs
    refine wmem hs (x_allocS sT_40 hM) rfl ?_; rintro a _ w hs ⟨g12, rfl, hM⟩
    have hM : Mem W w [aBlk g12 40 [.int .i64 0, .int .i64 0], aInts 3 v8 y4.2.2.1, aBools 4 v10 y4.2.2.2.1] := hM
    refine wstore hs rfl rfl (x_storeS (cs := [.int .i64 0, .int .i64 0]) (us := [.int .i64 y4.1, .int .i64 y4.2.1]) sT_40 ⟨rfl, rfl, trivial⟩ rfl rfl (hM.front 0 rfl)) ?_; intro w hM
    have hM : Mem W w [aBlk g12 40 [.int .i64 y4.1, .int .i64 y4.2.1], aInts 3 v8 y4.2.2.1, aBools 4 v10 y4.2.2.2.1] := hM
    refine wl hs (y_assign hs rfl) rfl ?_; intro a hs
    refine wl hs (y_assign hs rfl) rfl ?_; intro a hs
    refine wl hs (y_assign hs rfl) rfl ?_; intro a hs
    refine wpList_nil ?_
    refine x_nt ?_
    refine wp_seq ?_
    refine wp_region_lit ?_
    refine wl hs (y_move hs rfl) rfl ?_; intro a hs
    refine wl hs (y_move hs rfl) rfl ?_; intro a hs
    refine wl hs (y_assign hs rfl) rfl ?_; intro a hs
    refine wl hs (y_assign hs rfl) rfl ?_; intro a hs
    refine wpList_nil ?_
    refine x_nt ?_
    refine wp_ret ?_
    have hm : some (y4.2.2.1, y4.2.2.2.2) = some r := hm
    obtain rfl := Option.some.inj hm
    refine x_ret2 rfl hs rfl rfl ⟨_, rfl, ?_⟩
    exact ⟨_, rfl, (hM.drop.front 1 rfl).drop⟩

theorem impl_CriticalNodes_any (v_p0 : Value) (p0 : List (List Int)) (W : World) (hr_p0 : RdM W v_p0 p0) {r : (List Int) × Bool} (hm : impl_CriticalNodes_m p0 = some r) : Calls Try.prog 40 [v_p0].toArray W fun e w => ∃ v, e = .returned v ∧ ∃ v0, v = .tuple #[v0, .bool r.2] ∧ Mem W w [aInts 3 v0 r.1] := by
  refine x_enter Try.func40 rfl Try.ntmps40 rfl ?_
  intro a hs
  have hM := Mem.start W
  unfold impl_CriticalNodes_m at hm
  refine wp_seq ?_
  refine wp_region_lit ?_
  refine wl hs (y_assign hs rfl) rfl ?_; intro a hs
  refine wl hs (y_assign hs rfl) rfl ?_; intro a hs
  refine wpList_nil ?_
  refine x_nt ?_
  refine wp_seq ?_
  refine wp_seq ?_
  refine wp_region_lit ?_
  refine wl hs (y_move hs rfl) rfl ?_; intro a hs
  obtain ⟨y1, h2, hm⟩ := bindE hm
  refine wcall is_50 hs rfl rfl (impl_isSquare_any v_p0 p0 _ (RdM.below hr_p0 hM.bel) h2) ?_; rintro a _ w hs ⟨rfl, hX⟩
  have hM : Mem W w [] := hM.call hX
  refine wl hs (y_not hs rfl) rfl ?_; intro a hs
  refine wpList_nil ?_
  refine x_nt ?_
  refine x_cond hs rfl (fun hb => ?_) (fun hb => ?_)
  · replace hm := condT hb hm
    refine wp_seq ?_
    refine wp_region_lit ?_
    refine wl hs (y_assign hs rfl) rfl ?_; intro a hs
    refine wl hs (y_assign hs rfl) rfl ?_; intro a hs
    refine wpList_nil ?_
    refine x_nt ?_
    refine wp_ret ?_
    refine x_rt ?_
    have hm : some ([], false) = some r := hm
    obtain rfl := Option.some.inj hm
    refine x_ret2 rfl hs rfl rfl ⟨_, rfl, ?_⟩
    have hM := hM.nilI 3
    exact ⟨_, rfl, hM⟩
  · replace hm := condF hb hm
    refine wp_skip ?_
    refine x_nt ?_
    refine wp_seq ?_
    refine wp_region_lit ?_
    refine wl hs (y_move hs rfl) rfl ?_; intro a hs
    obtain ⟨y4, h5, hm⟩ := bindE hm
    refine wcall is_78 hs rfl rfl (impl_leastMean_any v_p0 p0 _ (RdM.below hr_p0 hM.bel) h5) ?_; rintro a _ w hs ⟨v8, v10, rfl, hX⟩
    have hM : Mem W w [aInts 3 v8 y4.2.2.1, aBools 4 v10 y4.2.2.2.1] := hM.call hX
    refine wl hs (y_move hs rfl) rfl ?_; intro a hs
    refine wl hs (y_extract hs rfl rfl) rfl ?_; intro a hs
    refine wl hs (y_extract hs rfl rfl) rfl ?_; intro a hs
    refine wl hs (y_extract hs rfl rfl) rfl ?_; intro a hs
    refine wl hs (y_extract hs rfl rfl) rfl ?_; intro a hs
    refine wmem hs (x_allocS sT_40 hM) rfl ?_; rintro a _ w hs ⟨g12, rfl, hM⟩
    have hM : Mem W w [aBlk g12 40 [.int .i64 0, .int .i64 0], aInts 3 v8 y4.2.2.1, aBools 4 v10 y4.2.2.2.1] := hM
    refine wstore hs rfl rfl (x_storeS (cs := [.int .i64 0, .int .i64 0]) (us := [.int .i64 y4.1, .int .i64 y4.2.1]) sT_40 ⟨rfl, rfl, trivial⟩ rfl rfl (hM.front 0 rfl)) ?_; intro w hM
    have hM : Mem W w [aBlk g12 40 [.int .i64 y4.1, .int .i64 y4.2.1], aInts 3 v8 y4.2.2.1, aBools 4 v10 y4.2.2.2.1] := hM
    refine wl hs (y_assign hs rfl) rfl ?_; intro a hs
    refine wl hs (y_assign hs rfl) rfl ?_; intro a hs
    refine wl hs (y_assign hs rfl) rfl ?_; intro a hs
    refine wpList_nil ?_
    refine x_nt ?_
    refine wp_seq ?_
    refine wp_region_lit ?_
    refine wl hs (y_move hs rfl) rfl ?_; intro a hs
    obtain ⟨y13, h14, hm⟩ := bindE hm
    refine wcall is_86 hs rfl rfl (impl_markedOf_any v10 y4.2.2.2.1 _ (hM.rdB 2 rfl) h14) ?_; rintro a v15 w hs hX
    have hM : Mem W w [aInts 3 v15 y13, aBlk g12 40 [.int .i64 y4.1, .int .i64 y4.2.1], aInts 3 v8 y4.2.2.1, aBools 4 v10 y4.2.2.2.1] := hM.call hX
    refine wl hs (y_assign hs rfl) rfl ?_; intro a hs
    refine wl hs (y_assign hs rfl) rfl ?_; intro a hs
    refine wpList_nil ?_
    refine x_nt ?_
    refine wp_ret ?_
    have hm : some (y13, true) = some r := hm
    obtain rfl := Option.some.inj hm
    refine x_ret2 rfl hs rfl rfl ⟨_, rfl, ?_⟩
    exact ⟨_, rfl, (hM.keep_ 1)⟩

set_option maxHeartbeats 4000000 in
theorem impl_isCircuit_any (v_p0 : Value) (p0 : List (List Int)) (v_p1 : Value) (p1 : List Int) (W : World) (hr_p0 : RdM W v_p0 p0) (hr_p1 : RdI W v_p1 p1) {r : Bool} (hm : impl_isCircuit_m p0 p1 = some r) : Calls Try.prog 74 [v_p0, v_p1].toArray W fun e w => ∃ v, e = .returned v ∧ v = .bool r ∧ Mem W w [] := by
  refine x_enter Try.func74 rfl Try.ntmps74 rfl ?_
  intro a hs
  have hM := Mem.start W
  unfold impl_isCircuit_m at hm
  refine wp_seq ?_
  refine wp_region_lit ?_
  refine wl hs (y_assign hs rfl) rfl ?_; intro a hs
  refine wpList_nil ?_
  refine x_nt ?_
  refine wp_seq ?_
  refine wp_seq ?_
  refine wp_region_lit ?_
  refine wl hs (y_move hs rfl) rfl ?_; intro a hs
  refine wl hs (y_len hu_I hs rfl (RdI.below hr_p1 hM.bel)) rfl ?_; intro a hs
  refine wl hs (y_move hs rfl) rfl ?_; intro a hs
  refine wl hs (y_len hu_M hs rfl (RdM.below hr_p0 hM.bel)) rfl ?_; intro a hs
  obtain ⟨y1, h2, hm⟩ := bindE hm
  refine wcall is_96 hs rfl rfl (impl_within_any (p1.length : Int) 1 (p0.length : Int) _  h2) ?_; rintro a _ w hs ⟨rfl, hX⟩
  have hM : Mem W w [] := hM.call hX
  refine wl hs (y_not hs rfl) rfl ?_; intro a hs
  refine wl hs (y_move hs rfl) rfl ?_; intro a hs
  obtain ⟨b3, hb4, hm⟩ := bindE hm
  refine wlguard (N := 44) (L' := [(19, .bool b3), (0, v_p0), (1, v_p1)]) (fun w => Mem W w []) 5 ?_ ?_
  · intro K; rcases Bool.eq_false_or_eq_true (!y1) with hg5 | hg5
    · have hm := condT hg5 hb4
      refine wls hs rfl hg5 rfl ?_; intro a hs
      refine wls hs rfl hg5 rfl ?_; intro a hs
      refine wls hs rfl hg5 rfl ?_; intro a hs
      refine wls hs rfl hg5 rfl ?_; intro a hs
      have hm : some true = some b3 := hm
      cases Option.some.inj hm
      refine wl hs (y_pickT hs rfl hg5 rfl) rfl ?_; intro a hs
      exact K _ _ (hs.sub ⟨rfl, rfl, rfl, trivial⟩) hM
    · have hm := condF hg5 hb4
      refine wlg hs rfl hg5 (y_move hs rfl) rfl ?_; intro a hs
      refine wlg hs rfl hg5 (y_move hs rfl) rfl ?_; intro a hs
      obtain ⟨y6, h7, hm⟩ := bindE hm
      refine wcallg is_58 hs rfl hg5 rfl rfl (impl_areVertices_any v_p0 p0 v_p1 p1 _ (RdM.below hr_p0 hM.bel) (RdI.below hr_p1 hM.bel) h7) ?_; rintro a _ w hs ⟨rfl, hX⟩
      have hM : Mem W w [] := hM.call hX
      refine wlg hs rfl hg5 (y_not hs rfl) rfl ?_; intro a hs
      have hm : some (!y6) = some b3 := hm
      cases Option.some.inj hm
      refine wl hs (y_pickF hs rfl hg5 rfl) rfl ?_; intro a hs
      exact K _ _ (hs.sub ⟨rfl, rfl, rfl, trivial⟩) hM
  intro a w hs hM
  simp only [List.drop_succ_cons, List.drop_zero]
  refine wpList_nil ?_
  refine x_nt ?_
  refine x_cond hs rfl (fun hb => ?_) (fun hb => ?_)
  · replace hm := condT hb hm
    refine wp_seq ?_
    refine wp_region_lit ?_
    refine wl hs (y_assign hs rfl) rfl ?_; intro a hs
    refine wpList_nil ?_
    refine x_nt ?_
    refine wp_ret ?_
    refine x_rt ?_
    have hm : some false = some r := hm
    obtain rfl := Option.some.inj hm
    refine x_ret1 rfl hs rfl ⟨_, rfl, ?_⟩
    exact ⟨rfl, hM⟩
  · replace hm := condF hb hm
    refine wp_skip ?_
    refine x_nt ?_
    refine wp_seq ?_
    refine wp_region_lit ?_
    refine wmem hs (x_makeSet (k := 3) (e := 4) hM) rfl ?_; intro a v9 w hs hM
    have hM : Mem W w [aSet Try.prog 3 4 v9 ([] : List Int)] := hM
    refine wl hs (y_assign hs rfl) rfl ?_; intro a hs
    refine wpList_nil ?_
    refine x_nt ?_
    refine wp_seq ?_
    refine wp_seq ?_
    refine wp_region_lit ?_
    refine wl hs (y_move hs rfl) rfl ?_; intro a hs
    refine wl hs (y_len hu_I hs rfl (RdI.below hr_p1 hM.bel)) rfl ?_; intro a hs
    refine wl hs (y_move hs rfl) rfl ?_; intro a hs
    refine wpList_nil ?_
    refine x_nt ?_
    obtain ⟨s12, hm, hk13⟩ := bindE hm
    refine x_mid (fun a w => Sum.inr () = s12 ∧ Fr a 44 [(0, v_p0), (1, v_p1)] ∧ Mem W w []) ?_ ?_
    · refine wp_block ?_
      refine x_loop (fun k a w => ∃ (q14 : List Int) (j10 : Nat) (l11 : List Int) , k = q14.length ∧ Fr a 44 [(0, v_p0), (1, v_p1), (5, v9), (21, v_p1), (22, .int .i64 (p1.length : Int)), (23, .int .i64 (j10 : Int))] ∧ Mem W w [aSet Try.prog 3 4 v9 l11] ∧ impl_isCircuit_l1 p1 q14 j10 l11 = some s12 ∧ List.drop j10 p1 = q14) _ ⟨p1, 0, ([] : List Int), rfl, hs.sub ⟨rfl, rfl, rfl, rfl, rfl, rfl, trivial⟩, hM, hm, rfl⟩ ?_
      rintro k a w ⟨q14, j10, l11, rfl, hs, hM, hm, hj10⟩
      rcases q14 with _ | ⟨x15, q14⟩
      · rewrite [impl_isCircuit_l1] at hm
        refine wp_seq ?_
        refine wp_region_lit ?_
        refine wl hs (y_lss hs rfl rfl) rfl ?_; intro a hs
        refine wpList_nil ?_
        refine x_nt ?_
        refine wp_seq ?_
        refine x_condF hs rfl (drop_f hj10) ?_
        refine wp_exit ?_
        refine x_et ?_
        refine x_et ?_
        refine x_eb ?_
        have hm : some (Sum.inr ()) = some s12 := hm
        exact ⟨Option.some.inj hm, hs.sub ⟨rfl, rfl, trivial⟩, hM.none_⟩
      · rewrite [impl_isCircuit_l1] at hm
        have hx16 := drop_idx hj10
        have hsj10 := ck_succ hj10 (RdS.len (RdI.below hr_p1 hM.bel))
        refine wp_seq ?_
        refine wp_region_lit ?_
        refine wl hs (y_lss hs rfl rfl) rfl ?_; intro a hs
        refine wpList_nil ?_
        refine x_nt ?_
        refine wp_seq ?_
        refine x_condT hs rfl (drop_t hj10) ?_
        refine wp_skip ?_
        refine x_nt ?_
        refine wp_seq ?_
        refine wp_block ?_
        refine wp_seq ?_
        refine wp_region_lit ?_
        have he17 := RdI.at_ (RdI.below hr_p1 hM.bel) hx16
        refine wl hs (y_index ht_I hs rfl rfl he17) rfl ?_; intro a hs
        refine wl hs (y_load sc_int hs rfl he17.cell) rfl ?_; intro a hs
        refine wl hs (y_assign hs rfl) rfl ?_; intro a hs
        refine wpList_nil ?_
        refine x_nt ?_
        refine wp_seq ?_
        refine wp_seq ?_
        refine wp_region_lit ?_
        refine wl hs (y_move hs rfl) rfl ?_; intro a hs
        refine wl hs (y_move hs rfl) rfl ?_; intro a hs
        obtain ⟨_, h18, hm⟩ := bindE hm
        refine wl hs (y_lookupSet hM_82 he_bool hs rfl rfl h18 hM 0 rfl) rfl ?_; intro a hs
        refine wl hs (y_move hs rfl) rfl ?_; intro a hs
        obtain ⟨b19, hb20, hm⟩ := bindE hm
        refine wlguard (N := 44) (L' := [(36, .bool b19), (0, v_p0), (1, v_p1), (5, v9), (7, .int .i64 x15), (21, v_p1), (22, .int .i64 (p1.length : Int)), (23, .int .i64 (j10 : Int))]) (fun w => Mem W w [aSet Try.prog 3 4 v9 l11]) 6 ?_ ?_
        · intro K; rcases Bool.eq_false_or_eq_true (l11.contains x15) with hg21 | hg21
          · have hm := condT hg21 hb20
            refine wls hs rfl hg21 rfl ?_; intro a hs
            refine wls hs rfl hg21 rfl ?_; intro a hs
            refine wls hs rfl hg21 rfl ?_; intro a hs
            refine wls hs rfl hg21 rfl ?_; intro a hs
            refine wls hs rfl hg21 rfl ?_; intro a hs
            have hm : some true = some b19 := hm
            cases Option.some.inj hm
            refine wl hs (y_pickT hs rfl hg21 rfl) rfl ?_; intro a hs
            exact K _ _ (hs.sub ⟨rfl, rfl, rfl, rfl, rfl, rfl, rfl, rfl, trivial⟩) hM
          · have hm := condF hg21 hb20
            refine wlg hs rfl hg21 (y_move hs rfl) rfl ?_; intro a hs
            refine wlg hs rfl hg21 (y_move hs rfl) rfl ?_; intro a hs
            obtain ⟨x22, hx23, hm⟩ := bindE hm
            have he24 := RdI.at_ (RdI.below hr_p1 hM.bel) hx23
            refine wlg hs rfl hg21 (y_index ht_I hs rfl rfl he24) rfl ?_; intro a hs
            refine wlg hs rfl hg21 (y_load sc_int hs rfl he24.cell) rfl ?_; intro a hs
            refine wlg hs rfl hg21 (y_lss hs rfl rfl) rfl ?_; intro a hs
            have hm : some (decide (x15 < x22)) = some b19 := hm
            cases Option.some.inj hm
            refine wl hs (y_pickF hs rfl hg21 rfl) rfl ?_; intro a hs
            exact K _ _ (hs.sub ⟨rfl, rfl, rfl, rfl, rfl, rfl, rfl, rfl, trivial⟩) hM
        intro a w hs hM
        simp only [List.drop_succ_cons, List.drop_zero]
        refine wpList_nil ?_
        refine x_nt ?_
        refine x_cond hs rfl (fun hb => ?_) (fun hb => ?_)
        · replace hm := condT hb hm
          refine wp_seq ?_
          refine wp_region_lit ?_
          refine wl hs (y_assign hs rfl) rfl ?_; intro a hs
          refine wpList_nil ?_
          refine x_nt ?_
          refine wp_ret ?_
          refine x_rt ?_
          refine x_rb ?_
          refine x_rt ?_
          refine x_rt ?_
          refine x_rb ?_
          refine x_rt ?_
          refine x_rt ?_
          have hm : some (Sum.inl false) = some s12 := hm
          cases Option.some.inj hm
          have hm := hk13
          have hm : some false = some r := hm
          obtain rfl := Option.some.inj hm
          refine x_ret1 rfl hs rfl ⟨_, rfl, ?_⟩
          exact ⟨rfl, hM.none_⟩
        · replace hm := condF hb hm
          refine wp_skip ?_
          refine x_nt ?_
          refine wp_region_lit ?_
          refine wl hs (y_move hs rfl) rfl ?_; intro a hs
          refine wl hs (y_move hs rfl) rfl ?_; intro a hs
          obtain ⟨_, h25, hm⟩ := bindE hm
          obtain ⟨l27, h26, hm⟩ := bindE hm
          refine wputSet hM_82 hs rfl rfl rfl h25 h26 hM ?_; intro w hM
          have hM : Mem W w [aSet Try.prog 3 4 v9 l27] := hM
          refine wpList_nil ?_
          refine x_nb ?_
          refine x_nt ?_
          refine wp_region_lit ?_
          refine wl hs (y_add hs rfl rfl hsj10) rfl ?_; intro a hs
          refine wl hs (y_move hs rfl) rfl ?_; intro a hs
          refine wpList_nil ?_
          exact ⟨_, by simp, q14, j10 + 1, l27, rfl, hs.sub ⟨rfl, rfl, rfl, rfl, rfl, rfl, trivial⟩, hM, hm, drop_next hj10⟩
    rintro a w ⟨rfl, hs, hM⟩
    have hm := hk13
    refine x_nt ?_
    refine wp_seq ?_
    refine wp_region_lit ?_
    refine wl hs (y_move hs rfl) rfl ?_; intro a hs
    refine wl hs (y_move hs rfl) rfl ?_; intro a hs
    obtain ⟨y28, h29, hm⟩ := bindE hm
    refine wcall is_106 hs rfl rfl (impl_costOfCircuit_any v_p0 p0 v_p1 p1 _ (RdM.below hr_p0 hM.bel) (RdI.below hr_p1 hM.bel) h29) ?_; rintro a _ w hs ⟨rfl, hX⟩
    have hM : Mem W w [] := hM.call hX
    refine wl hs (y_neq hs rfl rfl) rfl ?_; intro a hs
    refine wl hs (y_assign hs rfl) rfl ?_; intro a hs
    refine wpList_nil ?_
    refine x_nt ?_
    refine wp_ret ?_
    have hm : some (y28 != 1000000000) = some r := hm
    obtain rfl := Option.some.inj hm
    refine x_ret1 rfl hs rfl ⟨_, rfl, ?_⟩
    exact ⟨rfl, hM⟩

theorem impl_CircuitMean_any (v_p0 : Value) (p0 : List (List Int)) (v_p1 : Value) (p1 : List Int) (W : World) (hr_p0 : RdM W v_p0 p0) (hr_p1 : RdI W v_p1 p1) {r : Int × Int × Bool} (hm : impl_CircuitMean_m p0 p1 = some r) : Calls Try.prog 31 [v_p0, v_p1].toArray W fun e w => ∃ v, e = .returned v ∧ v = .tuple #[.agg #[.int .i64 r.1, .int .i64 r.2.1], .bool r.2.2] ∧ Mem W w [] := by
  refine x_enter Try.func31 rfl Try.ntmps31 rfl ?_
  intro a hs
  have hM := Mem.start W
  unfold impl_CircuitMean_m at hm
  refine wp_seq ?_
  refine wp_region_lit ?_
  refine wmem hs (x_allocS sT_40 hM) rfl ?_; rintro a _ w hs ⟨g2, rfl, hM⟩
  have hM : Mem W w [aBlk g2 40 [.int .i64 0, .int .i64 0]] := hM
  refine wl hs (y_assign hs rfl) rfl ?_; intro a hs
  refine wpList_nil ?_
  refine x_nt ?_
  refine wp_seq ?_
  refine wp_seq ?_
  refine wp_region_lit ?_
  refine wl hs (y_move hs rfl) rfl ?_; intro a hs
  obtain ⟨y3, h4, hm⟩ := bindE hm
  refine wcall is_50 hs rfl rfl (impl_isSquare_any v_p0 p0 _ (RdM.below hr_p0 hM.bel) h4) ?_; rintro a _ w hs ⟨rfl, hX⟩
  have hM : Mem W w [aBlk g2 40 [.int .i64 0, .int .i64 0]] := hM.call hX
  refine wl hs (y_not hs rfl) rfl ?_; intro a hs
  refine wl hs (y_move hs rfl) rfl ?_; intro a hs
  obtain ⟨b5, hb6, hm⟩ := bindE hm
  refine wlguard (N := 22) (L' := [(14, .bool b5), (0, v_p0), (1, v_p1), (4, .pointer (some ⟨g2, 0, none⟩))]) (fun w => Mem W w [aBlk g2 40 [.int .i64 0, .int .i64 0]]) 5 ?_ ?_
  · intro K; rcases Bool.eq_false_or_eq_true (!y3) with hg7 | hg7
    · have hm := condT hg7 hb6
      refine wls hs rfl hg7 rfl ?_; intro a hs
      refine wls hs rfl hg7 rfl ?_; intro a hs
      refine wls hs rfl hg7 rfl ?_; intro a hs
      refine wls hs rfl hg7 rfl ?_; intro a hs
      have hm : some true = some b5 := hm
      cases Option.some.inj hm
      refine wl hs (y_pickT hs rfl hg7 rfl) rfl ?_; intro a hs
      exact K _ _ (hs.sub ⟨rfl, rfl, rfl, rfl, trivial⟩) hM
    · have hm := condF hg7 hb6
      refine wlg hs rfl hg7 (y_move hs rfl) rfl ?_; intro a hs
      refine wlg hs rfl hg7 (y_move hs rfl) rfl ?_; intro a hs
      obtain ⟨y8, h9, hm⟩ := bindE hm
      refine wcallg is_74 hs rfl hg7 rfl rfl (impl_isCircuit_any v_p0 p0 v_p1 p1 _ (RdM.below hr_p0 hM.bel) (RdI.below hr_p1 hM.bel) h9) ?_; rintro a _ w hs ⟨rfl, hX⟩
      have hM : Mem W w [aBlk g2 40 [.int .i64 0, .int .i64 0]] := hM.call hX
      refine wlg hs rfl hg7 (y_not hs rfl) rfl ?_; intro a hs
      have hm : some (!y8) = some b5 := hm
      cases Option.some.inj hm
      refine wl hs (y_pickF hs rfl hg7 rfl) rfl ?_; intro a hs
      exact K _ _ (hs.sub ⟨rfl, rfl, rfl, rfl, trivial⟩) hM
  intro a w hs hM
  simp only [List.drop_succ_cons, List.drop_zero]
  refine wpList_nil ?_
  refine x_nt ?_
  refine x_cond hs rfl (fun hb => ?_) (fun hb => ?_)
  · replace hm := condT hb hm
    refine wp_seq ?_
    refine wp_region_lit ?_
    refine wl hs (y_build (cs := [.int .i64 0, .int .i64 0]) sT_40 hs rfl trivial rfl) rfl ?_; intro a hs
    refine wstore hs rfl rfl (x_storeS (cs := [.int .i64 0, .int .i64 0]) (us := [.int .i64 0, .int .i64 0]) sT_40 ⟨rfl, rfl, trivial⟩ rfl rfl (hM.front 0 rfl)) ?_; intro w hM
    have hM : Mem W w [aBlk g2 40 [.int .i64 0, .int .i64 0]] := hM
    refine wl hs (y_assign hs rfl) rfl ?_; intro a hs
    refine wpList_nil ?_
    refine x_nt ?_
    refine wp_ret ?_
    refine x_rt ?_
    have hm : some (0, 0, false) = some r := hm
    obtain rfl := Option.some.inj hm
    refine x_retR (rs := [.cell 4 40, .tmp 5]) (vs := [.agg #[.int .i64 0, .int .i64 0], .bool false]) rfl hs ⟨⟨_, rfl, loadS (cs := [.int .i64 0, .int .i64 0]) sT_40 (hM.heapBlk 0 rfl) rfl⟩, rfl, trivial⟩ ⟨_, rfl, ?_⟩
    exact ⟨rfl, hM.none_⟩
  · replace hm := condF hb hm
    refine wp_skip ?_
    refine x_nt ?_
    refine wp_seq ?_
    refine wp_region_lit ?_
    refine wl hs (y_move hs rfl) rfl ?_; intro a hs
    refine wl hs (y_move hs rfl) rfl ?_; intro a hs
    obtain ⟨y10, h11, hm⟩ := bindE hm
    refine wcall is_76 hs rfl rfl (impl_meanOf_any v_p0 p0 v_p1 p1 _ (RdM.below hr_p0 hM.bel) (RdI.below hr_p1 hM.bel) h11) ?_; rintro a _ w hs ⟨rfl, hX⟩
    have hM : Mem W w [aBlk g2 40 [.int .i64 0, .int .i64 0]] := hM.call hX
    obtain ⟨y12, h13, hm⟩ := bindE hm
    refine wcall is_75 hs rfl rfl (impl_toldFrac_any y10.1 y10.2 _  h13) ?_; rintro a _ w hs ⟨rfl, hX⟩
    have hM : Mem W w [aBlk g2 40 [.int .i64 0, .int .i64 0]] := hM.call hX
    refine wl hs (y_extract hs rfl rfl) rfl ?_; intro a hs
    refine wl hs (y_extract hs rfl rfl) rfl ?_; intro a hs
    refine wstore hs rfl rfl (x_storeS (cs := [.int .i64 0, .int .i64 0]) (us := [.int .i64 y12.1, .int .i64 y12.2.1]) sT_40 ⟨rfl, rfl, trivial⟩ rfl rfl (hM.front 0 rfl)) ?_; intro w hM
    have hM : Mem W w [aBlk g2 40 [.int .i64 y12.1, .int .i64 y12.2.1]] := hM
    refine wl hs (y_assign hs rfl) rfl ?_; intro a hs
    refine wpList_nil ?_
    refine x_nt ?_
    refine wp_ret ?_
    have hm : some (y12.1, y12.2.1, y12.2.2) = some r := hm
    obtain rfl := Option.some.inj hm
    refine x_retR (rs := [.cell 4 40, .tmp 5]) (vs := [.agg #[.int .i64 y12.1, .int .i64 y12.2.1], .bool y12.2.2]) rfl hs ⟨⟨_, rfl, loadS (cs := [.int .i64 y12.1, .int .i64 y12.2.1]) sT_40 (hM.heapBlk 0 rfl) rfl⟩, rfl, trivial⟩ ⟨_, rfl, ?_⟩
    exact ⟨rfl, hM.none_⟩

end Go.Proofs.Ytjhaealoneennaa
