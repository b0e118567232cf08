/- The code of this unit computes what its mirrors say. Written by program (wip/gen). -/
import Derived.Test.YtjicdfplhenohaaFacts
import Derived.Test.YtjicdfplhenohaaCirM
import Derived.Test.YtjicdfplhenohaaNumW
import Derived.Test.YtjicdfplhenohaaMatW
import Derived.Test.YtjicdfplhenohaaWy2W
import Derived.Test.YtjicdfplhenohaaOwnW
import Derived.Test.YtjicdfplhenohaaEigW
namespace Go.Proofs.Ytjicdfplhenohaa
open Go.RowKit
set_option linter.unusedVariables false

theorem impl_costOfCircuit_any (v_p0 : Value) (p0 : List (List Int)) (v_p1 : Value) (p1 : List Int) (W : World) (hr_p0 : RdM W v_p0 p0) (hr_p1 : RdI W v_p1 p1) {r : Int} (hm : impl_costOfCircuit_m p0 p1 = some r) : Calls Try.prog 87 [v_p0, v_p1].toArray W fun e w => ∃ v, e = .returned v ∧ v = .int .i64 r ∧ Mem W w [] := by
  refine x_enter Try.func87 rfl Try.ntmps87 rfl ?_
  intro a hs
  have hM := Mem.start W
  unfold impl_costOfCircuit_m at hm
  refine wp_seq ?_
  refine wp_region_lit ?_
  refine wl hs (y_assign hs rfl) rfl ?_; intro a hs
  refine wpList_nil ?_
  refine x_nt ?_
  refine wp_seq ?_
  refine x_regq hmix (by kernel_rfl) ?_
  refine wq hs (fun w1 hw1 => y_move hs rfl) rfl ?_; intro a hs
  refine wq hs (fun w1 hw1 => y_move hs rfl) rfl ?_; intro a hs
  obtain ⟨y1, h2, hm⟩ := bindE hm
  refine qcall (v := .int .i64 y1) is_111 hs rfl rfl (fun w1 hw1 => q_of hw1 (impl_costOfSteps_any v_p0 p0 v_p1 p1 w1 (RdM.below hr_p0 (hM.quiet hw1).bel) (RdI.below hr_p1 (hM.quiet hw1).bel) h2)) ?_; intro a hs
  refine wq hs (fun w1 hw1 => y_move hs rfl) rfl ?_; intro a hs
  refine wq hs (fun w1 hw1 => y_move hs rfl) rfl ?_; intro a hs
  refine wq hs (fun w1 hw1 => y_move hs rfl) rfl ?_; intro a hs
  refine wq hs (fun w1 hw1 => y_len hu_I hs rfl (RdI.below hr_p1 (hM.quiet hw1).bel)) rfl ?_; intro a hs
  obtain ⟨n3, h4, hm⟩ := bindE hm
  refine wq hs (fun w1 hw1 => y_sub hs rfl rfl h4) rfl ?_; intro a hs
  obtain ⟨x5, hx6, hm⟩ := bindE hm
  have he7 := RdI.at_ (RdI.below hr_p1 hM.bel) hx6
  refine wq hs (fun w1 hw1 => y_index ht_I hs rfl rfl (he7.below hw1)) rfl ?_; intro a hs
  refine wq hs (fun w1 hw1 => y_load sc_int hs rfl (he7.below hw1).cell) rfl ?_; intro a hs
  obtain ⟨x8, hx9, hm⟩ := bindE hm
  obtain ⟨u11, he10, hr12⟩ := RdM.at_ hr_p0 hx9
  replace he10 := he10.below hM.bel
  refine wq hs (fun w1 hw1 => y_index ht_M hs rfl rfl (he10.below hw1)) rfl ?_; intro a hs
  refine wq hs (fun w1 hw1 => y_load sc_I hs rfl (he10.below hw1).cell) rfl ?_; intro a hs
  refine wq hs (fun w1 hw1 => y_move hs rfl) rfl ?_; intro a hs
  obtain ⟨x13, hx14, hm⟩ := bindE hm
  have he15 := RdI.at_ (RdI.below hr_p1 hM.bel) hx14
  refine wq hs (fun w1 hw1 => y_index ht_I hs rfl rfl (he15.below hw1)) rfl ?_; intro a hs
  refine wq hs (fun w1 hw1 => y_load sc_int hs rfl (he15.below hw1).cell) rfl ?_; intro a hs
  obtain ⟨x16, hx17, hm⟩ := bindE hm
  have he18 := RdI.at_ (RdI.below hr12 hM.bel) hx17
  refine wq hs (fun w1 hw1 => y_index ht_I hs rfl rfl (he18.below hw1)) rfl ?_; intro a hs
  refine wq hs (fun w1 hw1 => y_load sc_int hs rfl (he18.below hw1).cell) rfl ?_; intro a hs
  obtain ⟨y19, h20, hm⟩ := bindE hm
  refine qcall (v := .int .i64 y19) is_80 hs rfl rfl (fun w1 hw1 => q_of hw1 (impl_product_any y1 x16 w1  h20)) ?_; intro a hs
  refine wq hs (fun w1 hw1 => y_assign hs rfl) rfl ?_; intro a hs
  refine wpQuiet_nil ?_
  intro w hw
  replace hM := hM.quiet hw
  refine x_nt ?_
  refine wp_ret ?_
  have hm : some y19 = some r := hm
  obtain rfl := Option.some.inj hm
  refine x_ret1 rfl hs rfl ⟨_, rfl, ?_⟩
  exact ⟨rfl, hM⟩

theorem impl_NegativeCircuit_1_any (v_p0 : Value) (p0 : List Int) (g_m : Nat) (v_m : Value) (m : List (List Int)) (g_best : Nat) (v_best : Value) (best : List Int) (W w : World) (As : List Atom) (hr_m : RdM W v_m m) (hM : Mem W w (aInts 3 v_p0 p0 :: aBlk g_m 22 [v_m] :: aBlk g_best 28 [v_best] :: aInts 3 v_best best :: As)) {r : List Int} (hm : impl_NegativeCircuit_1_m p0 m best = some r) : Calls Try.prog 86 [v_p0, .pointer (some ⟨g_m, 0, none⟩), .pointer (some ⟨g_best, 0, none⟩)].toArray w fun e w' => ∃ v, e = .returned v ∧ ∃ v_best', v = .tuple #[] ∧ Mem W w' (aInts 3 v_p0 p0 :: aBlk g_m 22 [v_m] :: aBlk g_best 28 [v_best'] :: aInts 3 v_best' r :: As) := by
  refine x_enter Try.func86 rfl Try.ntmps86 rfl ?_
  intro a hs
  unfold impl_NegativeCircuit_1_m at hm
  refine wp_seq ?_
  refine wp_region_lit ?_
  refine wl hs (y_load sc_M hs rfl (hM.cellBlk 1 rfl 0 rfl)) rfl ?_; intro a hs
  refine wl hs (y_move hs rfl) rfl ?_; intro a hs
  obtain ⟨y1, h2, hm⟩ := bindE hm
  refine wcall is_87 hs rfl rfl (impl_costOfCircuit_any v_m m v_p0 p0 _ (RdM.below hr_m hM.bel) (hM.rdI 0 rfl) h2) ?_; rintro a _ w hs ⟨rfl, hX⟩
  have hM : Mem W w (aInts 3 v_p0 p0 :: aBlk g_m 22 [v_m] :: aBlk g_best 28 [v_best] :: aInts 3 v_best best :: As) := hM.call hX
  refine wl hs (y_lss hs rfl rfl) rfl ?_; intro a hs
  refine wl hs (y_move hs rfl) rfl ?_; intro a hs
  obtain ⟨b3, hb4, hm⟩ := bindE hm
  refine wlguard (N := 22) (L' := [(19, .bool b3), (0, v_p0), (2, .pointer (some ⟨g_best, 0, none⟩))]) (fun w => Mem W w (aInts 3 v_p0 p0 :: aBlk g_m 22 [v_m] :: aBlk g_best 28 [v_best] :: aInts 3 v_best best :: As)) 11 ?_ ?_
  · intro K; rcases Bool.eq_false_or_eq_true (decide (y1 < 0)) with hg5 | hg5
    · have hm := condT hg5 hb4
      refine wlg hs rfl hg5 (y_load sc_I hs rfl (hM.cellBlk 2 rfl 0 rfl)) rfl ?_; intro a hs
      refine wlg hs rfl hg5 (y_len hu_I hs rfl (hM.rdI 3 rfl)) rfl ?_; intro a hs
      refine wlg hs rfl hg5 (y_eql hs rfl rfl) rfl ?_; intro a hs
      refine wlg hs rfl hg5 (y_move hs rfl) rfl ?_; intro a hs
      obtain ⟨b6, hb7, hm⟩ := bindE hm
      refine wlguard (N := 22) (L' := [(18, .bool b6), (0, v_p0), (2, .pointer (some ⟨g_best, 0, none⟩)), (8, .bool (decide (y1 < 0)))]) (fun w => Mem W w (aInts 3 v_p0 p0 :: aBlk g_m 22 [v_m] :: aBlk g_best 28 [v_best] :: aInts 3 v_best best :: As)) 6 ?_ ?_
      · intro K; rcases Bool.eq_false_or_eq_true ((best.length : Int) == 0) with hg8 | hg8
        · have hm := condT hg8 hb7
          refine wls hs rfl hg8 rfl ?_; intro a hs
          refine wls hs rfl hg8 rfl ?_; intro a hs
          refine wls hs rfl hg8 rfl ?_; intro a hs
          refine wls hs rfl hg8 rfl ?_; intro a hs
          refine wls hs rfl hg8 rfl ?_; intro a hs
          have hm : some true = some b6 := hm
          cases Option.some.inj hm
          refine wlg hs rfl hg5 (y_pickT hs rfl hg8 rfl) rfl ?_; intro a hs
          exact K _ _ (hs.sub ⟨rfl, rfl, rfl, rfl, trivial⟩) hM
        · have hm := condF hg8 hb7
          refine wlg hs rfl hg8 (y_move hs rfl) rfl ?_; intro a hs
          refine wlg hs rfl hg8 (y_len hu_I hs rfl (hM.rdI 0 rfl)) rfl ?_; intro a hs
          refine wlg hs rfl hg8 (y_load sc_I hs rfl (hM.cellBlk 2 rfl 0 rfl)) rfl ?_; intro a hs
          refine wlg hs rfl hg8 (y_len hu_I hs rfl (hM.rdI 3 rfl)) rfl ?_; intro a hs
          refine wlg hs rfl hg8 (y_lss hs rfl rfl) rfl ?_; intro a hs
          have hm : some (decide ((p0.length : Int) < (best.length : Int))) = some b6 := hm
          cases Option.some.inj hm
          refine wlg hs rfl hg5 (y_pickF hs rfl hg8 rfl) rfl ?_; intro a hs
          exact K _ _ (hs.sub ⟨rfl, rfl, rfl, rfl, trivial⟩) hM
      intro a w hs hM
      simp only [List.drop_succ_cons, List.drop_zero]
      have hm : some b6 = some b3 := hm
      cases Option.some.inj hm
      refine wl hs (y_pickT hs rfl hg5 rfl) rfl ?_; intro a hs
      exact K _ _ (hs.sub ⟨rfl, rfl, rfl, trivial⟩) hM
    · have hm := condF hg5 hb4
      refine wls hs rfl hg5 rfl ?_; intro a hs
      refine wls hs rfl hg5 rfl ?_; intro a hs
      refine wls hs rfl hg5 rfl ?_; intro a hs
      refine wls hs rfl hg5 rfl ?_; intro a hs
      refine wlu hs rfl rfl ?_; intro a hs
      refine wlu hs rfl rfl ?_; intro a hs
      refine wlu hs rfl rfl ?_; intro a hs
      refine wlu hs rfl rfl ?_; intro a hs
      refine wlu hs rfl rfl ?_; intro a hs
      refine wls hs rfl hg5 rfl ?_; intro a hs
      have hm : some false = some b3 := hm
      cases Option.some.inj hm
      refine wl hs (y_pickF hs rfl hg5 rfl) rfl ?_; intro a hs
      exact K _ _ (hs.sub ⟨rfl, rfl, rfl, trivial⟩) hM
  intro a w hs hM
  simp only [List.drop_succ_cons, List.drop_zero]
  refine wpList_nil ?_
  refine x_nt ?_
  refine x_cond hs rfl (fun hb => ?_) (fun hb => ?_)
  · replace hm := condT hb hm
    refine wp_region_lit ?_
    refine wl hs (y_move hs rfl) rfl ?_; intro a hs
    obtain ⟨y9, h10, hm⟩ := bindE hm
    refine wcall is_88 hs rfl rfl (slices_Clone_int_int_any v_p0 p0 _ (hM.rdI 0 rfl) h10) ?_; rintro a v11 w hs hX
    have hM : Mem W w (aInts 3 v11 y9 :: aInts 3 v_p0 p0 :: aBlk g_m 22 [v_m] :: aBlk g_best 28 [v_best] :: aInts 3 v_best best :: As) := hM.call hX
    refine wstore hs rfl rfl (x_storeBlk he_I (Mem.one (hM.front 0 rfl)) (hM.front 3 rfl)) ?_; intro w hM
    have hM : Mem W w (aBlk g_best 28 [v11] :: aInts 3 v11 y9 :: aInts 3 v_p0 p0 :: aBlk g_m 22 [v_m] :: aInts 3 v_best best :: As) := hM
    refine wpList_nil ?_
    have hm : some y9 = some r := hm
    obtain rfl := Option.some.inj hm
    refine x_end0 rfl hs ⟨_, rfl, ?_⟩
    exact ⟨v11, rfl, (((((hM.front 4 rfl).drop.front 1 rfl).front 1 rfl).front 3 rfl).front 3 rfl)⟩
  · replace hm := condF hb hm
    refine wp_skip ?_
    have hm : some best = some r := hm
    obtain rfl := Option.some.inj hm
    refine x_end0 rfl hs ⟨_, rfl, ?_⟩
    exact ⟨v_best, rfl, hM⟩

theorem impl_circuits_1_NegativeCircuit_rec : ∀ (k : Nat) (g_l : Nat) (v_l : Value) (l : List Int) (g_mm : Nat) (v_mm : Value) (mm : List (List Int)) (g_visit : Nat) (g_next : Nat) (g_m : Nat) (v_m : Value) (m : List (List Int)) (g_best : Nat) (v_best : Value) (best : List Int) (W w : World) (As : List Atom) (hr_mm : RdM W v_mm mm) (hr_m : RdM W v_m m) (hM : Mem W w (aBlk g_l 28 [v_l] :: aInts 3 v_l l :: aBlk g_mm 22 [v_mm] :: aBlk g_visit 65 [.func (.func 86) #[] #[.pointer (some ⟨g_m, 0, none⟩), .pointer (some ⟨g_best, 0, none⟩)]] :: aBlk g_next 1 [.func (.func 112) #[] #[.pointer (some ⟨g_l, 0, none⟩), .pointer (some ⟨g_mm, 0, none⟩), .pointer (some ⟨g_visit, 0, none⟩), .pointer (some ⟨g_next, 0, none⟩)]] :: aBlk g_m 22 [v_m] :: aBlk g_best 28 [v_best] :: aInts 3 v_best best :: As)) {r : (List Int) × (List Int)} (hm : impl_circuits_1_NegativeCircuit_r k l mm m best = some r), Calls Try.prog 112 [.pointer (some ⟨g_l, 0, none⟩), .pointer (some ⟨g_mm, 0, none⟩), .pointer (some ⟨g_visit, 0, none⟩), .pointer (some ⟨g_next, 0, none⟩)].toArray w fun e w' => ∃ v, e = .returned v ∧ ∃ v_l', ∃ v_best', v = .tuple #[] ∧ Mem W w' (aBlk g_l 28 [v_l'] :: aInts 3 v_l' r.1 :: aBlk g_mm 22 [v_mm] :: aBlk g_visit 65 [.func (.func 86) #[] #[.pointer (some ⟨g_m, 0, none⟩), .pointer (some ⟨g_best, 0, none⟩)]] :: aBlk g_next 1 [.func (.func 112) #[] #[.pointer (some ⟨g_l, 0, none⟩), .pointer (some ⟨g_mm, 0, none⟩), .pointer (some ⟨g_visit, 0, none⟩), .pointer (some ⟨g_next, 0, none⟩)]] :: aBlk g_m 22 [v_m] :: aBlk g_best 28 [v_best'] :: aInts 3 v_best' r.2 :: As) := by
  intro k
  induction k with
  | zero => intro g_l v_l l g_mm v_mm mm g_visit g_next g_m v_m m g_best v_best best W w As hr_mm hr_m hM r hm; have hm : none = some r := hm; cases hm
  | succ k ih =>
  intro g_l v_l l g_mm v_mm mm g_visit g_next g_m v_m m g_best v_best best W w As hr_mm hr_m hM r hm
  have hm : impl_circuits_1_NegativeCircuit_b (impl_circuits_1_NegativeCircuit_r k) l mm m best = some r := hm
  generalize impl_circuits_1_NegativeCircuit_r k = rec at hm ih
  refine x_enter Try.func112 rfl Try.ntmps112 rfl ?_
  intro a hs
  unfold impl_circuits_1_NegativeCircuit_b at hm
  refine wp_seq ?_
  refine wp_region_lit ?_
  refine wl hs (y_load sc_I hs rfl (hM.cellBlk 0 rfl 0 rfl)) rfl ?_; intro a hs
  refine wl hs (y_load sc_I hs rfl (hM.cellBlk 0 rfl 0 rfl)) rfl ?_; intro a hs
  refine wl hs (y_len hu_I hs rfl (hM.rdI 1 rfl)) rfl ?_; intro a hs
  obtain ⟨n1, h2, hm⟩ := bindE hm
  refine wl hs (y_sub hs rfl rfl h2) rfl ?_; intro a hs
  obtain ⟨x3, hx4, hm⟩ := bindE hm
  have he5 := RdI.at_ (hM.rdI 1 rfl) hx4
  refine wl hs (y_index ht_I hs rfl rfl he5) rfl ?_; intro a hs
  refine wl hs (y_load sc_int hs rfl he5.cell) rfl ?_; intro a hs
  refine wl hs (y_assign hs rfl) rfl ?_; intro a hs
  refine wpList_nil ?_
  refine x_nt ?_
  refine wp_seq ?_
  refine wp_seq ?_
  refine x_regq hmix (by kernel_rfl) ?_
  refine wq hs (fun w1 hw1 => y_load sc_M hs rfl ((hM.quiet hw1).cellBlk 2 rfl 0 rfl)) rfl ?_; intro a hs
  refine wq hs (fun w1 hw1 => y_move hs rfl) rfl ?_; intro a hs
  obtain ⟨x6, hx7, hm⟩ := bindE hm
  obtain ⟨u9, he8, hr10⟩ := RdM.at_ hr_mm hx7
  replace he8 := he8.below hM.bel
  refine wq hs (fun w1 hw1 => y_index ht_M hs rfl rfl (he8.below hw1)) rfl ?_; intro a hs
  refine wq hs (fun w1 hw1 => y_load sc_I hs rfl (he8.below hw1).cell) rfl ?_; intro a hs
  refine wq hs (fun w1 hw1 => y_load sc_I hs rfl ((hM.quiet hw1).cellBlk 0 rfl 0 rfl)) rfl ?_; intro a hs
  obtain ⟨x11, hx12, hm⟩ := bindE hm
  have he13 := RdI.at_ (hM.rdI 1 rfl) hx12
  refine wq hs (fun w1 hw1 => y_index ht_I hs rfl rfl (he13.below hw1)) rfl ?_; intro a hs
  refine wq hs (fun w1 hw1 => y_load sc_int hs rfl (he13.below hw1).cell) rfl ?_; intro a hs
  obtain ⟨x14, hx15, hm⟩ := bindE hm
  have he16 := RdI.at_ (RdI.below hr10 hM.bel) hx15
  refine wq hs (fun w1 hw1 => y_index ht_I hs rfl rfl (he16.below hw1)) rfl ?_; intro a hs
  refine wq hs (fun w1 hw1 => y_load sc_int hs rfl (he16.below hw1).cell) rfl ?_; intro a hs
  refine wq hs (fun w1 hw1 => y_neq hs rfl rfl) rfl ?_; intro a hs
  refine wpQuiet_nil ?_
  intro w hw
  replace hM := hM.quiet hw
  refine x_nt ?_
  obtain ⟨s19, hm, hk20⟩ := bindE hm
  refine x_mid (fun a w => ∃ (v17 : Value), ∃ (l18 : List Int), l18 = s19 ∧ Fr a 60 [(0, .pointer (some ⟨g_l, 0, none⟩)), (1, .pointer (some ⟨g_mm, 0, none⟩)), (3, .pointer (some ⟨g_next, 0, none⟩)), (4, .int .i64 x3)] ∧ Mem W w (aInts 3 v_l l :: aBlk g_m 22 [v_m] :: aBlk g_best 28 [v17] :: aInts 3 v17 l18 :: aBlk g_l 28 [v_l] :: aBlk g_mm 22 [v_mm] :: aBlk g_visit 65 [.func (.func 86) #[] #[.pointer (some ⟨g_m, 0, none⟩), .pointer (some ⟨g_best, 0, none⟩)]] :: aBlk g_next 1 [.func (.func 112) #[] #[.pointer (some ⟨g_l, 0, none⟩), .pointer (some ⟨g_mm, 0, none⟩), .pointer (some ⟨g_visit, 0, none⟩), .pointer (some ⟨g_next, 0, none⟩)]] :: As)) ?_ ?_
  · refine x_cond hs rfl (fun hb => ?_) (fun hb => ?_)
    · replace hm := condT hb hm
      refine wp_region_lit ?_
      refine wl hs (y_load sc_65 hs rfl (hM.cellBlk 3 rfl 0 rfl)) rfl ?_; intro a hs
      refine wl hs (y_load sc_I hs rfl (hM.cellBlk 0 rfl 0 rfl)) rfl ?_; intro a hs
      obtain ⟨y21, h22, hm⟩ := bindE hm
      refine wcallv is_86 hs rfl rfl rfl (impl_NegativeCircuit_1_any v_l l g_m v_m m g_best v_best best _ _ _ hr_m ((((((((hM.front 4 rfl).front 4 rfl).front 4 rfl).front 3 rfl).front 7 rfl).front 7 rfl).front 7 rfl).front 7 rfl) h22) ?_; rintro a _ w hs ⟨v23, rfl, hM⟩
      have hM : Mem W w (aInts 3 v_l l :: aBlk g_m 22 [v_m] :: aBlk g_best 28 [v23] :: aInts 3 v23 y21 :: aBlk g_l 28 [v_l] :: aBlk g_mm 22 [v_mm] :: aBlk g_visit 65 [.func (.func 86) #[] #[.pointer (some ⟨g_m, 0, none⟩), .pointer (some ⟨g_best, 0, none⟩)]] :: aBlk g_next 1 [.func (.func 112) #[] #[.pointer (some ⟨g_l, 0, none⟩), .pointer (some ⟨g_mm, 0, none⟩), .pointer (some ⟨g_visit, 0, none⟩), .pointer (some ⟨g_next, 0, none⟩)]] :: As) := hM
      refine wpList_nil ?_
      have hm : some y21 = some s19 := hm
      exact ⟨v23, y21, Option.some.inj hm, hs.sub ⟨rfl, rfl, rfl, rfl, trivial⟩, hM⟩
    · replace hm := condF hb hm
      refine wp_skip ?_
      have hm : some best = some s19 := hm
      exact ⟨v_best, best, Option.some.inj hm, hs.sub ⟨rfl, rfl, rfl, rfl, trivial⟩, ((((((((hM.front 4 rfl).front 4 rfl).front 4 rfl).front 3 rfl).front 7 rfl).front 7 rfl).front 7 rfl).front 7 rfl)⟩
  rintro a w ⟨v17, l18, rfl, hs, hM⟩
  have hm := hk20
  refine x_nt ?_
  refine wp_seq ?_
  refine wp_region_lit ?_
  refine wl hs (y_load sc_I hs rfl (hM.cellBlk 4 rfl 0 rfl)) rfl ?_; intro a hs
  have he24 := RdI.at_ (hM.rdI 0 rfl) hx12
  refine wl hs (y_index ht_I hs rfl rfl he24) rfl ?_; intro a hs
  refine wl hs (y_load sc_int hs rfl he24.cell) rfl ?_; intro a hs
  obtain ⟨n25, h26, hm⟩ := bindE hm
  refine wl hs (y_add hs rfl rfl h26) rfl ?_; intro a hs
  refine wl hs (y_assign hs rfl) rfl ?_; intro a hs
  refine wpList_nil ?_
  refine x_nt ?_
  obtain ⟨s36, hm, hk37⟩ := bindE hm
  refine x_mid (fun a w => ∃ (v32 : Value), ∃ (l33 : List Int), ∃ (v34 : Value), ∃ (l35 : List Int), (l33, l35) = s36 ∧ Fr a 60 [] ∧ Mem W w (aInts 3 v32 l33 :: aBlk g_m 22 [v_m] :: aBlk g_best 28 [v34] :: aInts 3 v34 l35 :: aBlk g_l 28 [v32] :: aBlk g_mm 22 [v_mm] :: aBlk g_visit 65 [.func (.func 86) #[] #[.pointer (some ⟨g_m, 0, none⟩), .pointer (some ⟨g_best, 0, none⟩)]] :: aBlk g_next 1 [.func (.func 112) #[] #[.pointer (some ⟨g_l, 0, none⟩), .pointer (some ⟨g_mm, 0, none⟩), .pointer (some ⟨g_visit, 0, none⟩), .pointer (some ⟨g_next, 0, none⟩)]] :: As)) ?_ ?_
  · refine wp_block ?_
    refine x_loop (fun k a w => ∃ (v27 : Value) (l28 : List Int) (v29 : Value) (l30 : List Int) (n31 : Int) , Fr a 60 [(0, .pointer (some ⟨g_l, 0, none⟩)), (1, .pointer (some ⟨g_mm, 0, none⟩)), (3, .pointer (some ⟨g_next, 0, none⟩)), (4, .int .i64 x3), (5, .int .i64 n31)] ∧ Mem W w (aInts 3 v27 l28 :: aBlk g_m 22 [v_m] :: aBlk g_best 28 [v29] :: aInts 3 v29 l30 :: aBlk g_l 28 [v27] :: aBlk g_mm 22 [v_mm] :: aBlk g_visit 65 [.func (.func 86) #[] #[.pointer (some ⟨g_m, 0, none⟩), .pointer (some ⟨g_best, 0, none⟩)]] :: aBlk g_next 1 [.func (.func 112) #[] #[.pointer (some ⟨g_l, 0, none⟩), .pointer (some ⟨g_mm, 0, none⟩), .pointer (some ⟨g_visit, 0, none⟩), .pointer (some ⟨g_next, 0, none⟩)]] :: As) ∧ impl_circuits_1_NegativeCircuit_l1 mm m rec x6 k l28 l30 n31 = some s36) 4000000 ⟨v_l, l, v17, l18, n25, hs.sub ⟨rfl, rfl, rfl, rfl, rfl, trivial⟩, hM, hm⟩ ?_
    rintro k a w ⟨v27, l28, v29, l30, n31, hs, hM, hm⟩
    rcases k with _ | k
    · rewrite [impl_circuits_1_NegativeCircuit_l1] at hm; cases hm
    rewrite [impl_circuits_1_NegativeCircuit_l1] at hm
    refine wp_seq ?_
    refine wp_seq ?_
    refine wp_region_lit ?_
    refine wl hs (y_move hs rfl) rfl ?_; intro a hs
    refine wl hs (y_load sc_M hs rfl (hM.cellBlk 5 rfl 0 rfl)) rfl ?_; intro a hs
    refine wl hs (y_len hu_M hs rfl (RdM.below hr_mm hM.bel)) rfl ?_; intro a hs
    refine wl hs (y_lss hs rfl rfl) rfl ?_; intro a hs
    refine wpList_nil ?_
    refine x_nt ?_
    refine x_cond hs rfl (fun hb => ?_) (fun hb => ?_)
    · replace hm := condT hb hm
      refine wp_skip ?_
      refine x_nt ?_
      refine wp_seq ?_
      refine wp_block ?_
      refine wp_seq ?_
      refine wp_region_lit ?_
      refine wl hs (y_load sc_M hs rfl (hM.cellBlk 5 rfl 0 rfl)) rfl ?_; intro a hs
      refine wl hs (y_move hs rfl) rfl ?_; intro a hs
      obtain ⟨u40, he39, hr41⟩ := RdM.at_ hr_mm hx7
      replace he39 := he39.below hM.bel
      refine wl hs (y_index ht_M hs rfl rfl he39) rfl ?_; intro a hs
      refine wl hs (y_load sc_I hs rfl he39.cell) rfl ?_; intro a hs
      refine wl hs (y_move hs rfl) rfl ?_; intro a hs
      obtain ⟨x42, hx43, hm⟩ := bindE hm
      have he44 := RdI.at_ (RdI.below hr41 hM.bel) hx43
      refine wl hs (y_index ht_I hs rfl rfl he44) rfl ?_; intro a hs
      refine wl hs (y_load sc_int hs rfl he44.cell) rfl ?_; intro a hs
      refine wl hs (y_neq hs rfl rfl) rfl ?_; intro a hs
      refine wl hs (y_move hs rfl) rfl ?_; intro a hs
      obtain ⟨b45, hb46, hm⟩ := bindE hm
      refine wlguard (N := 60) (L' := [(48, .bool b45), (0, .pointer (some ⟨g_l, 0, none⟩)), (1, .pointer (some ⟨g_mm, 0, none⟩)), (3, .pointer (some ⟨g_next, 0, none⟩)), (4, .int .i64 x3), (5, .int .i64 n31)]) (fun w => Mem W w (aInts 3 v27 l28 :: aBlk g_m 22 [v_m] :: aBlk g_best 28 [v29] :: aInts 3 v29 l30 :: aBlk g_l 28 [v27] :: aBlk g_mm 22 [v_mm] :: aBlk g_visit 65 [.func (.func 86) #[] #[.pointer (some ⟨g_m, 0, none⟩), .pointer (some ⟨g_best, 0, none⟩)]] :: aBlk g_next 1 [.func (.func 112) #[] #[.pointer (some ⟨g_l, 0, none⟩), .pointer (some ⟨g_mm, 0, none⟩), .pointer (some ⟨g_visit, 0, none⟩), .pointer (some ⟨g_next, 0, none⟩)]] :: As)) 5 ?_ ?_
      · intro K; rcases Bool.eq_false_or_eq_true (x42 != 1000000000) with hg47 | hg47
        · have hm := condT hg47 hb46
          refine wlg hs rfl hg47 (y_load sc_I hs rfl (hM.cellBlk 4 rfl 0 rfl)) rfl ?_; intro a hs
          refine wlg hs rfl hg47 (y_move hs rfl) rfl ?_; intro a hs
          obtain ⟨y48, h49, hm⟩ := bindE hm
          refine wcallg is_113 hs rfl hg47 rfl rfl (slices_Contains_int_int_any v27 l28 n31 _ (hM.rdI 0 rfl) h49) ?_; rintro a _ w hs ⟨rfl, hX⟩
          have hM : Mem W w (aInts 3 v27 l28 :: aBlk g_m 22 [v_m] :: aBlk g_best 28 [v29] :: aInts 3 v29 l30 :: aBlk g_l 28 [v27] :: aBlk g_mm 22 [v_mm] :: aBlk g_visit 65 [.func (.func 86) #[] #[.pointer (some ⟨g_m, 0, none⟩), .pointer (some ⟨g_best, 0, none⟩)]] :: aBlk g_next 1 [.func (.func 112) #[] #[.pointer (some ⟨g_l, 0, none⟩), .pointer (some ⟨g_mm, 0, none⟩), .pointer (some ⟨g_visit, 0, none⟩), .pointer (some ⟨g_next, 0, none⟩)]] :: As) := hM.call hX
          refine wlg hs rfl hg47 (y_not hs rfl) rfl ?_; intro a hs
          have hm : some (!y48) = some b45 := hm
          cases Option.some.inj hm
          refine wl hs (y_pickT hs rfl hg47 rfl) rfl ?_; intro a hs
          exact K _ _ (hs.sub ⟨rfl, rfl, rfl, rfl, rfl, rfl, trivial⟩) hM
        · have hm := condF hg47 hb46
          refine wls hs rfl hg47 rfl ?_; intro a hs
          refine wls hs rfl hg47 rfl ?_; intro a hs
          refine wls hs rfl hg47 rfl ?_; intro a hs
          refine wls hs rfl hg47 rfl ?_; intro a hs
          have hm : some false = some b45 := hm
          cases Option.some.inj hm
          refine wl hs (y_pickF hs rfl hg47 rfl) rfl ?_; intro a hs
          exact K _ _ (hs.sub ⟨rfl, rfl, rfl, rfl, rfl, rfl, trivial⟩) hM
      intro a w hs hM
      simp only [List.drop_succ_cons, List.drop_zero]
      refine wpList_nil ?_
      refine x_nt ?_
      refine x_cond hs rfl (fun hb => ?_) (fun hb => ?_)
      · replace hm := condT hb hm
        refine wp_seq ?_
        refine wp_region_lit ?_
        refine wl hs (y_load sc_I hs rfl (hM.cellBlk 4 rfl 0 rfl)) rfl ?_; intro a hs
        refine wl hs (y_move hs rfl) rfl ?_; intro a hs
        obtain ⟨l50, h51, hm⟩ := bindE hm
        refine wappI hu_I he_int hs hM rfl rfl h51 rfl rfl rfl ?_; intro a v52 w u53 hs hM
        have hM : Mem W w (aInts 3 v52 l50 :: aBlk g_m 22 [v_m] :: aBlk g_best 28 [v29] :: aInts 3 v29 l30 :: aBlk g_l 28 [v27] :: aBlk g_mm 22 [v_mm] :: aBlk g_visit 65 [.func (.func 86) #[] #[.pointer (some ⟨g_m, 0, none⟩), .pointer (some ⟨g_best, 0, none⟩)]] :: aBlk g_next 1 [.func (.func 112) #[] #[.pointer (some ⟨g_l, 0, none⟩), .pointer (some ⟨g_mm, 0, none⟩), .pointer (some ⟨g_visit, 0, none⟩), .pointer (some ⟨g_next, 0, none⟩)]] :: As) := hM
        refine wstore hs rfl rfl (x_storeBlk he_I (Mem.one (hM.front 0 rfl)) (hM.front 4 rfl)) ?_; intro w hM
        have hM : Mem W w (aBlk g_l 28 [v52] :: aInts 3 v52 l50 :: aBlk g_m 22 [v_m] :: aBlk g_best 28 [v29] :: aInts 3 v29 l30 :: aBlk g_mm 22 [v_mm] :: aBlk g_visit 65 [.func (.func 86) #[] #[.pointer (some ⟨g_m, 0, none⟩), .pointer (some ⟨g_best, 0, none⟩)]] :: aBlk g_next 1 [.func (.func 112) #[] #[.pointer (some ⟨g_l, 0, none⟩), .pointer (some ⟨g_mm, 0, none⟩), .pointer (some ⟨g_visit, 0, none⟩), .pointer (some ⟨g_next, 0, none⟩)]] :: As) := hM
        refine wpList_nil ?_
        refine x_nt ?_
        refine wp_seq ?_
        refine wp_region_lit ?_
        refine wl hs (y_load sc_1 hs rfl (hM.cellBlk 7 rfl 0 rfl)) rfl ?_; intro a hs
        obtain ⟨y54, h55, hm⟩ := bindE hm
        refine wcallv is_112 hs rfl rfl rfl (ih g_l v52 l50 g_mm v_mm mm g_visit g_next g_m v_m m g_best v29 l30 _ _ _ hr_mm hr_m ((((((((hM.front 4 rfl).front 4 rfl).front 4 rfl).front 7 rfl).front 7 rfl).front 7 rfl).front 7 rfl).front 7 rfl) h55) ?_; rintro a _ w hs ⟨v56, v57, rfl, hM⟩
        have hM : Mem W w (aBlk g_l 28 [v56] :: aInts 3 v56 y54.1 :: aBlk g_mm 22 [v_mm] :: aBlk g_visit 65 [.func (.func 86) #[] #[.pointer (some ⟨g_m, 0, none⟩), .pointer (some ⟨g_best, 0, none⟩)]] :: aBlk g_next 1 [.func (.func 112) #[] #[.pointer (some ⟨g_l, 0, none⟩), .pointer (some ⟨g_mm, 0, none⟩), .pointer (some ⟨g_visit, 0, none⟩), .pointer (some ⟨g_next, 0, none⟩)]] :: aBlk g_m 22 [v_m] :: aBlk g_best 28 [v57] :: aInts 3 v57 y54.2 :: As) := hM
        refine wpList_nil ?_
        refine x_nt ?_
        refine wp_region_lit ?_
        refine wl hs (y_load sc_I hs rfl (hM.cellBlk 0 rfl 0 rfl)) rfl ?_; intro a hs
        refine wl hs (y_load sc_I hs rfl (hM.cellBlk 0 rfl 0 rfl)) rfl ?_; intro a hs
        refine wl hs (y_len hu_I hs rfl (hM.rdI 1 rfl)) rfl ?_; intro a hs
        obtain ⟨n58, h59, hm⟩ := bindE hm
        refine wl hs (y_sub hs rfl rfl h59) rfl ?_; intro a hs
        obtain ⟨l60, h61, hm⟩ := bindE hm
        obtain ⟨v62, h63, hM⟩ := (hM.front 1 rfl).cutI hu_I he_int h61
        have hM : Mem W w (aInts 3 v62 l60 :: aBlk g_l 28 [v56] :: aBlk g_mm 22 [v_mm] :: aBlk g_visit 65 [.func (.func 86) #[] #[.pointer (some ⟨g_m, 0, none⟩), .pointer (some ⟨g_best, 0, none⟩)]] :: aBlk g_next 1 [.func (.func 112) #[] #[.pointer (some ⟨g_l, 0, none⟩), .pointer (some ⟨g_mm, 0, none⟩), .pointer (some ⟨g_visit, 0, none⟩), .pointer (some ⟨g_next, 0, none⟩)]] :: aBlk g_m 22 [v_m] :: aBlk g_best 28 [v57] :: aInts 3 v57 y54.2 :: As) := hM
        refine wl hs (y_cut hs rfl rfl h63) rfl ?_; intro a hs
        refine wstore hs rfl rfl (x_storeBlk he_I (Mem.one (hM.front 0 rfl)) (hM.front 1 rfl)) ?_; intro w hM
        have hM : Mem W w (aBlk g_l 28 [v62] :: aInts 3 v62 l60 :: aBlk g_mm 22 [v_mm] :: aBlk g_visit 65 [.func (.func 86) #[] #[.pointer (some ⟨g_m, 0, none⟩), .pointer (some ⟨g_best, 0, none⟩)]] :: aBlk g_next 1 [.func (.func 112) #[] #[.pointer (some ⟨g_l, 0, none⟩), .pointer (some ⟨g_mm, 0, none⟩), .pointer (some ⟨g_visit, 0, none⟩), .pointer (some ⟨g_next, 0, none⟩)]] :: aBlk g_m 22 [v_m] :: aBlk g_best 28 [v57] :: aInts 3 v57 y54.2 :: As) := hM
        refine wpList_nil ?_
        refine x_nb ?_
        refine x_nt ?_
        refine wp_region_lit ?_
        refine wl hs (y_move hs rfl) rfl ?_; intro a hs
        obtain ⟨n64, h65, hm⟩ := bindE hm
        refine wl hs (y_add hs rfl rfl h65) rfl ?_; intro a hs
        refine wl hs (y_assign hs rfl) rfl ?_; intro a hs
        refine wpList_nil ?_
        exact ⟨k, Nat.lt_succ_self _, v62, l60, v57, y54.2, n64, hs.sub ⟨rfl, rfl, rfl, rfl, rfl, trivial⟩, ((((((((hM.front 4 rfl).front 4 rfl).front 4 rfl).front 3 rfl).front 7 rfl).front 7 rfl).front 7 rfl).front 7 rfl), hm⟩
      · replace hm := condF hb hm
        refine wp_skip ?_
        refine x_nb ?_
        refine x_nt ?_
        refine wp_region_lit ?_
        refine wl hs (y_move hs rfl) rfl ?_; intro a hs
        obtain ⟨n66, h67, hm⟩ := bindE hm
        refine wl hs (y_add hs rfl rfl h67) rfl ?_; intro a hs
        refine wl hs (y_assign hs rfl) rfl ?_; intro a hs
        refine wpList_nil ?_
        exact ⟨k, Nat.lt_succ_self _, v27, l28, v29, l30, n66, hs.sub ⟨rfl, rfl, rfl, rfl, rfl, trivial⟩, hM, hm⟩
    · replace hm := condF hb hm
      refine wp_exit ?_
      refine x_et ?_
      refine x_et ?_
      refine x_eb ?_
      have hm : some (l28, l30) = some s36 := hm
      exact ⟨v27, l28, v29, l30, Option.some.inj hm, hs.sub trivial, hM⟩
  rintro a w ⟨v32, l33, v34, l35, rfl, hs, hM⟩
  have hm := hk37
  have hm : some (l33, l35) = some r := hm
  obtain rfl := Option.some.inj hm
  refine x_end0 rfl hs ⟨_, rfl, ?_⟩
  exact ⟨v32, v34, rfl, ((((((((hM.front 3 rfl).front 3 rfl).front 3 rfl).front 7 rfl).front 7 rfl).front 7 rfl).front 6 rfl).front 7 rfl)⟩
theorem impl_circuits_1_NegativeCircuit_any (g_l : Nat) (v_l : Value) (l : List Int) (g_mm : Nat) (v_mm : Value) (mm : List (List Int)) (g_visit : Nat) (g_next : Nat) (g_m : Nat) (v_m : Value) (m : List (List Int)) (g_best : Nat) (v_best : Value) (best : List Int) (W w : World) (As : List Atom) (hr_mm : RdM W v_mm mm) (hr_m : RdM W v_m m) (hM : Mem W w (aBlk g_l 28 [v_l] :: aInts 3 v_l l :: aBlk g_mm 22 [v_mm] :: aBlk g_visit 65 [.func (.func 86) #[] #[.pointer (some ⟨g_m, 0, none⟩), .pointer (some ⟨g_best, 0, none⟩)]] :: aBlk g_next 1 [.func (.func 112) #[] #[.pointer (some ⟨g_l, 0, none⟩), .pointer (some ⟨g_mm, 0, none⟩), .pointer (some ⟨g_visit, 0, none⟩), .pointer (some ⟨g_next, 0, none⟩)]] :: aBlk g_m 22 [v_m] :: aBlk g_best 28 [v_best] :: aInts 3 v_best best :: As)) {r : (List Int) × (List Int)} (hm : impl_circuits_1_NegativeCircuit_m l mm m best = some r) : Calls Try.prog 112 [.pointer (some ⟨g_l, 0, none⟩), .pointer (some ⟨g_mm, 0, none⟩), .pointer (some ⟨g_visit, 0, none⟩), .pointer (some ⟨g_next, 0, none⟩)].toArray w fun e w' => ∃ v, e = .returned v ∧ ∃ v_l', ∃ v_best', v = .tuple #[] ∧ Mem W w' (aBlk g_l 28 [v_l'] :: aInts 3 v_l' r.1 :: aBlk g_mm 22 [v_mm] :: aBlk g_visit 65 [.func (.func 86) #[] #[.pointer (some ⟨g_m, 0, none⟩), .pointer (some ⟨g_best, 0, none⟩)]] :: aBlk g_next 1 [.func (.func 112) #[] #[.pointer (some ⟨g_l, 0, none⟩), .pointer (some ⟨g_mm, 0, none⟩), .pointer (some ⟨g_visit, 0, none⟩), .pointer (some ⟨g_next, 0, none⟩)]] :: aBlk g_m 22 [v_m] :: aBlk g_best 28 [v_best'] :: aInts 3 v_best' r.2 :: As) := impl_circuits_1_NegativeCircuit_rec 64 g_l v_l l g_mm v_mm mm g_visit g_next g_m v_m m g_best v_best best W w As hr_mm hr_m hM hm

theorem impl_circuits_NegativeCircuit_any (v_p0 : Value) (p0 : List (List Int)) (g_m : Nat) (v_m : Value) (m : List (List Int)) (g_best : Nat) (v_best : Value) (best : List Int) (W w : World) (As : List Atom) (hr_p0 : RdM W v_p0 p0) (hr_m : RdM W v_m m) (hM : Mem W w (aBlk g_m 22 [v_m] :: aBlk g_best 28 [v_best] :: aInts 3 v_best best :: As)) {r : List Int} (hm : impl_circuits_NegativeCircuit_m p0 m best = some r) : Calls Try.prog 85 [v_p0, .func (.func 86) #[] #[.pointer (some ⟨g_m, 0, none⟩), .pointer (some ⟨g_best, 0, none⟩)]].toArray w fun e w' => ∃ v, e = .returned v ∧ ∃ v_best', v = .tuple #[] ∧ Mem W w' (aBlk g_m 22 [v_m] :: aBlk g_best 28 [v_best'] :: aInts 3 v_best' r :: As) := by
  refine x_enter Try.func85 rfl Try.ntmps85 rfl ?_
  intro a hs
  unfold impl_circuits_NegativeCircuit_m at hm
  refine wp_seq ?_
  refine wp_region_lit ?_
  refine wmem hs (x_box (RdS.one hr_p0) hs rfl hM) rfl ?_; rintro a _ w hs ⟨g2, rfl, hM⟩
  have hM : Mem W w (aBlk g2 22 [v_p0] :: aBlk g_m 22 [v_m] :: aBlk g_best 28 [v_best] :: aInts 3 v_best best :: As) := hM
  refine wmem hs (x_box rfl hs rfl hM) rfl ?_; rintro a _ w hs ⟨g4, rfl, hM⟩
  have hM : Mem W w (aBlk g4 65 [.func (.func 86) #[] #[.pointer (some ⟨g_m, 0, none⟩), .pointer (some ⟨g_best, 0, none⟩)]] :: aBlk g2 22 [v_p0] :: aBlk g_m 22 [v_m] :: aBlk g_best 28 [v_best] :: aInts 3 v_best best :: As) := hM
  refine wpList_nil ?_
  refine x_nt ?_
  refine wp_seq ?_
  refine wp_region_lit ?_
  refine wmem hs (x_new0I ht_I hM) rfl ?_; intro a v6 w hs hM
  have hM : Mem W w (aInts 3 v6 ([]) :: aBlk g4 65 [.func (.func 86) #[] #[.pointer (some ⟨g_m, 0, none⟩), .pointer (some ⟨g_best, 0, none⟩)]] :: aBlk g2 22 [v_p0] :: aBlk g_m 22 [v_m] :: aBlk g_best 28 [v_best] :: aInts 3 v_best best :: As) := hM
  refine wmem hs (x_alloc he_I rfl hM) rfl ?_; rintro a _ w hs ⟨g8, rfl, hM⟩
  have hM : Mem W w (aBlk g8 28 [.slice none 0 0] :: aInts 3 v6 ([]) :: aBlk g4 65 [.func (.func 86) #[] #[.pointer (some ⟨g_m, 0, none⟩), .pointer (some ⟨g_best, 0, none⟩)]] :: aBlk g2 22 [v_p0] :: aBlk g_m 22 [v_m] :: aBlk g_best 28 [v_best] :: aInts 3 v_best best :: As) := hM
  refine wstore hs rfl rfl (x_storeBlk he_I (Mem.one (hM.front 1 rfl)) (hM.front 0 rfl)) ?_; intro w hM
  have hM : Mem W w (aBlk g8 28 [v6] :: aInts 3 v6 ([]) :: aBlk g4 65 [.func (.func 86) #[] #[.pointer (some ⟨g_m, 0, none⟩), .pointer (some ⟨g_best, 0, none⟩)]] :: aBlk g2 22 [v_p0] :: aBlk g_m 22 [v_m] :: aBlk g_best 28 [v_best] :: aInts 3 v_best best :: As) := hM
  refine wpList_nil ?_
  refine x_nt ?_
  refine wp_seq ?_
  refine wp_region_lit ?_
  refine wmem hs (x_alloc he_1 rfl hM) rfl ?_; rintro a _ w hs ⟨g10, rfl, hM⟩
  have hM : Mem W w (aBlk g10 1 [.nilFunc] :: aBlk g8 28 [v6] :: aInts 3 v6 ([]) :: aBlk g4 65 [.func (.func 86) #[] #[.pointer (some ⟨g_m, 0, none⟩), .pointer (some ⟨g_best, 0, none⟩)]] :: aBlk g2 22 [v_p0] :: aBlk g_m 22 [v_m] :: aBlk g_best 28 [v_best] :: aInts 3 v_best best :: As) := hM
  refine wpList_nil ?_
  refine x_nt ?_
  refine wp_seq ?_
  refine wp_region_lit ?_
  refine wl hs (y_makeFunc hs rfl) rfl ?_; intro a hs
  refine wstore hs rfl rfl (x_storeBlk he_1 rfl (hM.front 0 rfl)) ?_; intro w hM
  have hM : Mem W w (aBlk g10 1 [.func (.func 112) #[] #[.pointer (some ⟨g8, 0, none⟩), .pointer (some ⟨g2, 0, none⟩), .pointer (some ⟨g4, 0, none⟩), .pointer (some ⟨g10, 0, none⟩)]] :: aBlk g8 28 [v6] :: aInts 3 v6 ([]) :: aBlk g4 65 [.func (.func 86) #[] #[.pointer (some ⟨g_m, 0, none⟩), .pointer (some ⟨g_best, 0, none⟩)]] :: aBlk g2 22 [v_p0] :: aBlk g_m 22 [v_m] :: aBlk g_best 28 [v_best] :: aInts 3 v_best best :: As) := hM
  refine wpList_nil ?_
  refine x_nt ?_
  refine wp_seq ?_
  refine wp_region_lit ?_
  refine wl hs (y_load sc_M hs rfl (hM.cellBlk 4 rfl 0 rfl)) rfl ?_; intro a hs
  refine wl hs (y_len hu_M hs rfl (RdM.below hr_p0 hM.bel)) rfl ?_; intro a hs
  refine wl hs (y_move hs rfl) rfl ?_; intro a hs
  refine wpList_nil ?_
  refine x_nt ?_
  obtain ⟨s20, hm, hk21⟩ := bindE hm
  refine x_mid (fun a w => ∃ (v18 : Value), ∃ (l19 : List Int), l19 = s20 ∧ Fr a 19 [] ∧ Mem W w (aBlk g_m 22 [v_m] :: aBlk g_best 28 [v18] :: aInts 3 v18 l19 :: As)) ?_ ?_
  · refine wp_block ?_
    refine x_loop (fun k a w => ∃ (q22 : List (List Int)) (j17 : Nat) (v13 : Value) (l14 : List Int) (v15 : Value) (l16 : List Int) , k = q22.length ∧ Fr a 19 [(4, .pointer (some ⟨g8, 0, none⟩)), (5, .pointer (some ⟨g10, 0, none⟩)), (10, .int .i64 (p0.length : Int)), (11, .int .i64 (j17 : Int))] ∧ Mem W w (aBlk g10 1 [.func (.func 112) #[] #[.pointer (some ⟨g8, 0, none⟩), .pointer (some ⟨g2, 0, none⟩), .pointer (some ⟨g4, 0, none⟩), .pointer (some ⟨g10, 0, none⟩)]] :: aBlk g8 28 [v13] :: aInts 3 v13 l14 :: aBlk g4 65 [.func (.func 86) #[] #[.pointer (some ⟨g_m, 0, none⟩), .pointer (some ⟨g_best, 0, none⟩)]] :: aBlk g2 22 [v_p0] :: aBlk g_m 22 [v_m] :: aBlk g_best 28 [v15] :: aInts 3 v15 l16 :: As) ∧ impl_circuits_NegativeCircuit_l1 p0 m q22 j17 l14 l16 = some s20 ∧ List.drop j17 p0 = q22) _ ⟨p0, 0, v6, [], v_best, best, rfl, hs.sub ⟨rfl, rfl, rfl, rfl, trivial⟩, hM, hm, rfl⟩ ?_
    rintro k a w ⟨q22, j17, v13, l14, v15, l16, rfl, hs, hM, hm, hj⟩
    rcases q22 with _ | ⟨x23, q22⟩
    · rewrite [impl_circuits_NegativeCircuit_l1] at hm
      refine wp_seq ?_
      refine wp_region_lit ?_
      refine wl hs (y_lss hs rfl rfl) rfl ?_; intro a hs
      refine wpList_nil ?_
      refine x_nt ?_
      refine wp_seq ?_
      refine x_condF hs rfl (drop_f hj) ?_
      refine wp_exit ?_
      refine x_et ?_
      refine x_et ?_
      refine x_eb ?_
      have hm : some l16 = some s20 := hm
      exact ⟨v15, l16, Option.some.inj hm, hs.sub trivial, hM.drop.drop.drop.drop.drop⟩
    · rewrite [impl_circuits_NegativeCircuit_l1] at hm
      have hx24 := drop_idx hj
      have hjs := ck_succ hj (RdS.len (RdM.below hr_p0 hM.bel))
      refine wp_seq ?_
      refine wp_region_lit ?_
      refine wl hs (y_lss hs rfl rfl) rfl ?_; intro a hs
      refine wpList_nil ?_
      refine x_nt ?_
      refine wp_seq ?_
      refine x_condT hs rfl (drop_t hj) ?_
      refine wp_skip ?_
      refine x_nt ?_
      refine wp_seq ?_
      refine wp_block ?_
      refine wp_seq ?_
      refine wp_region_lit ?_
      refine wl hs (y_move hs rfl) rfl ?_; intro a hs
      refine wl hs (y_assign hs rfl) rfl ?_; intro a hs
      refine wpList_nil ?_
      refine x_nt ?_
      refine wp_seq ?_
      refine wp_region_lit ?_
      refine wl hs (y_move hs rfl) rfl ?_; intro a hs
      refine wmem hs (x_new1I hu_I he_int hs rfl hM) rfl ?_; intro a v26 w hs hM
      have hM : Mem W w (aInts 3 v26 ([(j17 : Int)]) :: aBlk g10 1 [.func (.func 112) #[] #[.pointer (some ⟨g8, 0, none⟩), .pointer (some ⟨g2, 0, none⟩), .pointer (some ⟨g4, 0, none⟩), .pointer (some ⟨g10, 0, none⟩)]] :: aBlk g8 28 [v13] :: aInts 3 v13 l14 :: aBlk g4 65 [.func (.func 86) #[] #[.pointer (some ⟨g_m, 0, none⟩), .pointer (some ⟨g_best, 0, none⟩)]] :: aBlk g2 22 [v_p0] :: aBlk g_m 22 [v_m] :: aBlk g_best 28 [v15] :: aInts 3 v15 l16 :: As) := hM
      refine wstore hs rfl rfl (x_storeBlk he_I (Mem.one (hM.front 0 rfl)) (hM.front 2 rfl)) ?_; intro w hM
      have hM : Mem W w (aBlk g8 28 [v26] :: aInts 3 v26 ([(j17 : Int)]) :: aBlk g10 1 [.func (.func 112) #[] #[.pointer (some ⟨g8, 0, none⟩), .pointer (some ⟨g2, 0, none⟩), .pointer (some ⟨g4, 0, none⟩), .pointer (some ⟨g10, 0, none⟩)]] :: aInts 3 v13 l14 :: aBlk g4 65 [.func (.func 86) #[] #[.pointer (some ⟨g_m, 0, none⟩), .pointer (some ⟨g_best, 0, none⟩)]] :: aBlk g2 22 [v_p0] :: aBlk g_m 22 [v_m] :: aBlk g_best 28 [v15] :: aInts 3 v15 l16 :: As) := hM
      refine wpList_nil ?_
      refine x_nt ?_
      refine wp_region_lit ?_
      refine wl hs (y_load sc_1 hs rfl (hM.cellBlk 2 rfl 0 rfl)) rfl ?_; intro a hs
      obtain ⟨y27, h28, hm⟩ := bindE hm
      refine wcallv is_112 hs rfl rfl rfl (impl_circuits_1_NegativeCircuit_any g8 v26 ([(j17 : Int)]) g2 v_p0 p0 g4 g10 g_m v_m m g_best v15 l16 _ _ _ hr_p0 hr_m (((((((((hM.front 3 rfl).front 8 rfl).front 8 rfl).front 8 rfl).front 6 rfl).front 7 rfl).front 8 rfl).front 8 rfl).front 8 rfl) h28) ?_; rintro a _ w hs ⟨v29, v30, rfl, hM⟩
      have hM : Mem W w (aBlk g8 28 [v29] :: aInts 3 v29 y27.1 :: aBlk g2 22 [v_p0] :: aBlk g4 65 [.func (.func 86) #[] #[.pointer (some ⟨g_m, 0, none⟩), .pointer (some ⟨g_best, 0, none⟩)]] :: aBlk g10 1 [.func (.func 112) #[] #[.pointer (some ⟨g8, 0, none⟩), .pointer (some ⟨g2, 0, none⟩), .pointer (some ⟨g4, 0, none⟩), .pointer (some ⟨g10, 0, none⟩)]] :: aBlk g_m 22 [v_m] :: aBlk g_best 28 [v30] :: aInts 3 v30 y27.2 :: aInts 3 v13 l14 :: As) := hM
      refine wpList_nil ?_
      refine x_nb ?_
      refine x_nt ?_
      refine wp_region_lit ?_
      refine wl hs (y_add hs rfl rfl hjs) rfl ?_; intro a hs
      refine wl hs (y_move hs rfl) rfl ?_; intro a hs
      refine wpList_nil ?_
      exact ⟨_, by simp, q22, j17 + 1, v29, y27.1, v30, y27.2, rfl, hs.sub ⟨rfl, rfl, rfl, rfl, trivial⟩, (((((((((hM.front 8 rfl).drop.front 7 rfl).front 7 rfl).front 7 rfl).front 5 rfl).front 6 rfl).front 6 rfl).front 6 rfl).front 7 rfl), hm, drop_next hj⟩
  rintro a w ⟨v18, l19, rfl, hs, hM⟩
  have hm := hk21
  have hm : some l19 = some r := hm
  obtain rfl := Option.some.inj hm
  refine x_end0 rfl hs ⟨_, rfl, ?_⟩
  exact ⟨v18, rfl, hM⟩

theorem impl_NegativeCircuit_any (v_p0 : Value) (p0 : List (List Int)) (W : World) (hr_p0 : RdM W v_p0 p0) {r : (List Int) × Bool} (hm : impl_NegativeCircuit_m p0 = some r) : Calls Try.prog 41 [v_p0].toArray W fun e w => ∃ v, e = .returned v ∧ ∃ v0, v = .tuple #[v0, .bool r.2] ∧ Mem W w [aInts 3 v0 r.1] := by
  refine x_enter Try.func41 rfl Try.ntmps41 rfl ?_
  intro a hs
  have hM := Mem.start W
  unfold impl_NegativeCircuit_m at hm
  refine wp_seq ?_
  refine wp_region_lit ?_
  refine wmem hs (x_box (RdS.one hr_p0) hs rfl hM) rfl ?_; rintro a _ w hs ⟨g2, rfl, hM⟩
  have hM : Mem W w [aBlk g2 22 [v_p0]] := hM
  refine wl hs (y_assign hs rfl) rfl ?_; intro a hs
  refine wl hs (y_assign hs rfl) rfl ?_; intro a hs
  refine wpList_nil ?_
  refine x_nt ?_
  refine wp_seq ?_
  refine wp_seq ?_
  refine wp_region_lit ?_
  refine wl hs (y_load sc_M hs rfl (hM.cellBlk 0 rfl 0 rfl)) rfl ?_; intro a hs
  obtain ⟨y3, h4, hm⟩ := bindE hm
  refine wcall is_66 hs rfl rfl (impl_isSquare_any v_p0 p0 _ (RdM.below hr_p0 hM.bel) h4) ?_; rintro a _ w hs ⟨rfl, hX⟩
  have hM : Mem W w [aBlk g2 22 [v_p0]] := hM.call hX
  refine wl hs (y_not hs rfl) rfl ?_; intro a hs
  refine wpList_nil ?_
  refine x_nt ?_
  refine x_cond hs rfl (fun hb => ?_) (fun hb => ?_)
  · replace hm := condT hb hm
    refine wp_seq ?_
    refine wp_region_lit ?_
    refine wl hs (y_assign hs rfl) rfl ?_; intro a hs
    refine wl hs (y_assign hs rfl) rfl ?_; intro a hs
    refine wpList_nil ?_
    refine x_nt ?_
    refine wp_ret ?_
    refine x_rt ?_
    have hm : some ([], false) = some r := hm
    obtain rfl := Option.some.inj hm
    refine x_ret2 rfl hs rfl rfl ⟨_, rfl, ?_⟩
    have hM := hM.nilI 3
    exact ⟨_, rfl, (hM.keep_ 1)⟩
  · replace hm := condF hb hm
    refine wp_skip ?_
    refine x_nt ?_
    refine wp_seq ?_
    refine wp_region_lit ?_
    refine wmem hs (x_new0I ht_I hM) rfl ?_; intro a v7 w hs hM
    have hM : Mem W w [aInts 3 v7 ([]), aBlk g2 22 [v_p0]] := hM
    refine wmem hs (x_alloc he_I rfl hM) rfl ?_; rintro a _ w hs ⟨g9, rfl, hM⟩
    have hM : Mem W w [aBlk g9 28 [.slice none 0 0], aInts 3 v7 ([]), aBlk g2 22 [v_p0]] := hM
    refine wstore hs rfl rfl (x_storeBlk he_I (Mem.one (hM.front 1 rfl)) (hM.front 0 rfl)) ?_; intro w hM
    have hM : Mem W w [aBlk g9 28 [v7], aInts 3 v7 ([]), aBlk g2 22 [v_p0]] := hM
    refine wpList_nil ?_
    refine x_nt ?_
    refine wp_seq ?_
    refine wp_region_lit ?_
    refine wl hs (y_load sc_M hs rfl (hM.cellBlk 2 rfl 0 rfl)) rfl ?_; intro a hs
    refine wl hs (y_makeFunc hs rfl) rfl ?_; intro a hs
    obtain ⟨y10, h11, hm⟩ := bindE hm
    refine wcall is_85 hs rfl rfl (impl_circuits_NegativeCircuit_any v_p0 p0 g2 v_p0 p0 g9 v7 ([]) _ _ _ hr_p0 hr_p0 (((hM.front 1 rfl).front 1 rfl).front 2 rfl) h11) ?_; rintro a _ w hs ⟨v12, rfl, hM⟩
    have hM : Mem W w [aBlk g2 22 [v_p0], aBlk g9 28 [v12], aInts 3 v12 y10] := hM
    refine wpList_nil ?_
    refine x_nt ?_
    refine wp_seq ?_
    refine x_regq hmix (by kernel_rfl) ?_
    refine wq hs (fun w1 hw1 => y_load sc_I hs rfl ((hM.quiet hw1).cellBlk 1 rfl 0 rfl)) rfl ?_; intro a hs
    refine wq hs (fun w1 hw1 => y_load sc_I hs rfl ((hM.quiet hw1).cellBlk 1 rfl 0 rfl)) rfl ?_; intro a hs
    refine wq hs (fun w1 hw1 => y_len hu_I hs rfl ((hM.quiet hw1).rdI 2 rfl)) rfl ?_; intro a hs
    refine wq hs (fun w1 hw1 => y_gtr hs rfl rfl) rfl ?_; intro a hs
    refine wq hs (fun w1 hw1 => y_assign hs rfl) rfl ?_; intro a hs
    refine wq hs (fun w1 hw1 => y_assign hs rfl) rfl ?_; intro a hs
    refine wpQuiet_nil ?_
    intro w hw
    replace hM := hM.quiet hw
    refine x_nt ?_
    refine wp_ret ?_
    have hm : some (y10, decide ((y10.length : Int) > 0)) = some r := hm
    obtain rfl := Option.some.inj hm
    refine x_ret2 rfl hs rfl rfl ⟨_, rfl, ?_⟩
    exact ⟨_, rfl, hM.drop.drop⟩

end Go.Proofs.Ytjicdfplhenohaa
