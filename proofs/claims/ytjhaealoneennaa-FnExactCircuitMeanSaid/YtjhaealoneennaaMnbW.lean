/- The code of this unit computes what its mirrors say. Written by program (wip/gen). -/
import Derived.Test.YtjhaealoneennaaFacts
import Derived.Test.YtjhaealoneennaaMnbM
import Derived.Test.YtjhaealoneennaaNumW
namespace Go.Proofs.Ytjhaealoneennaa
open Go.RowKit
set_option linter.unusedVariables false

set_option maxHeartbeats 4000000 in
theorem spec_mnBehind_rec : ∀ (k : Nat) (v_p0 : Value) (p0 : List (List Int)) (v_p1 : Value) (p1 : List Int)  (W w : World) (As : List Atom) (hr_p0 : RdM W v_p0 p0) (hM : Mem W w (aInts 3 v_p1 p1 :: As)) {r : List (List Int)} (hm : spec_mnBehind_r k p0 p1 = some r), Calls Try.prog 104 [v_p0, v_p1].toArray w fun e w' => ∃ v, e = .returned v ∧ ∃ vs0, Mem W w' (aMat 24 3 v vs0 r :: As) := by
  intro k
  induction k with
  | zero => intro v_p0 p0 v_p1 p1 W w As hr_p0 hM r hm; have hm : none = some r := hm; cases hm
  | succ k ih =>
  intro v_p0 p0 v_p1 p1 W w As hr_p0 hM r hm
  have hm : spec_mnBehind_b (spec_mnBehind_r k) p0 p1 = some r := hm
  generalize spec_mnBehind_r k = rec at hm ih
  refine x_enter Try.func104 rfl Try.ntmps104 rfl ?_
  intro a hs
  unfold spec_mnBehind_b at hm
  refine wp_seq ?_
  refine wp_region_lit ?_
  refine wl hs (y_assign hs rfl) rfl ?_; intro a hs
  refine wpList_nil ?_
  refine x_nt ?_
  refine wp_seq ?_
  refine wp_region_lit ?_
  refine wl hs (y_assign hs rfl) rfl ?_; intro a hs
  have hM := hM.nilM 24 3
  refine wpList_nil ?_
  refine x_nt ?_
  refine wp_seq ?_
  refine wp_region_lit ?_
  refine wl hs (y_move hs rfl) rfl ?_; intro a hs
  refine wl hs (y_move hs rfl) rfl ?_; intro a hs
  refine wl hs (y_len hu_I hs rfl (hM.rdI 1 rfl)) rfl ?_; intro a hs
  obtain ⟨n2, h3, hm⟩ := bindE hm
  refine wl hs (y_sub hs rfl rfl h3) rfl ?_; intro a hs
  obtain ⟨x4, hx5, hm⟩ := bindE hm
  have he6 := RdI.at_ (hM.rdI 1 rfl) hx5
  refine wl hs (y_index ht_I hs rfl rfl he6) rfl ?_; intro a hs
  refine wl hs (y_load sc_int hs rfl he6.cell) rfl ?_; intro a hs
  refine wl hs (y_assign hs rfl) rfl ?_; intro a hs
  refine wpList_nil ?_
  refine x_nt ?_
  refine wp_seq ?_
  refine wp_seq ?_
  refine x_regq hmix (by kernel_rfl) ?_
  refine wq hs (fun w1 hw1 => y_move hs rfl) rfl ?_; intro a hs
  refine wq hs (fun w1 hw1 => y_move hs rfl) rfl ?_; intro a hs
  obtain ⟨x7, hx8, hm⟩ := bindE hm
  obtain ⟨u10, he9, hr11⟩ := RdM.at_ hr_p0 hx8
  replace he9 := he9.below hM.bel
  refine wq hs (fun w1 hw1 => y_index ht_M hs rfl rfl (he9.below hw1)) rfl ?_; intro a hs
  refine wq hs (fun w1 hw1 => y_load sc_I hs rfl (he9.below hw1).cell) rfl ?_; intro a hs
  refine wq hs (fun w1 hw1 => y_move hs rfl) rfl ?_; intro a hs
  obtain ⟨x12, hx13, hm⟩ := bindE hm
  have he14 := RdI.at_ (hM.rdI 1 rfl) hx13
  refine wq hs (fun w1 hw1 => y_index ht_I hs rfl rfl (he14.below hw1)) rfl ?_; intro a hs
  refine wq hs (fun w1 hw1 => y_load sc_int hs rfl (he14.below hw1).cell) rfl ?_; intro a hs
  obtain ⟨x15, hx16, hm⟩ := bindE hm
  have he17 := RdI.at_ (RdI.below hr11 hM.bel) hx16
  refine wq hs (fun w1 hw1 => y_index ht_I hs rfl rfl (he17.below hw1)) rfl ?_; intro a hs
  refine wq hs (fun w1 hw1 => y_load sc_int hs rfl (he17.below hw1).cell) rfl ?_; intro a hs
  refine wq hs (fun w1 hw1 => y_neq hs rfl rfl) rfl ?_; intro a hs
  refine wpQuiet_nil ?_
  intro w hw
  replace hM := hM.quiet hw
  refine x_nt ?_
  obtain ⟨s21, hm, hk22⟩ := bindE hm
  refine x_mid (fun a w => ∃ (v18 : Value), ∃ (vs19 : List Value), ∃ (l20 : List (List Int)), l20 = s21 ∧ Fr a 63 [(0, v_p0), (1, v_p1), (5, v18), (6, .int .i64 x4)] ∧ Mem W w (aMat 24 3 v18 vs19 l20 :: aInts 3 v_p1 p1 :: As)) ?_ ?_
  · refine x_cond hs rfl (fun hb => ?_) (fun hb => ?_)
    · replace hm := condT hb hm
      refine wp_region_lit ?_
      refine wl hs (y_move hs rfl) rfl ?_; intro a hs
      refine wl hs (y_move hs rfl) rfl ?_; intro a hs
      obtain ⟨y23, h24, hm⟩ := bindE hm
      refine wcall is_114 hs rfl rfl (spec_l1Own_any v_p1 p1 _ (hM.rdI 1 rfl) h24) ?_; rintro a v25 w hs hX
      have hM : Mem W w (aInts 3 v25 y23 :: aMat 24 3 (.slice none 0 0) ([]) ([]) :: aInts 3 v_p1 p1 :: As) := hM.call hX
      obtain ⟨l27, h28, hm⟩ := bindE hm
      refine wappM hu_M he_I hs (((hM.front 2 rfl).front 1 rfl).front 2 rfl) rfl rfl h28 rfl rfl rfl ?_; intro a v29 w u30 hs hM
      have hM : Mem W w (aMat 24 3 v29 ([] ++ [v25]) l27 :: aInts 3 v_p1 p1 :: As) := hM
      refine wl hs (y_assign hs rfl) rfl ?_; intro a hs
      refine wpList_nil ?_
      have hm : some l27 = some s21 := hm
      exact ⟨v29, ([] ++ [v25]), l27, Option.some.inj hm, hs.sub ⟨rfl, rfl, rfl, rfl, trivial⟩, hM⟩
    · replace hm := condF hb hm
      refine wp_skip ?_
      have hm : some ([]) = some s21 := hm
      exact ⟨(.slice none 0 0), [], [], Option.some.inj hm, hs.sub ⟨rfl, rfl, rfl, rfl, trivial⟩, hM⟩
  rintro a w ⟨v18, vs19, l20, rfl, hs, hM⟩
  have hm := hk22
  refine x_nt ?_
  refine wp_seq ?_
  refine wp_seq ?_
  refine wp_region_lit ?_
  refine wl hs (y_move hs rfl) rfl ?_; intro a hs
  have he31 := RdI.at_ (hM.rdI 1 rfl) hx13
  refine wl hs (y_index ht_I hs rfl rfl he31) rfl ?_; intro a hs
  refine wl hs (y_load sc_int hs rfl he31.cell) rfl ?_; intro a hs
  obtain ⟨n32, h33, hm⟩ := bindE hm
  refine wl hs (y_add hs rfl rfl h33) rfl ?_; intro a hs
  refine wl hs (y_assign hs rfl) rfl ?_; intro a hs
  refine wpList_nil ?_
  refine x_nt ?_
  obtain ⟨s41, hm, hk42⟩ := bindE hm
  refine x_mid (fun a w => ∃ (v38 : Value), ∃ (vs39 : List Value), ∃ (l40 : List (List Int)), l40 = s41 ∧ Fr a 63 [(5, v38)] ∧ Mem W w (aMat 24 3 v38 vs39 l40 :: As)) ?_ ?_
  · refine wp_block ?_
    refine x_loop (fun k a w => ∃ (v34 : Value) (vs35 : List Value) (l36 : List (List Int)) (n37 : Int) , Fr a 63 [(0, v_p0), (1, v_p1), (5, v34), (6, .int .i64 x4), (7, .int .i64 n37)] ∧ Mem W w (aMat 24 3 v34 vs35 l36 :: aInts 3 v_p1 p1 :: As) ∧ spec_mnBehind_l1 p0 p1 rec x7 k l36 n37 = some s41) 4000000 ⟨v18, vs19, l20, n32, hs.sub ⟨rfl, rfl, rfl, rfl, rfl, trivial⟩, hM, hm⟩ ?_
    rintro k a w ⟨v34, vs35, l36, n37, hs, hM, hm⟩
    rcases k with _ | k
    · rewrite [spec_mnBehind_l1] at hm; cases hm
    rewrite [spec_mnBehind_l1] at hm
    refine wp_seq ?_
    refine wp_seq ?_
    refine wp_region_lit ?_
    refine wl hs (y_move hs rfl) rfl ?_; intro a hs
    refine wl hs (y_move hs rfl) rfl ?_; intro a hs
    refine wl hs (y_len hu_M hs rfl (RdM.below hr_p0 hM.bel)) rfl ?_; intro a hs
    refine wl hs (y_lss hs rfl rfl) rfl ?_; intro a hs
    refine wpList_nil ?_
    refine x_nt ?_
    refine x_cond hs rfl (fun hb => ?_) (fun hb => ?_)
    · replace hm := condT hb hm
      refine wp_skip ?_
      refine x_nt ?_
      refine wp_seq ?_
      refine wp_block ?_
      refine wp_seq ?_
      refine wp_region_lit ?_
      refine wl hs (y_move hs rfl) rfl ?_; intro a hs
      refine wl hs (y_move hs rfl) rfl ?_; intro a hs
      obtain ⟨u45, he44, hr46⟩ := RdM.at_ hr_p0 hx8
      replace he44 := he44.below hM.bel
      refine wl hs (y_index ht_M hs rfl rfl he44) rfl ?_; intro a hs
      refine wl hs (y_load sc_I hs rfl he44.cell) rfl ?_; intro a hs
      refine wl hs (y_move hs rfl) rfl ?_; intro a hs
      obtain ⟨x47, hx48, hm⟩ := bindE hm
      have he49 := RdI.at_ (RdI.below hr46 hM.bel) hx48
      refine wl hs (y_index ht_I hs rfl rfl he49) rfl ?_; intro a hs
      refine wl hs (y_load sc_int hs rfl he49.cell) rfl ?_; intro a hs
      refine wl hs (y_neq hs rfl rfl) rfl ?_; intro a hs
      refine wl hs (y_move hs rfl) rfl ?_; intro a hs
      obtain ⟨b50, hb51, hm⟩ := bindE hm
      refine wlguard (N := 63) (L' := [(52, .bool b50), (0, v_p0), (1, v_p1), (5, v34), (6, .int .i64 x4), (7, .int .i64 n37)]) (fun w => Mem W w (aMat 24 3 v34 vs35 l36 :: aInts 3 v_p1 p1 :: As)) 5 ?_ ?_
      · intro K; rcases Bool.eq_false_or_eq_true (x47 != 1000000000) with hg52 | hg52
        · have hm := condT hg52 hb51
          refine wlg hs rfl hg52 (y_move hs rfl) rfl ?_; intro a hs
          refine wlg hs rfl hg52 (y_move hs rfl) rfl ?_; intro a hs
          obtain ⟨y53, h54, hm⟩ := bindE hm
          refine wcallg is_123 hs rfl hg52 rfl rfl (spec_l1Has_any v_p1 p1 n37 _ (hM.rdI 1 rfl) h54) ?_; rintro a _ w hs ⟨rfl, hX⟩
          have hM : Mem W w (aMat 24 3 v34 vs35 l36 :: aInts 3 v_p1 p1 :: As) := hM.call hX
          refine wlg hs rfl hg52 (y_not hs rfl) rfl ?_; intro a hs
          have hm : some (!y53) = some b50 := hm
          cases Option.some.inj hm
          refine wl hs (y_pickT hs rfl hg52 rfl) rfl ?_; intro a hs
          exact K _ _ (hs.sub ⟨rfl, rfl, rfl, rfl, rfl, rfl, trivial⟩) hM
        · have hm := condF hg52 hb51
          refine wls hs rfl hg52 rfl ?_; intro a hs
          refine wls hs rfl hg52 rfl ?_; intro a hs
          refine wls hs rfl hg52 rfl ?_; intro a hs
          refine wls hs rfl hg52 rfl ?_; intro a hs
          have hm : some false = some b50 := hm
          cases Option.some.inj hm
          refine wl hs (y_pickF hs rfl hg52 rfl) rfl ?_; intro a hs
          exact K _ _ (hs.sub ⟨rfl, rfl, rfl, rfl, rfl, rfl, trivial⟩) hM
      intro a w hs hM
      simp only [List.drop_succ_cons, List.drop_zero]
      refine wpList_nil ?_
      refine x_nt ?_
      refine x_cond hs rfl (fun hb => ?_) (fun hb => ?_)
      · replace hm := condT hb hm
        refine wp_region_lit ?_
        refine wl hs (y_move hs rfl) rfl ?_; intro a hs
        refine wl hs (y_move hs rfl) rfl ?_; intro a hs
        refine wl hs (y_move hs rfl) rfl ?_; intro a hs
        obtain ⟨y55, h56, hm⟩ := bindE hm
        refine wcall is_114 hs rfl rfl (spec_l1Own_any v_p1 p1 _ (hM.rdI 1 rfl) h56) ?_; rintro a v57 w hs hX
        have hM : Mem W w (aInts 3 v57 y55 :: aMat 24 3 v34 vs35 l36 :: aInts 3 v_p1 p1 :: As) := hM.call hX
        refine wl hs (y_move hs rfl) rfl ?_; intro a hs
        obtain ⟨l59, h60, hm⟩ := bindE hm
        refine wappI hu_I he_int hs hM rfl rfl h60 rfl rfl rfl ?_; intro a v61 w u62 hs hM
        have hM : Mem W w (aInts 3 v61 l59 :: aMat 24 3 v34 vs35 l36 :: aInts 3 v_p1 p1 :: As) := hM
        obtain ⟨y63, h64, hm⟩ := bindE hm
        refine wcall is_104 hs rfl rfl (ih v_p0 p0 v61 l59 _ _ _ hr_p0 hM h64) ?_; rintro a v65 w hs ⟨vs67, hM⟩
        have hM : Mem W w (aMat 24 3 v65 vs67 y63 :: aMat 24 3 v34 vs35 l36 :: aInts 3 v_p1 p1 :: As) := hM
        obtain ⟨l68, h69, hm⟩ := bindE hm
        refine wmem hs (x_appSM hu_M he_I hs rfl (((hM.front 2 rfl).front 1 rfl).front 2 rfl) h69) rfl ?_; intro a v70 w hs hM
        have hM : Mem W w (aMat 24 3 v70 (vs35 ++ vs67) l68 :: aInts 3 v_p1 p1 :: As) := hM
        refine wl hs (y_assign hs rfl) rfl ?_; intro a hs
        refine wpList_nil ?_
        refine x_nb ?_
        refine x_nt ?_
        refine wp_region_lit ?_
        refine wl hs (y_move hs rfl) rfl ?_; intro a hs
        obtain ⟨n71, h72, hm⟩ := bindE hm
        refine wl hs (y_add hs rfl rfl h72) rfl ?_; intro a hs
        refine wl hs (y_assign hs rfl) rfl ?_; intro a hs
        refine wpList_nil ?_
        exact ⟨k, Nat.lt_succ_self _, v70, (vs35 ++ vs67), l68, n71, hs.sub ⟨rfl, rfl, rfl, rfl, rfl, trivial⟩, hM, hm⟩
      · replace hm := condF hb hm
        refine wp_skip ?_
        refine x_nb ?_
        refine x_nt ?_
        refine wp_region_lit ?_
        refine wl hs (y_move hs rfl) rfl ?_; intro a hs
        obtain ⟨n73, h74, hm⟩ := bindE hm
        refine wl hs (y_add hs rfl rfl h74) rfl ?_; intro a hs
        refine wl hs (y_assign hs rfl) rfl ?_; intro a hs
        refine wpList_nil ?_
        exact ⟨k, Nat.lt_succ_self _, v34, vs35, l36, n73, hs.sub ⟨rfl, rfl, rfl, rfl, rfl, trivial⟩, hM, hm⟩
    · replace hm := condF hb hm
      refine wp_exit ?_
      refine x_et ?_
      refine x_et ?_
      refine x_eb ?_
      have hm : some l36 = some s41 := hm
      exact ⟨v34, vs35, l36, Option.some.inj hm, hs.sub ⟨rfl, trivial⟩, (hM.front 1 rfl).drop⟩
  rintro a w ⟨v38, vs39, l40, rfl, hs, hM⟩
  have hm := hk42
  refine x_nt ?_
  refine wp_seq ?_
  refine wp_region_lit ?_
  refine wl hs (y_move hs rfl) rfl ?_; intro a hs
  refine wl hs (y_assign hs rfl) rfl ?_; intro a hs
  refine wpList_nil ?_
  refine x_nt ?_
  refine wp_ret ?_
  have hm : some l40 = some r := hm
  obtain rfl := Option.some.inj hm
  refine x_ret1 rfl hs rfl ⟨_, rfl, ?_⟩
  exact ⟨_, hM⟩
theorem spec_mnBehind_any (v_p0 : Value) (p0 : List (List Int)) (v_p1 : Value) (p1 : List Int)  (W w : World) (As : List Atom) (hr_p0 : RdM W v_p0 p0) (hM : Mem W w (aInts 3 v_p1 p1 :: As)) {r : List (List Int)} (hm : spec_mnBehind_m p0 p1 = some r) : Calls Try.prog 104 [v_p0, v_p1].toArray w fun e w' => ∃ v, e = .returned v ∧ ∃ vs0, Mem W w' (aMat 24 3 v vs0 r :: As) := spec_mnBehind_rec 64 v_p0 p0 v_p1 p1 W w As hr_p0 hM hm

theorem spec_mnCircuits_any (v_p0 : Value) (p0 : List (List Int)) (W : World) (hr_p0 : RdM W v_p0 p0) {r : List (List Int)} (hm : spec_mnCircuits_m p0 = some r) : Calls Try.prog 71 [v_p0].toArray W fun e w => ∃ v, e = .returned v ∧ ∃ vs0, Mem W w [aMat 24 3 v vs0 r] := by
  refine x_enter Try.func71 rfl Try.ntmps71 rfl ?_
  intro a hs
  have hM := Mem.start W
  unfold spec_mnCircuits_m at hm
  refine wp_seq ?_
  refine wp_region_lit ?_
  refine wl hs (y_assign hs rfl) rfl ?_; intro a hs
  refine wpList_nil ?_
  refine x_nt ?_
  refine wp_seq ?_
  refine wp_region_lit ?_
  refine wl hs (y_assign hs rfl) rfl ?_; intro a hs
  have hM := hM.nilM 24 3
  refine wpList_nil ?_
  refine x_nt ?_
  refine wp_seq ?_
  refine wp_seq ?_
  refine wp_region_lit ?_
  refine wl hs (y_move hs rfl) rfl ?_; intro a hs
  refine wl hs (y_len hu_M hs rfl (RdM.below hr_p0 hM.bel)) rfl ?_; intro a hs
  refine wl hs (y_move hs rfl) rfl ?_; intro a hs
  refine wpList_nil ?_
  refine x_nt ?_
  obtain ⟨s9, hm, hk10⟩ := bindE hm
  refine x_mid (fun a w => ∃ (v6 : Value), ∃ (vs7 : List Value), ∃ (l8 : List (List Int)), l8 = s9 ∧ Fr a 18 [(3, v6)] ∧ Mem W w [aMat 24 3 v6 vs7 l8]) ?_ ?_
  · refine wp_block ?_
    refine x_loop (fun k a w => ∃ (q11 : List (List Int)) (j2 : Nat) (v3 : Value) (vs4 : List Value) (l5 : List (List Int)) , k = q11.length ∧ Fr a 18 [(0, v_p0), (3, v3), (6, .int .i64 (p0.length : Int)), (7, .int .i64 (j2 : Int))] ∧ Mem W w [aMat 24 3 v3 vs4 l5] ∧ spec_mnCircuits_l1 p0 q11 j2 l5 = some s9 ∧ List.drop j2 p0 = q11) _ ⟨p0, 0, (.slice none 0 0), [], [], rfl, hs.sub ⟨rfl, rfl, rfl, rfl, trivial⟩, hM, hm, rfl⟩ ?_
    rintro k a w ⟨q11, j2, v3, vs4, l5, rfl, hs, hM, hm, hj2⟩
    rcases q11 with _ | ⟨x12, q11⟩
    · rewrite [spec_mnCircuits_l1] at hm
      refine wp_seq ?_
      refine wp_region_lit ?_
      refine wl hs (y_lss hs rfl rfl) rfl ?_; intro a hs
      refine wpList_nil ?_
      refine x_nt ?_
      refine wp_seq ?_
      refine x_condF hs rfl (drop_f hj2) ?_
      refine wp_exit ?_
      refine x_et ?_
      refine x_et ?_
      refine x_eb ?_
      have hm : some l5 = some s9 := hm
      exact ⟨v3, vs4, l5, Option.some.inj hm, hs.sub ⟨rfl, trivial⟩, hM⟩
    · rewrite [spec_mnCircuits_l1] at hm
      have hx13 := drop_idx hj2
      have hsj2 := ck_succ hj2 (RdS.len (RdM.below hr_p0 hM.bel))
      refine wp_seq ?_
      refine wp_region_lit ?_
      refine wl hs (y_lss hs rfl rfl) rfl ?_; intro a hs
      refine wpList_nil ?_
      refine x_nt ?_
      refine wp_seq ?_
      refine x_condT hs rfl (drop_t hj2) ?_
      refine wp_skip ?_
      refine x_nt ?_
      refine wp_seq ?_
      refine wp_block ?_
      refine wp_seq ?_
      refine wp_region_lit ?_
      refine wl hs (y_move hs rfl) rfl ?_; intro a hs
      refine wl hs (y_assign hs rfl) rfl ?_; intro a hs
      refine wpList_nil ?_
      refine x_nt ?_
      refine wp_region_lit ?_
      refine wl hs (y_move hs rfl) rfl ?_; intro a hs
      refine wl hs (y_move hs rfl) rfl ?_; intro a hs
      refine wl hs (y_move hs rfl) rfl ?_; intro a hs
      refine wmem hs (x_new1I hu_I he_int hs rfl hM) rfl ?_; intro a v15 w hs hM
      have hM : Mem W w [aInts 3 v15 ([(j2 : Int)]), aMat 24 3 v3 vs4 l5] := hM
      obtain ⟨y16, h17, hm⟩ := bindE hm
      refine wcall is_104 hs rfl rfl (spec_mnBehind_any v_p0 p0 v15 ([(j2 : Int)]) _ _ _ hr_p0 hM h17) ?_; rintro a v18 w hs ⟨vs20, hM⟩
      have hM : Mem W w [aMat 24 3 v18 vs20 y16, aMat 24 3 v3 vs4 l5] := hM
      obtain ⟨l21, h22, hm⟩ := bindE hm
      refine wmem hs (x_appSM hu_M he_I hs rfl (hM.front 1 rfl) h22) rfl ?_; intro a v23 w hs hM
      have hM : Mem W w [aMat 24 3 v23 (vs4 ++ vs20) l21] := hM
      refine wl hs (y_assign hs rfl) rfl ?_; intro a hs
      refine wpList_nil ?_
      refine x_nb ?_
      refine x_nt ?_
      refine wp_region_lit ?_
      refine wl hs (y_add hs rfl rfl hsj2) rfl ?_; intro a hs
      refine wl hs (y_move hs rfl) rfl ?_; intro a hs
      refine wpList_nil ?_
      exact ⟨_, by simp, q11, j2 + 1, v23, (vs4 ++ vs20), l21, rfl, hs.sub ⟨rfl, rfl, rfl, rfl, trivial⟩, hM, hm, drop_next hj2⟩
  rintro a w ⟨v6, vs7, l8, rfl, hs, hM⟩
  have hm := hk10
  refine x_nt ?_
  refine wp_seq ?_
  refine wp_region_lit ?_
  refine wl hs (y_move hs rfl) rfl ?_; intro a hs
  refine wl hs (y_assign hs rfl) rfl ?_; intro a hs
  refine wpList_nil ?_
  refine x_nt ?_
  refine wp_ret ?_
  have hm : some l8 = some r := hm
  obtain rfl := Option.some.inj hm
  refine x_ret1 rfl hs rfl ⟨_, rfl, ?_⟩
  exact ⟨_, hM⟩

end Go.Proofs.Ytjhaealoneennaa
