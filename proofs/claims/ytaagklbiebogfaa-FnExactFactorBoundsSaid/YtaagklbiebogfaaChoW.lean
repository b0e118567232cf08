/- The code of this unit computes what its mirrors say. Written by program (wip/gen). -/
import Derived.Test.YtaagklbiebogfaaFacts
import Derived.Test.YtaagklbiebogfaaChoM
import Derived.Test.YtaagklbiebogfaaNumW
import Derived.Test.YtaagklbiebogfaaMatW
import Derived.Test.YtaagklbiebogfaaRk2W
import Derived.Test.YtaagklbiebogfaaSngW
namespace Go.Proofs.Ytaagklbiebogfaa
open Go.RowKit
set_option linter.unusedVariables false

set_option maxHeartbeats 4000000 in
theorem spec_rkChoices_rec : ∀ (k : Nat) (p0 : Int) (p1 : Int) (W : World)  {r : List (List Int)} (hm : spec_rkChoices_r k p0 p1 = some r), Calls Try.prog 109 [.int .i64 p0, .int .i64 p1].toArray W fun e w => ∃ v, e = .returned v ∧ ∃ vs0, Mem W w [aMat 24 3 v vs0 r] := by
  intro k
  induction k with
  | zero => intro p0 p1 W r hm; have hm : none = some r := hm; cases hm
  | succ k ih =>
  intro p0 p1 W r hm
  have hm : spec_rkChoices_b (spec_rkChoices_r k) p0 p1 = some r := hm
  generalize spec_rkChoices_r k = rec at hm ih
  refine x_enter Try.func109 rfl Try.ntmps109 rfl ?_
  intro a hs
  have hM := Mem.start W
  unfold spec_rkChoices_b at hm
  refine wp_seq ?_
  refine wp_region_lit ?_
  refine wl hs (y_assign hs rfl) rfl ?_; intro a hs
  refine wpList_nil ?_
  refine x_nt ?_
  refine wp_seq ?_
  refine wp_seq ?_
  refine wp_region_lit ?_
  refine wl hs (y_move hs rfl) rfl ?_; intro a hs
  refine wl hs (y_eql hs rfl rfl) rfl ?_; intro a hs
  refine wpList_nil ?_
  refine x_nt ?_
  refine x_cond hs rfl (fun hb => ?_) (fun hb => ?_)
  · replace hm := condT hb hm
    refine wp_seq ?_
    refine wp_region_lit ?_
    have hM := hM.nilI 3
    refine wmem hs (x_new1M hu_M he_I hs rfl (hM.front 0 rfl)) rfl ?_; intro a v2 w hs hM
    have hM : Mem W w [aMat 24 3 v2 ([(.slice none 0 0)]) ([[]])] := hM
    refine wl hs (y_assign hs rfl) rfl ?_; intro a hs
    refine wpList_nil ?_
    refine x_nt ?_
    refine wp_ret ?_
    refine x_rt ?_
    have hm : some ([[]]) = some r := hm
    obtain rfl := Option.some.inj hm
    refine x_ret1 rfl hs rfl ⟨_, rfl, ?_⟩
    exact ⟨_, hM⟩
  · replace hm := condF hb hm
    refine wp_skip ?_
    refine x_nt ?_
    refine wp_seq ?_
    refine wp_region_lit ?_
    refine wl hs (y_assign hs rfl) rfl ?_; intro a hs
    have hM := hM.nilM 24 3
    refine wpList_nil ?_
    refine x_nt ?_
    refine wp_seq ?_
    refine wp_seq ?_
    refine wp_region_lit ?_
    refine wl hs (y_assign hs rfl) rfl ?_; intro a hs
    refine wpList_nil ?_
    refine x_nt ?_
    obtain ⟨s12, hm, hk13⟩ := bindE hm
    refine x_mid (fun a w => ∃ (v9 : Value), ∃ (vs10 : List Value), ∃ (l11 : List (List Int)), l11 = s12 ∧ Fr a 56 [(5, v9)] ∧ Mem W w [aMat 24 3 v9 vs10 l11]) ?_ ?_
    · refine wp_block ?_
      refine x_loop (fun k a w => ∃ (v5 : Value) (vs6 : List Value) (l7 : List (List Int)) (n8 : Int) , Fr a 56 [(0, .int .i64 p0), (1, .int .i64 p1), (5, v5), (6, .int .i64 n8)] ∧ Mem W w [aMat 24 3 v5 vs6 l7] ∧ spec_rkChoices_l1 p0 p1 rec k l7 n8 = some s12) 4000000 ⟨(.slice none 0 0), [], [], 0, hs.sub ⟨rfl, rfl, rfl, rfl, trivial⟩, hM, hm⟩ ?_
      rintro k a w ⟨v5, vs6, l7, n8, hs, hM, hm⟩
      rcases k with _ | k
      · rewrite [spec_rkChoices_l1] at hm; cases hm
      rewrite [spec_rkChoices_l1] at hm
      refine wp_seq ?_
      refine wp_seq ?_
      refine wp_region_lit ?_
      refine wl hs (y_move hs rfl) rfl ?_; intro a hs
      refine wl hs (y_move hs rfl) rfl ?_; intro a hs
      refine wl hs (y_move hs rfl) rfl ?_; intro a hs
      obtain ⟨n15, h16, hm⟩ := bindE hm
      refine wl hs (y_sub hs rfl rfl h16) rfl ?_; intro a hs
      refine wl hs (y_leq hs rfl rfl) rfl ?_; intro a hs
      refine wpList_nil ?_
      refine x_nt ?_
      refine x_cond hs rfl (fun hb => ?_) (fun hb => ?_)
      · replace hm := condT hb hm
        refine wp_skip ?_
        refine x_nt ?_
        refine wp_seq ?_
        refine wp_block ?_
        refine wp_seq ?_
        refine wp_region_lit ?_
        refine wl hs (y_move hs rfl) rfl ?_; intro a hs
        refine wl hs (y_move hs rfl) rfl ?_; intro a hs
        obtain ⟨n17, h18, hm⟩ := bindE hm
        refine wl hs (y_sub hs rfl rfl h18) rfl ?_; intro a hs
        obtain ⟨n19, h20, hm⟩ := bindE hm
        refine wl hs (y_sub hs rfl rfl h20) rfl ?_; intro a hs
        refine wl hs (y_move hs rfl) rfl ?_; intro a hs
        obtain ⟨n21, h22, hm⟩ := bindE hm
        refine wl hs (y_sub hs rfl rfl h22) rfl ?_; intro a hs
        obtain ⟨y23, h24, hm⟩ := bindE hm
        refine wcall is_109 hs rfl rfl (ih n19 n21 _  h24) ?_; rintro a v25 w hs ⟨vs27, hX⟩
        have hM : Mem W w [aMat 24 3 v25 vs27 y23, aMat 24 3 v5 vs6 l7] := hM.call hX
        refine wl hs (y_len hu_M hs rfl (hM.rdM 0 rfl)) rfl ?_; intro a hs
        refine wl hs (y_move hs rfl) rfl ?_; intro a hs
        refine wpList_nil ?_
        refine x_nt ?_
        obtain ⟨s35, hm, hk36⟩ := bindE hm
        refine x_mid (fun a w => ∃ (v32 : Value), ∃ (vs33 : List Value), ∃ (l34 : List (List Int)), l34 = s35 ∧ Fr a 56 [(0, .int .i64 p0), (1, .int .i64 p1), (5, v32), (6, .int .i64 n8)] ∧ Mem W w [aMat 24 3 v32 vs33 l34]) ?_ ?_
        · refine wp_block ?_
          refine x_loop (fun k a w => ∃ (q37 : List (List Int)) (j28 : Nat) (v29 : Value) (vs30 : List Value) (l31 : List (List Int)) , k = q37.length ∧ Fr a 56 [(0, .int .i64 p0), (1, .int .i64 p1), (5, v29), (6, .int .i64 n8), (28, v25), (29, .int .i64 (y23.length : Int)), (30, .int .i64 (j28 : Int))] ∧ Mem W w [aMat 24 3 v25 vs27 y23, aMat 24 3 v29 vs30 l31] ∧ spec_rkChoices_l2 n8 q37 j28 l31 = some s35 ∧ List.drop j28 y23 = q37) _ ⟨y23, 0, v5, vs6, l7, rfl, hs.sub ⟨rfl, rfl, rfl, rfl, rfl, rfl, rfl, trivial⟩, hM, hm, rfl⟩ ?_
          rintro k a w ⟨q37, j28, v29, vs30, l31, rfl, hs, hM, hm, hj28⟩
          rcases q37 with _ | ⟨x38, q37⟩
          · rewrite [spec_rkChoices_l2] at hm
            refine wp_seq ?_
            refine wp_region_lit ?_
            refine wl hs (y_lss hs rfl rfl) rfl ?_; intro a hs
            refine wpList_nil ?_
            refine x_nt ?_
            refine wp_seq ?_
            refine x_condF hs rfl (drop_f hj28) ?_
            refine wp_exit ?_
            refine x_et ?_
            refine x_et ?_
            refine x_eb ?_
            have hm : some l31 = some s35 := hm
            exact ⟨v29, vs30, l31, Option.some.inj hm, hs.sub ⟨rfl, rfl, rfl, rfl, trivial⟩, hM.drop⟩
          · rewrite [spec_rkChoices_l2] at hm
            have hx39 := drop_idx hj28
            have hsj28 := ck_succ hj28 (RdS.len (hM.rdM 0 rfl))
            refine wp_seq ?_
            refine wp_region_lit ?_
            refine wl hs (y_lss hs rfl rfl) rfl ?_; intro a hs
            refine wpList_nil ?_
            refine x_nt ?_
            refine wp_seq ?_
            refine x_condT hs rfl (drop_t hj28) ?_
            refine wp_skip ?_
            refine x_nt ?_
            refine wp_seq ?_
            refine wp_block ?_
            refine wp_seq ?_
            refine wp_region_lit ?_
            obtain ⟨u41, hv42, he40⟩ := hM.atM 0 rfl hx39
            refine wl hs (y_index ht_M hs rfl rfl he40) rfl ?_; intro a hs
            refine wl hs (y_load sc_I hs rfl he40.cell) rfl ?_; intro a hs
            refine wl hs (y_assign hs rfl) rfl ?_; intro a hs
            refine wpList_nil ?_
            refine x_nt ?_
            refine wp_seq ?_
            refine wp_region_lit ?_
            refine wl hs (y_move hs rfl) rfl ?_; intro a hs
            refine wmem hs (x_new1I hu_I he_int hs rfl hM) rfl ?_; intro a v44 w hs hM
            have hM : Mem W w [aInts 3 v44 ([n8]), aMat 24 3 v25 vs27 y23, aMat 24 3 v29 vs30 l31] := hM
            refine wl hs (y_assign hs rfl) rfl ?_; intro a hs
            refine wpList_nil ?_
            refine x_nt ?_
            refine wp_seq ?_
            refine wp_seq ?_
            refine wp_region_lit ?_
            refine wl hs (y_move hs rfl) rfl ?_; intro a hs
            refine wl hs (y_len hu_I hs rfl (hM.rdRow 1 rfl rfl hv42 (idx_spec hx39).2.2)) rfl ?_; intro a hs
            refine wl hs (y_move hs rfl) rfl ?_; intro a hs
            refine wpList_nil ?_
            refine x_nt ?_
            obtain ⟨s50, hm, hk51⟩ := bindE hm
            refine x_mid (fun a w => ∃ (v48 : Value), ∃ (l49 : List Int), l49 = s50 ∧ Fr a 56 [(0, .int .i64 p0), (1, .int .i64 p1), (5, v29), (6, .int .i64 n8), (9, v48), (28, v25), (29, .int .i64 (y23.length : Int)), (30, .int .i64 (j28 : Int))] ∧ Mem W w [aInts 3 v48 l49, aMat 24 3 v25 vs27 y23, aMat 24 3 v29 vs30 l31]) ?_ ?_
            · refine wp_block ?_
              refine x_loop (fun k a w => ∃ (q52 : List Int) (j45 : Nat) (v46 : Value) (l47 : List Int) , k = q52.length ∧ Fr a 56 [(0, .int .i64 p0), (1, .int .i64 p1), (5, v29), (6, .int .i64 n8), (9, v46), (28, v25), (29, .int .i64 (y23.length : Int)), (30, .int .i64 (j28 : Int)), (36, u41), (37, .int .i64 (x38.length : Int)), (38, .int .i64 (j45 : Int))] ∧ Mem W w [aInts 3 v46 l47, aMat 24 3 v25 vs27 y23, aMat 24 3 v29 vs30 l31] ∧ spec_rkChoices_l3 n8 q52 j45 l47 = some s50 ∧ List.drop j45 x38 = q52) _ ⟨x38, 0, v44, [n8], rfl, hs.sub ⟨rfl, rfl, rfl, rfl, rfl, rfl, rfl, rfl, rfl, rfl, rfl, trivial⟩, hM, hm, rfl⟩ ?_
              rintro k a w ⟨q52, j45, v46, l47, rfl, hs, hM, hm, hj45⟩
              rcases q52 with _ | ⟨x53, q52⟩
              · rewrite [spec_rkChoices_l3] at hm
                refine wp_seq ?_
                refine wp_region_lit ?_
                refine wl hs (y_lss hs rfl rfl) rfl ?_; intro a hs
                refine wpList_nil ?_
                refine x_nt ?_
                refine wp_seq ?_
                refine x_condF hs rfl (drop_f hj45) ?_
                refine wp_exit ?_
                refine x_et ?_
                refine x_et ?_
                refine x_eb ?_
                have hm : some l47 = some s50 := hm
                exact ⟨v46, l47, Option.some.inj hm, hs.sub ⟨rfl, rfl, rfl, rfl, rfl, rfl, rfl, rfl, trivial⟩, hM⟩
              · rewrite [spec_rkChoices_l3] at hm
                have hx54 := drop_idx hj45
                have hsj45 := ck_succ hj45 (RdS.len (hM.rdRow 1 rfl rfl hv42 (idx_spec hx39).2.2))
                refine wp_seq ?_
                refine wp_region_lit ?_
                refine wl hs (y_lss hs rfl rfl) rfl ?_; intro a hs
                refine wpList_nil ?_
                refine x_nt ?_
                refine wp_seq ?_
                refine x_condT hs rfl (drop_t hj45) ?_
                refine wp_skip ?_
                refine x_nt ?_
                refine wp_seq ?_
                refine wp_block ?_
                refine wp_seq ?_
                refine wp_region_lit ?_
                have he55 := RdI.at_ (hM.rdRow 1 rfl rfl hv42 (idx_spec hx39).2.2) hx54
                refine wl hs (y_index ht_I hs rfl rfl he55) rfl ?_; intro a hs
                refine wl hs (y_load sc_int hs rfl he55.cell) rfl ?_; intro a hs
                refine wl hs (y_assign hs rfl) rfl ?_; intro a hs
                refine wpList_nil ?_
                refine x_nt ?_
                refine wp_region_lit ?_
                refine wl hs (y_move hs rfl) rfl ?_; intro a hs
                refine wl hs (y_move hs rfl) rfl ?_; intro a hs
                obtain ⟨n56, h57, hm⟩ := bindE hm
                refine wl hs (y_add hs rfl rfl h57) rfl ?_; intro a hs
                refine wl hs (y_move hs rfl) rfl ?_; intro a hs
                obtain ⟨n58, h59, hm⟩ := bindE hm
                refine wl hs (y_add hs rfl rfl h59) rfl ?_; intro a hs
                obtain ⟨l60, h61, hm⟩ := bindE hm
                refine wappI hu_I he_int hs hM rfl rfl h61 rfl rfl rfl ?_; intro a v62 w u63 hs hM
                have hM : Mem W w [aInts 3 v62 l60, aMat 24 3 v25 vs27 y23, aMat 24 3 v29 vs30 l31] := hM
                refine wl hs (y_assign hs rfl) rfl ?_; intro a hs
                refine wpList_nil ?_
                refine x_nb ?_
                refine x_nt ?_
                refine wp_region_lit ?_
                refine wl hs (y_add hs rfl rfl hsj45) rfl ?_; intro a hs
                refine wl hs (y_move hs rfl) rfl ?_; intro a hs
                refine wpList_nil ?_
                exact ⟨_, by simp, q52, j45 + 1, v62, l60, rfl, hs.sub ⟨rfl, rfl, rfl, rfl, rfl, rfl, rfl, rfl, rfl, rfl, rfl, trivial⟩, hM, hm, drop_next hj45⟩
            rintro a w ⟨v48, l49, rfl, hs, hM⟩
            have hm := hk51
            refine x_nt ?_
            refine wp_region_lit ?_
            refine wl hs (y_move hs rfl) rfl ?_; intro a hs
            refine wl hs (y_move hs rfl) rfl ?_; intro a hs
            obtain ⟨l64, h65, hm⟩ := bindE hm
            refine wappM hu_M he_I hs (((hM.front 1 rfl).front 1 rfl).front 2 rfl) rfl rfl h65 rfl rfl rfl ?_; intro a v66 w u67 hs hM
            have hM : Mem W w [aMat 24 3 v66 (vs30 ++ [v48]) l64, aMat 24 3 v25 vs27 y23] := hM
            refine wl hs (y_assign hs rfl) rfl ?_; intro a hs
            refine wpList_nil ?_
            refine x_nb ?_
            refine x_nt ?_
            refine wp_region_lit ?_
            refine wl hs (y_add hs rfl rfl hsj28) rfl ?_; intro a hs
            refine wl hs (y_move hs rfl) rfl ?_; intro a hs
            refine wpList_nil ?_
            exact ⟨_, by simp, q37, j28 + 1, v66, (vs30 ++ [v48]), l64, rfl, hs.sub ⟨rfl, rfl, rfl, rfl, rfl, rfl, rfl, trivial⟩, (hM.front 1 rfl), hm, drop_next hj28⟩
        rintro a w ⟨v32, vs33, l34, rfl, hs, hM⟩
        have hm := hk36
        refine x_nb ?_
        refine x_nt ?_
        refine wp_region_lit ?_
        refine wl hs (y_move hs rfl) rfl ?_; intro a hs
        obtain ⟨n68, h69, hm⟩ := bindE hm
        refine wl hs (y_add hs rfl rfl h69) rfl ?_; intro a hs
        refine wl hs (y_assign hs rfl) rfl ?_; intro a hs
        refine wpList_nil ?_
        exact ⟨k, Nat.lt_succ_self _, v32, vs33, l34, n68, hs.sub ⟨rfl, rfl, rfl, rfl, trivial⟩, hM, hm⟩
      · replace hm := condF hb hm
        refine wp_exit ?_
        refine x_et ?_
        refine x_et ?_
        refine x_eb ?_
        have hm : some l7 = some s12 := hm
        exact ⟨v5, vs6, l7, Option.some.inj hm, hs.sub ⟨rfl, trivial⟩, hM⟩
    rintro a w ⟨v9, vs10, l11, rfl, hs, hM⟩
    have hm := hk13
    refine x_nt ?_
    refine wp_seq ?_
    refine wp_region_lit ?_
    refine wl hs (y_move hs rfl) rfl ?_; intro a hs
    refine wl hs (y_assign hs rfl) rfl ?_; intro a hs
    refine wpList_nil ?_
    refine x_nt ?_
    refine wp_ret ?_
    have hm : some l11 = some r := hm
    obtain rfl := Option.some.inj hm
    refine x_ret1 rfl hs rfl ⟨_, rfl, ?_⟩
    exact ⟨_, hM⟩
theorem spec_rkChoices_any (p0 : Int) (p1 : Int) (W : World)  {r : List (List Int)} (hm : spec_rkChoices_m p0 p1 = some r) : Calls Try.prog 109 [.int .i64 p0, .int .i64 p1].toArray W fun e w => ∃ v, e = .returned v ∧ ∃ vs0, Mem W w [aMat 24 3 v vs0 r] := spec_rkChoices_rec 64 p0 p1 W hm

set_option maxHeartbeats 4000000 in
theorem spec_rkFirst_any (v_p0 : Value) (p0 : List (List Int)) (p1 : Int) (W : World) (hr_p0 : RdM W v_p0 p0) {r : (List Int) × (List Int) × Bool} (hm : spec_rkFirst_m p0 p1 = some r) : Calls Try.prog 75 [v_p0, .int .i64 p1].toArray W fun e w => ∃ v, e = .returned v ∧ ∃ v0, ∃ v1, v = .tuple #[v0, v1, .bool r.2.2] ∧ Mem W w [aInts 3 v0 r.1, aInts 3 v1 r.2.1] := by
  refine x_enter Try.func75 rfl Try.ntmps75 rfl ?_
  intro a hs
  have hM := Mem.start W
  unfold spec_rkFirst_m at hm
  refine wp_seq ?_
  refine wp_region_lit ?_
  refine wl hs (y_assign hs rfl) rfl ?_; intro a hs
  refine wl hs (y_assign hs rfl) rfl ?_; intro a hs
  refine wl hs (y_assign hs rfl) rfl ?_; intro a hs
  refine wpList_nil ?_
  refine x_nt ?_
  refine wp_seq ?_
  refine wp_seq ?_
  refine wp_region_lit ?_
  refine wl hs (y_move hs rfl) rfl ?_; intro a hs
  refine wl hs (y_len hu_M hs rfl (RdM.below hr_p0 hM.bel)) rfl ?_; intro a hs
  refine wl hs (y_move hs rfl) rfl ?_; intro a hs
  obtain ⟨y1, h2, hm⟩ := bindE hm
  refine wcall is_109 hs rfl rfl (spec_rkChoices_any (p0.length : Int) p1 _  h2) ?_; rintro a v3 w hs ⟨vs5, hX⟩
  have hM : Mem W w [aMat 24 3 v3 vs5 y1] := hM.call hX
  refine wl hs (y_len hu_M hs rfl (hM.rdM 0 rfl)) rfl ?_; intro a hs
  refine wl hs (y_move hs rfl) rfl ?_; intro a hs
  refine wpList_nil ?_
  refine x_nt ?_
  obtain ⟨s7, hm, hk8⟩ := bindE hm
  refine x_mid (fun a w => Sum.inr () = s7 ∧ Fr a 41 [] ∧ Mem W w []) ?_ ?_
  · refine wp_block ?_
    refine x_loop (fun k a w => ∃ (q9 : List (List Int)) (j6 : Nat) , k = q9.length ∧ Fr a 41 [(0, v_p0), (1, .int .i64 p1), (14, v3), (15, .int .i64 (y1.length : Int)), (16, .int .i64 (j6 : Int))] ∧ Mem W w [aMat 24 3 v3 vs5 y1] ∧ spec_rkFirst_l1 p0 p1 q9 j6 = some s7 ∧ List.drop j6 y1 = q9) _ ⟨y1, 0, rfl, hs.sub ⟨rfl, rfl, rfl, rfl, rfl, trivial⟩, hM, hm, rfl⟩ ?_
    rintro k a w ⟨q9, j6, rfl, hs, hM, hm, hj6⟩
    rcases q9 with _ | ⟨x10, q9⟩
    · rewrite [spec_rkFirst_l1] at hm
      refine wp_seq ?_
      refine wp_region_lit ?_
      refine wl hs (y_lss hs rfl rfl) rfl ?_; intro a hs
      refine wpList_nil ?_
      refine x_nt ?_
      refine wp_seq ?_
      refine x_condF hs rfl (drop_f hj6) ?_
      refine wp_exit ?_
      refine x_et ?_
      refine x_et ?_
      refine x_eb ?_
      have hm : some (Sum.inr ()) = some s7 := hm
      exact ⟨Option.some.inj hm, hs.sub trivial, hM.none_⟩
    · rewrite [spec_rkFirst_l1] at hm
      have hx11 := drop_idx hj6
      have hsj6 := ck_succ hj6 (RdS.len (hM.rdM 0 rfl))
      refine wp_seq ?_
      refine wp_region_lit ?_
      refine wl hs (y_lss hs rfl rfl) rfl ?_; intro a hs
      refine wpList_nil ?_
      refine x_nt ?_
      refine wp_seq ?_
      refine x_condT hs rfl (drop_t hj6) ?_
      refine wp_skip ?_
      refine x_nt ?_
      refine wp_seq ?_
      refine wp_block ?_
      refine wp_seq ?_
      refine wp_region_lit ?_
      obtain ⟨u13, hv14, he12⟩ := hM.atM 0 rfl hx11
      refine wl hs (y_index ht_M hs rfl rfl he12) rfl ?_; intro a hs
      refine wl hs (y_load sc_I hs rfl he12.cell) rfl ?_; intro a hs
      refine wl hs (y_assign hs rfl) rfl ?_; intro a hs
      refine wpList_nil ?_
      refine x_nt ?_
      refine wp_seq ?_
      refine wp_region_lit ?_
      refine wl hs (y_move hs rfl) rfl ?_; intro a hs
      obtain ⟨x15, hx16, hm⟩ := bindE hm
      obtain ⟨u18, he17, hr19⟩ := RdM.at_ hr_p0 hx16
      replace he17 := he17.below hM.bel
      refine wl hs (y_index ht_M hs rfl rfl he17) rfl ?_; intro a hs
      refine wl hs (y_load sc_I hs rfl he17.cell) rfl ?_; intro a hs
      refine wl hs (y_len hu_I hs rfl (RdI.below hr19 hM.bel)) rfl ?_; intro a hs
      refine wl hs (y_move hs rfl) rfl ?_; intro a hs
      obtain ⟨y20, h21, hm⟩ := bindE hm
      refine wcall is_109 hs rfl rfl (spec_rkChoices_any (x15.length : Int) p1 _  h21) ?_; rintro a v22 w hs ⟨vs24, hX⟩
      have hM : Mem W w [aMat 24 3 v22 vs24 y20, aMat 24 3 v3 vs5 y1] := hM.call hX
      refine wl hs (y_len hu_M hs rfl (hM.rdM 0 rfl)) rfl ?_; intro a hs
      refine wl hs (y_move hs rfl) rfl ?_; intro a hs
      refine wpList_nil ?_
      refine x_nt ?_
      obtain ⟨s26, hm, hk27⟩ := bindE hm
      refine x_mid (fun a w => Sum.inr () = s26 ∧ Fr a 41 [(0, v_p0), (1, .int .i64 p1), (14, v3), (15, .int .i64 (y1.length : Int)), (16, .int .i64 (j6 : Int))] ∧ Mem W w [aMat 24 3 v3 vs5 y1]) ?_ ?_
      · refine wp_block ?_
        refine x_loop (fun k a w => ∃ (q28 : List (List Int)) (j25 : Nat) , k = q28.length ∧ Fr a 41 [(0, v_p0), (1, .int .i64 p1), (8, u13), (14, v3), (15, .int .i64 (y1.length : Int)), (16, .int .i64 (j6 : Int)), (25, v22), (26, .int .i64 (y20.length : Int)), (27, .int .i64 (j25 : Int))] ∧ Mem W w [aMat 24 3 v22 vs24 y20, aMat 24 3 v3 vs5 y1] ∧ spec_rkFirst_l2 p0 x10 q28 j25 = some s26 ∧ List.drop j25 y20 = q28) _ ⟨y20, 0, rfl, hs.sub ⟨rfl, rfl, rfl, rfl, rfl, rfl, rfl, rfl, rfl, trivial⟩, hM, hm, rfl⟩ ?_
        rintro k a w ⟨q28, j25, rfl, hs, hM, hm, hj25⟩
        rcases q28 with _ | ⟨x29, q28⟩
        · rewrite [spec_rkFirst_l2] at hm
          refine wp_seq ?_
          refine wp_region_lit ?_
          refine wl hs (y_lss hs rfl rfl) rfl ?_; intro a hs
          refine wpList_nil ?_
          refine x_nt ?_
          refine wp_seq ?_
          refine x_condF hs rfl (drop_f hj25) ?_
          refine wp_exit ?_
          refine x_et ?_
          refine x_et ?_
          refine x_eb ?_
          have hm : some (Sum.inr ()) = some s26 := hm
          exact ⟨Option.some.inj hm, hs.sub ⟨rfl, rfl, rfl, rfl, rfl, trivial⟩, hM.drop⟩
        · rewrite [spec_rkFirst_l2] at hm
          have hx30 := drop_idx hj25
          have hsj25 := ck_succ hj25 (RdS.len (hM.rdM 0 rfl))
          refine wp_seq ?_
          refine wp_region_lit ?_
          refine wl hs (y_lss hs rfl rfl) rfl ?_; intro a hs
          refine wpList_nil ?_
          refine x_nt ?_
          refine wp_seq ?_
          refine x_condT hs rfl (drop_t hj25) ?_
          refine wp_skip ?_
          refine x_nt ?_
          refine wp_seq ?_
          refine wp_block ?_
          refine wp_seq ?_
          refine wp_region_lit ?_
          obtain ⟨u32, hv33, he31⟩ := hM.atM 0 rfl hx30
          refine wl hs (y_index ht_M hs rfl rfl he31) rfl ?_; intro a hs
          refine wl hs (y_load sc_I hs rfl he31.cell) rfl ?_; intro a hs
          refine wl hs (y_assign hs rfl) rfl ?_; intro a hs
          refine wpList_nil ?_
          refine x_nt ?_
          refine wp_seq ?_
          refine wp_region_lit ?_
          refine wl hs (y_move hs rfl) rfl ?_; intro a hs
          refine wl hs (y_move hs rfl) rfl ?_; intro a hs
          refine wl hs (y_move hs rfl) rfl ?_; intro a hs
          obtain ⟨y34, h35, hm⟩ := bindE hm
          refine wcall is_65 hs rfl rfl (spec_rkPart_any v_p0 p0 u13 x10 u32 x29 _ (RdM.below hr_p0 hM.bel) (hM.rdRow 1 rfl rfl hv14 (idx_spec hx11).2.2) (hM.rdRow 0 rfl rfl hv33 (idx_spec hx30).2.2) h35) ?_; rintro a v36 w hs ⟨vs38, hX⟩
          have hM : Mem W w [aMat 24 3 v36 vs38 y34, aMat 24 3 v22 vs24 y20, aMat 24 3 v3 vs5 y1] := hM.call hX
          obtain ⟨y39, h40, hm⟩ := bindE hm
          refine wcall is_69 hs rfl rfl (spec_rkSingular_any v36 y34 _ (hM.rdM 0 rfl) h40) ?_; rintro a _ w hs ⟨rfl, hX⟩
          have hM : Mem W w [aMat 24 3 v36 vs38 y34, aMat 24 3 v22 vs24 y20, aMat 24 3 v3 vs5 y1] := hM.call hX
          refine wl hs (y_not hs rfl) rfl ?_; intro a hs
          refine wpList_nil ?_
          refine x_nt ?_
          refine x_cond hs rfl (fun hb => ?_) (fun hb => ?_)
          · replace hm := condT hb hm
            refine wp_seq ?_
            refine wp_region_lit ?_
            refine wl hs (y_move hs rfl) rfl ?_; intro a hs
            refine wl hs (y_move hs rfl) rfl ?_; intro a hs
            refine wl hs (y_assign hs rfl) rfl ?_; intro a hs
            refine wl hs (y_assign hs rfl) rfl ?_; intro a hs
            refine wl hs (y_assign hs rfl) rfl ?_; intro a hs
            refine wpList_nil ?_
            refine x_nt ?_
            refine wp_ret ?_
            refine x_rb ?_
            refine x_rt ?_
            refine x_rt ?_
            refine x_rb ?_
            refine x_rt ?_
            refine x_rb ?_
            refine x_rt ?_
            refine x_rt ?_
            refine x_rb ?_
            refine x_rt ?_
            refine x_rt ?_
            have hm : some (Sum.inl (x10, x29, true)) = some s26 := hm
            cases Option.some.inj hm
            have hm := hk27
            have hm : some (Sum.inl (x10, x29, true)) = some s7 := hm
            cases Option.some.inj hm
            have hm := hk8
            have hm : some (x10, x29, true) = some r := hm
            obtain rfl := Option.some.inj hm
            refine x_ret3 rfl hs rfl rfl rfl ⟨_, rfl, ?_⟩
            have hM : Mem W w [aInts 3 u13 x10, aMat 24 3 v36 vs38 y34, aMat 24 3 v22 vs24 y20] := (hM.front 2 rfl).rowOut (RowOf.row hv14 ((idx_spec hx11).2.2))
            have hM : Mem W w [aInts 3 u32 x29, aInts 3 u13 x10, aMat 24 3 v36 vs38 y34] := (hM.front 2 rfl).rowOut (RowOf.row hv33 ((idx_spec hx30).2.2))
            exact ⟨_, _, rfl, ((hM.front 2 rfl).drop.front 1 rfl)⟩
          · replace hm := condF hb hm
            refine wp_skip ?_
            refine x_nb ?_
            refine x_nt ?_
            refine wp_region_lit ?_
            refine wl hs (y_add hs rfl rfl hsj25) rfl ?_; intro a hs
            refine wl hs (y_move hs rfl) rfl ?_; intro a hs
            refine wpList_nil ?_
            exact ⟨_, by simp, q28, j25 + 1, rfl, hs.sub ⟨rfl, rfl, rfl, rfl, rfl, rfl, rfl, rfl, rfl, trivial⟩, hM.drop, hm, drop_next hj25⟩
      rintro a w ⟨rfl, hs, hM⟩
      have hm := hk27
      refine x_nb ?_
      refine x_nt ?_
      refine wp_region_lit ?_
      refine wl hs (y_add hs rfl rfl hsj6) rfl ?_; intro a hs
      refine wl hs (y_move hs rfl) rfl ?_; intro a hs
      refine wpList_nil ?_
      exact ⟨_, by simp, q9, j6 + 1, rfl, hs.sub ⟨rfl, rfl, rfl, rfl, rfl, trivial⟩, hM, hm, drop_next hj6⟩
  rintro a w ⟨rfl, hs, hM⟩
  have hm := hk8
  refine x_nt ?_
  refine wp_seq ?_
  refine wp_region_lit ?_
  refine wl hs (y_assign hs rfl) rfl ?_; intro a hs
  refine wl hs (y_assign hs rfl) rfl ?_; intro a hs
  refine wl hs (y_assign hs rfl) rfl ?_; intro a hs
  refine wpList_nil ?_
  refine x_nt ?_
  refine wp_ret ?_
  have hm : some ([], [], false) = some r := hm
  obtain rfl := Option.some.inj hm
  refine x_ret3 rfl hs rfl rfl rfl ⟨_, rfl, ?_⟩
  have hM := hM.nilI 3
  have hM := hM.nilI 3
  exact ⟨_, _, rfl, (hM.front 1 rfl)⟩

theorem spec_rkRank_any (v_p0 : Value) (p0 : List (List Int)) (W : World) (hr_p0 : RdM W v_p0 p0) {r : Int} (hm : spec_rkRank_m p0 = some r) : Calls Try.prog 78 [v_p0].toArray W fun e w => ∃ v, e = .returned v ∧ v = .int .i64 r ∧ Mem W w [] := by
  refine x_enter Try.func78 rfl Try.ntmps78 rfl ?_
  intro a hs
  have hM := Mem.start W
  unfold spec_rkRank_m at hm
  refine wp_seq ?_
  refine wp_region_lit ?_
  refine wl hs (y_assign hs rfl) rfl ?_; intro a hs
  refine wpList_nil ?_
  refine x_nt ?_
  refine wp_seq ?_
  refine wp_seq ?_
  refine wp_region_lit ?_
  refine wl hs (y_move hs rfl) rfl ?_; intro a hs
  refine wl hs (y_len hu_M hs rfl (RdM.below hr_p0 hM.bel)) rfl ?_; intro a hs
  refine wl hs (y_move hs rfl) rfl ?_; intro a hs
  obtain ⟨x1, hx2, hm⟩ := bindE hm
  obtain ⟨u4, he3, hr5⟩ := RdM.at_ hr_p0 hx2
  replace he3 := he3.below hM.bel
  refine wl hs (y_index ht_M hs rfl rfl he3) rfl ?_; intro a hs
  refine wl hs (y_load sc_I hs rfl he3.cell) rfl ?_; intro a hs
  refine wl hs (y_len hu_I hs rfl (RdI.below hr5 hM.bel)) rfl ?_; intro a hs
  obtain ⟨y6, h7, hm⟩ := bindE hm
  refine wcall is_80 hs rfl rfl (spec_l1Least_any (p0.length : Int) (x1.length : Int) _  h7) ?_; rintro a _ w hs ⟨rfl, hX⟩
  have hM : Mem W w [] := hM.call hX
  refine wl hs (y_assign hs rfl) rfl ?_; intro a hs
  refine wpList_nil ?_
  refine x_nt ?_
  obtain ⟨s9, hm, hk10⟩ := bindE hm
  refine x_mid (fun a w => Sum.inr () = s9 ∧ Fr a 27 [] ∧ Mem W w []) ?_ ?_
  · refine wp_block ?_
    refine x_loop (fun k a w => ∃ (n8 : Int) , Fr a 27 [(0, v_p0), (3, .int .i64 n8)] ∧ Mem W w [] ∧ spec_rkRank_l1 p0 k n8 = some s9) 4000000 ⟨y6, hs.sub ⟨rfl, rfl, trivial⟩, hM, hm⟩ ?_
    rintro k a w ⟨n8, hs, hM, hm⟩
    rcases k with _ | k
    · rewrite [spec_rkRank_l1] at hm; cases hm
    rewrite [spec_rkRank_l1] at hm
    refine wp_seq ?_
    refine wp_seq ?_
    refine wp_region_lit ?_
    refine wl hs (y_move hs rfl) rfl ?_; intro a hs
    refine wl hs (y_gtr hs rfl rfl) rfl ?_; intro a hs
    refine wpList_nil ?_
    refine x_nt ?_
    refine x_cond hs rfl (fun hb => ?_) (fun hb => ?_)
    · replace hm := condT hb hm
      refine wp_skip ?_
      refine x_nt ?_
      refine wp_seq ?_
      refine wp_block ?_
      refine wp_seq ?_
      refine wp_region_lit ?_
      refine wl hs (y_move hs rfl) rfl ?_; intro a hs
      refine wl hs (y_move hs rfl) rfl ?_; intro a hs
      obtain ⟨y12, h13, hm⟩ := bindE hm
      refine wcall is_75 hs rfl rfl (spec_rkFirst_any v_p0 p0 n8 _ (RdM.below hr_p0 hM.bel) h13) ?_; rintro a _ w hs ⟨v16, v18, rfl, hX⟩
      have hM : Mem W w [aInts 3 v16 y12.1, aInts 3 v18 y12.2.1] := hM.call hX
      refine wl hs (y_move hs rfl) rfl ?_; intro a hs
      refine wl hs (y_extract hs rfl rfl) rfl ?_; intro a hs
      refine wl hs (y_extract hs rfl rfl) rfl ?_; intro a hs
      refine wl hs (y_extract hs rfl rfl) rfl ?_; intro a hs
      refine wl hs (y_assign hs rfl) rfl ?_; intro a hs
      refine wl hs (y_assign hs rfl) rfl ?_; intro a hs
      refine wl hs (y_assign hs rfl) rfl ?_; intro a hs
      refine wpList_nil ?_
      refine x_nt ?_
      refine wp_seq ?_
      refine wp_region_lit ?_
      refine wl hs (y_move hs rfl) rfl ?_; intro a hs
      refine wpList_nil ?_
      refine x_nt ?_
      refine x_cond hs rfl (fun hb => ?_) (fun hb => ?_)
      · replace hm := condT hb hm
        refine wp_seq ?_
        refine wp_region_lit ?_
        refine wl hs (y_move hs rfl) rfl ?_; intro a hs
        refine wl hs (y_assign hs rfl) rfl ?_; intro a hs
        refine wpList_nil ?_
        refine x_nt ?_
        refine wp_ret ?_
        refine x_rb ?_
        refine x_rt ?_
        refine x_rt ?_
        refine x_rb ?_
        refine x_rt ?_
        refine x_rt ?_
        have hm : some (Sum.inl n8) = some s9 := hm
        cases Option.some.inj hm
        have hm := hk10
        have hm : some n8 = some r := hm
        obtain rfl := Option.some.inj hm
        refine x_ret1 rfl hs rfl ⟨_, rfl, ?_⟩
        exact ⟨rfl, hM.none_⟩
      · replace hm := condF hb hm
        refine wp_skip ?_
        refine x_nb ?_
        refine x_nt ?_
        refine wp_region_lit ?_
        refine wl hs (y_move hs rfl) rfl ?_; intro a hs
        obtain ⟨n19, h20, hm⟩ := bindE hm
        refine wl hs (y_sub hs rfl rfl h20) rfl ?_; intro a hs
        refine wl hs (y_assign hs rfl) rfl ?_; intro a hs
        refine wpList_nil ?_
        exact ⟨k, Nat.lt_succ_self _, n19, hs.sub ⟨rfl, rfl, trivial⟩, hM.none_, hm⟩
    · replace hm := condF hb hm
      refine wp_exit ?_
      refine x_et ?_
      refine x_et ?_
      refine x_eb ?_
      have hm : some (Sum.inr ()) = some s9 := hm
      exact ⟨Option.some.inj hm, hs.sub trivial, hM⟩
  rintro a w ⟨rfl, hs, hM⟩
  have hm := hk10
  refine x_nt ?_
  refine wp_seq ?_
  refine wp_region_lit ?_
  refine wl hs (y_assign hs rfl) rfl ?_; intro a hs
  refine wpList_nil ?_
  refine x_nt ?_
  refine wp_ret ?_
  have hm : some 0 = some r := hm
  obtain rfl := Option.some.inj hm
  refine x_ret1 rfl hs rfl ⟨_, rfl, ?_⟩
  exact ⟨rfl, hM⟩

theorem spec_FirstRegular_any (v_p0 : Value) (p0 : List (List Int)) (p1 : Int) (W : World) (hr_p0 : RdM W v_p0 p0) {r : (List Int) × (List Int) × Bool} (hm : spec_FirstRegular_m p0 p1 = some r) : Calls Try.prog 32 [v_p0, .int .i64 p1].toArray W fun e w => ∃ v, e = .returned v ∧ ∃ v0, ∃ v1, v = .tuple #[v0, v1, .bool r.2.2] ∧ Mem W w [aInts 3 v0 r.1, aInts 3 v1 r.2.1] := by
  refine x_enter Try.func32 rfl Try.ntmps32 rfl ?_
  intro a hs
  have hM := Mem.start W
  unfold spec_FirstRegular_m at hm
  refine wp_seq ?_
  refine wp_region_lit ?_
  refine wl hs (y_assign hs rfl) rfl ?_; intro a hs
  refine wl hs (y_assign hs rfl) rfl ?_; intro a hs
  refine wl hs (y_assign hs rfl) rfl ?_; intro a hs
  refine wpList_nil ?_
  refine x_nt ?_
  refine wp_seq ?_
  refine wp_seq ?_
  refine wp_region_lit ?_
  refine wl hs (y_move hs rfl) rfl ?_; intro a hs
  obtain ⟨y1, h2, hm⟩ := bindE hm
  refine wcall is_57 hs rfl rfl (spec_mxGood_any v_p0 p0 _ (RdM.below hr_p0 hM.bel) h2) ?_; rintro a _ w hs ⟨rfl, hX⟩
  have hM : Mem W w [] := hM.call hX
  refine wl hs (y_not hs rfl) rfl ?_; intro a hs
  refine wl hs (y_move hs rfl) rfl ?_; intro a hs
  obtain ⟨b3, hb4, hm⟩ := bindE hm
  refine wlguard (N := 21) (L' := [(14, .bool b3), (0, v_p0), (1, .int .i64 p1)]) (fun w => Mem W w []) 4 ?_ ?_
  · intro K; rcases Bool.eq_false_or_eq_true (!y1) with hg5 | hg5
    · have hm := condT hg5 hb4
      refine wls hs rfl hg5 rfl ?_; intro a hs
      refine wls hs rfl hg5 rfl ?_; intro a hs
      refine wls hs rfl hg5 rfl ?_; intro a hs
      have hm : some true = some b3 := hm
      cases Option.some.inj hm
      refine wl hs (y_pickT hs rfl hg5 rfl) rfl ?_; intro a hs
      exact K _ _ (hs.sub ⟨rfl, rfl, rfl, trivial⟩) hM
    · have hm := condF hg5 hb4
      refine wlg hs rfl hg5 (y_move hs rfl) rfl ?_; intro a hs
      obtain ⟨y6, h7, hm⟩ := bindE hm
      refine wcallg is_74 hs rfl hg5 rfl rfl (spec_l1In_any p1 1 6 _  h7) ?_; rintro a _ w hs ⟨rfl, hX⟩
      have hM : Mem W w [] := hM.call hX
      refine wlg hs rfl hg5 (y_not hs rfl) rfl ?_; intro a hs
      have hm : some (!y6) = some b3 := hm
      cases Option.some.inj hm
      refine wl hs (y_pickF hs rfl hg5 rfl) rfl ?_; intro a hs
      exact K _ _ (hs.sub ⟨rfl, rfl, rfl, trivial⟩) hM
  intro a w hs hM
  simp only [List.drop_succ_cons, List.drop_zero]
  refine wpList_nil ?_
  refine x_nt ?_
  refine x_cond hs rfl (fun hb => ?_) (fun hb => ?_)
  · replace hm := condT hb hm
    refine wp_seq ?_
    refine wp_region_lit ?_
    refine wl hs (y_assign hs rfl) rfl ?_; intro a hs
    refine wl hs (y_assign hs rfl) rfl ?_; intro a hs
    refine wl hs (y_assign hs rfl) rfl ?_; intro a hs
    refine wpList_nil ?_
    refine x_nt ?_
    refine wp_ret ?_
    refine x_rt ?_
    have hm : some ([], [], false) = some r := hm
    obtain rfl := Option.some.inj hm
    refine x_ret3 rfl hs rfl rfl rfl ⟨_, rfl, ?_⟩
    have hM := hM.nilI 3
    have hM := hM.nilI 3
    exact ⟨_, _, rfl, (hM.front 1 rfl)⟩
  · replace hm := condF hb hm
    refine wp_skip ?_
    refine x_nt ?_
    refine wp_seq ?_
    refine wp_region_lit ?_
    refine wl hs (y_move hs rfl) rfl ?_; intro a hs
    refine wl hs (y_move hs rfl) rfl ?_; intro a hs
    obtain ⟨y10, h11, hm⟩ := bindE hm
    refine wcall is_75 hs rfl rfl (spec_rkFirst_any v_p0 p0 p1 _ (RdM.below hr_p0 hM.bel) h11) ?_; rintro a _ w hs ⟨v14, v16, rfl, hX⟩
    have hM : Mem W w [aInts 3 v14 y10.1, aInts 3 v16 y10.2.1] := hM.call hX
    refine wl hs (y_extract hs rfl rfl) rfl ?_; intro a hs
    refine wl hs (y_extract hs rfl rfl) rfl ?_; intro a hs
    refine wl hs (y_extract hs rfl rfl) rfl ?_; intro a hs
    refine wl hs (y_assign hs rfl) rfl ?_; intro a hs
    refine wl hs (y_assign hs rfl) rfl ?_; intro a hs
    refine wl hs (y_assign hs rfl) rfl ?_; intro a hs
    refine wpList_nil ?_
    refine x_nt ?_
    refine wp_ret ?_
    have hm : some (y10.1, y10.2.1, y10.2.2) = some r := hm
    obtain rfl := Option.some.inj hm
    refine x_ret3 rfl hs rfl rfl rfl ⟨_, rfl, ?_⟩
    exact ⟨_, _, rfl, hM⟩

theorem spec_TropicalRank_any (v_p0 : Value) (p0 : List (List Int)) (W : World) (hr_p0 : RdM W v_p0 p0) {r : Int × Bool} (hm : spec_TropicalRank_m p0 = some r) : Calls Try.prog 34 [v_p0].toArray W fun e w => ∃ v, e = .returned v ∧ v = .tuple #[.int .i64 r.1, .bool r.2] ∧ Mem W w [] := by
  refine x_enter Try.func34 rfl Try.ntmps34 rfl ?_
  intro a hs
  have hM := Mem.start W
  unfold spec_TropicalRank_m at hm
  refine wp_seq ?_
  refine wp_region_lit ?_
  refine wl hs (y_assign hs rfl) rfl ?_; intro a hs
  refine wl hs (y_assign hs rfl) rfl ?_; intro a hs
  refine wpList_nil ?_
  refine x_nt ?_
  refine wp_seq ?_
  refine wp_seq ?_
  refine wp_region_lit ?_
  refine wl hs (y_move hs rfl) rfl ?_; intro a hs
  obtain ⟨y1, h2, hm⟩ := bindE hm
  refine wcall is_57 hs rfl rfl (spec_mxGood_any v_p0 p0 _ (RdM.below hr_p0 hM.bel) h2) ?_; rintro a _ w hs ⟨rfl, hX⟩
  have hM : Mem W w [] := hM.call hX
  refine wl hs (y_not hs rfl) rfl ?_; intro a hs
  refine wpList_nil ?_
  refine x_nt ?_
  refine x_cond hs rfl (fun hb => ?_) (fun hb => ?_)
  · replace hm := condT hb hm
    refine wp_seq ?_
    refine wp_region_lit ?_
    refine wl hs (y_assign hs rfl) rfl ?_; intro a hs
    refine wl hs (y_assign hs rfl) rfl ?_; intro a hs
    refine wpList_nil ?_
    refine x_nt ?_
    refine wp_ret ?_
    refine x_rt ?_
    have hm : some (0, false) = some r := hm
    obtain rfl := Option.some.inj hm
    refine x_ret2 rfl hs rfl rfl ⟨_, rfl, ?_⟩
    exact ⟨rfl, hM⟩
  · replace hm := condF hb hm
    refine wp_skip ?_
    refine x_nt ?_
    refine wp_seq ?_
    refine wp_region_lit ?_
    refine wl hs (y_move hs rfl) rfl ?_; intro a hs
    obtain ⟨y3, h4, hm⟩ := bindE hm
    refine wcall is_78 hs rfl rfl (spec_rkRank_any v_p0 p0 _ (RdM.below hr_p0 hM.bel) h4) ?_; rintro a _ w hs ⟨rfl, hX⟩
    have hM : Mem W w [] := hM.call hX
    refine wl hs (y_assign hs rfl) rfl ?_; intro a hs
    refine wl hs (y_assign hs rfl) rfl ?_; intro a hs
    refine wpList_nil ?_
    refine x_nt ?_
    refine wp_ret ?_
    have hm : some (y3, true) = some r := hm
    obtain rfl := Option.some.inj hm
    refine x_ret2 rfl hs rfl rfl ⟨_, rfl, ?_⟩
    exact ⟨rfl, hM⟩

end Go.Proofs.Ytaagklbiebogfaa
