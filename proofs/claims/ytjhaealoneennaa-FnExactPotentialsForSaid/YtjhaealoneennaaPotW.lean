/- The code of this unit computes what its mirrors say. Written by program (wip/gen). -/
import Derived.Test.YtjhaealoneennaaFacts
import Derived.Test.YtjhaealoneennaaPotM
import Derived.Test.YtjhaealoneennaaNumW
import Derived.Test.YtjhaealoneennaaMatW
import Derived.Test.YtjhaealoneennaaWy4W
namespace Go.Proofs.Ytjhaealoneennaa
open Go.RowKit
set_option linter.unusedVariables false

theorem spec_PotentialsFor_any (v_p0 : Value) (p0 : List (List Int)) (W : World) (hr_p0 : RdM W v_p0 p0) {r : (List Int) × Bool} (hm : spec_PotentialsFor_m p0 = some r) : Calls Try.prog 15 [v_p0].toArray W fun e w => ∃ v, e = .returned v ∧ ∃ v0, v = .tuple #[v0, .bool r.2] ∧ Mem W w [aInts 3 v0 r.1] := by
  refine x_enter Try.func15 rfl Try.ntmps15 rfl ?_
  intro a hs
  have hM := Mem.start W
  unfold spec_PotentialsFor_m at hm
  refine wp_seq ?_
  refine wp_region_lit ?_
  refine wl hs (y_assign hs rfl) rfl ?_; intro a hs
  refine wl hs (y_assign hs rfl) rfl ?_; intro a hs
  refine wpList_nil ?_
  refine x_nt ?_
  refine wp_seq ?_
  refine wp_seq ?_
  refine wp_region_lit ?_
  refine wl hs (y_move hs rfl) rfl ?_; intro a hs
  obtain ⟨y1, h2, hm⟩ := bindE hm
  refine wcall is_46 hs rfl rfl (spec_mxSquare_any v_p0 p0 _ (RdM.below hr_p0 hM.bel) h2) ?_; rintro a _ w hs ⟨rfl, hX⟩
  have hM : Mem W w [] := hM.call hX
  refine wl hs (y_not hs rfl) rfl ?_; intro a hs
  refine wpList_nil ?_
  refine x_nt ?_
  refine x_cond hs rfl (fun hb => ?_) (fun hb => ?_)
  · replace hm := condT hb hm
    refine wp_seq ?_
    refine wp_region_lit ?_
    refine wl hs (y_assign hs rfl) rfl ?_; intro a hs
    refine wl hs (y_assign hs rfl) rfl ?_; intro a hs
    refine wpList_nil ?_
    refine x_nt ?_
    refine wp_ret ?_
    refine x_rt ?_
    have hm : some ([], false) = some r := hm
    obtain rfl := Option.some.inj hm
    refine x_ret2 rfl hs rfl rfl ⟨_, rfl, ?_⟩
    have hM := hM.nilI 3
    exact ⟨_, rfl, hM⟩
  · replace hm := condF hb hm
    refine wp_skip ?_
    refine x_nt ?_
    refine wp_seq ?_
    refine wp_region_lit ?_
    refine wl hs (y_move hs rfl) rfl ?_; intro a hs
    obtain ⟨y4, h5, hm⟩ := bindE hm
    refine wcall is_47 hs rfl rfl (spec_wyCosts_any v_p0 p0 _ (RdM.below hr_p0 hM.bel) h5) ?_; rintro a _ w hs ⟨v8, vs9, rfl, hX⟩
    have hM : Mem W w [aMat 24 3 v8 vs9 y4.1] := hM.call hX
    refine wl hs (y_move hs rfl) rfl ?_; intro a hs
    refine wl hs (y_extract hs rfl rfl) rfl ?_; intro a hs
    refine wl hs (y_extract hs rfl rfl) rfl ?_; intro a hs
    refine wl hs (y_assign hs rfl) rfl ?_; intro a hs
    refine wl hs (y_assign hs rfl) rfl ?_; intro a hs
    refine wpList_nil ?_
    refine x_nt ?_
    refine wp_seq ?_
    refine wp_seq ?_
    refine wp_region_lit ?_
    refine wl hs (y_move hs rfl) rfl ?_; intro a hs
    refine wl hs (y_not hs rfl) rfl ?_; intro a hs
    refine wpList_nil ?_
    refine x_nt ?_
    refine x_cond hs rfl (fun hb => ?_) (fun hb => ?_)
    · replace hm := condT hb hm
      refine wp_seq ?_
      refine wp_region_lit ?_
      refine wl hs (y_assign hs rfl) rfl ?_; intro a hs
      refine wl hs (y_assign hs rfl) rfl ?_; intro a hs
      refine wpList_nil ?_
      refine x_nt ?_
      refine wp_ret ?_
      refine x_rt ?_
      have hm : some ([], false) = some r := hm
      obtain rfl := Option.some.inj hm
      refine x_ret2 rfl hs rfl rfl ⟨_, rfl, ?_⟩
      have hM := hM.nilI 3
      exact ⟨_, rfl, (hM.keep_ 1)⟩
    · replace hm := condF hb hm
      refine wp_skip ?_
      refine x_nt ?_
      refine wp_seq ?_
      refine wp_region_lit ?_
      refine wl hs (y_assign hs rfl) rfl ?_; intro a hs
      have hM := hM.nilI 3
      refine wpList_nil ?_
      refine x_nt ?_
      refine wp_seq ?_
      refine wp_seq ?_
      refine wp_region_lit ?_
      refine wl hs (y_move hs rfl) rfl ?_; intro a hs
      refine wl hs (y_len hu_M hs rfl (RdM.below hr_p0 hM.bel)) rfl ?_; intro a hs
      refine wl hs (y_move hs rfl) rfl ?_; intro a hs
      refine wpList_nil ?_
      refine x_nt ?_
      obtain ⟨s17, hm, hk18⟩ := bindE hm
      refine x_mid (fun a w => ∃ (v15 : Value), ∃ (l16 : List Int), l16 = s17 ∧ Fr a 49 [(6, v15)] ∧ Mem W w [aInts 3 v15 l16]) ?_ ?_
      · refine wp_block ?_
        refine x_loop (fun k a w => ∃ (q19 : List (List Int)) (j14 : Nat) (v12 : Value) (l13 : List Int) , k = q19.length ∧ Fr a 49 [(0, v_p0), (4, v8), (6, v12), (21, .int .i64 (p0.length : Int)), (22, .int .i64 (j14 : Int))] ∧ Mem W w [aInts 3 v12 l13, aMat 24 3 v8 vs9 y4.1] ∧ spec_PotentialsFor_l1 p0 y4 q19 j14 l13 = some s17 ∧ List.drop j14 p0 = q19) _ ⟨p0, 0, (.slice none 0 0), [], rfl, hs.sub ⟨rfl, rfl, rfl, rfl, rfl, trivial⟩, hM, hm, rfl⟩ ?_
        rintro k a w ⟨q19, j14, v12, l13, rfl, hs, hM, hm, hj⟩
        rcases q19 with _ | ⟨x20, q19⟩
        · rewrite [spec_PotentialsFor_l1] at hm
          refine wp_seq ?_
          refine wp_region_lit ?_
          refine wl hs (y_lss hs rfl rfl) rfl ?_; intro a hs
          refine wpList_nil ?_
          refine x_nt ?_
          refine wp_seq ?_
          refine x_condF hs rfl (drop_f hj) ?_
          refine wp_exit ?_
          refine x_et ?_
          refine x_et ?_
          refine x_eb ?_
          have hm : some l13 = some s17 := hm
          exact ⟨v12, l13, Option.some.inj hm, hs.sub ⟨rfl, trivial⟩, (hM.keep_ 1)⟩
        · rewrite [spec_PotentialsFor_l1] at hm
          have hx21 := drop_idx hj
          have hjs := ck_succ hj (RdS.len (RdM.below hr_p0 hM.bel))
          refine wp_seq ?_
          refine wp_region_lit ?_
          refine wl hs (y_lss hs rfl rfl) rfl ?_; intro a hs
          refine wpList_nil ?_
          refine x_nt ?_
          refine wp_seq ?_
          refine x_condT hs rfl (drop_t hj) ?_
          refine wp_skip ?_
          refine x_nt ?_
          refine wp_seq ?_
          refine wp_block ?_
          refine wp_seq ?_
          refine wp_region_lit ?_
          refine wl hs (y_move hs rfl) rfl ?_; intro a hs
          refine wl hs (y_assign hs rfl) rfl ?_; intro a hs
          refine wpList_nil ?_
          refine x_nt ?_
          refine wp_seq ?_
          refine wp_region_lit ?_
          refine wl hs (y_assign hs rfl) rfl ?_; intro a hs
          refine wpList_nil ?_
          refine x_nt ?_
          refine wp_seq ?_
          refine wp_seq ?_
          refine wp_region_lit ?_
          refine wl hs (y_move hs rfl) rfl ?_; intro a hs
          refine wl hs (y_len hu_M hs rfl (RdM.below hr_p0 hM.bel)) rfl ?_; intro a hs
          refine wl hs (y_move hs rfl) rfl ?_; intro a hs
          refine wpList_nil ?_
          refine x_nt ?_
          obtain ⟨s25, hm, hk26⟩ := bindE hm
          refine x_mid (fun a w => ∃ (n24 : Int), n24 = s25 ∧ Fr a 49 [(0, v_p0), (4, v8), (6, v12), (8, .int .i64 n24), (21, .int .i64 (p0.length : Int)), (22, .int .i64 (j14 : Int))] ∧ Mem W w [aInts 3 v12 l13, aMat 24 3 v8 vs9 y4.1]) ?_ ?_
          · refine wp_block ?_
            refine x_loop (fun k a w => ∃ (q27 : List (List Int)) (j23 : Nat) (n22 : Int) , k = q27.length ∧ Fr a 49 [(0, v_p0), (4, v8), (6, v12), (7, .int .i64 (j14 : Int)), (8, .int .i64 n22), (21, .int .i64 (p0.length : Int)), (22, .int .i64 (j14 : Int)), (26, .int .i64 (p0.length : Int)), (27, .int .i64 (j23 : Int))] ∧ Mem W w [aInts 3 v12 l13, aMat 24 3 v8 vs9 y4.1] ∧ spec_PotentialsFor_l2 y4 j14 q27 j23 n22 = some s25 ∧ List.drop j23 p0 = q27) _ ⟨p0, 0, 1000000000, rfl, hs.sub ⟨rfl, rfl, rfl, rfl, rfl, rfl, rfl, rfl, rfl, trivial⟩, hM, hm, rfl⟩ ?_
            rintro k a w ⟨q27, j23, n22, rfl, hs, hM, hm, hj⟩
            rcases q27 with _ | ⟨x28, q27⟩
            · rewrite [spec_PotentialsFor_l2] at hm
              refine wp_seq ?_
              refine wp_region_lit ?_
              refine wl hs (y_lss hs rfl rfl) rfl ?_; intro a hs
              refine wpList_nil ?_
              refine x_nt ?_
              refine wp_seq ?_
              refine x_condF hs rfl (drop_f hj) ?_
              refine wp_exit ?_
              refine x_et ?_
              refine x_et ?_
              refine x_eb ?_
              have hm : some n22 = some s25 := hm
              exact ⟨n22, Option.some.inj hm, hs.sub ⟨rfl, rfl, rfl, rfl, rfl, rfl, trivial⟩, hM⟩
            · rewrite [spec_PotentialsFor_l2] at hm
              have hx29 := drop_idx hj
              have hjs := ck_succ hj (RdS.len (RdM.below hr_p0 hM.bel))
              refine wp_seq ?_
              refine wp_region_lit ?_
              refine wl hs (y_lss hs rfl rfl) rfl ?_; intro a hs
              refine wpList_nil ?_
              refine x_nt ?_
              refine wp_seq ?_
              refine x_condT hs rfl (drop_t hj) ?_
              refine wp_skip ?_
              refine x_nt ?_
              refine wp_seq ?_
              refine wp_block ?_
              refine wp_seq ?_
              refine wp_region_lit ?_
              refine wl hs (y_move hs rfl) rfl ?_; intro a hs
              refine wl hs (y_assign hs rfl) rfl ?_; intro a hs
              refine wpList_nil ?_
              refine x_nt ?_
              refine wp_region_lit ?_
              refine wl hs (y_move hs rfl) rfl ?_; intro a hs
              refine wl hs (y_move hs rfl) rfl ?_; intro a hs
              refine wl hs (y_move hs rfl) rfl ?_; intro a hs
              obtain ⟨x30, hx31, hm⟩ := bindE hm
              obtain ⟨u33, hv34, he32⟩ := hM.atM 1 rfl hx31
              refine wl hs (y_index ht_M hs rfl rfl he32) rfl ?_; intro a hs
              refine wl hs (y_load sc_I hs rfl he32.cell) rfl ?_; intro a hs
              refine wl hs (y_move hs rfl) rfl ?_; intro a hs
              obtain ⟨x35, hx36, hm⟩ := bindE hm
              have he37 := RdI.at_ (hM.rdRow 1 rfl rfl hv34 (idx_spec hx31).2.2) hx36
              refine wl hs (y_index ht_I hs rfl rfl he37) rfl ?_; intro a hs
              refine wl hs (y_load sc_int hs rfl he37.cell) rfl ?_; intro a hs
              obtain ⟨y38, h39, hm⟩ := bindE hm
              refine wcall is_48 hs rfl rfl (spec_l1Least_any n22 x35 _  h39) ?_; rintro a _ w hs ⟨rfl, hX⟩
              have hM : Mem W w [aInts 3 v12 l13, aMat 24 3 v8 vs9 y4.1] := hM.call hX
              refine wl hs (y_assign hs rfl) rfl ?_; intro a hs
              refine wpList_nil ?_
              refine x_nb ?_
              refine x_nt ?_
              refine wp_region_lit ?_
              refine wl hs (y_add hs rfl rfl hjs) rfl ?_; intro a hs
              refine wl hs (y_move hs rfl) rfl ?_; intro a hs
              refine wpList_nil ?_
              exact ⟨_, by simp, q27, j23 + 1, y38, rfl, hs.sub ⟨rfl, rfl, rfl, rfl, rfl, rfl, rfl, rfl, rfl, trivial⟩, hM, hm, drop_next hj⟩
          rintro a w ⟨n24, rfl, hs, hM⟩
          have hm := hk26
          refine x_nt ?_
          refine wp_region_lit ?_
          refine wl hs (y_move hs rfl) rfl ?_; intro a hs
          refine wl hs (y_move hs rfl) rfl ?_; intro a hs
          obtain ⟨l40, h41, hm⟩ := bindE hm
          refine wappI hu_I he_int hs hM rfl rfl h41 rfl rfl rfl ?_; intro a v42 w u43 hs hM
          have hM : Mem W w [aInts 3 v42 l40, aMat 24 3 v8 vs9 y4.1] := hM
          refine wl hs (y_assign hs rfl) rfl ?_; intro a hs
          refine wpList_nil ?_
          refine x_nb ?_
          refine x_nt ?_
          refine wp_region_lit ?_
          refine wl hs (y_add hs rfl rfl hjs) rfl ?_; intro a hs
          refine wl hs (y_move hs rfl) rfl ?_; intro a hs
          refine wpList_nil ?_
          exact ⟨_, by simp, q19, j14 + 1, v42, l40, rfl, hs.sub ⟨rfl, rfl, rfl, rfl, rfl, trivial⟩, hM, hm, drop_next hj⟩
      rintro a w ⟨v15, l16, rfl, hs, hM⟩
      have hm := hk18
      refine x_nt ?_
      refine wp_seq ?_
      refine wp_seq ?_
      refine wp_region_lit ?_
      refine wl hs (y_move hs rfl) rfl ?_; intro a hs
      obtain ⟨y44, h45, hm⟩ := bindE hm
      refine wcall is_49 hs rfl rfl (spec_l1All_any v15 l16 (-1000000) 1000000 _ (hM.rdI 0 rfl) h45) ?_; rintro a _ w hs ⟨rfl, hX⟩
      have hM : Mem W w [aInts 3 v15 l16] := hM.call hX
      refine wl hs (y_not hs rfl) rfl ?_; intro a hs
      refine wpList_nil ?_
      refine x_nt ?_
      refine x_cond hs rfl (fun hb => ?_) (fun hb => ?_)
      · replace hm := condT hb hm
        refine wp_seq ?_
        refine wp_region_lit ?_
        refine wl hs (y_assign hs rfl) rfl ?_; intro a hs
        refine wl hs (y_assign hs rfl) rfl ?_; intro a hs
        refine wpList_nil ?_
        refine x_nt ?_
        refine wp_ret ?_
        refine x_rt ?_
        have hm : some ([], false) = some r := hm
        obtain rfl := Option.some.inj hm
        refine x_ret2 rfl hs rfl rfl ⟨_, rfl, ?_⟩
        have hM := hM.nilI 3
        exact ⟨_, rfl, (hM.keep_ 1)⟩
      · replace hm := condF hb hm
        refine wp_skip ?_
        refine x_nt ?_
        refine wp_seq ?_
        refine wp_region_lit ?_
        refine wl hs (y_move hs rfl) rfl ?_; intro a hs
        refine wl hs (y_assign hs rfl) rfl ?_; intro a hs
        refine wl hs (y_assign hs rfl) rfl ?_; intro a hs
        refine wpList_nil ?_
        refine x_nt ?_
        refine wp_ret ?_
        have hm : some (l16, true) = some r := hm
        obtain rfl := Option.some.inj hm
        refine x_ret2 rfl hs rfl rfl ⟨_, rfl, ?_⟩
        exact ⟨_, rfl, hM⟩

theorem impl_PotentialsFor_any (v_p0 : Value) (p0 : List (List Int)) (W : World) (hr_p0 : RdM W v_p0 p0) {r : (List Int) × Bool} (hm : impl_PotentialsFor_m p0 = some r) : Calls Try.prog 17 [v_p0].toArray W fun e w => ∃ v, e = .returned v ∧ ∃ v0, v = .tuple #[v0, .bool r.2] ∧ Mem W w [aInts 3 v0 r.1] := by
  refine x_enter Try.func17 rfl Try.ntmps17 rfl ?_
  intro a hs
  have hM := Mem.start W
  unfold impl_PotentialsFor_m at hm
  refine wp_seq ?_
  refine wp_region_lit ?_
  refine wl hs (y_assign hs rfl) rfl ?_; intro a hs
  refine wl hs (y_assign hs rfl) rfl ?_; intro a hs
  refine wpList_nil ?_
  refine x_nt ?_
  refine wp_seq ?_
  refine wp_seq ?_
  refine wp_region_lit ?_
  refine wl hs (y_move hs rfl) rfl ?_; intro a hs
  obtain ⟨y1, h2, hm⟩ := bindE hm
  refine wcall is_50 hs rfl rfl (impl_isSquare_any v_p0 p0 _ (RdM.below hr_p0 hM.bel) h2) ?_; rintro a _ w hs ⟨rfl, hX⟩
  have hM : Mem W w [] := hM.call hX
  refine wl hs (y_not hs rfl) rfl ?_; intro a hs
  refine wpList_nil ?_
  refine x_nt ?_
  refine x_cond hs rfl (fun hb => ?_) (fun hb => ?_)
  · replace hm := condT hb hm
    refine wp_seq ?_
    refine wp_region_lit ?_
    refine wl hs (y_assign hs rfl) rfl ?_; intro a hs
    refine wl hs (y_assign hs rfl) rfl ?_; intro a hs
    refine wpList_nil ?_
    refine x_nt ?_
    refine wp_ret ?_
    refine x_rt ?_
    have hm : some ([], false) = some r := hm
    obtain rfl := Option.some.inj hm
    refine x_ret2 rfl hs rfl rfl ⟨_, rfl, ?_⟩
    have hM := hM.nilI 3
    exact ⟨_, rfl, hM⟩
  · replace hm := condF hb hm
    refine wp_skip ?_
    refine x_nt ?_
    refine wp_seq ?_
    refine wp_region_lit ?_
    refine wl hs (y_move hs rfl) rfl ?_; intro a hs
    obtain ⟨y4, h5, hm⟩ := bindE hm
    refine wcall is_51 hs rfl rfl (impl_wayCosts_any v_p0 p0 _ (RdM.below hr_p0 hM.bel) h5) ?_; rintro a _ w hs ⟨v8, vs9, rfl, hX⟩
    have hM : Mem W w [aMat 24 3 v8 vs9 y4.1] := hM.call hX
    refine wl hs (y_move hs rfl) rfl ?_; intro a hs
    refine wl hs (y_extract hs rfl rfl) rfl ?_; intro a hs
    refine wl hs (y_extract hs rfl rfl) rfl ?_; intro a hs
    refine wl hs (y_assign hs rfl) rfl ?_; intro a hs
    refine wl hs (y_assign hs rfl) rfl ?_; intro a hs
    refine wpList_nil ?_
    refine x_nt ?_
    refine wp_seq ?_
    refine wp_seq ?_
    refine wp_region_lit ?_
    refine wl hs (y_move hs rfl) rfl ?_; intro a hs
    refine wl hs (y_not hs rfl) rfl ?_; intro a hs
    refine wpList_nil ?_
    refine x_nt ?_
    refine x_cond hs rfl (fun hb => ?_) (fun hb => ?_)
    · replace hm := condT hb hm
      refine wp_seq ?_
      refine wp_region_lit ?_
      refine wl hs (y_assign hs rfl) rfl ?_; intro a hs
      refine wl hs (y_assign hs rfl) rfl ?_; intro a hs
      refine wpList_nil ?_
      refine x_nt ?_
      refine wp_ret ?_
      refine x_rt ?_
      have hm : some ([], false) = some r := hm
      obtain rfl := Option.some.inj hm
      refine x_ret2 rfl hs rfl rfl ⟨_, rfl, ?_⟩
      have hM := hM.nilI 3
      exact ⟨_, rfl, (hM.keep_ 1)⟩
    · replace hm := condF hb hm
      refine wp_skip ?_
      refine x_nt ?_
      refine wp_seq ?_
      refine wp_region_lit ?_
      refine wmem hs (x_new0I ht_I hM) rfl ?_; intro a v12 w hs hM
      have hM : Mem W w [aInts 3 v12 ([]), aMat 24 3 v8 vs9 y4.1] := hM
      refine wl hs (y_assign hs rfl) rfl ?_; intro a hs
      refine wpList_nil ?_
      refine x_nt ?_
      refine wp_seq ?_
      refine wp_seq ?_
      refine wp_region_lit ?_
      refine wl hs (y_move hs rfl) rfl ?_; intro a hs
      obtain ⟨y13, h14, hm⟩ := bindE hm
      refine wcall is_52 hs rfl rfl (impl_transposed_any v8 y4.1 _ (hM.rdM 1 rfl) h14) ?_; rintro a v15 w hs ⟨vs17, hX⟩
      have hM : Mem W w [aMat 24 3 v15 vs17 y13, aInts 3 v12 ([]), aMat 24 3 v8 vs9 y4.1] := hM.call hX
      refine wl hs (y_len hu_M hs rfl (hM.rdM 0 rfl)) rfl ?_; intro a hs
      refine wl hs (y_move hs rfl) rfl ?_; intro a hs
      refine wpList_nil ?_
      refine x_nt ?_
      obtain ⟨s23, hm, hk24⟩ := bindE hm
      refine x_mid (fun a w => ∃ (v21 : Value), ∃ (l22 : List Int), l22 = s23 ∧ Fr a 37 [(6, v21)] ∧ Mem W w [aInts 3 v21 l22]) ?_ ?_
      · refine wp_block ?_
        refine x_loop (fun k a w => ∃ (q25 : List (List Int)) (j20 : Nat) (v18 : Value) (l19 : List Int) , k = q25.length ∧ Fr a 37 [(6, v18), (21, v15), (22, .int .i64 (y13.length : Int)), (23, .int .i64 (j20 : Int))] ∧ Mem W w [aMat 24 3 v15 vs17 y13, aInts 3 v18 l19] ∧ impl_PotentialsFor_l1 q25 j20 l19 = some s23 ∧ List.drop j20 y13 = q25) _ ⟨y13, 0, v12, [], rfl, hs.sub ⟨rfl, rfl, rfl, rfl, trivial⟩, (hM.keep_ 2), hm, rfl⟩ ?_
        rintro k a w ⟨q25, j20, v18, l19, rfl, hs, hM, hm, hj⟩
        rcases q25 with _ | ⟨x26, q25⟩
        · rewrite [impl_PotentialsFor_l1] at hm
          refine wp_seq ?_
          refine wp_region_lit ?_
          refine wl hs (y_lss hs rfl rfl) rfl ?_; intro a hs
          refine wpList_nil ?_
          refine x_nt ?_
          refine wp_seq ?_
          refine x_condF hs rfl (drop_f hj) ?_
          refine wp_exit ?_
          refine x_et ?_
          refine x_et ?_
          refine x_eb ?_
          have hm : some l19 = some s23 := hm
          exact ⟨v18, l19, Option.some.inj hm, hs.sub ⟨rfl, trivial⟩, hM.drop⟩
        · rewrite [impl_PotentialsFor_l1] at hm
          have hx27 := drop_idx hj
          have hjs := ck_succ hj (RdS.len (hM.rdM 0 rfl))
          refine wp_seq ?_
          refine wp_region_lit ?_
          refine wl hs (y_lss hs rfl rfl) rfl ?_; intro a hs
          refine wpList_nil ?_
          refine x_nt ?_
          refine wp_seq ?_
          refine x_condT hs rfl (drop_t hj) ?_
          refine wp_skip ?_
          refine x_nt ?_
          refine wp_seq ?_
          refine wp_block ?_
          refine wp_seq ?_
          refine wp_region_lit ?_
          obtain ⟨u29, hv30, he28⟩ := hM.atM 0 rfl hx27
          refine wl hs (y_index ht_M hs rfl rfl he28) rfl ?_; intro a hs
          refine wl hs (y_load sc_I hs rfl he28.cell) rfl ?_; intro a hs
          refine wl hs (y_assign hs rfl) rfl ?_; intro a hs
          refine wpList_nil ?_
          refine x_nt ?_
          refine wp_region_lit ?_
          refine wl hs (y_move hs rfl) rfl ?_; intro a hs
          refine wl hs (y_move hs rfl) rfl ?_; intro a hs
          obtain ⟨y31, h32, hm⟩ := bindE hm
          refine wcall is_53 hs rfl rfl (impl_sumOf_any u29 x26 _ (hM.rdRow 0 rfl rfl hv30 (idx_spec hx27).2.2) h32) ?_; rintro a _ w hs ⟨rfl, hX⟩
          have hM : Mem W w [aMat 24 3 v15 vs17 y13, aInts 3 v18 l19] := hM.call hX
          obtain ⟨l33, h34, hm⟩ := bindE hm
          refine wappI hu_I he_int hs (hM.front 1 rfl) rfl rfl h34 rfl rfl rfl ?_; intro a v35 w u36 hs hM
          have hM : Mem W w [aInts 3 v35 l33, aMat 24 3 v15 vs17 y13] := hM
          refine wl hs (y_assign hs rfl) rfl ?_; intro a hs
          refine wpList_nil ?_
          refine x_nb ?_
          refine x_nt ?_
          refine wp_region_lit ?_
          refine wl hs (y_add hs rfl rfl hjs) rfl ?_; intro a hs
          refine wl hs (y_move hs rfl) rfl ?_; intro a hs
          refine wpList_nil ?_
          exact ⟨_, by simp, q25, j20 + 1, v35, l33, rfl, hs.sub ⟨rfl, rfl, rfl, rfl, trivial⟩, (hM.front 1 rfl), hm, drop_next hj⟩
      rintro a w ⟨v21, l22, rfl, hs, hM⟩
      have hm := hk24
      refine x_nt ?_
      refine wp_seq ?_
      refine wp_region_lit ?_
      refine wl hs (y_move hs rfl) rfl ?_; intro a hs
      obtain ⟨y37, h38, hm⟩ := bindE hm
      refine wcall is_54 hs rfl rfl (impl_toldList_any v21 l22 _ (hM.rdI 0 rfl) h38) ?_; rintro a _ w hs ⟨rfl, hX⟩
      have hM : Mem W w [aInts 3 v21 l22] := hM.call hX
      have hM : Mem W w [aInts 3 (cond y37.1 v21 (.slice none 0 0)) (cond y37.1 l22 [])] := (hM).condI y37.1
      refine wl hs (y_extract hs rfl rfl) rfl ?_; intro a hs
      refine wl hs (y_extract hs rfl rfl) rfl ?_; intro a hs
      refine wl hs (y_assign hs rfl) rfl ?_; intro a hs
      refine wl hs (y_assign hs rfl) rfl ?_; intro a hs
      refine wpList_nil ?_
      refine x_nt ?_
      refine wp_ret ?_
      have hm : some ((cond y37.1 l22 []), y37.2) = some r := hm
      obtain rfl := Option.some.inj hm
      refine x_ret2 rfl hs rfl rfl ⟨_, rfl, ?_⟩
      exact ⟨_, rfl, hM⟩

end Go.Proofs.Ytjhaealoneennaa
