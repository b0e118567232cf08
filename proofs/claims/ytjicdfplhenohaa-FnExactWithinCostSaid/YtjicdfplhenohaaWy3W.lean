/- The code of this unit computes what its mirrors say. Written by program (wip/gen). -/
import Derived.Test.YtjicdfplhenohaaFacts
import Derived.Test.YtjicdfplhenohaaWy3M
import Derived.Test.YtjicdfplhenohaaNumW
import Derived.Test.YtjicdfplhenohaaMatW
import Derived.Test.YtjicdfplhenohaaWy1W
import Derived.Test.YtjicdfplhenohaaWy2W
import Derived.Test.YtjicdfplhenohaaOwnW
namespace Go.Proofs.Ytjicdfplhenohaa
open Go.RowKit
set_option linter.unusedVariables false

theorem spec_wyGood_any (v_p0 : Value) (p0 : List (List Int)) (W : World) (hr_p0 : RdM W v_p0 p0) {r : Bool} (hm : spec_wyGood_m p0 = some r) : Calls Try.prog 78 [v_p0].toArray W fun e w => ∃ v, e = .returned v ∧ v = .bool r ∧ Mem W w [] := by
  refine x_enter Try.func78 rfl Try.ntmps78 rfl ?_
  intro a hs
  have hM := Mem.start W
  unfold spec_wyGood_m at hm
  refine wp_seq ?_
  refine wp_region_lit ?_
  refine wl hs (y_assign hs rfl) rfl ?_; intro a hs
  refine wpList_nil ?_
  refine x_nt ?_
  refine wp_seq ?_
  refine wp_seq ?_
  refine wp_region_lit ?_
  refine wl hs (y_move hs rfl) rfl ?_; intro a hs
  refine wl hs (y_len hu_M hs rfl (RdM.below hr_p0 hM.bel)) rfl ?_; intro a hs
  refine wl hs (y_move hs rfl) rfl ?_; intro a hs
  refine wpList_nil ?_
  refine x_nt ?_
  obtain ⟨s2, hm, hk3⟩ := bindE hm
  refine x_mid (fun a w => Sum.inr () = s2 ∧ Fr a 24 [] ∧ Mem W w []) ?_ ?_
  · refine wp_block ?_
    refine x_loop (fun k a w => ∃ (q4 : List (List Int)) (j1 : Nat) , k = q4.length ∧ Fr a 24 [(7, v_p0), (8, .int .i64 (p0.length : Int)), (9, .int .i64 (j1 : Int))] ∧ Mem W w [] ∧ spec_wyGood_l1 q4 j1 = some s2 ∧ List.drop j1 p0 = q4) _ ⟨p0, 0, rfl, hs.sub ⟨rfl, rfl, rfl, trivial⟩, hM, hm, rfl⟩ ?_
    rintro k a w ⟨q4, j1, rfl, hs, hM, hm, hj⟩
    rcases q4 with _ | ⟨x5, q4⟩
    · rewrite [spec_wyGood_l1] at hm
      refine wp_seq ?_
      refine wp_region_lit ?_
      refine wl hs (y_lss hs rfl rfl) rfl ?_; intro a hs
      refine wpList_nil ?_
      refine x_nt ?_
      refine wp_seq ?_
      refine x_condF hs rfl (drop_f hj) ?_
      refine wp_exit ?_
      refine x_et ?_
      refine x_et ?_
      refine x_eb ?_
      have hm : some (Sum.inr ()) = some s2 := hm
      exact ⟨Option.some.inj hm, hs.sub trivial, hM⟩
    · rewrite [spec_wyGood_l1] at hm
      have hx6 := drop_idx hj
      have hjs := ck_succ hj (RdS.len (RdM.below hr_p0 hM.bel))
      refine wp_seq ?_
      refine wp_region_lit ?_
      refine wl hs (y_lss hs rfl rfl) rfl ?_; intro a hs
      refine wpList_nil ?_
      refine x_nt ?_
      refine wp_seq ?_
      refine x_condT hs rfl (drop_t hj) ?_
      refine wp_skip ?_
      refine x_nt ?_
      refine wp_seq ?_
      refine wp_block ?_
      refine wp_seq ?_
      refine wp_region_lit ?_
      obtain ⟨u8, he7, hr9⟩ := RdM.at_ hr_p0 hx6
      replace he7 := he7.below hM.bel
      refine wl hs (y_index ht_M hs rfl rfl he7) rfl ?_; intro a hs
      refine wl hs (y_load sc_I hs rfl he7.cell) rfl ?_; intro a hs
      refine wl hs (y_assign hs rfl) rfl ?_; intro a hs
      refine wpList_nil ?_
      refine x_nt ?_
      refine wp_seq ?_
      refine wp_region_lit ?_
      refine wl hs (y_move hs rfl) rfl ?_; intro a hs
      refine wl hs (y_len hu_I hs rfl (RdI.below hr9 hM.bel)) rfl ?_; intro a hs
      refine wl hs (y_move hs rfl) rfl ?_; intro a hs
      refine wpList_nil ?_
      refine x_nt ?_
      obtain ⟨s11, hm, hk12⟩ := bindE hm
      refine x_mid (fun a w => Sum.inr () = s11 ∧ Fr a 24 [(7, v_p0), (8, .int .i64 (p0.length : Int)), (9, .int .i64 (j1 : Int))] ∧ Mem W w []) ?_ ?_
      · refine wp_block ?_
        refine x_loop (fun k a w => ∃ (q13 : List Int) (j10 : Nat) , k = q13.length ∧ Fr a 24 [(7, v_p0), (8, .int .i64 (p0.length : Int)), (9, .int .i64 (j1 : Int)), (13, u8), (14, .int .i64 (x5.length : Int)), (15, .int .i64 (j10 : Int))] ∧ Mem W w [] ∧ spec_wyGood_l2 q13 j10 = some s11 ∧ List.drop j10 x5 = q13) _ ⟨x5, 0, rfl, hs.sub ⟨rfl, rfl, rfl, rfl, rfl, rfl, trivial⟩, hM, hm, rfl⟩ ?_
        rintro k a w ⟨q13, j10, rfl, hs, hM, hm, hj⟩
        rcases q13 with _ | ⟨x14, q13⟩
        · rewrite [spec_wyGood_l2] at hm
          refine wp_seq ?_
          refine wp_region_lit ?_
          refine wl hs (y_lss hs rfl rfl) rfl ?_; intro a hs
          refine wpList_nil ?_
          refine x_nt ?_
          refine wp_seq ?_
          refine x_condF hs rfl (drop_f hj) ?_
          refine wp_exit ?_
          refine x_et ?_
          refine x_et ?_
          refine x_eb ?_
          have hm : some (Sum.inr ()) = some s11 := hm
          exact ⟨Option.some.inj hm, hs.sub ⟨rfl, rfl, rfl, trivial⟩, hM⟩
        · rewrite [spec_wyGood_l2] at hm
          have hx15 := drop_idx hj
          have hjs := ck_succ hj (RdS.len (RdI.below hr9 hM.bel))
          refine wp_seq ?_
          refine wp_region_lit ?_
          refine wl hs (y_lss hs rfl rfl) rfl ?_; intro a hs
          refine wpList_nil ?_
          refine x_nt ?_
          refine wp_seq ?_
          refine x_condT hs rfl (drop_t hj) ?_
          refine wp_skip ?_
          refine x_nt ?_
          refine wp_seq ?_
          refine wp_block ?_
          refine wp_seq ?_
          refine wp_region_lit ?_
          have he16 := RdI.at_ (RdI.below hr9 hM.bel) hx15
          refine wl hs (y_index ht_I hs rfl rfl he16) rfl ?_; intro a hs
          refine wl hs (y_load sc_int hs rfl he16.cell) rfl ?_; intro a hs
          refine wl hs (y_assign hs rfl) rfl ?_; intro a hs
          refine wpList_nil ?_
          refine x_nt ?_
          refine wp_seq ?_
          refine wp_region_lit ?_
          refine wl hs (y_move hs rfl) rfl ?_; intro a hs
          obtain ⟨y17, h18, hm⟩ := bindE hm
          refine wcall is_59 hs rfl rfl (spec_nuGood_any x14 _  h18) ?_; rintro a _ w hs ⟨rfl, hX⟩
          have hM : Mem W w [] := hM.call hX
          refine wl hs (y_not hs rfl) rfl ?_; intro a hs
          refine wpList_nil ?_
          refine x_nt ?_
          refine x_cond hs rfl (fun hb => ?_) (fun hb => ?_)
          · replace hm := condT hb hm
            refine wp_seq ?_
            refine wp_region_lit ?_
            refine wl hs (y_assign hs rfl) rfl ?_; intro a hs
            refine wpList_nil ?_
            refine x_nt ?_
            refine wp_ret ?_
            refine x_rb ?_
            refine x_rt ?_
            refine x_rt ?_
            refine x_rb ?_
            refine x_rt ?_
            refine x_rb ?_
            refine x_rt ?_
            refine x_rt ?_
            refine x_rb ?_
            refine x_rt ?_
            refine x_rt ?_
            have hm : some (Sum.inl false) = some s11 := hm
            cases Option.some.inj hm
            have hm := hk12
            have hm : some (Sum.inl false) = some s2 := hm
            cases Option.some.inj hm
            have hm := hk3
            have hm : some false = some r := hm
            obtain rfl := Option.some.inj hm
            refine x_ret1 rfl hs rfl ⟨_, rfl, ?_⟩
            exact ⟨rfl, hM⟩
          · replace hm := condF hb hm
            refine wp_skip ?_
            refine x_nb ?_
            refine x_nt ?_
            refine wp_region_lit ?_
            refine wl hs (y_add hs rfl rfl hjs) rfl ?_; intro a hs
            refine wl hs (y_move hs rfl) rfl ?_; intro a hs
            refine wpList_nil ?_
            exact ⟨_, by simp, q13, j10 + 1, rfl, hs.sub ⟨rfl, rfl, rfl, rfl, rfl, rfl, trivial⟩, hM, hm, drop_next hj⟩
      rintro a w ⟨rfl, hs, hM⟩
      have hm := hk12
      refine x_nb ?_
      refine x_nt ?_
      refine wp_region_lit ?_
      refine wl hs (y_add hs rfl rfl hjs) rfl ?_; intro a hs
      refine wl hs (y_move hs rfl) rfl ?_; intro a hs
      refine wpList_nil ?_
      exact ⟨_, by simp, q4, j1 + 1, rfl, hs.sub ⟨rfl, rfl, rfl, trivial⟩, hM, hm, drop_next hj⟩
  rintro a w ⟨rfl, hs, hM⟩
  have hm := hk3
  refine x_nt ?_
  refine wp_seq ?_
  refine wp_region_lit ?_
  refine wl hs (y_assign hs rfl) rfl ?_; intro a hs
  refine wpList_nil ?_
  refine x_nt ?_
  refine wp_ret ?_
  have hm : some true = some r := hm
  obtain rfl := Option.some.inj hm
  refine x_ret1 rfl hs rfl ⟨_, rfl, ?_⟩
  exact ⟨rfl, hM⟩

theorem impl_hasPotentials_any (v_p0 : Value) (p0 : List (List Int)) (v_p1 : Value) (p1 : List Int) (W : World) (hr_p0 : RdM W v_p0 p0) (hr_p1 : RdI W v_p1 p1) {r : Bool} (hm : impl_hasPotentials_m p0 p1 = some r) : Calls Try.prog 79 [v_p0, v_p1].toArray W fun e w => ∃ v, e = .returned v ∧ v = .bool r ∧ Mem W w [] := by
  refine x_enter Try.func79 rfl Try.ntmps79 rfl ?_
  intro a hs
  have hM := Mem.start W
  unfold impl_hasPotentials_m at hm
  refine wp_seq ?_
  refine wp_region_lit ?_
  refine wl hs (y_assign hs rfl) rfl ?_; intro a hs
  refine wpList_nil ?_
  refine x_nt ?_
  refine wp_seq ?_
  refine wp_region_lit ?_
  refine wl hs (y_move hs rfl) rfl ?_; intro a hs
  obtain ⟨y1, h2, hm⟩ := bindE hm
  refine wcall is_66 hs rfl rfl (impl_isSquare_any v_p0 p0 _ (RdM.below hr_p0 hM.bel) h2) ?_; rintro a _ w hs ⟨rfl, hX⟩
  have hM : Mem W w [] := hM.call hX
  refine wl hs (y_move hs rfl) rfl ?_; intro a hs
  obtain ⟨b3, hb4, hm⟩ := bindE hm
  refine wlguard (N := 17) (L' := [(11, .bool b3), (0, v_p0), (1, v_p1), (4, .bool false)]) (fun w => Mem W w []) 4 ?_ ?_
  · intro K; rcases Bool.eq_false_or_eq_true y1 with hg5 | hg5
    · have hm := condT hg5 hb4
      refine wlg hs rfl hg5 (y_move hs rfl) rfl ?_; intro a hs
      refine wlg hs rfl hg5 (y_move hs rfl) rfl ?_; intro a hs
      obtain ⟨y6, h7, hm⟩ := bindE hm
      refine wcallg is_108 hs rfl hg5 rfl rfl (impl_areOnePerVertex_any v_p0 p0 v_p1 p1 _ (RdM.below hr_p0 hM.bel) (RdI.below hr_p1 hM.bel) h7) ?_; rintro a _ w hs ⟨rfl, hX⟩
      have hM : Mem W w [] := hM.call hX
      have hm : some y6 = some b3 := hm
      cases Option.some.inj hm
      refine wl hs (y_pickT hs rfl hg5 rfl) rfl ?_; intro a hs
      exact K _ _ (hs.sub ⟨rfl, rfl, rfl, rfl, trivial⟩) hM
    · have hm := condF hg5 hb4
      refine wls hs rfl hg5 rfl ?_; intro a hs
      refine wls hs rfl hg5 rfl ?_; intro a hs
      refine wls hs rfl hg5 rfl ?_; intro a hs
      have hm : some false = some b3 := hm
      cases Option.some.inj hm
      refine wl hs (y_pickF hs rfl hg5 rfl) rfl ?_; intro a hs
      exact K _ _ (hs.sub ⟨rfl, rfl, rfl, rfl, trivial⟩) hM
  intro a w hs hM
  simp only [List.drop_succ_cons, List.drop_zero]
  refine wl hs (y_move hs rfl) rfl ?_; intro a hs
  obtain ⟨b8, hb9, hm⟩ := bindE hm
  refine wlguard (N := 17) (L' := [(16, .bool b8), (4, .bool false)]) (fun w => Mem W w []) 4 ?_ ?_
  · intro K; rcases Bool.eq_false_or_eq_true b3 with hg10 | hg10
    · have hm := condT hg10 hb9
      refine wlg hs rfl hg10 (y_move hs rfl) rfl ?_; intro a hs
      refine wlg hs rfl hg10 (y_move hs rfl) rfl ?_; intro a hs
      obtain ⟨y11, h12, hm⟩ := bindE hm
      refine wcallg is_109 hs rfl hg10 rfl rfl (impl_arePotentials_any v_p0 p0 v_p1 p1 _ (RdM.below hr_p0 hM.bel) (RdI.below hr_p1 hM.bel) h12) ?_; rintro a _ w hs ⟨rfl, hX⟩
      have hM : Mem W w [] := hM.call hX
      have hm : some y11 = some b8 := hm
      cases Option.some.inj hm
      refine wl hs (y_pickT hs rfl hg10 rfl) rfl ?_; intro a hs
      exact K _ _ (hs.sub ⟨rfl, rfl, trivial⟩) hM
    · have hm := condF hg10 hb9
      refine wls hs rfl hg10 rfl ?_; intro a hs
      refine wls hs rfl hg10 rfl ?_; intro a hs
      refine wls hs rfl hg10 rfl ?_; intro a hs
      have hm : some false = some b8 := hm
      cases Option.some.inj hm
      refine wl hs (y_pickF hs rfl hg10 rfl) rfl ?_; intro a hs
      exact K _ _ (hs.sub ⟨rfl, rfl, trivial⟩) hM
  intro a w hs hM
  simp only [List.drop_succ_cons, List.drop_zero]
  refine wl hs (y_assign hs rfl) rfl ?_; intro a hs
  refine wpList_nil ?_
  refine x_nt ?_
  refine wp_ret ?_
  have hm : some b8 = some r := hm
  obtain rfl := Option.some.inj hm
  refine x_ret1 rfl hs rfl ⟨_, rfl, ?_⟩
  exact ⟨rfl, hM⟩

theorem impl_toldNumbers_1_any (v_p0 : Value) (p0 : List Int) (W : World) (hr_p0 : RdI W v_p0 p0) {r : Bool} (hm : impl_toldNumbers_1_m p0 = some r) : Calls Try.prog 110 [v_p0].toArray W fun e w => ∃ v, e = .returned v ∧ v = .bool r ∧ Mem W w [] := by
  refine x_enter Try.func110 rfl Try.ntmps110 rfl ?_
  intro a hs
  have hM := Mem.start W
  unfold impl_toldNumbers_1_m at hm
  refine wp_seq ?_
  refine wp_region_lit ?_
  refine wl hs (y_assign hs rfl) rfl ?_; intro a hs
  refine wpList_nil ?_
  refine x_nt ?_
  refine wp_seq ?_
  refine wp_region_lit ?_
  refine wl hs (y_move hs rfl) rfl ?_; intro a hs
  obtain ⟨y1, h2, hm⟩ := bindE hm
  refine wcall is_98 hs rfl rfl (impl_areNumbers_any v_p0 p0 _ (RdI.below hr_p0 hM.bel) h2) ?_; rintro a _ w hs ⟨rfl, hX⟩
  have hM : Mem W w [] := hM.call hX
  refine wl hs (y_not hs rfl) rfl ?_; intro a hs
  refine wl hs (y_assign hs rfl) rfl ?_; intro a hs
  refine wpList_nil ?_
  refine x_nt ?_
  refine wp_ret ?_
  have hm : some (!y1) = some r := hm
  obtain rfl := Option.some.inj hm
  refine x_ret1 rfl hs rfl ⟨_, rfl, ?_⟩
  exact ⟨rfl, hM⟩

theorem slices_IndexFunc_int_int_impl_toldNumbers_1_any (v_p0 : Value) (p0 : List (List Int)) (W : World) (hr_p0 : RdM W v_p0 p0) {r : Int} (hm : slices_IndexFunc_int_int_impl_toldNumbers_1_m p0 = some r) : Calls Try.prog 119 [v_p0, .func (.func 110) #[] #[]].toArray W fun e w => ∃ v, e = .returned v ∧ v = .int .i64 r ∧ Mem W w [] := by
  refine x_enter Try.func119 rfl Try.ntmps119 rfl ?_
  intro a hs
  have hM := Mem.start W
  unfold slices_IndexFunc_int_int_impl_toldNumbers_1_m at hm
  refine wp_seq ?_
  refine wp_region_lit ?_
  refine wl hs (y_assign hs rfl) rfl ?_; intro a hs
  refine wpList_nil ?_
  refine x_nt ?_
  refine wp_seq ?_
  refine wp_seq ?_
  refine wp_region_lit ?_
  refine wl hs (y_move hs rfl) rfl ?_; intro a hs
  refine wl hs (y_len hu_M hs rfl (RdM.below hr_p0 hM.bel)) rfl ?_; intro a hs
  refine wl hs (y_move hs rfl) rfl ?_; intro a hs
  refine wpList_nil ?_
  refine x_nt ?_
  obtain ⟨s2, hm, hk3⟩ := bindE hm
  refine x_mid (fun a w => Sum.inr () = s2 ∧ Fr a 19 [] ∧ Mem W w []) ?_ ?_
  · refine wp_block ?_
    refine x_loop (fun k a w => ∃ (q4 : List (List Int)) (j1 : Nat) , k = q4.length ∧ Fr a 19 [(0, v_p0), (1, .func (.func 110) #[] #[]), (7, .int .i64 (p0.length : Int)), (8, .int .i64 (j1 : Int))] ∧ Mem W w [] ∧ slices_IndexFunc_int_int_impl_toldNumbers_1_l1 q4 j1 = some s2 ∧ List.drop j1 p0 = q4) _ ⟨p0, 0, rfl, hs.sub ⟨rfl, rfl, rfl, rfl, trivial⟩, hM, hm, rfl⟩ ?_
    rintro k a w ⟨q4, j1, rfl, hs, hM, hm, hj⟩
    rcases q4 with _ | ⟨x5, q4⟩
    · rewrite [slices_IndexFunc_int_int_impl_toldNumbers_1_l1] at hm
      refine wp_seq ?_
      refine wp_region_lit ?_
      refine wl hs (y_lss hs rfl rfl) rfl ?_; intro a hs
      refine wpList_nil ?_
      refine x_nt ?_
      refine wp_seq ?_
      refine x_condF hs rfl (drop_f hj) ?_
      refine wp_exit ?_
      refine x_et ?_
      refine x_et ?_
      refine x_eb ?_
      have hm : some (Sum.inr ()) = some s2 := hm
      exact ⟨Option.some.inj hm, hs.sub trivial, hM⟩
    · rewrite [slices_IndexFunc_int_int_impl_toldNumbers_1_l1] at hm
      have hx6 := drop_idx hj
      have hjs := ck_succ hj (RdS.len (RdM.below hr_p0 hM.bel))
      refine wp_seq ?_
      refine wp_region_lit ?_
      refine wl hs (y_lss hs rfl rfl) rfl ?_; intro a hs
      refine wpList_nil ?_
      refine x_nt ?_
      refine wp_seq ?_
      refine x_condT hs rfl (drop_t hj) ?_
      refine wp_skip ?_
      refine x_nt ?_
      refine wp_seq ?_
      refine wp_block ?_
      refine wp_seq ?_
      refine wp_region_lit ?_
      refine wl hs (y_move hs rfl) rfl ?_; intro a hs
      refine wl hs (y_assign hs rfl) rfl ?_; intro a hs
      refine wpList_nil ?_
      refine x_nt ?_
      refine wp_seq ?_
      refine wp_region_lit ?_
      refine wl hs (y_move hs rfl) rfl ?_; intro a hs
      refine wl hs (y_move hs rfl) rfl ?_; intro a hs
      refine wl hs (y_move hs rfl) rfl ?_; intro a hs
      obtain ⟨u8, he7, hr9⟩ := RdM.at_ hr_p0 hx6
      replace he7 := he7.below hM.bel
      refine wl hs (y_index ht_M hs rfl rfl he7) rfl ?_; intro a hs
      refine wl hs (y_load sc_I hs rfl he7.cell) rfl ?_; intro a hs
      obtain ⟨y10, h11, hm⟩ := bindE hm
      refine wcallv is_110 hs rfl rfl rfl (impl_toldNumbers_1_any u8 x5 _ (RdI.below hr9 hM.bel) h11) ?_; rintro a _ w hs ⟨rfl, hX⟩
      have hM : Mem W w [] := hM.call hX
      refine wpList_nil ?_
      refine x_nt ?_
      refine x_cond hs rfl (fun hb => ?_) (fun hb => ?_)
      · replace hm := condT hb hm
        refine wp_seq ?_
        refine wp_region_lit ?_
        refine wl hs (y_move hs rfl) rfl ?_; intro a hs
        refine wl hs (y_assign hs rfl) rfl ?_; intro a hs
        refine wpList_nil ?_
        refine x_nt ?_
        refine wp_ret ?_
        refine x_rb ?_
        refine x_rt ?_
        refine x_rt ?_
        refine x_rb ?_
        refine x_rt ?_
        refine x_rt ?_
        have hm : some (Sum.inl (j1 : Int)) = some s2 := hm
        cases Option.some.inj hm
        have hm := hk3
        have hm : some (j1 : Int) = some r := hm
        obtain rfl := Option.some.inj hm
        refine x_ret1 rfl hs rfl ⟨_, rfl, ?_⟩
        exact ⟨rfl, hM⟩
      · replace hm := condF hb hm
        refine wp_skip ?_
        refine x_nb ?_
        refine x_nt ?_
        refine wp_region_lit ?_
        refine wl hs (y_add hs rfl rfl hjs) rfl ?_; intro a hs
        refine wl hs (y_move hs rfl) rfl ?_; intro a hs
        refine wpList_nil ?_
        exact ⟨_, by simp, q4, j1 + 1, rfl, hs.sub ⟨rfl, rfl, rfl, rfl, trivial⟩, hM, hm, drop_next hj⟩
  rintro a w ⟨rfl, hs, hM⟩
  have hm := hk3
  refine x_nt ?_
  refine wp_seq ?_
  refine wp_region_lit ?_
  refine wl hs (y_assign hs rfl) rfl ?_; intro a hs
  refine wpList_nil ?_
  refine x_nt ?_
  refine wp_ret ?_
  have hm : some (-1) = some r := hm
  obtain rfl := Option.some.inj hm
  refine x_ret1 rfl hs rfl ⟨_, rfl, ?_⟩
  exact ⟨rfl, hM⟩

theorem slices_ContainsFunc_int_int_impl_toldNumbers_1_any (v_p0 : Value) (p0 : List (List Int)) (W : World) (hr_p0 : RdM W v_p0 p0) {r : Bool} (hm : slices_ContainsFunc_int_int_impl_toldNumbers_1_m p0 = some r) : Calls Try.prog 96 [v_p0, .func (.func 110) #[] #[]].toArray W fun e w => ∃ v, e = .returned v ∧ v = .bool r ∧ Mem W w [] := by
  refine x_enter Try.func96 rfl Try.ntmps96 rfl ?_
  intro a hs
  have hM := Mem.start W
  unfold slices_ContainsFunc_int_int_impl_toldNumbers_1_m at hm
  refine wp_seq ?_
  refine wp_region_lit ?_
  refine wl hs (y_assign hs rfl) rfl ?_; intro a hs
  refine wpList_nil ?_
  refine x_nt ?_
  refine wp_seq ?_
  refine wp_region_lit ?_
  refine wl hs (y_move hs rfl) rfl ?_; intro a hs
  refine wl hs (y_move hs rfl) rfl ?_; intro a hs
  obtain ⟨y1, h2, hm⟩ := bindE hm
  refine wcall is_119 hs rfl rfl (slices_IndexFunc_int_int_impl_toldNumbers_1_any v_p0 p0 _ (RdM.below hr_p0 hM.bel) h2) ?_; rintro a _ w hs ⟨rfl, hX⟩
  have hM : Mem W w [] := hM.call hX
  refine wl hs (y_geq hs rfl rfl) rfl ?_; intro a hs
  refine wl hs (y_assign hs rfl) rfl ?_; intro a hs
  refine wpList_nil ?_
  refine x_nt ?_
  refine wp_ret ?_
  have hm : some (decide (y1 ≥ 0)) = some r := hm
  obtain rfl := Option.some.inj hm
  refine x_ret1 rfl hs rfl ⟨_, rfl, ?_⟩
  exact ⟨rfl, hM⟩

theorem impl_toldNumbers_any (v_p0 : Value) (p0 : List (List Int)) (W : World) (hr_p0 : RdM W v_p0 p0) {r : Bool × Bool} (hm : impl_toldNumbers_m p0 = some r) : Calls Try.prog 81 [v_p0].toArray W fun e w => ∃ v, e = .returned v ∧ v = .tuple #[cond r.1 v_p0 (.slice none 0 0), .bool r.2] ∧ Mem W w [] := by
  refine x_enter Try.func81 rfl Try.ntmps81 rfl ?_
  intro a hs
  have hM := Mem.start W
  unfold impl_toldNumbers_m at hm
  refine wp_seq ?_
  refine wp_region_lit ?_
  refine wl hs (y_assign hs rfl) rfl ?_; intro a hs
  refine wl hs (y_assign hs rfl) rfl ?_; intro a hs
  refine wpList_nil ?_
  refine x_nt ?_
  refine wp_seq ?_
  refine wp_seq ?_
  refine wp_region_lit ?_
  refine wl hs (y_move hs rfl) rfl ?_; intro a hs
  obtain ⟨y1, h2, hm⟩ := bindE hm
  refine wcall is_96 hs rfl rfl (slices_ContainsFunc_int_int_impl_toldNumbers_1_any v_p0 p0 _ (RdM.below hr_p0 hM.bel) h2) ?_; rintro a _ w hs ⟨rfl, hX⟩
  have hM : Mem W w [] := hM.call hX
  refine wpList_nil ?_
  refine x_nt ?_
  refine x_cond hs rfl (fun hb => ?_) (fun hb => ?_)
  · replace hm := condT hb hm
    refine wp_seq ?_
    refine wp_region_lit ?_
    refine wl hs (y_assign hs rfl) rfl ?_; intro a hs
    refine wl hs (y_assign hs rfl) rfl ?_; intro a hs
    refine wpList_nil ?_
    refine x_nt ?_
    refine wp_ret ?_
    refine x_rt ?_
    have hm : some (false, false) = some r := hm
    obtain rfl := Option.some.inj hm
    refine x_ret2 rfl hs rfl rfl ⟨_, rfl, ?_⟩
    exact ⟨rfl, hM⟩
  · replace hm := condF hb hm
    refine wp_skip ?_
    refine x_nt ?_
    refine wp_seq ?_
    refine wp_region_lit ?_
    refine wl hs (y_move hs rfl) rfl ?_; intro a hs
    refine wl hs (y_assign hs rfl) rfl ?_; intro a hs
    refine wl hs (y_assign hs rfl) rfl ?_; intro a hs
    refine wpList_nil ?_
    refine x_nt ?_
    refine wp_ret ?_
    have hm : some (true, true) = some r := hm
    obtain rfl := Option.some.inj hm
    refine x_ret2 rfl hs rfl rfl ⟨_, rfl, ?_⟩
    exact ⟨rfl, hM⟩

theorem spec_ReducedMatrix_any (v_p0 : Value) (p0 : List (List Int)) (v_p1 : Value) (p1 : List Int) (W : World) (hr_p0 : RdM W v_p0 p0) (hr_p1 : RdI W v_p1 p1) {r : (List (List Int)) × Bool} (hm : spec_ReducedMatrix_m p0 p1 = some r) : Calls Try.prog 36 [v_p0, v_p1].toArray W fun e w => ∃ v, e = .returned v ∧ ∃ v0, ∃ vs0, v = .tuple #[v0, .bool r.2] ∧ Mem W w [aMat 28 3 v0 vs0 r.1] := by
  refine x_enter Try.func36 rfl Try.ntmps36 rfl ?_
  intro a hs
  have hM := Mem.start W
  unfold spec_ReducedMatrix_m at hm
  refine wp_seq ?_
  refine wp_region_lit ?_
  refine wl hs (y_assign hs rfl) rfl ?_; intro a hs
  refine wl hs (y_assign hs rfl) rfl ?_; intro a hs
  refine wpList_nil ?_
  refine x_nt ?_
  refine wp_seq ?_
  refine wp_seq ?_
  refine wp_region_lit ?_
  refine wl hs (y_move hs rfl) rfl ?_; intro a hs
  refine wl hs (y_move hs rfl) rfl ?_; intro a hs
  obtain ⟨y1, h2, hm⟩ := bindE hm
  refine wcall is_75 hs rfl rfl (spec_wyAsked_any v_p0 p0 v_p1 p1 _ (RdM.below hr_p0 hM.bel) (RdI.below hr_p1 hM.bel) h2) ?_; rintro a _ w hs ⟨rfl, hX⟩
  have hM : Mem W w [] := hM.call hX
  refine wl hs (y_not hs rfl) rfl ?_; intro a hs
  refine wl hs (y_move hs rfl) rfl ?_; intro a hs
  obtain ⟨b3, hb4, hm⟩ := bindE hm
  refine wlguard (N := 60) (L' := [(21, .bool b3), (0, v_p0), (1, v_p1)]) (fun w => Mem W w []) 5 ?_ ?_
  · intro K; rcases Bool.eq_false_or_eq_true (!y1) with hg5 | hg5
    · have hm := condT hg5 hb4
      refine wls hs rfl hg5 rfl ?_; intro a hs
      refine wls hs rfl hg5 rfl ?_; intro a hs
      refine wls hs rfl hg5 rfl ?_; intro a hs
      refine wls hs rfl hg5 rfl ?_; intro a hs
      have hm : some true = some b3 := hm
      cases Option.some.inj hm
      refine wl hs (y_pickT hs rfl hg5 rfl) rfl ?_; intro a hs
      exact K _ _ (hs.sub ⟨rfl, rfl, rfl, trivial⟩) hM
    · have hm := condF hg5 hb4
      refine wlg hs rfl hg5 (y_move hs rfl) rfl ?_; intro a hs
      refine wlg hs rfl hg5 (y_move hs rfl) rfl ?_; intro a hs
      obtain ⟨y6, h7, hm⟩ := bindE hm
      refine wcallg is_76 hs rfl hg5 rfl rfl (spec_wyPotentials_any v_p0 p0 v_p1 p1 _ (RdM.below hr_p0 hM.bel) (RdI.below hr_p1 hM.bel) h7) ?_; rintro a _ w hs ⟨rfl, hX⟩
      have hM : Mem W w [] := hM.call hX
      refine wlg hs rfl hg5 (y_not hs rfl) rfl ?_; intro a hs
      have hm : some (!y6) = some b3 := hm
      cases Option.some.inj hm
      refine wl hs (y_pickF hs rfl hg5 rfl) rfl ?_; intro a hs
      exact K _ _ (hs.sub ⟨rfl, rfl, rfl, trivial⟩) hM
  intro a w hs hM
  simp only [List.drop_succ_cons, List.drop_zero]
  refine wpList_nil ?_
  refine x_nt ?_
  refine x_cond hs rfl (fun hb => ?_) (fun hb => ?_)
  · replace hm := condT hb hm
    refine wp_seq ?_
    refine wp_region_lit ?_
    refine wl hs (y_assign hs rfl) rfl ?_; intro a hs
    refine wl hs (y_assign hs rfl) rfl ?_; intro a hs
    refine wpList_nil ?_
    refine x_nt ?_
    refine wp_ret ?_
    refine x_rt ?_
    have hm : some ([], false) = some r := hm
    obtain rfl := Option.some.inj hm
    refine x_ret2 rfl hs rfl rfl ⟨_, rfl, ?_⟩
    have hM := hM.nilM 28 3
    exact ⟨_, _, rfl, hM⟩
  · replace hm := condF hb hm
    refine wp_skip ?_
    refine x_nt ?_
    refine wp_seq ?_
    refine wp_region_lit ?_
    refine wl hs (y_assign hs rfl) rfl ?_; intro a hs
    have hM := hM.nilM 28 3
    refine wpList_nil ?_
    refine x_nt ?_
    refine wp_seq ?_
    refine wp_seq ?_
    refine wp_region_lit ?_
    refine wl hs (y_move hs rfl) rfl ?_; intro a hs
    refine wl hs (y_len hu_M hs rfl (RdM.below hr_p0 hM.bel)) rfl ?_; intro a hs
    refine wl hs (y_move hs rfl) rfl ?_; intro a hs
    refine wpList_nil ?_
    refine x_nt ?_
    obtain ⟨s17, hm, hk18⟩ := bindE hm
    refine x_mid (fun a w => ∃ (v14 : Value), ∃ (vs15 : List Value), ∃ (l16 : List (List Int)), l16 = s17 ∧ Fr a 60 [(6, v14)] ∧ Mem W w [aMat 28 3 v14 vs15 l16]) ?_ ?_
    · refine wp_block ?_
      refine x_loop (fun k a w => ∃ (q19 : List (List Int)) (j13 : Nat) (v10 : Value) (vs11 : List Value) (l12 : List (List Int)) , k = q19.length ∧ Fr a 60 [(1, v_p1), (6, v10), (22, v_p0), (23, .int .i64 (p0.length : Int)), (24, .int .i64 (j13 : Int))] ∧ Mem W w [aMat 28 3 v10 vs11 l12] ∧ spec_ReducedMatrix_l1 p1 q19 j13 l12 = some s17 ∧ List.drop j13 p0 = q19) _ ⟨p0, 0, (.slice none 0 0), [], [], rfl, hs.sub ⟨rfl, rfl, rfl, rfl, rfl, trivial⟩, hM, hm, rfl⟩ ?_
      rintro k a w ⟨q19, j13, v10, vs11, l12, rfl, hs, hM, hm, hj⟩
      rcases q19 with _ | ⟨x20, q19⟩
      · rewrite [spec_ReducedMatrix_l1] at hm
        refine wp_seq ?_
        refine wp_region_lit ?_
        refine wl hs (y_lss hs rfl rfl) rfl ?_; intro a hs
        refine wpList_nil ?_
        refine x_nt ?_
        refine wp_seq ?_
        refine x_condF hs rfl (drop_f hj) ?_
        refine wp_exit ?_
        refine x_et ?_
        refine x_et ?_
        refine x_eb ?_
        have hm : some l12 = some s17 := hm
        exact ⟨v10, vs11, l12, Option.some.inj hm, hs.sub ⟨rfl, trivial⟩, hM⟩
      · rewrite [spec_ReducedMatrix_l1] at hm
        have hx21 := drop_idx hj
        have hjs := ck_succ hj (RdS.len (RdM.below hr_p0 hM.bel))
        refine wp_seq ?_
        refine wp_region_lit ?_
        refine wl hs (y_lss hs rfl rfl) rfl ?_; intro a hs
        refine wpList_nil ?_
        refine x_nt ?_
        refine wp_seq ?_
        refine x_condT hs rfl (drop_t hj) ?_
        refine wp_skip ?_
        refine x_nt ?_
        refine wp_seq ?_
        refine wp_block ?_
        refine wp_seq ?_
        refine wp_region_lit ?_
        refine wl hs (y_move hs rfl) rfl ?_; intro a hs
        obtain ⟨u23, he22, hr24⟩ := RdM.at_ hr_p0 hx21
        replace he22 := he22.below hM.bel
        refine wl hs (y_index ht_M hs rfl rfl he22) rfl ?_; intro a hs
        refine wl hs (y_load sc_I hs rfl he22.cell) rfl ?_; intro a hs
        refine wl hs (y_assign hs rfl) rfl ?_; intro a hs
        refine wl hs (y_assign hs rfl) rfl ?_; intro a hs
        refine wpList_nil ?_
        refine x_nt ?_
        refine wp_seq ?_
        refine wp_region_lit ?_
        refine wl hs (y_assign hs rfl) rfl ?_; intro a hs
        have hM := hM.nilI 3
        refine wpList_nil ?_
        refine x_nt ?_
        refine wp_seq ?_
        refine wp_seq ?_
        refine wp_region_lit ?_
        refine wl hs (y_move hs rfl) rfl ?_; intro a hs
        refine wl hs (y_len hu_I hs rfl (RdI.below hr24 hM.bel)) rfl ?_; intro a hs
        refine wl hs (y_move hs rfl) rfl ?_; intro a hs
        refine wpList_nil ?_
        refine x_nt ?_
        obtain ⟨s31, hm, hk32⟩ := bindE hm
        refine x_mid (fun a w => ∃ (v29 : Value), ∃ (l30 : List Int), l30 = s31 ∧ Fr a 60 [(1, v_p1), (6, v10), (9, v29), (22, v_p0), (23, .int .i64 (p0.length : Int)), (24, .int .i64 (j13 : Int))] ∧ Mem W w [aInts 3 v29 l30, aMat 28 3 v10 vs11 l12]) ?_ ?_
        · refine wp_block ?_
          refine x_loop (fun k a w => ∃ (q33 : List Int) (j28 : Nat) (v26 : Value) (l27 : List Int) , k = q33.length ∧ Fr a 60 [(1, v_p1), (6, v10), (7, .int .i64 (j13 : Int)), (9, v26), (22, v_p0), (23, .int .i64 (p0.length : Int)), (24, .int .i64 (j13 : Int)), (29, u23), (30, .int .i64 (x20.length : Int)), (31, .int .i64 (j28 : Int))] ∧ Mem W w [aInts 3 v26 l27, aMat 28 3 v10 vs11 l12] ∧ spec_ReducedMatrix_l2 p1 j13 q33 j28 l27 = some s31 ∧ List.drop j28 x20 = q33) _ ⟨x20, 0, (.slice none 0 0), [], rfl, hs.sub ⟨rfl, rfl, rfl, rfl, rfl, rfl, rfl, rfl, rfl, rfl, trivial⟩, hM, hm, rfl⟩ ?_
          rintro k a w ⟨q33, j28, v26, l27, rfl, hs, hM, hm, hj⟩
          rcases q33 with _ | ⟨x34, q33⟩
          · rewrite [spec_ReducedMatrix_l2] at hm
            refine wp_seq ?_
            refine wp_region_lit ?_
            refine wl hs (y_lss hs rfl rfl) rfl ?_; intro a hs
            refine wpList_nil ?_
            refine x_nt ?_
            refine wp_seq ?_
            refine x_condF hs rfl (drop_f hj) ?_
            refine wp_exit ?_
            refine x_et ?_
            refine x_et ?_
            refine x_eb ?_
            have hm : some l27 = some s31 := hm
            exact ⟨v26, l27, Option.some.inj hm, hs.sub ⟨rfl, rfl, rfl, rfl, rfl, rfl, trivial⟩, hM⟩
          · rewrite [spec_ReducedMatrix_l2] at hm
            have hx35 := drop_idx hj
            have hjs := ck_succ hj (RdS.len (RdI.below hr24 hM.bel))
            refine wp_seq ?_
            refine wp_region_lit ?_
            refine wl hs (y_lss hs rfl rfl) rfl ?_; intro a hs
            refine wpList_nil ?_
            refine x_nt ?_
            refine wp_seq ?_
            refine x_condT hs rfl (drop_t hj) ?_
            refine wp_skip ?_
            refine x_nt ?_
            refine wp_seq ?_
            refine wp_block ?_
            refine wp_seq ?_
            refine wp_region_lit ?_
            refine wl hs (y_move hs rfl) rfl ?_; intro a hs
            have he36 := RdI.at_ (RdI.below hr24 hM.bel) hx35
            refine wl hs (y_index ht_I hs rfl rfl he36) rfl ?_; intro a hs
            refine wl hs (y_load sc_int hs rfl he36.cell) rfl ?_; intro a hs
            refine wl hs (y_assign hs rfl) rfl ?_; intro a hs
            refine wl hs (y_assign hs rfl) rfl ?_; intro a hs
            refine wpList_nil ?_
            refine x_nt ?_
            refine wc_start hmix [0, 1, 2, 3, 4, 5, 6, 7, 8, 9, 10, 11] (fun w => Mem W w [aInts 3 v26 l27, aMat 28 3 v10 vs11 l12]) (by rfl) ?_
            refine wc (i := 0) (fuel := 14) rfl (by kernel_rfl) (fun w w2 hS hE => hS.quiet hE) hM hs (fun w1 hS => y_move hs rfl) rfl ?_; intro a hs
            refine wc (i := 1) (fuel := 13) rfl (by kernel_rfl) (fun w w2 hS hE => hS.quiet hE) hM hs (fun w1 hS => y_move hs rfl) rfl ?_; intro a hs
            refine wc (i := 2) (fuel := 12) rfl (by kernel_rfl) (fun w w2 hS hE => hS.quiet hE) hM hs (fun w1 hS => y_move hs rfl) rfl ?_; intro a hs
            refine wc (i := 3) (fuel := 11) rfl (by kernel_rfl) (fun w w2 hS hE => hS.quiet hE) hM hs (fun w1 hS => y_move hs rfl) rfl ?_; intro a hs
            obtain ⟨x37, hx38, hm⟩ := bindE hm
            have he39 := fun (w1 : World) (hS : Mem W w1 [aInts 3 v26 l27, aMat 28 3 v10 vs11 l12]) => RdI.at_ (RdI.below hr_p1 hS.bel) hx38
            refine wc (i := 4) (fuel := 10) rfl (by kernel_rfl) (fun w w2 hS hE => hS.quiet hE) hM hs (fun w1 hS => y_index ht_I hs rfl rfl (he39 w1 hS)) rfl ?_; intro a hs
            refine wc (i := 5) (fuel := 9) rfl (by kernel_rfl) (fun w w2 hS hE => hS.quiet hE) hM hs (fun w1 hS => y_load sc_int hs rfl (he39 w1 hS).cell) rfl ?_; intro a hs
            refine wc (i := 6) (fuel := 8) rfl (by kernel_rfl) (fun w w2 hS hE => hS.quiet hE) hM hs (fun w1 hS => y_move hs rfl) rfl ?_; intro a hs
            refine wc (i := 7) (fuel := 7) rfl (by kernel_rfl) (fun w w2 hS hE => hS.quiet hE) hM hs (fun w1 hS => y_move hs rfl) rfl ?_; intro a hs
            obtain ⟨x40, hx41, hm⟩ := bindE hm
            have he42 := fun (w1 : World) (hS : Mem W w1 [aInts 3 v26 l27, aMat 28 3 v10 vs11 l12]) => RdI.at_ (RdI.below hr_p1 hS.bel) hx41
            refine wc (i := 8) (fuel := 6) rfl (by kernel_rfl) (fun w w2 hS hE => hS.quiet hE) hM hs (fun w1 hS => y_index ht_I hs rfl rfl (he42 w1 hS)) rfl ?_; intro a hs
            refine wc (i := 9) (fuel := 5) rfl (by kernel_rfl) (fun w w2 hS hE => hS.quiet hE) hM hs (fun w1 hS => y_load sc_int hs rfl (he42 w1 hS).cell) rfl ?_; intro a hs
            obtain ⟨n43, h44, hm⟩ := bindE hm
            refine wc (i := 10) (fuel := 4) rfl (by kernel_rfl) (fun w w2 hS hE => hS.quiet hE) hM hs (fun w1 hS => y_sub hs rfl rfl h44) rfl ?_; intro a hs
            obtain ⟨y45, h46, hm⟩ := bindE hm
            refine ccall (i := 11) (fuel := 3) rfl (by kernel_rfl) (fun w w2 hS hE => hS.quiet hE) hM (v := .int .i64 y45) is_77 hs rfl rfl (fun w1 hS => cx_of (spec_nuPlus_any x34 n43 w1  h46)) ?_; intro a hs
            refine wc_oneS (fuel := 2) 12 rfl (by kernel_rfl) ?_
            intro w hw
            replace hM := hM.quiet hw
            refine wmem hs (x_new1I hu_I he_int hs rfl hM) rfl ?_; intro a v48 w hs hM
            have hM : Mem W w [aInts 3 v48 ([y45]), aInts 3 v26 l27, aMat 28 3 v10 vs11 l12] := hM
            refine on_nil ⟨hM.drop, ?_⟩
            refine wc_one (fuel := 1) 13 rfl (by kernel_rfl) ?_
            intro w hw
            replace hM := hM.quiet hw
            obtain ⟨l49, h50, hm⟩ := bindE hm
            refine wmem hs (x_appS hu_I he_int hs rfl (hM.front 1 rfl) (hM.rdI 0 rfl) h50) rfl ?_; intro a v51 w hs hM
            have hM : Mem W w [aInts 3 v51 l49, aInts 3 v48 ([y45]), aMat 28 3 v10 vs11 l12] := hM
            refine on_nil ?_
            refine wc_one (fuel := 0) 14 rfl (by kernel_rfl) ?_
            intro w hw
            replace hM := hM.quiet hw
            refine wl hs (y_assign hs rfl) rfl ?_; intro a hs
            refine on_nil ?_
            refine wc_done (by kernel_rfl) ?_
            intro w hw
            replace hM := hM.quiet hw
            refine x_nb ?_
            refine x_nt ?_
            refine wp_region_lit ?_
            refine wl hs (y_add hs rfl rfl hjs) rfl ?_; intro a hs
            refine wl hs (y_move hs rfl) rfl ?_; intro a hs
            refine wpList_nil ?_
            exact ⟨_, by simp, q33, j28 + 1, v51, l49, rfl, hs.sub ⟨rfl, rfl, rfl, rfl, rfl, rfl, rfl, rfl, rfl, rfl, trivial⟩, (hM.front 1 rfl).drop, hm, drop_next hj⟩
        rintro a w ⟨v29, l30, rfl, hs, hM⟩
        have hm := hk32
        refine x_nt ?_
        refine wp_region_lit ?_
        refine wl hs (y_move hs rfl) rfl ?_; intro a hs
        refine wl hs (y_move hs rfl) rfl ?_; intro a hs
        obtain ⟨l52, h53, hm⟩ := bindE hm
        refine wappM hu_M he_I hs (hM.front 1 rfl) rfl rfl h53 rfl rfl rfl ?_; intro a v54 w u55 hs hM
        have hM : Mem W w [aMat 28 3 v54 (vs11 ++ [v29]) l52] := hM
        refine wl hs (y_assign hs rfl) rfl ?_; intro a hs
        refine wpList_nil ?_
        refine x_nb ?_
        refine x_nt ?_
        refine wp_region_lit ?_
        refine wl hs (y_add hs rfl rfl hjs) rfl ?_; intro a hs
        refine wl hs (y_move hs rfl) rfl ?_; intro a hs
        refine wpList_nil ?_
        exact ⟨_, by simp, q19, j13 + 1, v54, (vs11 ++ [v29]), l52, rfl, hs.sub ⟨rfl, rfl, rfl, rfl, rfl, trivial⟩, hM, hm, drop_next hj⟩
    rintro a w ⟨v14, vs15, l16, rfl, hs, hM⟩
    have hm := hk18
    refine x_nt ?_
    refine wp_seq ?_
    refine wp_seq ?_
    refine wp_region_lit ?_
    refine wl hs (y_move hs rfl) rfl ?_; intro a hs
    obtain ⟨y56, h57, hm⟩ := bindE hm
    refine wcall is_78 hs rfl rfl (spec_wyGood_any v14 l16 _ (hM.rdM 0 rfl) h57) ?_; rintro a _ w hs ⟨rfl, hX⟩
    have hM : Mem W w [aMat 28 3 v14 vs15 l16] := hM.call hX
    refine wl hs (y_not hs rfl) rfl ?_; intro a hs
    refine wpList_nil ?_
    refine x_nt ?_
    refine x_cond hs rfl (fun hb => ?_) (fun hb => ?_)
    · replace hm := condT hb hm
      refine wp_seq ?_
      refine wp_region_lit ?_
      refine wl hs (y_assign hs rfl) rfl ?_; intro a hs
      refine wl hs (y_assign hs rfl) rfl ?_; intro a hs
      refine wpList_nil ?_
      refine x_nt ?_
      refine wp_ret ?_
      refine x_rt ?_
      have hm : some ([], false) = some r := hm
      obtain rfl := Option.some.inj hm
      refine x_ret2 rfl hs rfl rfl ⟨_, rfl, ?_⟩
      have hM := hM.nilM 28 3
      exact ⟨_, _, rfl, (hM.keep_ 1)⟩
    · replace hm := condF hb hm
      refine wp_skip ?_
      refine x_nt ?_
      refine wp_seq ?_
      refine wp_region_lit ?_
      refine wl hs (y_move hs rfl) rfl ?_; intro a hs
      refine wl hs (y_assign hs rfl) rfl ?_; intro a hs
      refine wl hs (y_assign hs rfl) rfl ?_; intro a hs
      refine wpList_nil ?_
      refine x_nt ?_
      refine wp_ret ?_
      have hm : some (l16, true) = some r := hm
      obtain rfl := Option.some.inj hm
      refine x_ret2 rfl hs rfl rfl ⟨_, rfl, ?_⟩
      exact ⟨_, _, rfl, hM⟩

theorem impl_ReducedMatrix_any (v_p0 : Value) (p0 : List (List Int)) (v_p1 : Value) (p1 : List Int) (W : World) (hr_p0 : RdM W v_p0 p0) (hr_p1 : RdI W v_p1 p1) {r : (List (List Int)) × Bool} (hm : impl_ReducedMatrix_m p0 p1 = some r) : Calls Try.prog 37 [v_p0, v_p1].toArray W fun e w => ∃ v, e = .returned v ∧ ∃ v0, ∃ vs0, v = .tuple #[v0, .bool r.2] ∧ Mem W w [aMat 28 3 v0 vs0 r.1] := by
  refine x_enter Try.func37 rfl Try.ntmps37 rfl ?_
  intro a hs
  have hM := Mem.start W
  unfold impl_ReducedMatrix_m at hm
  refine wp_seq ?_
  refine wp_region_lit ?_
  refine wl hs (y_assign hs rfl) rfl ?_; intro a hs
  refine wl hs (y_assign hs rfl) rfl ?_; intro a hs
  refine wpList_nil ?_
  refine x_nt ?_
  refine wp_seq ?_
  refine wp_seq ?_
  refine wp_region_lit ?_
  refine wl hs (y_move hs rfl) rfl ?_; intro a hs
  refine wl hs (y_move hs rfl) rfl ?_; intro a hs
  obtain ⟨y1, h2, hm⟩ := bindE hm
  refine wcall is_79 hs rfl rfl (impl_hasPotentials_any v_p0 p0 v_p1 p1 _ (RdM.below hr_p0 hM.bel) (RdI.below hr_p1 hM.bel) h2) ?_; rintro a _ w hs ⟨rfl, hX⟩
  have hM : Mem W w [] := hM.call hX
  refine wl hs (y_not hs rfl) rfl ?_; intro a hs
  refine wpList_nil ?_
  refine x_nt ?_
  refine x_cond hs rfl (fun hb => ?_) (fun hb => ?_)
  · replace hm := condT hb hm
    refine wp_seq ?_
    refine wp_region_lit ?_
    refine wl hs (y_assign hs rfl) rfl ?_; intro a hs
    refine wl hs (y_assign hs rfl) rfl ?_; intro a hs
    refine wpList_nil ?_
    refine x_nt ?_
    refine wp_ret ?_
    refine x_rt ?_
    have hm : some ([], false) = some r := hm
    obtain rfl := Option.some.inj hm
    refine x_ret2 rfl hs rfl rfl ⟨_, rfl, ?_⟩
    have hM := hM.nilM 28 3
    exact ⟨_, _, rfl, hM⟩
  · replace hm := condF hb hm
    refine wp_skip ?_
    refine x_nt ?_
    refine wp_seq ?_
    refine wp_region_lit ?_
    refine wl hs (y_move hs rfl) rfl ?_; intro a hs
    obtain ⟨y4, h5, hm⟩ := bindE hm
    refine wcall is_53 hs rfl rfl (impl_clones_any v_p0 p0 _ (RdM.below hr_p0 hM.bel) h5) ?_; rintro a v6 w hs ⟨vs8, hX⟩
    have hM : Mem W w [aMat 28 3 v6 vs8 y4] := hM.call hX
    refine wl hs (y_assign hs rfl) rfl ?_; intro a hs
    refine wpList_nil ?_
    refine x_nt ?_
    refine wp_seq ?_
    refine wp_seq ?_
    refine wp_region_lit ?_
    refine wl hs (y_move hs rfl) rfl ?_; intro a hs
    refine wl hs (y_len hu_M hs rfl (RdM.below hr_p0 hM.bel)) rfl ?_; intro a hs
    refine wl hs (y_move hs rfl) rfl ?_; intro a hs
    refine wpList_nil ?_
    refine x_nt ?_
    obtain ⟨s12, hm, hk13⟩ := bindE hm
    refine x_mid (fun a w => ∃ (l11 : List (List Int)), l11 = s12 ∧ Fr a 54 [(6, v6)] ∧ Mem W w [aMat 28 3 v6 vs8 l11]) ?_ ?_
    · refine wp_block ?_
      refine x_loop (fun k a w => ∃ (q14 : List (List Int)) (j10 : Nat) (l9 : List (List Int)) , k = q14.length ∧ Fr a 54 [(1, v_p1), (6, v6), (17, v_p0), (18, .int .i64 (p0.length : Int)), (19, .int .i64 (j10 : Int))] ∧ Mem W w [aMat 28 3 v6 vs8 l9] ∧ impl_ReducedMatrix_l1 p1 q14 j10 l9 = some s12 ∧ List.drop j10 p0 = q14) _ ⟨p0, 0, y4, rfl, hs.sub ⟨rfl, rfl, rfl, rfl, rfl, trivial⟩, hM, hm, rfl⟩ ?_
      rintro k a w ⟨q14, j10, l9, rfl, hs, hM, hm, hj⟩
      rcases q14 with _ | ⟨x15, q14⟩
      · rewrite [impl_ReducedMatrix_l1] at hm
        refine wp_seq ?_
        refine wp_region_lit ?_
        refine wl hs (y_lss hs rfl rfl) rfl ?_; intro a hs
        refine wpList_nil ?_
        refine x_nt ?_
        refine wp_seq ?_
        refine x_condF hs rfl (drop_f hj) ?_
        refine wp_exit ?_
        refine x_et ?_
        refine x_et ?_
        refine x_eb ?_
        have hm : some l9 = some s12 := hm
        exact ⟨l9, Option.some.inj hm, hs.sub ⟨rfl, trivial⟩, hM⟩
      · rewrite [impl_ReducedMatrix_l1] at hm
        have hx16 := drop_idx hj
        have hjs := ck_succ hj (RdS.len (RdM.below hr_p0 hM.bel))
        refine wp_seq ?_
        refine wp_region_lit ?_
        refine wl hs (y_lss hs rfl rfl) rfl ?_; intro a hs
        refine wpList_nil ?_
        refine x_nt ?_
        refine wp_seq ?_
        refine x_condT hs rfl (drop_t hj) ?_
        refine wp_skip ?_
        refine x_nt ?_
        refine wp_seq ?_
        refine wp_block ?_
        refine wp_seq ?_
        refine wp_region_lit ?_
        refine wl hs (y_move hs rfl) rfl ?_; intro a hs
        obtain ⟨u18, he17, hr19⟩ := RdM.at_ hr_p0 hx16
        replace he17 := he17.below hM.bel
        refine wl hs (y_index ht_M hs rfl rfl he17) rfl ?_; intro a hs
        refine wl hs (y_load sc_I hs rfl he17.cell) rfl ?_; intro a hs
        refine wl hs (y_assign hs rfl) rfl ?_; intro a hs
        refine wl hs (y_assign hs rfl) rfl ?_; intro a hs
        refine wpList_nil ?_
        refine x_nt ?_
        refine wp_seq ?_
        refine wp_region_lit ?_
        refine wl hs (y_move hs rfl) rfl ?_; intro a hs
        refine wl hs (y_len hu_I hs rfl (RdI.below hr19 hM.bel)) rfl ?_; intro a hs
        refine wl hs (y_move hs rfl) rfl ?_; intro a hs
        refine wpList_nil ?_
        refine x_nt ?_
        obtain ⟨s23, hm, hk24⟩ := bindE hm
        refine x_mid (fun a w => ∃ (l22 : List (List Int)), l22 = s23 ∧ Fr a 54 [(1, v_p1), (6, v6), (17, v_p0), (18, .int .i64 (p0.length : Int)), (19, .int .i64 (j10 : Int))] ∧ Mem W w [aMat 28 3 v6 vs8 l22]) ?_ ?_
        · refine wp_block ?_
          refine x_loop (fun k a w => ∃ (q25 : List Int) (j21 : Nat) (l20 : List (List Int)) , k = q25.length ∧ Fr a 54 [(1, v_p1), (6, v6), (7, .int .i64 (j10 : Int)), (17, v_p0), (18, .int .i64 (p0.length : Int)), (19, .int .i64 (j10 : Int)), (24, u18), (25, .int .i64 (x15.length : Int)), (26, .int .i64 (j21 : Int))] ∧ Mem W w [aMat 28 3 v6 vs8 l20] ∧ impl_ReducedMatrix_l2 p1 j10 q25 j21 l20 = some s23 ∧ List.drop j21 x15 = q25) _ ⟨x15, 0, l9, rfl, hs.sub ⟨rfl, rfl, rfl, rfl, rfl, rfl, rfl, rfl, rfl, trivial⟩, hM, hm, rfl⟩ ?_
          rintro k a w ⟨q25, j21, l20, rfl, hs, hM, hm, hj⟩
          rcases q25 with _ | ⟨x26, q25⟩
          · rewrite [impl_ReducedMatrix_l2] at hm
            refine wp_seq ?_
            refine wp_region_lit ?_
            refine wl hs (y_lss hs rfl rfl) rfl ?_; intro a hs
            refine wpList_nil ?_
            refine x_nt ?_
            refine wp_seq ?_
            refine x_condF hs rfl (drop_f hj) ?_
            refine wp_exit ?_
            refine x_et ?_
            refine x_et ?_
            refine x_eb ?_
            have hm : some l20 = some s23 := hm
            exact ⟨l20, Option.some.inj hm, hs.sub ⟨rfl, rfl, rfl, rfl, rfl, trivial⟩, hM⟩
          · rewrite [impl_ReducedMatrix_l2] at hm
            have hx27 := drop_idx hj
            have hjs := ck_succ hj (RdS.len (RdI.below hr19 hM.bel))
            refine wp_seq ?_
            refine wp_region_lit ?_
            refine wl hs (y_lss hs rfl rfl) rfl ?_; intro a hs
            refine wpList_nil ?_
            refine x_nt ?_
            refine wp_seq ?_
            refine x_condT hs rfl (drop_t hj) ?_
            refine wp_skip ?_
            refine x_nt ?_
            refine wp_seq ?_
            refine wp_block ?_
            refine wp_seq ?_
            refine wp_region_lit ?_
            refine wl hs (y_move hs rfl) rfl ?_; intro a hs
            have he28 := RdI.at_ (RdI.below hr19 hM.bel) hx27
            refine wl hs (y_index ht_I hs rfl rfl he28) rfl ?_; intro a hs
            refine wl hs (y_load sc_int hs rfl he28.cell) rfl ?_; intro a hs
            refine wl hs (y_assign hs rfl) rfl ?_; intro a hs
            refine wl hs (y_assign hs rfl) rfl ?_; intro a hs
            refine wpList_nil ?_
            refine x_nt ?_
            refine wc_start hmix [0, 1, 2, 3, 4, 5, 6, 7, 8, 9, 10, 11, 12, 13, 14, 15, 16] (fun w => Mem W w [aMat 28 3 v6 vs8 l20]) (by rfl) ?_
            refine wc (i := 0) (fuel := 17) rfl (by kernel_rfl) (fun w w2 hS hE => hS.quiet hE) hM hs (fun w1 hS => y_move hs rfl) rfl ?_; intro a hs
            refine wc (i := 1) (fuel := 16) rfl (by kernel_rfl) (fun w w2 hS hE => hS.quiet hE) hM hs (fun w1 hS => y_move hs rfl) rfl ?_; intro a hs
            obtain ⟨x29, hx30, hm⟩ := bindE hm
            obtain ⟨u32, hv33, he31⟩ := hM.atM 0 rfl hx30
            have he34 := fun (w1 : World) (hS : Mem W w1 [aMat 28 3 v6 vs8 l20]) => hS.atMv 0 rfl hx30 hv33
            refine wc (i := 2) (fuel := 15) rfl (by kernel_rfl) (fun w w2 hS hE => hS.quiet hE) hM hs (fun w1 hS => y_index ht_M hs rfl rfl (he34 w1 hS)) rfl ?_; intro a hs
            refine wc (i := 3) (fuel := 14) rfl (by kernel_rfl) (fun w w2 hS hE => hS.quiet hE) hM hs (fun w1 hS => y_load sc_I hs rfl (he34 w1 hS).cell) rfl ?_; intro a hs
            refine wc (i := 4) (fuel := 13) rfl (by kernel_rfl) (fun w w2 hS hE => hS.quiet hE) hM hs (fun w1 hS => y_move hs rfl) rfl ?_; intro a hs
            refine wc (i := 5) (fuel := 12) rfl (by kernel_rfl) (fun w w2 hS hE => hS.quiet hE) hM hs (fun w1 hS => y_move hs rfl) rfl ?_; intro a hs
            refine wc (i := 6) (fuel := 11) rfl (by kernel_rfl) (fun w w2 hS hE => hS.quiet hE) hM hs (fun w1 hS => y_move hs rfl) rfl ?_; intro a hs
            refine wc (i := 7) (fuel := 10) rfl (by kernel_rfl) (fun w w2 hS hE => hS.quiet hE) hM hs (fun w1 hS => y_move hs rfl) rfl ?_; intro a hs
            obtain ⟨x35, hx36, hm⟩ := bindE hm
            have he37 := fun (w1 : World) (hS : Mem W w1 [aMat 28 3 v6 vs8 l20]) => RdI.at_ (RdI.below hr_p1 hS.bel) hx36
            refine wc (i := 8) (fuel := 9) rfl (by kernel_rfl) (fun w w2 hS hE => hS.quiet hE) hM hs (fun w1 hS => y_index ht_I hs rfl rfl (he37 w1 hS)) rfl ?_; intro a hs
            refine wc (i := 9) (fuel := 8) rfl (by kernel_rfl) (fun w w2 hS hE => hS.quiet hE) hM hs (fun w1 hS => y_load sc_int hs rfl (he37 w1 hS).cell) rfl ?_; intro a hs
            refine wc (i := 10) (fuel := 7) rfl (by kernel_rfl) (fun w w2 hS hE => hS.quiet hE) hM hs (fun w1 hS => y_move hs rfl) rfl ?_; intro a hs
            refine wc (i := 11) (fuel := 6) rfl (by kernel_rfl) (fun w w2 hS hE => hS.quiet hE) hM hs (fun w1 hS => y_move hs rfl) rfl ?_; intro a hs
            obtain ⟨x38, hx39, hm⟩ := bindE hm
            have he40 := fun (w1 : World) (hS : Mem W w1 [aMat 28 3 v6 vs8 l20]) => RdI.at_ (RdI.below hr_p1 hS.bel) hx39
            refine wc (i := 12) (fuel := 5) rfl (by kernel_rfl) (fun w w2 hS hE => hS.quiet hE) hM hs (fun w1 hS => y_index ht_I hs rfl rfl (he40 w1 hS)) rfl ?_; intro a hs
            refine wc (i := 13) (fuel := 4) rfl (by kernel_rfl) (fun w w2 hS hE => hS.quiet hE) hM hs (fun w1 hS => y_load sc_int hs rfl (he40 w1 hS).cell) rfl ?_; intro a hs
            obtain ⟨n41, h42, hm⟩ := bindE hm
            refine wc (i := 14) (fuel := 3) rfl (by kernel_rfl) (fun w w2 hS hE => hS.quiet hE) hM hs (fun w1 hS => y_sub hs rfl rfl h42) rfl ?_; intro a hs
            obtain ⟨y43, h44, hm⟩ := bindE hm
            refine ccall (i := 15) (fuel := 2) rfl (by kernel_rfl) (fun w w2 hS hE => hS.quiet hE) hM (v := .int .i64 y43) is_80 hs rfl rfl (fun w1 hS => cx_of (impl_product_any x26 n41 w1  h44)) ?_; intro a hs
            obtain ⟨x45, hx46, hm⟩ := bindE hm
            have he47 := fun (w1 : World) (hS : Mem W w1 [aMat 28 3 v6 vs8 l20]) => RdI.at_ (hS.rdRow 0 rfl rfl hv33 (idx_spec hx30).2.2) hx46
            refine wc (i := 16) (fuel := 1) rfl (by kernel_rfl) (fun w w2 hS hE => hS.quiet hE) hM hs (fun w1 hS => y_index ht_I hs rfl rfl (he47 w1 hS)) rfl ?_; intro a hs
            refine wc_one (fuel := 0) 17 rfl (by kernel_rfl) ?_
            intro w hw
            replace hM := hM.quiet hw
            obtain ⟨l48, h49, hm⟩ := bindE hm
            refine wstore hs rfl rfl (x_storeM he_int (hM.front 0 rfl) hv33 ((idx_spec hx30).2.2) h49) ?_; intro w hM
            have hM : Mem W w [aMat 28 3 v6 vs8 (l20.set ((j10 : Int)).toNat l48)] := hM
            refine on_nil ?_
            refine wc_done (by kernel_rfl) ?_
            intro w hw
            replace hM := hM.quiet hw
            refine x_nb ?_
            refine x_nt ?_
            refine wp_region_lit ?_
            refine wl hs (y_add hs rfl rfl hjs) rfl ?_; intro a hs
            refine wl hs (y_move hs rfl) rfl ?_; intro a hs
            refine wpList_nil ?_
            exact ⟨_, by simp, q25, j21 + 1, (l20.set ((j10 : Int)).toNat l48), rfl, hs.sub ⟨rfl, rfl, rfl, rfl, rfl, rfl, rfl, rfl, rfl, trivial⟩, hM, hm, drop_next hj⟩
        rintro a w ⟨l22, rfl, hs, hM⟩
        have hm := hk24
        refine x_nb ?_
        refine x_nt ?_
        refine wp_region_lit ?_
        refine wl hs (y_add hs rfl rfl hjs) rfl ?_; intro a hs
        refine wl hs (y_move hs rfl) rfl ?_; intro a hs
        refine wpList_nil ?_
        exact ⟨_, by simp, q14, j10 + 1, l22, rfl, hs.sub ⟨rfl, rfl, rfl, rfl, rfl, trivial⟩, hM, hm, drop_next hj⟩
    rintro a w ⟨l11, rfl, hs, hM⟩
    have hm := hk13
    refine x_nt ?_
    refine wp_seq ?_
    refine wp_region_lit ?_
    refine wl hs (y_move hs rfl) rfl ?_; intro a hs
    obtain ⟨y50, h51, hm⟩ := bindE hm
    refine wcall is_81 hs rfl rfl (impl_toldNumbers_any v6 l11 _ (hM.rdM 0 rfl) h51) ?_; rintro a _ w hs ⟨rfl, hX⟩
    have hM : Mem W w [aMat 28 3 v6 vs8 l11] := hM.call hX
    have hM : Mem W w [aMat 28 3 (cond y50.1 v6 (.slice none 0 0)) (cond y50.1 vs8 []) (cond y50.1 l11 [])] := (hM).condM y50.1
    refine wl hs (y_extract hs rfl rfl) rfl ?_; intro a hs
    refine wl hs (y_extract hs rfl rfl) rfl ?_; intro a hs
    refine wl hs (y_assign hs rfl) rfl ?_; intro a hs
    refine wl hs (y_assign hs rfl) rfl ?_; intro a hs
    refine wpList_nil ?_
    refine x_nt ?_
    refine wp_ret ?_
    have hm : some ((cond y50.1 l11 []), y50.2) = some r := hm
    obtain rfl := Option.some.inj hm
    refine x_ret2 rfl hs rfl rfl ⟨_, rfl, ?_⟩
    exact ⟨_, _, rfl, hM⟩

theorem spec_IsProvedWay_any (v_p0 : Value) (p0 : List (List Int)) (v_p1 : Value) (p1 : List Int) (v_p2 : Value) (p2 : List Int) (W : World) (hr_p0 : RdM W v_p0 p0) (hr_p1 : RdI W v_p1 p1) (hr_p2 : RdI W v_p2 p2) {r : Bool × Bool} (hm : spec_IsProvedWay_m p0 p1 p2 = some r) : Calls Try.prog 38 [v_p0, v_p1, v_p2].toArray W fun e w => ∃ v, e = .returned v ∧ v = .tuple #[.bool r.1, .bool r.2] ∧ Mem W w [] := by
  refine x_enter Try.func38 rfl Try.ntmps38 rfl ?_
  intro a hs
  have hM := Mem.start W
  unfold spec_IsProvedWay_m at hm
  refine wp_seq ?_
  refine wp_region_lit ?_
  refine wl hs (y_assign hs rfl) rfl ?_; intro a hs
  refine wl hs (y_assign hs rfl) rfl ?_; intro a hs
  refine wpList_nil ?_
  refine x_nt ?_
  refine wp_seq ?_
  refine wp_seq ?_
  refine wp_region_lit ?_
  refine wl hs (y_move hs rfl) rfl ?_; intro a hs
  refine wl hs (y_move hs rfl) rfl ?_; intro a hs
  obtain ⟨y1, h2, hm⟩ := bindE hm
  refine wcall is_75 hs rfl rfl (spec_wyAsked_any v_p0 p0 v_p1 p1 _ (RdM.below hr_p0 hM.bel) (RdI.below hr_p1 hM.bel) h2) ?_; rintro a _ w hs ⟨rfl, hX⟩
  have hM : Mem W w [] := hM.call hX
  refine wl hs (y_not hs rfl) rfl ?_; intro a hs
  refine wl hs (y_move hs rfl) rfl ?_; intro a hs
  obtain ⟨b3, hb4, hm⟩ := bindE hm
  refine wlguard (N := 62) (L' := [(18, .bool b3), (0, v_p0), (1, v_p1), (2, v_p2)]) (fun w => Mem W w []) 5 ?_ ?_
  · intro K; rcases Bool.eq_false_or_eq_true (!y1) with hg5 | hg5
    · have hm := condT hg5 hb4
      refine wls hs rfl hg5 rfl ?_; intro a hs
      refine wls hs rfl hg5 rfl ?_; intro a hs
      refine wls hs rfl hg5 rfl ?_; intro a hs
      refine wls hs rfl hg5 rfl ?_; intro a hs
      have hm : some true = some b3 := hm
      cases Option.some.inj hm
      refine wl hs (y_pickT hs rfl hg5 rfl) rfl ?_; intro a hs
      exact K _ _ (hs.sub ⟨rfl, rfl, rfl, rfl, trivial⟩) hM
    · have hm := condF hg5 hb4
      refine wlg hs rfl hg5 (y_move hs rfl) rfl ?_; intro a hs
      refine wlg hs rfl hg5 (y_move hs rfl) rfl ?_; intro a hs
      obtain ⟨y6, h7, hm⟩ := bindE hm
      refine wcallg is_76 hs rfl hg5 rfl rfl (spec_wyPotentials_any v_p0 p0 v_p1 p1 _ (RdM.below hr_p0 hM.bel) (RdI.below hr_p1 hM.bel) h7) ?_; rintro a _ w hs ⟨rfl, hX⟩
      have hM : Mem W w [] := hM.call hX
      refine wlg hs rfl hg5 (y_not hs rfl) rfl ?_; intro a hs
      have hm : some (!y6) = some b3 := hm
      cases Option.some.inj hm
      refine wl hs (y_pickF hs rfl hg5 rfl) rfl ?_; intro a hs
      exact K _ _ (hs.sub ⟨rfl, rfl, rfl, rfl, trivial⟩) hM
  intro a w hs hM
  simp only [List.drop_succ_cons, List.drop_zero]
  refine wl hs (y_move hs rfl) rfl ?_; intro a hs
  obtain ⟨b8, hb9, hm⟩ := bindE hm
  refine wlguard (N := 62) (L' := [(24, .bool b8), (0, v_p0), (1, v_p1), (2, v_p2)]) (fun w => Mem W w []) 5 ?_ ?_
  · intro K; rcases Bool.eq_false_or_eq_true b3 with hg10 | hg10
    · have hm := condT hg10 hb9
      refine wls hs rfl hg10 rfl ?_; intro a hs
      refine wls hs rfl hg10 rfl ?_; intro a hs
      refine wls hs rfl hg10 rfl ?_; intro a hs
      refine wls hs rfl hg10 rfl ?_; intro a hs
      have hm : some true = some b8 := hm
      cases Option.some.inj hm
      refine wl hs (y_pickT hs rfl hg10 rfl) rfl ?_; intro a hs
      exact K _ _ (hs.sub ⟨rfl, rfl, rfl, rfl, trivial⟩) hM
    · have hm := condF hg10 hb9
      refine wlg hs rfl hg10 (y_move hs rfl) rfl ?_; intro a hs
      refine wlg hs rfl hg10 (y_move hs rfl) rfl ?_; intro a hs
      obtain ⟨y11, h12, hm⟩ := bindE hm
      refine wcallg is_82 hs rfl hg10 rfl rfl (spec_wyWay_any v_p0 p0 v_p2 p2 _ (RdM.below hr_p0 hM.bel) (RdI.below hr_p2 hM.bel) h12) ?_; rintro a _ w hs ⟨rfl, hX⟩
      have hM : Mem W w [] := hM.call hX
      refine wlg hs rfl hg10 (y_not hs rfl) rfl ?_; intro a hs
      have hm : some (!y11) = some b8 := hm
      cases Option.some.inj hm
      refine wl hs (y_pickF hs rfl hg10 rfl) rfl ?_; intro a hs
      exact K _ _ (hs.sub ⟨rfl, rfl, rfl, rfl, trivial⟩) hM
  intro a w hs hM
  simp only [List.drop_succ_cons, List.drop_zero]
  refine wpList_nil ?_
  refine x_nt ?_
  refine x_cond hs rfl (fun hb => ?_) (fun hb => ?_)
  · replace hm := condT hb hm
    refine wp_seq ?_
    refine wp_region_lit ?_
    refine wl hs (y_assign hs rfl) rfl ?_; intro a hs
    refine wl hs (y_assign hs rfl) rfl ?_; intro a hs
    refine wpList_nil ?_
    refine x_nt ?_
    refine wp_ret ?_
    refine x_rt ?_
    have hm : some (false, false) = some r := hm
    obtain rfl := Option.some.inj hm
    refine x_ret2 rfl hs rfl rfl ⟨_, rfl, ?_⟩
    exact ⟨rfl, hM⟩
  · replace hm := condF hb hm
    refine wp_skip ?_
    refine x_nt ?_
    refine wp_seq ?_
    refine wp_seq ?_
    refine wp_region_lit ?_
    refine wl hs (y_assign hs rfl) rfl ?_; intro a hs
    refine wpList_nil ?_
    refine x_nt ?_
    obtain ⟨s14, hm, hk15⟩ := bindE hm
    refine x_mid (fun a w => Sum.inr () = s14 ∧ Fr a 62 [] ∧ Mem W w []) ?_ ?_
    · refine wp_block ?_
      refine x_loop (fun k a w => ∃ (n13 : Int) , Fr a 62 [(0, v_p0), (1, v_p1), (2, v_p2), (8, .int .i64 n13)] ∧ Mem W w [] ∧ spec_IsProvedWay_l1 p0 p1 p2 k n13 = some s14) 4000000 ⟨1, hs.sub ⟨rfl, rfl, rfl, rfl, trivial⟩, hM, hm⟩ ?_
      rintro k a w ⟨n13, hs, hM, hm⟩
      rcases k with _ | k
      · rewrite [spec_IsProvedWay_l1] at hm; cases hm
      rewrite [spec_IsProvedWay_l1] at hm
      refine wp_seq ?_
      refine wp_seq ?_
      refine wp_region_lit ?_
      refine wl hs (y_move hs rfl) rfl ?_; intro a hs
      refine wl hs (y_move hs rfl) rfl ?_; intro a hs
      refine wl hs (y_len hu_I hs rfl (RdI.below hr_p2 hM.bel)) rfl ?_; intro a hs
      refine wl hs (y_lss hs rfl rfl) rfl ?_; intro a hs
      refine wpList_nil ?_
      refine x_nt ?_
      refine x_cond hs rfl (fun hb => ?_) (fun hb => ?_)
      · replace hm := condT hb hm
        refine wp_skip ?_
        refine x_nt ?_
        refine wp_seq ?_
        refine wp_block ?_
        refine wp_seq ?_
        refine x_regq hmix (by kernel_rfl) ?_
        refine wq hs (fun w1 hw1 => y_move hs rfl) rfl ?_; intro a hs
        refine wq hs (fun w1 hw1 => y_move hs rfl) rfl ?_; intro a hs
        refine wq hs (fun w1 hw1 => y_move hs rfl) rfl ?_; intro a hs
        obtain ⟨x17, hx18, hm⟩ := bindE hm
        have he19 := RdI.at_ (RdI.below hr_p2 hM.bel) hx18
        refine wq hs (fun w1 hw1 => y_index ht_I hs rfl rfl (he19.below hw1)) rfl ?_; intro a hs
        refine wq hs (fun w1 hw1 => y_load sc_int hs rfl (he19.below hw1).cell) rfl ?_; intro a hs
        obtain ⟨x20, hx21, hm⟩ := bindE hm
        have he22 := RdI.at_ (RdI.below hr_p1 hM.bel) hx21
        refine wq hs (fun w1 hw1 => y_index ht_I hs rfl rfl (he22.below hw1)) rfl ?_; intro a hs
        refine wq hs (fun w1 hw1 => y_load sc_int hs rfl (he22.below hw1).cell) rfl ?_; intro a hs
        refine wq hs (fun w1 hw1 => y_move hs rfl) rfl ?_; intro a hs
        refine wq hs (fun w1 hw1 => y_move hs rfl) rfl ?_; intro a hs
        refine wq hs (fun w1 hw1 => y_move hs rfl) rfl ?_; intro a hs
        obtain ⟨n23, h24, hm⟩ := bindE hm
        refine wq hs (fun w1 hw1 => y_sub hs rfl rfl h24) rfl ?_; intro a hs
        obtain ⟨x25, hx26, hm⟩ := bindE hm
        have he27 := RdI.at_ (RdI.below hr_p2 hM.bel) hx26
        refine wq hs (fun w1 hw1 => y_index ht_I hs rfl rfl (he27.below hw1)) rfl ?_; intro a hs
        refine wq hs (fun w1 hw1 => y_load sc_int hs rfl (he27.below hw1).cell) rfl ?_; intro a hs
        obtain ⟨x28, hx29, hm⟩ := bindE hm
        have he30 := RdI.at_ (RdI.below hr_p1 hM.bel) hx29
        refine wq hs (fun w1 hw1 => y_index ht_I hs rfl rfl (he30.below hw1)) rfl ?_; intro a hs
        refine wq hs (fun w1 hw1 => y_load sc_int hs rfl (he30.below hw1).cell) rfl ?_; intro a hs
        refine wq hs (fun w1 hw1 => y_move hs rfl) rfl ?_; intro a hs
        refine wq hs (fun w1 hw1 => y_move hs rfl) rfl ?_; intro a hs
        refine wq hs (fun w1 hw1 => y_move hs rfl) rfl ?_; intro a hs
        obtain ⟨n31, h32, hm⟩ := bindE hm
        refine wq hs (fun w1 hw1 => y_sub hs rfl rfl h32) rfl ?_; intro a hs
        obtain ⟨x33, hx34, hm⟩ := bindE hm
        have he35 := RdI.at_ (RdI.below hr_p2 hM.bel) hx34
        refine wq hs (fun w1 hw1 => y_index ht_I hs rfl rfl (he35.below hw1)) rfl ?_; intro a hs
        refine wq hs (fun w1 hw1 => y_load sc_int hs rfl (he35.below hw1).cell) rfl ?_; intro a hs
        obtain ⟨x36, hx37, hm⟩ := bindE hm
        obtain ⟨u39, he38, hr40⟩ := RdM.at_ hr_p0 hx37
        replace he38 := he38.below hM.bel
        refine wq hs (fun w1 hw1 => y_index ht_M hs rfl rfl (he38.below hw1)) rfl ?_; intro a hs
        refine wq hs (fun w1 hw1 => y_load sc_I hs rfl (he38.below hw1).cell) rfl ?_; intro a hs
        refine wq hs (fun w1 hw1 => y_move hs rfl) rfl ?_; intro a hs
        refine wq hs (fun w1 hw1 => y_move hs rfl) rfl ?_; intro a hs
        have he41 := RdI.at_ (RdI.below hr_p2 hM.bel) hx18
        refine wq hs (fun w1 hw1 => y_index ht_I hs rfl rfl (he41.below hw1)) rfl ?_; intro a hs
        refine wq hs (fun w1 hw1 => y_load sc_int hs rfl (he41.below hw1).cell) rfl ?_; intro a hs
        obtain ⟨x42, hx43, hm⟩ := bindE hm
        have he44 := RdI.at_ (RdI.below hr40 hM.bel) hx43
        refine wq hs (fun w1 hw1 => y_index ht_I hs rfl rfl (he44.below hw1)) rfl ?_; intro a hs
        refine wq hs (fun w1 hw1 => y_load sc_int hs rfl (he44.below hw1).cell) rfl ?_; intro a hs
        obtain ⟨n45, h46, hm⟩ := bindE hm
        refine wq hs (fun w1 hw1 => y_add hs rfl rfl h46) rfl ?_; intro a hs
        refine wq hs (fun w1 hw1 => y_neq hs rfl rfl) rfl ?_; intro a hs
        refine wpQuiet_nil ?_
        intro w hw
        replace hM := hM.quiet hw
        refine x_nt ?_
        refine x_cond hs rfl (fun hb => ?_) (fun hb => ?_)
        · replace hm := condT hb hm
          refine wp_seq ?_
          refine wp_region_lit ?_
          refine wl hs (y_assign hs rfl) rfl ?_; intro a hs
          refine wl hs (y_assign hs rfl) rfl ?_; intro a hs
          refine wpList_nil ?_
          refine x_nt ?_
          refine wp_ret ?_
          refine x_rb ?_
          refine x_rt ?_
          refine x_rt ?_
          refine x_rb ?_
          refine x_rt ?_
          refine x_rt ?_
          have hm : some (Sum.inl (false, true)) = some s14 := hm
          cases Option.some.inj hm
          have hm := hk15
          have hm : some (false, true) = some r := hm
          obtain rfl := Option.some.inj hm
          refine x_ret2 rfl hs rfl rfl ⟨_, rfl, ?_⟩
          exact ⟨rfl, hM⟩
        · replace hm := condF hb hm
          refine wp_skip ?_
          refine x_nb ?_
          refine x_nt ?_
          refine wp_region_lit ?_
          refine wl hs (y_move hs rfl) rfl ?_; intro a hs
          obtain ⟨n47, h48, hm⟩ := bindE hm
          refine wl hs (y_add hs rfl rfl h48) rfl ?_; intro a hs
          refine wl hs (y_assign hs rfl) rfl ?_; intro a hs
          refine wpList_nil ?_
          exact ⟨k, Nat.lt_succ_self _, n47, hs.sub ⟨rfl, rfl, rfl, rfl, trivial⟩, hM, hm⟩
      · replace hm := condF hb hm
        refine wp_exit ?_
        refine x_et ?_
        refine x_et ?_
        refine x_eb ?_
        have hm : some (Sum.inr ()) = some s14 := hm
        exact ⟨Option.some.inj hm, hs.sub trivial, hM⟩
    rintro a w ⟨rfl, hs, hM⟩
    have hm := hk15
    refine x_nt ?_
    refine wp_seq ?_
    refine wp_region_lit ?_
    refine wl hs (y_assign hs rfl) rfl ?_; intro a hs
    refine wl hs (y_assign hs rfl) rfl ?_; intro a hs
    refine wpList_nil ?_
    refine x_nt ?_
    refine wp_ret ?_
    have hm : some (true, true) = some r := hm
    obtain rfl := Option.some.inj hm
    refine x_ret2 rfl hs rfl rfl ⟨_, rfl, ?_⟩
    exact ⟨rfl, hM⟩

theorem impl_IsProvedWay_any (v_p0 : Value) (p0 : List (List Int)) (v_p1 : Value) (p1 : List Int) (v_p2 : Value) (p2 : List Int) (W : World) (hr_p0 : RdM W v_p0 p0) (hr_p1 : RdI W v_p1 p1) (hr_p2 : RdI W v_p2 p2) {r : Bool × Bool} (hm : impl_IsProvedWay_m p0 p1 p2 = some r) : Calls Try.prog 39 [v_p0, v_p1, v_p2].toArray W fun e w => ∃ v, e = .returned v ∧ v = .tuple #[.bool r.1, .bool r.2] ∧ Mem W w [] := by
  refine x_enter Try.func39 rfl Try.ntmps39 rfl ?_
  intro a hs
  have hM := Mem.start W
  unfold impl_IsProvedWay_m at hm
  refine wp_seq ?_
  refine wp_region_lit ?_
  refine wl hs (y_assign hs rfl) rfl ?_; intro a hs
  refine wl hs (y_assign hs rfl) rfl ?_; intro a hs
  refine wpList_nil ?_
  refine x_nt ?_
  refine wp_seq ?_
  refine wp_seq ?_
  refine wp_region_lit ?_
  refine wl hs (y_move hs rfl) rfl ?_; intro a hs
  refine wl hs (y_move hs rfl) rfl ?_; intro a hs
  obtain ⟨y1, h2, hm⟩ := bindE hm
  refine wcall is_79 hs rfl rfl (impl_hasPotentials_any v_p0 p0 v_p1 p1 _ (RdM.below hr_p0 hM.bel) (RdI.below hr_p1 hM.bel) h2) ?_; rintro a _ w hs ⟨rfl, hX⟩
  have hM : Mem W w [] := hM.call hX
  refine wl hs (y_not hs rfl) rfl ?_; intro a hs
  refine wl hs (y_move hs rfl) rfl ?_; intro a hs
  obtain ⟨b3, hb4, hm⟩ := bindE hm
  refine wlguard (N := 56) (L' := [(18, .bool b3), (0, v_p0), (1, v_p1), (2, v_p2)]) (fun w => Mem W w []) 5 ?_ ?_
  · intro K; rcases Bool.eq_false_or_eq_true (!y1) with hg5 | hg5
    · have hm := condT hg5 hb4
      refine wls hs rfl hg5 rfl ?_; intro a hs
      refine wls hs rfl hg5 rfl ?_; intro a hs
      refine wls hs rfl hg5 rfl ?_; intro a hs
      refine wls hs rfl hg5 rfl ?_; intro a hs
      have hm : some true = some b3 := hm
      cases Option.some.inj hm
      refine wl hs (y_pickT hs rfl hg5 rfl) rfl ?_; intro a hs
      exact K _ _ (hs.sub ⟨rfl, rfl, rfl, rfl, trivial⟩) hM
    · have hm := condF hg5 hb4
      refine wlg hs rfl hg5 (y_move hs rfl) rfl ?_; intro a hs
      refine wlg hs rfl hg5 (y_move hs rfl) rfl ?_; intro a hs
      obtain ⟨y6, h7, hm⟩ := bindE hm
      refine wcallg is_83 hs rfl hg5 rfl rfl (impl_isWay_any v_p0 p0 v_p2 p2 _ (RdM.below hr_p0 hM.bel) (RdI.below hr_p2 hM.bel) h7) ?_; rintro a _ w hs ⟨rfl, hX⟩
      have hM : Mem W w [] := hM.call hX
      refine wlg hs rfl hg5 (y_not hs rfl) rfl ?_; intro a hs
      have hm : some (!y6) = some b3 := hm
      cases Option.some.inj hm
      refine wl hs (y_pickF hs rfl hg5 rfl) rfl ?_; intro a hs
      exact K _ _ (hs.sub ⟨rfl, rfl, rfl, rfl, trivial⟩) hM
  intro a w hs hM
  simp only [List.drop_succ_cons, List.drop_zero]
  refine wpList_nil ?_
  refine x_nt ?_
  refine x_cond hs rfl (fun hb => ?_) (fun hb => ?_)
  · replace hm := condT hb hm
    refine wp_seq ?_
    refine wp_region_lit ?_
    refine wl hs (y_assign hs rfl) rfl ?_; intro a hs
    refine wl hs (y_assign hs rfl) rfl ?_; intro a hs
    refine wpList_nil ?_
    refine x_nt ?_
    refine wp_ret ?_
    refine x_rt ?_
    have hm : some (false, false) = some r := hm
    obtain rfl := Option.some.inj hm
    refine x_ret2 rfl hs rfl rfl ⟨_, rfl, ?_⟩
    exact ⟨rfl, hM⟩
  · replace hm := condF hb hm
    refine wp_skip ?_
    refine x_nt ?_
    refine wp_seq ?_
    refine wp_seq ?_
    refine wp_region_lit ?_
    refine wl hs (y_assign hs rfl) rfl ?_; intro a hs
    refine wpList_nil ?_
    refine x_nt ?_
    obtain ⟨s9, hm, hk10⟩ := bindE hm
    refine x_mid (fun a w => Sum.inr () = s9 ∧ Fr a 56 [] ∧ Mem W w []) ?_ ?_
    · refine wp_block ?_
      refine x_loop (fun k a w => ∃ (n8 : Int) , Fr a 56 [(0, v_p0), (1, v_p1), (2, v_p2), (8, .int .i64 n8)] ∧ Mem W w [] ∧ impl_IsProvedWay_l1 p0 p1 p2 k n8 = some s9) 4000000 ⟨1, hs.sub ⟨rfl, rfl, rfl, rfl, trivial⟩, hM, hm⟩ ?_
      rintro k a w ⟨n8, hs, hM, hm⟩
      rcases k with _ | k
      · rewrite [impl_IsProvedWay_l1] at hm; cases hm
      rewrite [impl_IsProvedWay_l1] at hm
      refine wp_seq ?_
      refine wp_seq ?_
      refine wp_region_lit ?_
      refine wl hs (y_move hs rfl) rfl ?_; intro a hs
      refine wl hs (y_move hs rfl) rfl ?_; intro a hs
      refine wl hs (y_len hu_I hs rfl (RdI.below hr_p2 hM.bel)) rfl ?_; intro a hs
      refine wl hs (y_lss hs rfl rfl) rfl ?_; intro a hs
      refine wpList_nil ?_
      refine x_nt ?_
      refine x_cond hs rfl (fun hb => ?_) (fun hb => ?_)
      · replace hm := condT hb hm
        refine wp_skip ?_
        refine x_nt ?_
        refine wp_seq ?_
        refine wp_block ?_
        refine wp_seq ?_
        refine x_regq hmix (by kernel_rfl) ?_
        refine wq hs (fun w1 hw1 => y_move hs rfl) rfl ?_; intro a hs
        refine wq hs (fun w1 hw1 => y_move hs rfl) rfl ?_; intro a hs
        refine wq hs (fun w1 hw1 => y_move hs rfl) rfl ?_; intro a hs
        obtain ⟨x12, hx13, hm⟩ := bindE hm
        have he14 := RdI.at_ (RdI.below hr_p2 hM.bel) hx13
        refine wq hs (fun w1 hw1 => y_index ht_I hs rfl rfl (he14.below hw1)) rfl ?_; intro a hs
        refine wq hs (fun w1 hw1 => y_load sc_int hs rfl (he14.below hw1).cell) rfl ?_; intro a hs
        obtain ⟨x15, hx16, hm⟩ := bindE hm
        have he17 := RdI.at_ (RdI.below hr_p1 hM.bel) hx16
        refine wq hs (fun w1 hw1 => y_index ht_I hs rfl rfl (he17.below hw1)) rfl ?_; intro a hs
        refine wq hs (fun w1 hw1 => y_load sc_int hs rfl (he17.below hw1).cell) rfl ?_; intro a hs
        refine wq hs (fun w1 hw1 => y_move hs rfl) rfl ?_; intro a hs
        refine wq hs (fun w1 hw1 => y_move hs rfl) rfl ?_; intro a hs
        refine wq hs (fun w1 hw1 => y_move hs rfl) rfl ?_; intro a hs
        obtain ⟨n18, h19, hm⟩ := bindE hm
        refine wq hs (fun w1 hw1 => y_sub hs rfl rfl h19) rfl ?_; intro a hs
        obtain ⟨x20, hx21, hm⟩ := bindE hm
        have he22 := RdI.at_ (RdI.below hr_p2 hM.bel) hx21
        refine wq hs (fun w1 hw1 => y_index ht_I hs rfl rfl (he22.below hw1)) rfl ?_; intro a hs
        refine wq hs (fun w1 hw1 => y_load sc_int hs rfl (he22.below hw1).cell) rfl ?_; intro a hs
        obtain ⟨x23, hx24, hm⟩ := bindE hm
        have he25 := RdI.at_ (RdI.below hr_p1 hM.bel) hx24
        refine wq hs (fun w1 hw1 => y_index ht_I hs rfl rfl (he25.below hw1)) rfl ?_; intro a hs
        refine wq hs (fun w1 hw1 => y_load sc_int hs rfl (he25.below hw1).cell) rfl ?_; intro a hs
        refine wq hs (fun w1 hw1 => y_move hs rfl) rfl ?_; intro a hs
        refine wq hs (fun w1 hw1 => y_move hs rfl) rfl ?_; intro a hs
        refine wq hs (fun w1 hw1 => y_move hs rfl) rfl ?_; intro a hs
        obtain ⟨n26, h27, hm⟩ := bindE hm
        refine wq hs (fun w1 hw1 => y_sub hs rfl rfl h27) rfl ?_; intro a hs
        obtain ⟨x28, hx29, hm⟩ := bindE hm
        have he30 := RdI.at_ (RdI.below hr_p2 hM.bel) hx29
        refine wq hs (fun w1 hw1 => y_index ht_I hs rfl rfl (he30.below hw1)) rfl ?_; intro a hs
        refine wq hs (fun w1 hw1 => y_load sc_int hs rfl (he30.below hw1).cell) rfl ?_; intro a hs
        obtain ⟨x31, hx32, hm⟩ := bindE hm
        obtain ⟨u34, he33, hr35⟩ := RdM.at_ hr_p0 hx32
        replace he33 := he33.below hM.bel
        refine wq hs (fun w1 hw1 => y_index ht_M hs rfl rfl (he33.below hw1)) rfl ?_; intro a hs
        refine wq hs (fun w1 hw1 => y_load sc_I hs rfl (he33.below hw1).cell) rfl ?_; intro a hs
        refine wq hs (fun w1 hw1 => y_move hs rfl) rfl ?_; intro a hs
        refine wq hs (fun w1 hw1 => y_move hs rfl) rfl ?_; intro a hs
        have he36 := RdI.at_ (RdI.below hr_p2 hM.bel) hx13
        refine wq hs (fun w1 hw1 => y_index ht_I hs rfl rfl (he36.below hw1)) rfl ?_; intro a hs
        refine wq hs (fun w1 hw1 => y_load sc_int hs rfl (he36.below hw1).cell) rfl ?_; intro a hs
        obtain ⟨x37, hx38, hm⟩ := bindE hm
        have he39 := RdI.at_ (RdI.below hr35 hM.bel) hx38
        refine wq hs (fun w1 hw1 => y_index ht_I hs rfl rfl (he39.below hw1)) rfl ?_; intro a hs
        refine wq hs (fun w1 hw1 => y_load sc_int hs rfl (he39.below hw1).cell) rfl ?_; intro a hs
        obtain ⟨n40, h41, hm⟩ := bindE hm
        refine wq hs (fun w1 hw1 => y_add hs rfl rfl h41) rfl ?_; intro a hs
        refine wq hs (fun w1 hw1 => y_neq hs rfl rfl) rfl ?_; intro a hs
        refine wpQuiet_nil ?_
        intro w hw
        replace hM := hM.quiet hw
        refine x_nt ?_
        refine x_cond hs rfl (fun hb => ?_) (fun hb => ?_)
        · replace hm := condT hb hm
          refine wp_seq ?_
          refine wp_region_lit ?_
          refine wl hs (y_assign hs rfl) rfl ?_; intro a hs
          refine wl hs (y_assign hs rfl) rfl ?_; intro a hs
          refine wpList_nil ?_
          refine x_nt ?_
          refine wp_ret ?_
          refine x_rb ?_
          refine x_rt ?_
          refine x_rt ?_
          refine x_rb ?_
          refine x_rt ?_
          refine x_rt ?_
          have hm : some (Sum.inl (false, true)) = some s9 := hm
          cases Option.some.inj hm
          have hm := hk10
          have hm : some (false, true) = some r := hm
          obtain rfl := Option.some.inj hm
          refine x_ret2 rfl hs rfl rfl ⟨_, rfl, ?_⟩
          exact ⟨rfl, hM⟩
        · replace hm := condF hb hm
          refine wp_skip ?_
          refine x_nb ?_
          refine x_nt ?_
          refine wp_region_lit ?_
          refine wl hs (y_move hs rfl) rfl ?_; intro a hs
          obtain ⟨n42, h43, hm⟩ := bindE hm
          refine wl hs (y_add hs rfl rfl h43) rfl ?_; intro a hs
          refine wl hs (y_assign hs rfl) rfl ?_; intro a hs
          refine wpList_nil ?_
          exact ⟨k, Nat.lt_succ_self _, n42, hs.sub ⟨rfl, rfl, rfl, rfl, trivial⟩, hM, hm⟩
      · replace hm := condF hb hm
        refine wp_exit ?_
        refine x_et ?_
        refine x_et ?_
        refine x_eb ?_
        have hm : some (Sum.inr ()) = some s9 := hm
        exact ⟨Option.some.inj hm, hs.sub trivial, hM⟩
    rintro a w ⟨rfl, hs, hM⟩
    have hm := hk10
    refine x_nt ?_
    refine wp_seq ?_
    refine wp_region_lit ?_
    refine wl hs (y_assign hs rfl) rfl ?_; intro a hs
    refine wl hs (y_assign hs rfl) rfl ?_; intro a hs
    refine wpList_nil ?_
    refine x_nt ?_
    refine wp_ret ?_
    have hm : some (true, true) = some r := hm
    obtain rfl := Option.some.inj hm
    refine x_ret2 rfl hs rfl rfl ⟨_, rfl, ?_⟩
    exact ⟨rfl, hM⟩

end Go.Proofs.Ytjicdfplhenohaa
