/- The code of this unit computes what its mirrors say. Written by program (wip/gen). -/
import Derived.Test.YtcglmncmnlkpmaaDoorFacts
import Derived.Test.YtcglmncmnlkpmaaDoorTxpM
import Derived.Test.YtcglmncmnlkpmaaDoorNumW
import Derived.Test.YtcglmncmnlkpmaaDoorMatW
import Derived.Test.YtcglmncmnlkpmaaDoorTxsW
namespace Go.Proofs.YtcglmncmnlkpmaaDoor
open Go.RowKit
set_option linter.unusedVariables false

theorem spec_l1Split_any (p0 : List UInt8) (p1 : Int) (W : World)  {r : List (List UInt8)} (hm : spec_l1Split_m p0 p1 = some r) : Calls Tryd.prog 21 [.string ⟨p0.toArray⟩, .int .u8 p1].toArray W fun e w => ∃ v, e = .returned v ∧ Mem W w [aStrs 9 v r] := by
  refine x_enter Tryd.func21 rfl Tryd.ntmps21 rfl ?_
  intro a hs
  have hM := Mem.start W
  unfold spec_l1Split_m at hm
  refine wp_seq ?_
  refine wp_region_lit ?_
  refine wl hs (y_assign hs rfl) rfl ?_; intro a hs
  refine wpList_nil ?_
  refine x_nt ?_
  refine wp_seq ?_
  refine wp_region_lit ?_
  refine wl hs (y_assign hs rfl) rfl ?_; intro a hs
  have hM := hM.nilT 9
  refine wpList_nil ?_
  refine x_nt ?_
  refine wp_seq ?_
  refine wp_region_lit ?_
  refine wl hs (y_assign hs rfl) rfl ?_; intro a hs
  refine wpList_nil ?_
  refine x_nt ?_
  refine wp_seq ?_
  refine wp_seq ?_
  refine wp_region_lit ?_
  refine wl hs (y_assign hs rfl) rfl ?_; intro a hs
  refine wpList_nil ?_
  refine x_nt ?_
  obtain ⟨s9, hm, hk10⟩ := bindE hm
  refine x_mid (fun a w => ∃ (v6 : Value), ∃ (l7 : List (List UInt8)), ∃ (n8 : Int), (l7, n8) = s9 ∧ Fr a 34 [(0, .string ⟨p0.toArray⟩), (5, v6), (6, .int .i64 n8)] ∧ Mem W w [aStrs 9 v6 l7]) ?_ ?_
  · refine wp_block ?_
    refine x_loop (fun k a w => ∃ (v2 : Value) (l3 : List (List UInt8)) (n4 : Int) (n5 : Int) , Fr a 34 [(0, .string ⟨p0.toArray⟩), (1, .int .u8 p1), (5, v2), (6, .int .i64 n4), (7, .int .i64 n5)] ∧ Mem W w [aStrs 9 v2 l3] ∧ spec_l1Split_l1 p0 p1 k l3 n4 n5 = some s9) 4000000 ⟨(.slice none 0 0), [], 0, 0, hs.sub ⟨rfl, rfl, rfl, rfl, rfl, trivial⟩, hM, hm⟩ ?_
    rintro k a w ⟨v2, l3, n4, n5, hs, hM, hm⟩
    rcases k with _ | k
    · rewrite [spec_l1Split_l1] at hm; cases hm
    rewrite [spec_l1Split_l1] at hm
    refine wp_seq ?_
    refine wp_seq ?_
    refine wp_region_lit ?_
    refine wl hs (y_move hs rfl) rfl ?_; intro a hs
    refine wl hs (y_move hs rfl) rfl ?_; intro a hs
    refine wl hs (y_lenS hu_str hs rfl) rfl ?_; intro a hs
    refine wl hs (y_lss hs rfl rfl) rfl ?_; intro a hs
    refine wpList_nil ?_
    refine x_nt ?_
    refine x_cond hs rfl (fun hb => ?_) (fun hb => ?_)
    · replace hm := condT hb hm
      refine wp_skip ?_
      refine x_nt ?_
      refine wp_seq ?_
      refine wp_block ?_
      refine wp_seq ?_
      refine wp_region_lit ?_
      refine wl hs (y_move hs rfl) rfl ?_; intro a hs
      refine wl hs (y_move hs rfl) rfl ?_; intro a hs
      obtain ⟨x12, h13, hm⟩ := bindE hm
      refine wl hs (y_indexS hu_str hs rfl rfl h13) rfl ?_; intro a hs
      refine wl hs (y_move hs rfl) rfl ?_; intro a hs
      refine wl hs (y_eql hs rfl rfl) rfl ?_; intro a hs
      refine wpList_nil ?_
      refine x_nt ?_
      refine x_cond hs rfl (fun hb => ?_) (fun hb => ?_)
      · replace hm := condT hb hm
        refine wp_seq ?_
        refine wp_region_lit ?_
        refine wl hs (y_move hs rfl) rfl ?_; intro a hs
        refine wl hs (y_move hs rfl) rfl ?_; intro a hs
        refine wl hs (y_move hs rfl) rfl ?_; intro a hs
        refine wl hs (y_move hs rfl) rfl ?_; intro a hs
        obtain ⟨t14, h15, hm⟩ := bindE hm
        refine wl hs (y_sliceSlh hu_str hs rfl rfl rfl h15) rfl ?_; intro a hs
        obtain ⟨l16, h17, hm⟩ := bindE hm
        refine wappT hu_T he_str hs hM rfl rfl h17 rfl rfl rfl ?_; intro a v18 w u19 hs hM
        have hM : Mem W w [aStrs 9 v18 l16] := hM
        refine wl hs (y_assign hs rfl) rfl ?_; intro a hs
        refine wpList_nil ?_
        refine x_nt ?_
        refine wp_region_lit ?_
        refine wl hs (y_move hs rfl) rfl ?_; intro a hs
        obtain ⟨n20, h21, hm⟩ := bindE hm
        refine wl hs (y_add hs rfl rfl h21) rfl ?_; intro a hs
        refine wl hs (y_assign hs rfl) rfl ?_; intro a hs
        refine wpList_nil ?_
        refine x_nb ?_
        refine x_nt ?_
        refine wp_region_lit ?_
        refine wl hs (y_move hs rfl) rfl ?_; intro a hs
        obtain ⟨n22, h23, hm⟩ := bindE hm
        refine wl hs (y_add hs rfl rfl h23) rfl ?_; intro a hs
        refine wl hs (y_assign hs rfl) rfl ?_; intro a hs
        refine wpList_nil ?_
        exact ⟨k, Nat.lt_succ_self _, v18, l16, n20, n22, hs.sub ⟨rfl, rfl, rfl, rfl, rfl, trivial⟩, hM, hm⟩
      · replace hm := condF hb hm
        refine wp_skip ?_
        refine x_nb ?_
        refine x_nt ?_
        refine wp_region_lit ?_
        refine wl hs (y_move hs rfl) rfl ?_; intro a hs
        obtain ⟨n24, h25, hm⟩ := bindE hm
        refine wl hs (y_add hs rfl rfl h25) rfl ?_; intro a hs
        refine wl hs (y_assign hs rfl) rfl ?_; intro a hs
        refine wpList_nil ?_
        exact ⟨k, Nat.lt_succ_self _, v2, l3, n4, n24, hs.sub ⟨rfl, rfl, rfl, rfl, rfl, trivial⟩, hM, hm⟩
    · replace hm := condF hb hm
      refine wp_exit ?_
      refine x_et ?_
      refine x_et ?_
      refine x_eb ?_
      have hm : some (l3, n4) = some s9 := hm
      exact ⟨v2, l3, n4, Option.some.inj hm, hs.sub ⟨rfl, rfl, rfl, trivial⟩, hM⟩
  rintro a w ⟨v6, l7, n8, rfl, hs, hM⟩
  have hm := hk10
  refine x_nt ?_
  refine wp_seq ?_
  refine wp_region_lit ?_
  refine wl hs (y_move hs rfl) rfl ?_; intro a hs
  refine wl hs (y_move hs rfl) rfl ?_; intro a hs
  refine wl hs (y_move hs rfl) rfl ?_; intro a hs
  obtain ⟨t26, h27, hm⟩ := bindE hm
  refine wl hs (y_sliceSl hu_str hs rfl rfl h27) rfl ?_; intro a hs
  obtain ⟨l28, h29, hm⟩ := bindE hm
  refine wappT hu_T he_str hs hM rfl rfl h29 rfl rfl rfl ?_; intro a v30 w u31 hs hM
  have hM : Mem W w [aStrs 9 v30 l28] := hM
  refine wl hs (y_assign hs rfl) rfl ?_; intro a hs
  refine wpList_nil ?_
  refine x_nt ?_
  refine wp_ret ?_
  have hm : some l28 = some r := hm
  obtain rfl := Option.some.inj hm
  refine x_ret1 rfl hs rfl ⟨_, rfl, ?_⟩
  exact hM

set_option maxHeartbeats 4000000 in
theorem spec_nuRead_any (p0 : List UInt8) (W : World)  {r : Int} (hm : spec_nuRead_m p0 = some r) : Calls Tryd.prog 38 [.string ⟨p0.toArray⟩].toArray W fun e w => ∃ v, e = .returned v ∧ v = .int .i64 r ∧ Mem W w [] := by
  refine x_enter Tryd.func38 rfl Tryd.ntmps38 rfl ?_
  intro a hs
  have hM := Mem.start W
  unfold spec_nuRead_m at hm
  refine wp_seq ?_
  refine wp_region_lit ?_
  refine wl hs (y_assign hs rfl) rfl ?_; intro a hs
  refine wpList_nil ?_
  refine x_nt ?_
  refine wp_seq ?_
  refine wp_seq ?_
  refine wp_region_lit ?_
  refine wl hs (y_move hs rfl) rfl ?_; intro a hs
  refine wl hs (y_lenS hu_str hs rfl) rfl ?_; intro a hs
  obtain ⟨y1, h2, hm⟩ := bindE hm
  refine wcall is_28 hs rfl rfl (spec_l1In_any (p0.length : Int) 1 10 _  h2) ?_; rintro a _ w hs ⟨rfl, hX⟩
  have hM : Mem W w [] := hM.call hX
  refine wl hs (y_not hs rfl) rfl ?_; intro a hs
  refine wl hs (y_move hs rfl) rfl ?_; intro a hs
  obtain ⟨b3, hb4, hm⟩ := bindE hm
  refine wlguard (N := 44) (L' := [(18, .bool b3), (0, .string ⟨p0.toArray⟩)]) (fun w => Mem W w []) 9 ?_ ?_
  · intro K; rcases Bool.eq_false_or_eq_true (!y1) with hg5 | hg5
    · have hm := condT hg5 hb4
      refine wls hs rfl hg5 rfl ?_; intro a hs
      refine wls hs rfl hg5 rfl ?_; intro a hs
      refine wls hs rfl hg5 rfl ?_; intro a hs
      refine wls hs rfl hg5 rfl ?_; intro a hs
      refine wlu hs rfl rfl ?_; intro a hs
      refine wlu hs rfl rfl ?_; intro a hs
      refine wlu hs rfl rfl ?_; intro a hs
      refine wls hs rfl hg5 rfl ?_; intro a hs
      have hm : some true = some b3 := hm
      cases Option.some.inj hm
      refine wl hs (y_pickT hs rfl hg5 rfl) rfl ?_; intro a hs
      exact K _ _ (hs.sub ⟨rfl, rfl, trivial⟩) hM
    · have hm := condF hg5 hb4
      refine wlg hs rfl hg5 (y_move hs rfl) rfl ?_; intro a hs
      obtain ⟨x6, h7, hm⟩ := bindE hm
      refine wlg hs rfl hg5 (y_indexS hu_str hs rfl rfl h7) rfl ?_; intro a hs
      refine wlg hs rfl hg5 (y_eql hs rfl rfl) rfl ?_; intro a hs
      refine wlg hs rfl hg5 (y_move hs rfl) rfl ?_; intro a hs
      obtain ⟨b8, hb9, hm⟩ := bindE hm
      refine wlguard (N := 44) (L' := [(17, .bool b8), (0, .string ⟨p0.toArray⟩), (9, .bool (!y1))]) (fun w => Mem W w []) 4 ?_ ?_
      · intro K; rcases Bool.eq_false_or_eq_true ((x6.toNat : Int) == 48) with hg10 | hg10
        · have hm := condT hg10 hb9
          refine wlg hs rfl hg10 (y_move hs rfl) rfl ?_; intro a hs
          refine wlg hs rfl hg10 (y_lenS hu_str hs rfl) rfl ?_; intro a hs
          refine wlg hs rfl hg10 (y_gtr hs rfl rfl) rfl ?_; intro a hs
          have hm : some (decide ((p0.length : Int) > 1)) = some b8 := hm
          cases Option.some.inj hm
          refine wlg hs rfl hg5 (y_pickT hs rfl hg10 rfl) rfl ?_; intro a hs
          exact K _ _ (hs.sub ⟨rfl, rfl, rfl, trivial⟩) hM
        · have hm := condF hg10 hb9
          refine wls hs rfl hg10 rfl ?_; intro a hs
          refine wls hs rfl hg10 rfl ?_; intro a hs
          refine wls hs rfl hg10 rfl ?_; intro a hs
          have hm : some false = some b8 := hm
          cases Option.some.inj hm
          refine wlg hs rfl hg5 (y_pickF hs rfl hg10 rfl) rfl ?_; intro a hs
          exact K _ _ (hs.sub ⟨rfl, rfl, rfl, trivial⟩) hM
      intro a w hs hM
      simp only [List.drop_succ_cons, List.drop_zero]
      have hm : some b8 = some b3 := hm
      cases Option.some.inj hm
      refine wl hs (y_pickF hs rfl hg5 rfl) rfl ?_; intro a hs
      exact K _ _ (hs.sub ⟨rfl, rfl, trivial⟩) hM
  intro a w hs hM
  simp only [List.drop_succ_cons, List.drop_zero]
  refine wpList_nil ?_
  refine x_nt ?_
  refine x_cond hs rfl (fun hb => ?_) (fun hb => ?_)
  · replace hm := condT hb hm
    refine wp_seq ?_
    refine wp_region_lit ?_
    refine wl hs (y_assign hs rfl) rfl ?_; intro a hs
    refine wpList_nil ?_
    refine x_nt ?_
    refine wp_ret ?_
    refine x_rt ?_
    have hm : some (-1) = some r := hm
    obtain rfl := Option.some.inj hm
    refine x_ret1 rfl hs rfl ⟨_, rfl, ?_⟩
    exact ⟨rfl, hM⟩
  · replace hm := condF hb hm
    refine wp_skip ?_
    refine x_nt ?_
    refine wp_seq ?_
    refine wp_region_lit ?_
    refine wl hs (y_assign hs rfl) rfl ?_; intro a hs
    refine wpList_nil ?_
    refine x_nt ?_
    refine wp_seq ?_
    refine wp_seq ?_
    refine wp_region_lit ?_
    refine wl hs (y_assign hs rfl) rfl ?_; intro a hs
    refine wpList_nil ?_
    refine x_nt ?_
    obtain ⟨s14, hm, hk15⟩ := bindE hm
    refine x_mid (fun a w => ∃ (n13 : Int), Sum.inr n13 = s14 ∧ Fr a 44 [(3, .int .i64 n13)] ∧ Mem W w []) ?_ ?_
    · refine wp_block ?_
      refine x_loop (fun k a w => ∃ (n11 : Int) (n12 : Int) , Fr a 44 [(0, .string ⟨p0.toArray⟩), (3, .int .i64 n11), (4, .int .i64 n12)] ∧ Mem W w [] ∧ spec_nuRead_l1 p0 k n11 n12 = some s14) 4000000 ⟨0, 0, hs.sub ⟨rfl, rfl, rfl, trivial⟩, hM, hm⟩ ?_
      rintro k a w ⟨n11, n12, hs, hM, hm⟩
      rcases k with _ | k
      · rewrite [spec_nuRead_l1] at hm; cases hm
      rewrite [spec_nuRead_l1] at hm
      refine wp_seq ?_
      refine wp_seq ?_
      refine wp_region_lit ?_
      refine wl hs (y_move hs rfl) rfl ?_; intro a hs
      refine wl hs (y_move hs rfl) rfl ?_; intro a hs
      refine wl hs (y_lenS hu_str hs rfl) rfl ?_; intro a hs
      refine wl hs (y_lss hs rfl rfl) rfl ?_; intro a hs
      refine wpList_nil ?_
      refine x_nt ?_
      refine x_cond hs rfl (fun hb => ?_) (fun hb => ?_)
      · replace hm := condT hb hm
        refine wp_skip ?_
        refine x_nt ?_
        refine wp_seq ?_
        refine wp_block ?_
        refine wp_seq ?_
        refine wp_seq ?_
        refine wp_region_lit ?_
        refine wl hs (y_move hs rfl) rfl ?_; intro a hs
        refine wl hs (y_move hs rfl) rfl ?_; intro a hs
        obtain ⟨x17, h18, hm⟩ := bindE hm
        refine wl hs (y_indexS hu_str hs rfl rfl h18) rfl ?_; intro a hs
        refine wl hs (y_lss hs rfl rfl) rfl ?_; intro a hs
        refine wl hs (y_move hs rfl) rfl ?_; intro a hs
        obtain ⟨b19, hb20, hm⟩ := bindE hm
        refine wlguard (N := 44) (L' := [(34, .bool b19), (0, .string ⟨p0.toArray⟩), (3, .int .i64 n11), (4, .int .i64 n12)]) (fun w => Mem W w []) 5 ?_ ?_
        · intro K; rcases Bool.eq_false_or_eq_true (decide ((x17.toNat : Int) < 48)) with hg21 | hg21
          · have hm := condT hg21 hb20
            refine wls hs rfl hg21 rfl ?_; intro a hs
            refine wls hs rfl hg21 rfl ?_; intro a hs
            refine wls hs rfl hg21 rfl ?_; intro a hs
            refine wls hs rfl hg21 rfl ?_; intro a hs
            have hm : some true = some b19 := hm
            cases Option.some.inj hm
            refine wl hs (y_pickT hs rfl hg21 rfl) rfl ?_; intro a hs
            exact K _ _ (hs.sub ⟨rfl, rfl, rfl, rfl, trivial⟩) hM
          · have hm := condF hg21 hb20
            refine wlg hs rfl hg21 (y_move hs rfl) rfl ?_; intro a hs
            refine wlg hs rfl hg21 (y_move hs rfl) rfl ?_; intro a hs
            obtain ⟨x22, h23, hm⟩ := bindE hm
            refine wlg hs rfl hg21 (y_indexS hu_str hs rfl rfl h23) rfl ?_; intro a hs
            refine wlg hs rfl hg21 (y_gtr hs rfl rfl) rfl ?_; intro a hs
            have hm : some (decide ((x22.toNat : Int) > 57)) = some b19 := hm
            cases Option.some.inj hm
            refine wl hs (y_pickF hs rfl hg21 rfl) rfl ?_; intro a hs
            exact K _ _ (hs.sub ⟨rfl, rfl, rfl, rfl, trivial⟩) hM
        intro a w hs hM
        simp only [List.drop_succ_cons, List.drop_zero]
        refine wpList_nil ?_
        refine x_nt ?_
        refine x_cond hs rfl (fun hb => ?_) (fun hb => ?_)
        · replace hm := condT hb hm
          refine wp_seq ?_
          refine wp_region_lit ?_
          refine wl hs (y_assign hs rfl) rfl ?_; intro a hs
          refine wpList_nil ?_
          refine x_nt ?_
          refine wp_ret ?_
          refine x_rt ?_
          refine x_rb ?_
          refine x_rt ?_
          refine x_rt ?_
          refine x_rb ?_
          refine x_rt ?_
          refine x_rt ?_
          have hm : some (Sum.inl (-1)) = some s14 := hm
          cases Option.some.inj hm
          have hm := hk15
          have hm : some (-1) = some r := hm
          obtain rfl := Option.some.inj hm
          refine x_ret1 rfl hs rfl ⟨_, rfl, ?_⟩
          exact ⟨rfl, hM⟩
        · replace hm := condF hb hm
          refine wp_skip ?_
          refine x_nt ?_
          refine wp_region_lit ?_
          refine wl hs (y_move hs rfl) rfl ?_; intro a hs
          obtain ⟨n24, h25, hm⟩ := bindE hm
          refine wl hs (y_mul hs rfl rfl h25) rfl ?_; intro a hs
          refine wl hs (y_move hs rfl) rfl ?_; intro a hs
          refine wl hs (y_move hs rfl) rfl ?_; intro a hs
          obtain ⟨x26, h27, hm⟩ := bindE hm
          refine wl hs (y_indexS hu_str hs rfl rfl h27) rfl ?_; intro a hs
          obtain ⟨n28, h29, hm⟩ := bindE hm
          refine wl hs (y_subU hs rfl rfl h29) rfl ?_; intro a hs
          obtain ⟨n30, h31, hm⟩ := bindE hm
          refine wl hs (y_ofByte hu_int hi_u8 hs rfl h31) rfl ?_; intro a hs
          obtain ⟨n32, h33, hm⟩ := bindE hm
          refine wl hs (y_add hs rfl rfl h33) rfl ?_; intro a hs
          refine wl hs (y_assign hs rfl) rfl ?_; intro a hs
          refine wpList_nil ?_
          refine x_nb ?_
          refine x_nt ?_
          refine wp_region_lit ?_
          refine wl hs (y_move hs rfl) rfl ?_; intro a hs
          obtain ⟨n34, h35, hm⟩ := bindE hm
          refine wl hs (y_add hs rfl rfl h35) rfl ?_; intro a hs
          refine wl hs (y_assign hs rfl) rfl ?_; intro a hs
          refine wpList_nil ?_
          exact ⟨k, Nat.lt_succ_self _, n32, n34, hs.sub ⟨rfl, rfl, rfl, trivial⟩, hM, hm⟩
      · replace hm := condF hb hm
        refine wp_exit ?_
        refine x_et ?_
        refine x_et ?_
        refine x_eb ?_
        have hm : some (Sum.inr n11) = some s14 := hm
        exact ⟨n11, Option.some.inj hm, hs.sub ⟨rfl, trivial⟩, hM⟩
    rintro a w ⟨n13, rfl, hs, hM⟩
    have hm := hk15
    refine x_nt ?_
    refine wp_seq ?_
    refine wp_region_lit ?_
    refine wl hs (y_move hs rfl) rfl ?_; intro a hs
    refine wl hs (y_assign hs rfl) rfl ?_; intro a hs
    refine wpList_nil ?_
    refine x_nt ?_
    refine wp_ret ?_
    have hm : some n13 = some r := hm
    obtain rfl := Option.some.inj hm
    refine x_ret1 rfl hs rfl ⟨_, rfl, ?_⟩
    exact ⟨rfl, hM⟩

set_option maxHeartbeats 4000000 in
theorem spec_nuParse_any (p0 : List UInt8) (W : World)  {r : Int × Bool} (hm : spec_nuParse_m p0 = some r) : Calls Tryd.prog 22 [.string ⟨p0.toArray⟩].toArray W fun e w => ∃ v, e = .returned v ∧ v = .tuple #[.int .i64 r.1, .bool r.2] ∧ Mem W w [] := by
  refine x_enter Tryd.func22 rfl Tryd.ntmps22 rfl ?_
  intro a hs
  have hM := Mem.start W
  unfold spec_nuParse_m at hm
  refine wp_seq ?_
  refine wp_region_lit ?_
  refine wl hs (y_assign hs rfl) rfl ?_; intro a hs
  refine wl hs (y_assign hs rfl) rfl ?_; intro a hs
  refine wpList_nil ?_
  refine x_nt ?_
  refine wp_seq ?_
  refine wp_region_lit ?_
  refine wl hs (y_assign hs rfl) rfl ?_; intro a hs
  refine wpList_nil ?_
  refine x_nt ?_
  refine wp_seq ?_
  refine wp_seq ?_
  refine wp_region_lit ?_
  refine wl hs (y_move hs rfl) rfl ?_; intro a hs
  refine wl hs (y_neqT hs rfl rfl) rfl ?_; intro a hs
  refine wpList_nil ?_
  refine x_nt ?_
  obtain ⟨s2, hm, hk3⟩ := bindE hm
  refine x_mid (fun a w => ∃ (n1 : Int), n1 = s2 ∧ Fr a 31 [(0, .string ⟨p0.toArray⟩), (4, .int .i64 n1)] ∧ Mem W w []) ?_ ?_
  · refine x_cond hs rfl (fun hb => ?_) (fun hb => ?_)
    · replace hm := condT hb hm
      refine wp_seq ?_
      refine wp_region_lit ?_
      refine wl hs (y_move hs rfl) rfl ?_; intro a hs
      obtain ⟨y4, h5, hm⟩ := bindE hm
      refine wcall is_38 hs rfl rfl (spec_nuRead_any p0 _  h5) ?_; rintro a _ w hs ⟨rfl, hX⟩
      have hM : Mem W w [] := hM.call hX
      refine wl hs (y_assign hs rfl) rfl ?_; intro a hs
      refine wpList_nil ?_
      refine x_nt ?_
      refine wp_seq ?_
      refine wp_region_lit ?_
      refine wl hs (y_move hs rfl) rfl ?_; intro a hs
      refine wl hs (y_lenS hu_str hs rfl) rfl ?_; intro a hs
      refine wl hs (y_gtr hs rfl rfl) rfl ?_; intro a hs
      refine wl hs (y_move hs rfl) rfl ?_; intro a hs
      obtain ⟨b6, hb7, hm⟩ := bindE hm
      refine wlguard (N := 31) (L' := [(16, .bool b6), (0, .string ⟨p0.toArray⟩), (4, .int .i64 y4)]) (fun w => Mem W w []) 4 ?_ ?_
      · intro K; rcases Bool.eq_false_or_eq_true (decide ((p0.length : Int) > 1)) with hg8 | hg8
        · have hm := condT hg8 hb7
          refine wlg hs rfl hg8 (y_move hs rfl) rfl ?_; intro a hs
          obtain ⟨x9, h10, hm⟩ := bindE hm
          refine wlg hs rfl hg8 (y_indexS hu_str hs rfl rfl h10) rfl ?_; intro a hs
          refine wlg hs rfl hg8 (y_eql hs rfl rfl) rfl ?_; intro a hs
          have hm : some ((x9.toNat : Int) == 45) = some b6 := hm
          cases Option.some.inj hm
          refine wl hs (y_pickT hs rfl hg8 rfl) rfl ?_; intro a hs
          exact K _ _ (hs.sub ⟨rfl, rfl, rfl, trivial⟩) hM
        · have hm := condF hg8 hb7
          refine wls hs rfl hg8 rfl ?_; intro a hs
          refine wls hs rfl hg8 rfl ?_; intro a hs
          refine wls hs rfl hg8 rfl ?_; intro a hs
          have hm : some false = some b6 := hm
          cases Option.some.inj hm
          refine wl hs (y_pickF hs rfl hg8 rfl) rfl ?_; intro a hs
          exact K _ _ (hs.sub ⟨rfl, rfl, rfl, trivial⟩) hM
      intro a w hs hM
      simp only [List.drop_succ_cons, List.drop_zero]
      refine wpList_nil ?_
      refine x_nt ?_
      refine x_cond hs rfl (fun hb => ?_) (fun hb => ?_)
      · replace hm := condT hb hm
        refine wp_region_lit ?_
        refine wl hs (y_move hs rfl) rfl ?_; intro a hs
        obtain ⟨t11, h12, hm⟩ := bindE hm
        refine wl hs (y_sliceSl hu_str hs rfl rfl h12) rfl ?_; intro a hs
        obtain ⟨y13, h14, hm⟩ := bindE hm
        refine wcall is_38 hs rfl rfl (spec_nuRead_any t11 _  h14) ?_; rintro a _ w hs ⟨rfl, hX⟩
        have hM : Mem W w [] := hM.call hX
        obtain ⟨n15, h16, hm⟩ := bindE hm
        refine wl hs (y_neg hs rfl h16) rfl ?_; intro a hs
        refine wl hs (y_assign hs rfl) rfl ?_; intro a hs
        refine wpList_nil ?_
        have hm : some n15 = some s2 := hm
        exact ⟨n15, Option.some.inj hm, hs.sub ⟨rfl, rfl, trivial⟩, hM⟩
      · replace hm := condF hb hm
        refine wp_skip ?_
        have hm : some y4 = some s2 := hm
        exact ⟨y4, Option.some.inj hm, hs.sub ⟨rfl, rfl, trivial⟩, hM⟩
    · replace hm := condF hb hm
      refine wp_skip ?_
      have hm : some 1000000000 = some s2 := hm
      exact ⟨1000000000, Option.some.inj hm, hs.sub ⟨rfl, rfl, trivial⟩, hM⟩
  rintro a w ⟨n1, rfl, hs, hM⟩
  have hm := hk3
  refine x_nt ?_
  refine wp_seq ?_
  refine wp_seq ?_
  refine wp_region_lit ?_
  refine wl hs (y_move hs rfl) rfl ?_; intro a hs
  obtain ⟨y17, h18, hm⟩ := bindE hm
  refine wcall is_39 hs rfl rfl (spec_nuGood_any n1 _  h18) ?_; rintro a _ w hs ⟨rfl, hX⟩
  have hM : Mem W w [] := hM.call hX
  refine wl hs (y_not hs rfl) rfl ?_; intro a hs
  refine wl hs (y_move hs rfl) rfl ?_; intro a hs
  obtain ⟨b19, hb20, hm⟩ := bindE hm
  refine wlguard (N := 31) (L' := [(29, .bool b19), (4, .int .i64 n1)]) (fun w => Mem W w []) 5 ?_ ?_
  · intro K; rcases Bool.eq_false_or_eq_true (!y17) with hg21 | hg21
    · have hm := condT hg21 hb20
      refine wls hs rfl hg21 rfl ?_; intro a hs
      refine wls hs rfl hg21 rfl ?_; intro a hs
      refine wls hs rfl hg21 rfl ?_; intro a hs
      refine wls hs rfl hg21 rfl ?_; intro a hs
      have hm : some true = some b19 := hm
      cases Option.some.inj hm
      refine wl hs (y_pickT hs rfl hg21 rfl) rfl ?_; intro a hs
      exact K _ _ (hs.sub ⟨rfl, rfl, trivial⟩) hM
    · have hm := condF hg21 hb20
      refine wlg hs rfl hg21 (y_move hs rfl) rfl ?_; intro a hs
      obtain ⟨y22, h23, hm⟩ := bindE hm
      refine wcallg is_30 hs rfl hg21 rfl rfl (spec_nuText_any n1 _  h23) ?_; rintro a _ w hs ⟨rfl, hX⟩
      have hM : Mem W w [] := hM.call hX
      refine wlg hs rfl hg21 (y_move hs rfl) rfl ?_; intro a hs
      refine wlg hs rfl hg21 (y_neqT hs rfl rfl) rfl ?_; intro a hs
      have hm : some (y22 != p0) = some b19 := hm
      cases Option.some.inj hm
      refine wl hs (y_pickF hs rfl hg21 rfl) rfl ?_; intro a hs
      exact K _ _ (hs.sub ⟨rfl, rfl, trivial⟩) hM
  intro a w hs hM
  simp only [List.drop_succ_cons, List.drop_zero]
  refine wpList_nil ?_
  refine x_nt ?_
  refine x_cond hs rfl (fun hb => ?_) (fun hb => ?_)
  · replace hm := condT hb hm
    refine wp_seq ?_
    refine wp_region_lit ?_
    refine wl hs (y_assign hs rfl) rfl ?_; intro a hs
    refine wl hs (y_assign hs rfl) rfl ?_; intro a hs
    refine wpList_nil ?_
    refine x_nt ?_
    refine wp_ret ?_
    refine x_rt ?_
    have hm : some (0, false) = some r := hm
    obtain rfl := Option.some.inj hm
    refine x_ret2 rfl hs rfl rfl ⟨_, rfl, ?_⟩
    exact ⟨rfl, hM⟩
  · replace hm := condF hb hm
    refine wp_skip ?_
    refine x_nt ?_
    refine wp_seq ?_
    refine wp_region_lit ?_
    refine wl hs (y_move hs rfl) rfl ?_; intro a hs
    refine wl hs (y_assign hs rfl) rfl ?_; intro a hs
    refine wl hs (y_assign hs rfl) rfl ?_; intro a hs
    refine wpList_nil ?_
    refine x_nt ?_
    refine wp_ret ?_
    have hm : some (n1, true) = some r := hm
    obtain rfl := Option.some.inj hm
    refine x_ret2 rfl hs rfl rfl ⟨_, rfl, ?_⟩
    exact ⟨rfl, hM⟩

set_option maxHeartbeats 4000000 in
theorem spec_ParseMatrix_any (p0 : List UInt8) (W : World)  {r : (List (List Int)) × Bool} (hm : spec_ParseMatrix_m p0 = some r) : Calls Tryd.prog 10 [.string ⟨p0.toArray⟩].toArray W fun e w => ∃ v, e = .returned v ∧ ∃ v0, ∃ vs0, v = .tuple #[v0, .bool r.2] ∧ Mem W w [aMat 33 3 v0 vs0 r.1] := by
  refine x_enter Tryd.func10 rfl Tryd.ntmps10 rfl ?_
  intro a hs
  have hM := Mem.start W
  unfold spec_ParseMatrix_m at hm
  refine wp_seq ?_
  refine wp_region_lit ?_
  refine wl hs (y_assign hs rfl) rfl ?_; intro a hs
  refine wl hs (y_assign hs rfl) rfl ?_; intro a hs
  refine wpList_nil ?_
  refine x_nt ?_
  refine wp_seq ?_
  refine wp_region_lit ?_
  refine wl hs (y_move hs rfl) rfl ?_; intro a hs
  obtain ⟨y1, h2, hm⟩ := bindE hm
  refine wcall is_21 hs rfl rfl (spec_l1Split_any p0 59 _  h2) ?_; rintro a v3 w hs hX
  have hM : Mem W w [aStrs 9 v3 y1] := hM.call hX
  refine wl hs (y_assign hs rfl) rfl ?_; intro a hs
  refine wpList_nil ?_
  refine x_nt ?_
  refine wp_seq ?_
  refine wp_seq ?_
  refine wp_region_lit ?_
  refine wl hs (y_move hs rfl) rfl ?_; intro a hs
  refine wl hs (y_len hu_T hs rfl ((hM.rdT 0 rfl)).1) rfl ?_; intro a hs
  refine wl hs (y_gtr hs rfl rfl) rfl ?_; intro a hs
  refine wpList_nil ?_
  refine x_nt ?_
  refine x_cond hs rfl (fun hb => ?_) (fun hb => ?_)
  · replace hm := condT hb hm
    refine wp_seq ?_
    refine wp_region_lit ?_
    refine wl hs (y_assign hs rfl) rfl ?_; intro a hs
    refine wl hs (y_assign hs rfl) rfl ?_; intro a hs
    refine wpList_nil ?_
    refine x_nt ?_
    refine wp_ret ?_
    refine x_rt ?_
    have hm : some ([], false) = some r := hm
    obtain rfl := Option.some.inj hm
    refine x_ret2 rfl hs rfl rfl ⟨_, rfl, ?_⟩
    have hM := hM.nilM 33 3
    exact ⟨_, _, rfl, (hM.keep_ 1)⟩
  · replace hm := condF hb hm
    refine wp_skip ?_
    refine x_nt ?_
    refine wp_seq ?_
    refine wp_region_lit ?_
    refine wl hs (y_assign hs rfl) rfl ?_; intro a hs
    have hM := hM.nilM 33 3
    refine wpList_nil ?_
    refine x_nt ?_
    refine wp_seq ?_
    refine wp_seq ?_
    refine wp_region_lit ?_
    refine wl hs (y_move hs rfl) rfl ?_; intro a hs
    refine wl hs (y_move hs rfl) rfl ?_; intro a hs
    refine wl hs (y_len hu_T hs rfl ((hM.rdT 1 rfl)).1) rfl ?_; intro a hs
    obtain ⟨n7, h8, hm⟩ := bindE hm
    refine wl hs (y_sub hs rfl rfl h8) rfl ?_; intro a hs
    obtain ⟨l9, h10, hm⟩ := bindE hm
    obtain ⟨v11, h12, hr13⟩ := RdT.cut hu_T he_str (hM.rdT 1 rfl) h10
    refine wl hs (y_cut hs rfl rfl h12) rfl ?_; intro a hs
    refine wl hs (y_len hu_T hs rfl ((hr13 _ (hM.rdT 1 rfl))).1) rfl ?_; intro a hs
    refine wl hs (y_move hs rfl) rfl ?_; intro a hs
    refine wpList_nil ?_
    refine x_nt ?_
    obtain ⟨s21, hm, hk22⟩ := bindE hm
    refine x_mid (fun a w => ∃ (v18 : Value), ∃ (vs19 : List Value), ∃ (l20 : List (List Int)), Sum.inr l20 = s21 ∧ Fr a 62 [(0, .string ⟨p0.toArray⟩), (5, v18)] ∧ Mem W w [aMat 33 3 v18 vs19 l20]) ?_ ?_
    · refine wp_block ?_
      refine x_loop (fun k a w => ∃ (q23 : List (List UInt8)) (j14 : Nat) (v15 : Value) (vs16 : List Value) (l17 : List (List Int)) , k = q23.length ∧ Fr a 62 [(0, .string ⟨p0.toArray⟩), (5, v15), (22, v11), (23, .int .i64 (l9.length : Int)), (24, .int .i64 (j14 : Int))] ∧ Mem W w [aMat 33 3 v15 vs16 l17, aStrs 9 v3 y1] ∧ spec_ParseMatrix_l1 q23 j14 l17 = some s21 ∧ List.drop j14 l9 = q23) _ ⟨l9, 0, (.slice none 0 0), [], [], rfl, hs.sub ⟨rfl, rfl, rfl, rfl, rfl, trivial⟩, hM, hm, rfl⟩ ?_
      rintro k a w ⟨q23, j14, v15, vs16, l17, rfl, hs, hM, hm, hj14⟩
      rcases q23 with _ | ⟨x24, q23⟩
      · rewrite [spec_ParseMatrix_l1] at hm
        refine wp_seq ?_
        refine wp_region_lit ?_
        refine wl hs (y_lss hs rfl rfl) rfl ?_; intro a hs
        refine wpList_nil ?_
        refine x_nt ?_
        refine wp_seq ?_
        refine x_condF hs rfl (drop_f hj14) ?_
        refine wp_exit ?_
        refine x_et ?_
        refine x_et ?_
        refine x_eb ?_
        have hm : some (Sum.inr l17) = some s21 := hm
        exact ⟨v15, vs16, l17, Option.some.inj hm, hs.sub ⟨rfl, rfl, trivial⟩, (hM.keep_ 1)⟩
      · rewrite [spec_ParseMatrix_l1] at hm
        have hx25 := drop_idx hj14
        have hsj14 := ck_succ hj14 (RdS.len (hr13 _ (hM.rdT 1 rfl)).1)
        refine wp_seq ?_
        refine wp_region_lit ?_
        refine wl hs (y_lss hs rfl rfl) rfl ?_; intro a hs
        refine wpList_nil ?_
        refine x_nt ?_
        refine wp_seq ?_
        refine x_condT hs rfl (drop_t hj14) ?_
        refine wp_skip ?_
        refine x_nt ?_
        refine wp_seq ?_
        refine wp_block ?_
        refine wp_seq ?_
        refine wp_region_lit ?_
        have he26 := RdT.at_ (hr13 _ (hM.rdT 1 rfl)) hx25
        refine wl hs (y_index ht_T hs rfl rfl he26) rfl ?_; intro a hs
        refine wl hs (y_load sc_str hs rfl he26.cell) rfl ?_; intro a hs
        refine wl hs (y_assign hs rfl) rfl ?_; intro a hs
        refine wpList_nil ?_
        refine x_nt ?_
        refine wp_seq ?_
        refine wp_region_lit ?_
        refine wl hs (y_assign hs rfl) rfl ?_; intro a hs
        have hM := hM.nilI 3
        refine wpList_nil ?_
        refine x_nt ?_
        refine wp_seq ?_
        refine wp_seq ?_
        refine wp_region_lit ?_
        refine wl hs (y_move hs rfl) rfl ?_; intro a hs
        obtain ⟨y28, h29, hm⟩ := bindE hm
        refine wcall is_21 hs rfl rfl (spec_l1Split_any x24 32 _  h29) ?_; rintro a v30 w hs hX
        have hM : Mem W w [aStrs 9 v30 y28, aInts 3 (.slice none 0 0) ([]), aMat 33 3 v15 vs16 l17, aStrs 9 v3 y1] := hM.call hX
        refine wl hs (y_len hu_T hs rfl ((hM.rdT 0 rfl)).1) rfl ?_; intro a hs
        refine wl hs (y_move hs rfl) rfl ?_; intro a hs
        refine wpList_nil ?_
        refine x_nt ?_
        obtain ⟨s37, hm, hk38⟩ := bindE hm
        refine x_mid (fun a w => ∃ (v35 : Value), ∃ (l36 : List Int), Sum.inr l36 = s37 ∧ Fr a 62 [(0, .string ⟨p0.toArray⟩), (5, v15), (8, v35), (22, v11), (23, .int .i64 (l9.length : Int)), (24, .int .i64 (j14 : Int))] ∧ Mem W w [aInts 3 v35 l36, aMat 33 3 v15 vs16 l17, aStrs 9 v3 y1]) ?_ ?_
        · refine wp_block ?_
          refine x_loop (fun k a w => ∃ (q39 : List (List UInt8)) (j32 : Nat) (v33 : Value) (l34 : List Int) , k = q39.length ∧ Fr a 62 [(0, .string ⟨p0.toArray⟩), (5, v15), (8, v33), (22, v11), (23, .int .i64 (l9.length : Int)), (24, .int .i64 (j14 : Int)), (29, v30), (30, .int .i64 (y28.length : Int)), (31, .int .i64 (j32 : Int))] ∧ Mem W w [aStrs 9 v30 y28, aInts 3 v33 l34, aMat 33 3 v15 vs16 l17, aStrs 9 v3 y1] ∧ spec_ParseMatrix_l2 q39 j32 l34 = some s37 ∧ List.drop j32 y28 = q39) _ ⟨y28, 0, (.slice none 0 0), [], rfl, hs.sub ⟨rfl, rfl, rfl, rfl, rfl, rfl, rfl, rfl, rfl, trivial⟩, hM, hm, rfl⟩ ?_
          rintro k a w ⟨q39, j32, v33, l34, rfl, hs, hM, hm, hj32⟩
          rcases q39 with _ | ⟨x40, q39⟩
          · rewrite [spec_ParseMatrix_l2] at hm
            refine wp_seq ?_
            refine wp_region_lit ?_
            refine wl hs (y_lss hs rfl rfl) rfl ?_; intro a hs
            refine wpList_nil ?_
            refine x_nt ?_
            refine wp_seq ?_
            refine x_condF hs rfl (drop_f hj32) ?_
            refine wp_exit ?_
            refine x_et ?_
            refine x_et ?_
            refine x_eb ?_
            have hm : some (Sum.inr l34) = some s37 := hm
            exact ⟨v33, l34, Option.some.inj hm, hs.sub ⟨rfl, rfl, rfl, rfl, rfl, rfl, trivial⟩, hM.drop⟩
          · rewrite [spec_ParseMatrix_l2] at hm
            have hx41 := drop_idx hj32
            have hsj32 := ck_succ hj32 (RdS.len (hM.rdT 0 rfl).1)
            refine wp_seq ?_
            refine wp_region_lit ?_
            refine wl hs (y_lss hs rfl rfl) rfl ?_; intro a hs
            refine wpList_nil ?_
            refine x_nt ?_
            refine wp_seq ?_
            refine x_condT hs rfl (drop_t hj32) ?_
            refine wp_skip ?_
            refine x_nt ?_
            refine wp_seq ?_
            refine wp_block ?_
            refine wp_seq ?_
            refine wp_region_lit ?_
            have he42 := RdT.at_ (hM.rdT 0 rfl) hx41
            refine wl hs (y_index ht_T hs rfl rfl he42) rfl ?_; intro a hs
            refine wl hs (y_load sc_str hs rfl he42.cell) rfl ?_; intro a hs
            refine wl hs (y_assign hs rfl) rfl ?_; intro a hs
            refine wpList_nil ?_
            refine x_nt ?_
            refine wp_seq ?_
            refine wp_region_lit ?_
            refine wl hs (y_move hs rfl) rfl ?_; intro a hs
            obtain ⟨y43, h44, hm⟩ := bindE hm
            refine wcall is_22 hs rfl rfl (spec_nuParse_any x40 _  h44) ?_; rintro a _ w hs ⟨rfl, hX⟩
            have hM : Mem W w [aStrs 9 v30 y28, aInts 3 v33 l34, aMat 33 3 v15 vs16 l17, aStrs 9 v3 y1] := hM.call hX
            refine wl hs (y_move hs rfl) rfl ?_; intro a hs
            refine wl hs (y_extract hs rfl rfl) rfl ?_; intro a hs
            refine wl hs (y_extract hs rfl rfl) rfl ?_; intro a hs
            refine wl hs (y_assign hs rfl) rfl ?_; intro a hs
            refine wl hs (y_assign hs rfl) rfl ?_; intro a hs
            refine wpList_nil ?_
            refine x_nt ?_
            refine wp_seq ?_
            refine wp_seq ?_
            refine wp_region_lit ?_
            refine wl hs (y_move hs rfl) rfl ?_; intro a hs
            refine wl hs (y_not hs rfl) rfl ?_; intro a hs
            refine wpList_nil ?_
            refine x_nt ?_
            refine x_cond hs rfl (fun hb => ?_) (fun hb => ?_)
            · replace hm := condT hb hm
              refine wp_seq ?_
              refine wp_region_lit ?_
              refine wl hs (y_assign hs rfl) rfl ?_; intro a hs
              refine wl hs (y_assign hs rfl) rfl ?_; intro a hs
              refine wpList_nil ?_
              refine x_nt ?_
              refine wp_ret ?_
              refine x_rt ?_
              refine x_rb ?_
              refine x_rt ?_
              refine x_rt ?_
              refine x_rb ?_
              refine x_rt ?_
              refine x_rt ?_
              refine x_rb ?_
              refine x_rt ?_
              refine x_rt ?_
              refine x_rb ?_
              refine x_rt ?_
              refine x_rt ?_
              have hm : some (Sum.inl ([], false)) = some s37 := hm
              cases Option.some.inj hm
              have hm := hk38
              have hm : some (Sum.inl ([], false)) = some s21 := hm
              cases Option.some.inj hm
              have hm := hk22
              have hm : some ([], false) = some r := hm
              obtain rfl := Option.some.inj hm
              refine x_ret2 rfl hs rfl rfl ⟨_, rfl, ?_⟩
              have hM := hM.nilM 33 3
              exact ⟨_, _, rfl, (hM.keep_ 1)⟩
            · replace hm := condF hb hm
              refine wp_skip ?_
              refine x_nt ?_
              refine wp_region_lit ?_
              refine wl hs (y_move hs rfl) rfl ?_; intro a hs
              refine wl hs (y_move hs rfl) rfl ?_; intro a hs
              obtain ⟨l46, h47, hm⟩ := bindE hm
              refine wappI hu_I he_int hs (hM.front 1 rfl) rfl rfl h47 rfl rfl rfl ?_; intro a v48 w u49 hs hM
              have hM : Mem W w [aInts 3 v48 l46, aStrs 9 v30 y28, aMat 33 3 v15 vs16 l17, aStrs 9 v3 y1] := hM
              refine wl hs (y_assign hs rfl) rfl ?_; intro a hs
              refine wpList_nil ?_
              refine x_nb ?_
              refine x_nt ?_
              refine wp_region_lit ?_
              refine wl hs (y_add hs rfl rfl hsj32) rfl ?_; intro a hs
              refine wl hs (y_move hs rfl) rfl ?_; intro a hs
              refine wpList_nil ?_
              exact ⟨_, by simp, q39, j32 + 1, v48, l46, rfl, hs.sub ⟨rfl, rfl, rfl, rfl, rfl, rfl, rfl, rfl, rfl, trivial⟩, ((((hM.front 3 rfl).front 3 rfl).front 2 rfl).front 3 rfl), hm, drop_next hj32⟩
        rintro a w ⟨v35, l36, rfl, hs, hM⟩
        have hm := hk38
        refine x_nt ?_
        refine wp_region_lit ?_
        refine wl hs (y_move hs rfl) rfl ?_; intro a hs
        refine wl hs (y_move hs rfl) rfl ?_; intro a hs
        obtain ⟨l50, h51, hm⟩ := bindE hm
        refine wappM hu_M he_I hs (((hM.front 2 rfl).front 1 rfl).front 2 rfl) rfl rfl h51 rfl rfl rfl ?_; intro a v52 w u53 hs hM
        have hM : Mem W w [aMat 33 3 v52 (vs16 ++ [v35]) l50, aStrs 9 v3 y1] := hM
        refine wl hs (y_assign hs rfl) rfl ?_; intro a hs
        refine wpList_nil ?_
        refine x_nb ?_
        refine x_nt ?_
        refine wp_region_lit ?_
        refine wl hs (y_add hs rfl rfl hsj14) rfl ?_; intro a hs
        refine wl hs (y_move hs rfl) rfl ?_; intro a hs
        refine wpList_nil ?_
        exact ⟨_, by simp, q23, j14 + 1, v52, (vs16 ++ [v35]), l50, rfl, hs.sub ⟨rfl, rfl, rfl, rfl, rfl, trivial⟩, hM, hm, drop_next hj14⟩
    rintro a w ⟨v18, vs19, l20, rfl, hs, hM⟩
    have hm := hk22
    refine x_nt ?_
    refine wp_seq ?_
    refine wp_seq ?_
    refine wp_region_lit ?_
    refine wl hs (y_move hs rfl) rfl ?_; intro a hs
    obtain ⟨y54, h55, hm⟩ := bindE hm
    refine wcall is_15 hs rfl rfl (spec_mxGood_any v18 l20 _ (hM.rdM 0 rfl) h55) ?_; rintro a _ w hs ⟨rfl, hX⟩
    have hM : Mem W w [aMat 33 3 v18 vs19 l20] := hM.call hX
    refine wl hs (y_not hs rfl) rfl ?_; intro a hs
    refine wl hs (y_move hs rfl) rfl ?_; intro a hs
    obtain ⟨b56, hb57, hm⟩ := bindE hm
    refine wlguard (N := 62) (L' := [(60, .bool b56), (5, v18)]) (fun w => Mem W w [aMat 33 3 v18 vs19 l20]) 5 ?_ ?_
    · intro K; rcases Bool.eq_false_or_eq_true (!y54) with hg58 | hg58
      · have hm := condT hg58 hb57
        refine wls hs rfl hg58 rfl ?_; intro a hs
        refine wls hs rfl hg58 rfl ?_; intro a hs
        refine wls hs rfl hg58 rfl ?_; intro a hs
        refine wls hs rfl hg58 rfl ?_; intro a hs
        have hm : some true = some b56 := hm
        cases Option.some.inj hm
        refine wl hs (y_pickT hs rfl hg58 rfl) rfl ?_; intro a hs
        exact K _ _ (hs.sub ⟨rfl, rfl, trivial⟩) hM
      · have hm := condF hg58 hb57
        refine wlg hs rfl hg58 (y_move hs rfl) rfl ?_; intro a hs
        obtain ⟨y59, h60, hm⟩ := bindE hm
        refine wcallg is_16 hs rfl hg58 rfl rfl (spec_mxText_any v18 l20 _ (hM.rdM 0 rfl) h60) ?_; rintro a _ w hs ⟨rfl, hX⟩
        have hM : Mem W w [aMat 33 3 v18 vs19 l20] := hM.call hX
        refine wlg hs rfl hg58 (y_move hs rfl) rfl ?_; intro a hs
        refine wlg hs rfl hg58 (y_neqT hs rfl rfl) rfl ?_; intro a hs
        have hm : some (y59 != p0) = some b56 := hm
        cases Option.some.inj hm
        refine wl hs (y_pickF hs rfl hg58 rfl) rfl ?_; intro a hs
        exact K _ _ (hs.sub ⟨rfl, rfl, trivial⟩) hM
    intro a w hs hM
    simp only [List.drop_succ_cons, List.drop_zero]
    refine wpList_nil ?_
    refine x_nt ?_
    refine x_cond hs rfl (fun hb => ?_) (fun hb => ?_)
    · replace hm := condT hb hm
      refine wp_seq ?_
      refine wp_region_lit ?_
      refine wl hs (y_assign hs rfl) rfl ?_; intro a hs
      refine wl hs (y_assign hs rfl) rfl ?_; intro a hs
      refine wpList_nil ?_
      refine x_nt ?_
      refine wp_ret ?_
      refine x_rt ?_
      have hm : some ([], false) = some r := hm
      obtain rfl := Option.some.inj hm
      refine x_ret2 rfl hs rfl rfl ⟨_, rfl, ?_⟩
      have hM := hM.nilM 33 3
      exact ⟨_, _, rfl, (hM.keep_ 1)⟩
    · replace hm := condF hb hm
      refine wp_skip ?_
      refine x_nt ?_
      refine wp_seq ?_
      refine wp_region_lit ?_
      refine wl hs (y_move hs rfl) rfl ?_; intro a hs
      refine wl hs (y_assign hs rfl) rfl ?_; intro a hs
      refine wl hs (y_assign hs rfl) rfl ?_; intro a hs
      refine wpList_nil ?_
      refine x_nt ?_
      refine wp_ret ?_
      have hm : some (l20, true) = some r := hm
      obtain rfl := Option.some.inj hm
      refine x_ret2 rfl hs rfl rfl ⟨_, rfl, ?_⟩
      exact ⟨_, _, rfl, hM⟩

end Go.Proofs.YtcglmncmnlkpmaaDoor
