/- The code of this unit computes what its mirrors say. Written by program (wip/gen). -/
import Derived.Test.YtcglmncmnlkpmaaDoorFacts
import Derived.Test.YtcglmncmnlkpmaaDoorTxqM
import Derived.Test.YtcglmncmnlkpmaaDoorNumW
namespace Go.Proofs.YtcglmncmnlkpmaaDoor
open Go.RowKit
set_option linter.unusedVariables false

theorem impl_parts_any (p0 : List UInt8) (W : World) (hT : TabOk2 W) {r : (List (List UInt8)) × Bool} (hm : impl_parts_m p0 = some r) : Calls Tryd.prog 23 [.string ⟨p0.toArray⟩].toArray W fun e w => ∃ v, e = .returned v ∧ ∃ v0, v = .tuple #[v0, .bool r.2] ∧ Mem W w [aStrs 9 v0 r.1] := by
  refine x_enter Tryd.func23 rfl Tryd.ntmps23 rfl ?_
  intro a hs
  have hM := Mem.start W
  unfold impl_parts_m at hm
  refine wp_seq ?_
  refine wp_region_lit ?_
  refine wl hs (y_assign hs rfl) rfl ?_; intro a hs
  refine wl hs (y_assign hs rfl) rfl ?_; intro a hs
  refine wpList_nil ?_
  refine x_nt ?_
  refine wp_seq ?_
  refine wp_region_lit ?_
  refine wl hs (y_move hs rfl) rfl ?_; intro a hs
  obtain ⟨y1, h2, hm⟩ := bindE hm
  refine wcall is_40 hs rfl rfl (strings_Split_any p0 ([59] : List UInt8) _ (hT.below hM.bel) h2) ?_; rintro a v3 w hs hX
  have hM : Mem W w [aStrs 9 v3 y1] := hM.call hX
  refine wl hs (y_assign hs rfl) rfl ?_; intro a hs
  refine wpList_nil ?_
  refine x_nt ?_
  refine wp_seq ?_
  refine wp_region_lit ?_
  refine wl hs (y_move hs rfl) rfl ?_; intro a hs
  refine wl hs (y_len hu_T hs rfl ((hM.rdT 0 rfl)).1) rfl ?_; intro a hs
  obtain ⟨n5, h6, hm⟩ := bindE hm
  refine wl hs (y_sub hs rfl rfl h6) rfl ?_; intro a hs
  refine wl hs (y_assign hs rfl) rfl ?_; intro a hs
  refine wpList_nil ?_
  refine x_nt ?_
  refine wp_seq ?_
  refine wc_start hmix [0, 1, 3, 4, 5, 6, 7] (fun w => Mem W w [aStrs 9 v3 y1]) (by rfl) ?_
  refine wc (i := 0) (fuel := 9) rfl (by kernel_rfl) (fun w w2 hS hE => hS.quiet hE) hM hs (fun w1 hS => y_move hs rfl) rfl ?_; intro a hs
  refine wc (i := 1) (fuel := 8) rfl (by kernel_rfl) (fun w w2 hS hE => hS.quiet hE) hM hs (fun w1 hS => y_move hs rfl) rfl ?_; intro a hs
  refine wc (i := 3) (fuel := 7) rfl (by kernel_rfl) (fun w w2 hS hE => hS.quiet hE) hM hs (fun w1 hS => y_move hs rfl) rfl ?_; intro a hs
  refine wc (i := 4) (fuel := 6) rfl (by kernel_rfl) (fun w w2 hS hE => hS.quiet hE) hM hs (fun w1 hS => y_move hs rfl) rfl ?_; intro a hs
  obtain ⟨x7, hx8, hm⟩ := bindE hm
  have he9 := fun (w1 : World) (hS : Mem W w1 [aStrs 9 v3 y1]) => RdT.at_ (hS.rdT 0 rfl) hx8
  refine wc (i := 5) (fuel := 5) rfl (by kernel_rfl) (fun w w2 hS hE => hS.quiet hE) hM hs (fun w1 hS => y_index ht_T hs rfl rfl (he9 w1 hS)) rfl ?_; intro a hs
  refine wc (i := 6) (fuel := 4) rfl (by kernel_rfl) (fun w w2 hS hE => hS.quiet hE) hM hs (fun w1 hS => y_load sc_str hs rfl (he9 w1 hS).cell) rfl ?_; intro a hs
  refine wc (i := 7) (fuel := 3) rfl (by kernel_rfl) (fun w w2 hS hE => hS.quiet hE) hM hs (fun w1 hS => y_eqlT hs rfl rfl) rfl ?_; intro a hs
  refine wc_oneS (fuel := 2) 2 rfl (by kernel_rfl) ?_
  intro w hw
  replace hM := hM.quiet hw
  obtain ⟨l10, h11, hm⟩ := bindE hm
  obtain ⟨v12, h13, hr14⟩ := RdT.cut hu_T he_str (hM.rdT 0 rfl) h11
  refine wl hs (y_cut hs rfl rfl h13) rfl ?_; intro a hs
  refine on_nil ⟨hM, ?_⟩
  refine wc_oneS (fuel := 1) 8 rfl (by kernel_rfl) ?_
  intro w hw
  replace hM := hM.quiet hw
  refine wl hs (y_assign hs rfl) rfl ?_; intro a hs
  refine on_nil ⟨hM, ?_⟩
  refine wc_one (fuel := 0) 9 rfl (by kernel_rfl) ?_
  intro w hw
  replace hM := hM.quiet hw
  refine wl hs (y_assign hs rfl) rfl ?_; intro a hs
  refine on_nil ?_
  refine wc_done (by kernel_rfl) ?_
  intro w hw
  replace hM := hM.quiet hw
  refine x_nt ?_
  refine wp_ret ?_
  have hm : some (l10, x7 == ([] : List UInt8)) = some r := hm
  obtain rfl := Option.some.inj hm
  refine x_ret2 rfl hs rfl rfl ⟨_, rfl, ?_⟩
  have hM : Mem W w [aStrs 9 v12 l10] := Mem.cutT hu_T he_str hM h11 h13
  exact ⟨_, rfl, hM⟩

theorem impl_parseNumber_any (p0 : List UInt8) (W : World) (hT : TabOk2 W) {r : Int × Bool} (hm : impl_parseNumber_m p0 = some r) : Calls Tryd.prog 42 [.string ⟨p0.toArray⟩].toArray W fun e w => ∃ v, e = .returned v ∧ v = .tuple #[.int .i64 r.1, .bool r.2] ∧ Mem W w [] := by
  refine x_enter Tryd.func42 rfl Tryd.ntmps42 rfl ?_
  intro a hs
  have hM := Mem.start W
  unfold impl_parseNumber_m at hm
  refine wp_seq ?_
  refine wp_region_lit ?_
  refine wl hs (y_assign hs rfl) rfl ?_; intro a hs
  refine wl hs (y_assign hs rfl) rfl ?_; intro a hs
  refine wpList_nil ?_
  refine x_nt ?_
  refine wp_seq ?_
  refine wp_seq ?_
  refine wp_region_lit ?_
  refine wl hs (y_move hs rfl) rfl ?_; intro a hs
  refine wl hs (y_eqlT hs rfl rfl) rfl ?_; intro a hs
  refine wpList_nil ?_
  refine x_nt ?_
  refine x_cond hs rfl (fun hb => ?_) (fun hb => ?_)
  · replace hm := condT hb hm
    refine wp_seq ?_
    refine wp_region_lit ?_
    refine wl hs (y_assign hs rfl) rfl ?_; intro a hs
    refine wl hs (y_assign hs rfl) rfl ?_; intro a hs
    refine wpList_nil ?_
    refine x_nt ?_
    refine wp_ret ?_
    refine x_rt ?_
    have hm : some (1000000000, true) = some r := hm
    obtain rfl := Option.some.inj hm
    refine x_ret2 rfl hs rfl rfl ⟨_, rfl, ?_⟩
    exact ⟨rfl, hM⟩
  · replace hm := condF hb hm
    refine wp_skip ?_
    refine x_nt ?_
    refine wp_seq ?_
    refine wp_region_lit ?_
    refine wl hs (y_move hs rfl) rfl ?_; intro a hs
    obtain ⟨y1, h2, hm⟩ := bindE hm
    refine wcall is_51 hs rfl rfl (strconv_Atoi_any p0 _ (hT.below hM.bel) h2) ?_; rintro a _ w hs ⟨v3, rfl, hE4, hX⟩
    have hM : Mem W w [] := hM.call hX
    refine wl hs (y_move hs rfl) rfl ?_; intro a hs
    refine wl hs (y_extract hs rfl rfl) rfl ?_; intro a hs
    refine wl hs (y_extract hs rfl rfl) rfl ?_; intro a hs
    refine wl hs (y_assign hs rfl) rfl ?_; intro a hs
    refine wl hs (y_assign hs rfl) rfl ?_; intro a hs
    refine wpList_nil ?_
    refine x_nt ?_
    refine wp_seq ?_
    refine wp_seq ?_
    refine wp_region_lit ?_
    refine wl hs (y_move hs rfl) rfl ?_; intro a hs
    refine wl hs (y_neqE hI_err hs rfl hE4) rfl ?_; intro a hs
    refine wl hs (y_move hs rfl) rfl ?_; intro a hs
    obtain ⟨b5, hb6, hm⟩ := bindE hm
    refine wlguard (N := 27) (L' := [(19, .bool b5), (0, .string ⟨p0.toArray⟩), (4, .int .i64 y1.1)]) (fun w => Mem W w []) 4 ?_ ?_
    · intro K; rcases Bool.eq_false_or_eq_true y1.2 with hg7 | hg7
      · have hm := condT hg7 hb6
        refine wls hs rfl hg7 rfl ?_; intro a hs
        refine wls hs rfl hg7 rfl ?_; intro a hs
        refine wls hs rfl hg7 rfl ?_; intro a hs
        have hm : some true = some b5 := hm
        cases Option.some.inj hm
        refine wl hs (y_pickT hs rfl hg7 rfl) rfl ?_; intro a hs
        exact K _ _ (hs.sub ⟨rfl, rfl, rfl, trivial⟩) hM
      · have hm := condF hg7 hb6
        refine wlg hs rfl hg7 (y_move hs rfl) rfl ?_; intro a hs
        obtain ⟨y8, h9, hm⟩ := bindE hm
        refine wcallg is_52 hs rfl hg7 rfl rfl (impl_isFinite_any y1.1 _  h9) ?_; rintro a _ w hs ⟨rfl, hX⟩
        have hM : Mem W w [] := hM.call hX
        refine wlg hs rfl hg7 (y_not hs rfl) rfl ?_; intro a hs
        have hm : some (!y8) = some b5 := hm
        cases Option.some.inj hm
        refine wl hs (y_pickF hs rfl hg7 rfl) rfl ?_; intro a hs
        exact K _ _ (hs.sub ⟨rfl, rfl, rfl, trivial⟩) hM
    intro a w hs hM
    simp only [List.drop_succ_cons, List.drop_zero]
    refine wl hs (y_move hs rfl) rfl ?_; intro a hs
    obtain ⟨b10, hb11, hm⟩ := bindE hm
    refine wlguard (N := 27) (L' := [(25, .bool b10), (4, .int .i64 y1.1)]) (fun w => Mem W w []) 5 ?_ ?_
    · intro K; rcases Bool.eq_false_or_eq_true b5 with hg12 | hg12
      · have hm := condT hg12 hb11
        refine wls hs rfl hg12 rfl ?_; intro a hs
        refine wls hs rfl hg12 rfl ?_; intro a hs
        refine wls hs rfl hg12 rfl ?_; intro a hs
        refine wls hs rfl hg12 rfl ?_; intro a hs
        have hm : some true = some b10 := hm
        cases Option.some.inj hm
        refine wl hs (y_pickT hs rfl hg12 rfl) rfl ?_; intro a hs
        exact K _ _ (hs.sub ⟨rfl, rfl, trivial⟩) hM
      · have hm := condF hg12 hb11
        refine wlg hs rfl hg12 (y_move hs rfl) rfl ?_; intro a hs
        obtain ⟨y13, h14, hm⟩ := bindE hm
        refine wcallg is_53 hs rfl hg12 rfl rfl (strconv_Itoa_any y1.1 _ (hT.1.below hM.bel) h14) ?_; rintro a _ w hs ⟨rfl, hX⟩
        have hM : Mem W w [] := hM.call hX
        refine wlg hs rfl hg12 (y_move hs rfl) rfl ?_; intro a hs
        refine wlg hs rfl hg12 (y_neqT hs rfl rfl) rfl ?_; intro a hs
        have hm : some (y13 != p0) = some b10 := hm
        cases Option.some.inj hm
        refine wl hs (y_pickF hs rfl hg12 rfl) rfl ?_; intro a hs
        exact K _ _ (hs.sub ⟨rfl, rfl, trivial⟩) hM
    intro a w hs hM
    simp only [List.drop_succ_cons, List.drop_zero]
    refine wpList_nil ?_
    refine x_nt ?_
    refine x_cond hs rfl (fun hb => ?_) (fun hb => ?_)
    · replace hm := condT hb hm
      refine wp_seq ?_
      refine wp_region_lit ?_
      refine wl hs (y_assign hs rfl) rfl ?_; intro a hs
      refine wl hs (y_assign hs rfl) rfl ?_; intro a hs
      refine wpList_nil ?_
      refine x_nt ?_
      refine wp_ret ?_
      refine x_rt ?_
      have hm : some (0, false) = some r := hm
      obtain rfl := Option.some.inj hm
      refine x_ret2 rfl hs rfl rfl ⟨_, rfl, ?_⟩
      exact ⟨rfl, hM⟩
    · replace hm := condF hb hm
      refine wp_skip ?_
      refine x_nt ?_
      refine wp_seq ?_
      refine wp_region_lit ?_
      refine wl hs (y_move hs rfl) rfl ?_; intro a hs
      refine wl hs (y_assign hs rfl) rfl ?_; intro a hs
      refine wl hs (y_assign hs rfl) rfl ?_; intro a hs
      refine wpList_nil ?_
      refine x_nt ?_
      refine wp_ret ?_
      have hm : some (y1.1, true) = some r := hm
      obtain rfl := Option.some.inj hm
      refine x_ret2 rfl hs rfl rfl ⟨_, rfl, ?_⟩
      exact ⟨rfl, hM⟩

end Go.Proofs.YtcglmncmnlkpmaaDoor
