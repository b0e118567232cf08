/- The plain functions that mirror the code of this unit: none where the code would panic or overflow. Written by program (wip/gen). -/
import Derived.Test.YtjicdfplhenohaaMem
import Derived.Test.YtjicdfplhenohaaNumM
import Derived.Test.YtjicdfplhenohaaMatM
import Derived.Test.YtjicdfplhenohaaWy2M
import Derived.Test.YtjicdfplhenohaaOwnM
import Derived.Test.YtjicdfplhenohaaWy3M
namespace Go.Proofs.Ytjicdfplhenohaa
set_option linter.unusedVariables false

def spec_wyStart_l2 (p0 : Int) (n5 : Int) : Nat → (List Int) → Int → Option (List Int)
  | 0, _, _ => none
  | k + 1, l14, n15 => cond (decide (n15 < p0))
        (cond (n5 == n15)
        ((app l14 0).bind fun l21 => (ck (n15 + 1)).bind fun n25 => spec_wyStart_l2 p0 n5 k l21 n25)
        ((app l14 1000000000).bind fun l27 => (ck (n15 + 1)).bind fun n31 => spec_wyStart_l2 p0 n5 k l27 n31))
        (some l14)

def spec_wyStart_l1 (p0 : Int) : Nat → (List (List Int)) → Int → Option (List (List Int))
  | 0, _, _ => none
  | k + 1, l4, n5 => cond (decide (n5 < p0))
        (((spec_wyStart_l2 p0 n5 4000000 ([]) 0 : Option (List Int))).bind (fun l17 => (app l4 l17).bind fun l33 => (ck (n5 + 1)).bind fun n37 => spec_wyStart_l1 p0 k l33 n37))
        (some l4)

def spec_wyStart_m (p0 : Int) : Option (List (List Int)) :=
  ((spec_wyStart_l1 p0 4000000 ([]) 0 : Option (List (List Int)))).bind (fun l8 => some l8)

def spec_wyStep_l3 (p1 : List (List Int)) (j7 : Nat) (j15 : Nat) (x20 : List Int) : List (List Int) → Nat → (List (List Int)) → Option (List (List Int))
  | [], j23, l22 => some l22
  | x28 :: q27, j23, l22 => (idx l22 (j7 : Int)).bind fun x30 => (idx x30 (j23 : Int)).bind fun x40 => (idx p1 (j7 : Int)).bind fun x43 => (idx x43 (j15 : Int)).bind fun x49 => (idx x20 (j23 : Int)).bind fun x56 => (spec_nuPlus_m x49 x56).bind fun y59 => (spec_l1Least_m x40 y59).bind fun y61 => (upd x30 (j23 : Int) y61).bind fun l64 => spec_wyStep_l3 p1 j7 j15 x20 q27 (j23 + 1) (l22.set ((j7 : Int)).toNat l64)

def spec_wyStep_l2 (p0 : List (List Int)) (p1 : List (List Int)) (j7 : Nat) : List (List Int) → Nat → (List (List Int)) → Option (List (List Int))
  | [], j15, l14 => some l14
  | x20 :: q19, j15, l14 => ((spec_wyStep_l3 p1 j7 j15 x20 p0 0 l14 : Option (List (List Int)))).bind (fun l24 => spec_wyStep_l2 p0 p1 j7 q19 (j15 + 1) l24)

def spec_wyStep_l1 (p0 : List (List Int)) (p1 : List (List Int)) : List (List Int) → Nat → (List (List Int)) → Option (List (List Int))
  | [], j7, l6 => some l6
  | x12 :: q11, j7, l6 => ((spec_wyStep_l2 p0 p1 j7 p0 0 l6 : Option (List (List Int)))).bind (fun l16 => spec_wyStep_l1 p0 p1 q11 (j7 + 1) l16)

def spec_wyStep_m (p0 : List (List Int)) (p1 : List (List Int)) : Option (List (List Int)) :=
  (spec_mxOwn_m p1).bind fun y1 => ((spec_wyStep_l1 p0 p1 p0 0 y1 : Option (List (List Int)))).bind (fun l8 => some l8)

def spec_wySame_l1 (p1 : List (List Int)) : List (List Int) → Nat → Option ((Bool) ⊕ (Unit))
  | [], j1 => some (Sum.inr ())
  | x5 :: q4, j1 => (idx p1 (j1 : Int)).bind fun x10 => (spec_l1Same_m x5 x10).bind fun y15 => cond (!y15)
        (some (Sum.inl false))
        (spec_wySame_l1 p1 q4 (j1 + 1))

def spec_wySame_m (p0 : List (List Int)) (p1 : List (List Int)) : Option (Bool) :=
  ((spec_wySame_l1 p1 p0 0 : Option ((Bool) ⊕ (Unit)))).bind (fun s => Sum.elim (fun rv => some rv) (fun _ => some true) s)

def spec_wyCosts_l1 (p0 : List (List Int)) : List (List Int) → Nat → (List (List Int)) → Option (List (List Int))
  | [], j11, l10 => some l10
  | x18 :: q17, j11, l10 => (spec_wyStep_m p0 l10).bind fun y20 => spec_wyCosts_l1 p0 q17 (j11 + 1) y20

def spec_wyCosts_m (p0 : List (List Int)) : Option ((List (List Int)) × Bool) :=
  (spec_wyStart_m (p0.length : Int)).bind fun y1 => ((spec_wyCosts_l1 p0 p0 0 y1 : Option (List (List Int)))).bind (fun l14 => (spec_wyStep_m p0 l14).bind fun y26 => (spec_wySame_m l14 y26).bind fun y31 => some (l14, y31))

def impl_wayCosts_l1 : List (List Int) → Nat → (List (List Int)) → Option (List (List Int))
  | [], j7, l6 => some l6
  | x12 :: q11, j7, l6 => (idx l6 (j7 : Int)).bind fun x14 => (idx x14 (j7 : Int)).bind fun x24 => (upd x14 (j7 : Int) (min x24 0)).bind fun l28 => impl_wayCosts_l1 q11 (j7 + 1) (l6.set ((j7 : Int)).toNat l28)

def impl_wayCosts_l4 (j31 : Nat) (j39 : Nat) : List (List Int) → Nat → (List (List Int)) → Option (List (List Int))
  | [], j47, l46 => some l46
  | x52 :: q51, j47, l46 => (idx l46 (j39 : Int)).bind fun x54 => (idx x54 (j47 : Int)).bind fun x64 => (idx x54 (j31 : Int)).bind fun x71 => (idx l46 (j31 : Int)).bind fun x74 => (idx x74 (j47 : Int)).bind fun x80 => (impl_product_m x71 x80).bind fun y83 => (upd x54 (j47 : Int) (min x64 y83)).bind fun l86 => impl_wayCosts_l4 j31 j39 q51 (j47 + 1) (l46.set ((j39 : Int)).toNat l86)

def impl_wayCosts_l3 (p0 : List (List Int)) (j31 : Nat) : List (List Int) → Nat → (List (List Int)) → Option (List (List Int))
  | [], j39, l38 => some l38
  | x44 :: q43, j39, l38 => ((impl_wayCosts_l4 j31 j39 p0 0 l38 : Option (List (List Int)))).bind (fun l48 => impl_wayCosts_l3 p0 j31 q43 (j39 + 1) l48)

def impl_wayCosts_l2 (p0 : List (List Int)) : List (List Int) → Nat → (List (List Int)) → Option (List (List Int))
  | [], j31, l30 => some l30
  | x36 :: q35, j31, l30 => ((impl_wayCosts_l3 p0 j31 p0 0 l30 : Option (List (List Int)))).bind (fun l40 => impl_wayCosts_l2 p0 q35 (j31 + 1) l40)

def impl_wayCosts_l5 (l32 : List (List Int)) : List (List Int) → Nat → Option (((List (List Int)) × Bool) ⊕ (Unit))
  | [], j88 => some (Sum.inr ())
  | x92 :: q91, j88 => (idx l32 (j88 : Int)).bind fun x94 => (idx x94 (j88 : Int)).bind fun x99 => cond (decide (x99 < 0))
        (some (Sum.inl ([], false)))
        (impl_wayCosts_l5 l32 q91 (j88 + 1))

def impl_wayCosts_m (p0 : List (List Int)) : Option ((List (List Int)) × Bool) :=
  (impl_clones_m p0).bind fun y1 => ((impl_wayCosts_l1 p0 0 y1 : Option (List (List Int)))).bind (fun l8 => ((impl_wayCosts_l2 p0 p0 0 l8 : Option (List (List Int)))).bind (fun l32 => ((impl_wayCosts_l5 l32 p0 0 : Option (((List (List Int)) × Bool) ⊕ (Unit)))).bind (fun s => Sum.elim (fun rv => some rv) (fun _ => some (l32, true)) s)))

def spec_WayCosts_m (p0 : List (List Int)) : Option ((List (List Int)) × Bool) :=
  (spec_mxSquare_m p0).bind fun y1 => cond (!y1)
        (some ([], false))
        ((spec_wyCosts_m p0).bind fun y4 => ((cond (!y4.2) (some true) ((spec_wyGood_m y4.1).bind fun y13 => some (!y13)) : Option Bool)).bind fun b10 => cond b10
        (some ([], false))
        (some (y4.1, true)))

def impl_WayCosts_m (p0 : List (List Int)) : Option ((List (List Int)) × Bool) :=
  (impl_isSquare_m p0).bind fun y1 => cond (!y1)
        (some ([], false))
        ((impl_wayCosts_m p0).bind fun y4 => cond (!y4.2)
        (some ([], false))
        ((impl_toldNumbers_m y4.1).bind fun y11 => some ((cond y11.1 y4.1 []), y11.2)))

def slices_Max_int_int_l1 (p0 : List Int) : Nat → Int → Int → Option (Int)
  | 0, _, _ => none
  | k + 1, n4, n5 => cond (decide (n5 < (p0.length : Int)))
        ((idx p0 n5).bind fun x10 => (ck (n5 + 1)).bind fun n13 => slices_Max_int_int_l1 p0 k (max n4 x10) n13)
        (some n4)

def slices_Max_int_int_m (p0 : List Int) : Option (Int) :=
  cond (decide ((p0.length : Int) < 1))
        (none)
        ((idx p0 0).bind fun x1 => ((slices_Max_int_int_l1 p0 4000000 x1 1 : Option (Int))).bind (fun n6 => some n6))

def spec_CentreOf_l2 : List Int → Nat → Int → Option (Int)
  | [], j31, n30 => some n30
  | x36 :: q35, j31, n30 => (spec_l1Most_m n30 x36).bind fun y39 => spec_CentreOf_l2 q35 (j31 + 1) y39

def spec_CentreOf_l1 : List (List Int) → Nat → Int → Int → Option (Int × Int)
  | [], j16, n14, n15 => some (n15, n14)
  | x22 :: q21, j16, n14, n15 => (idx x22 0).bind fun x27 => ((spec_CentreOf_l2 x22 0 x27 : Option (Int))).bind (fun n32 => cond (decide (n32 < n15))
        (spec_CentreOf_l1 q21 (j16 + 1) (j16 : Int) n32)
        (spec_CentreOf_l1 q21 (j16 + 1) n14 n15))

def spec_CentreOf_m (p0 : List (List Int)) : Option (Int × Int × Bool) :=
  (spec_mxSquare_m p0).bind fun y1 => cond (!y1)
        (some (0, 0, false))
        ((spec_wyCosts_m p0).bind fun y3 => ((cond (!y3.2) (some true) ((spec_wyGood_m y3.1).bind fun y12 => some (!y12)) : Option Bool)).bind fun b9 => cond b9
        (some (0, 0, false))
        (((spec_CentreOf_l1 y3.1 0 0 1000000000 : Option (Int × Int))).bind (fun s => (fun (n17 : Int) (n18 : Int) => cond (n17 == 1000000000)
        (some (0, 0, false))
        (some (n18, n17, true))) s.1 s.2)))

def impl_CentreOf_l1 : List (List Int) → Nat → Int → Int → Option (Int × Int)
  | [], j9, n7, n8 => some (n8, n7)
  | x15 :: q14, j9, n7, n8 => (slices_Max_int_int_m x15).bind fun y20 => cond (decide (y20 < n8))
        (impl_CentreOf_l1 q14 (j9 + 1) (j9 : Int) y20)
        (impl_CentreOf_l1 q14 (j9 + 1) n7 n8)

def impl_CentreOf_m (p0 : List (List Int)) : Option (Int × Int × Bool) :=
  (impl_WayCosts_m p0).bind fun y1 => cond (!y1.2)
        (some (0, 0, false))
        (((impl_CentreOf_l1 y1.1 0 0 1000000000 : Option (Int × Int))).bind (fun s => (fun (n10 : Int) (n11 : Int) => cond (n10 == 1000000000)
        (some (0, 0, false))
        (some (n11, n10, true))) s.1 s.2))

def spec_WithinCost_l1 (p2 : Int) : List Int → Nat → (List Int) → Option (List Int)
  | [], j36, l35 => some l35
  | x42 :: q41, j36, l35 => cond (decide (x42 ≤ p2))
        ((app l35 (j36 : Int)).bind fun l45 => spec_WithinCost_l1 p2 q41 (j36 + 1) l45)
        (spec_WithinCost_l1 p2 q41 (j36 + 1) l35)

def spec_WithinCost_m (p0 : List (List Int)) (p1 : Int) (p2 : Int) : Option ((List Int) × Bool) :=
  (spec_mxSquare_m p0).bind fun y1 => ((cond (!y1) (some true) ((ck ((p0.length : Int) - 1)).bind fun n6 => (spec_l1In_m p1 0 n6).bind fun y8 => some (!y8)) : Option Bool)).bind fun b3 => ((cond b3 (some true) ((spec_poFinite_m p2).bind fun y13 => some (!y13)) : Option Bool)).bind fun b10 => cond b10
        (some ([], false))
        ((spec_wyCosts_m p0).bind fun y16 => ((cond (!y16.2) (some true) ((spec_wyGood_m y16.1).bind fun y25 => some (!y25)) : Option Bool)).bind fun b22 => cond b22
        (some ([], false))
        ((idx y16.1 p1).bind fun x29 => ((spec_WithinCost_l1 p2 x29 0 ([]) : Option (List Int))).bind (fun l38 => some (l38, true))))

def impl_WithinCost_l1 (p2 : Int) : List Int → Nat → (List Int) → Option (List Int)
  | [], j32, l31 => some l31
  | x38 :: q37, j32, l31 => cond (decide (x38 ≤ p2))
        ((app l31 (j32 : Int)).bind fun l41 => impl_WithinCost_l1 p2 q37 (j32 + 1) l41)
        (impl_WithinCost_l1 p2 q37 (j32 + 1) l31)

def impl_WithinCost_m (p0 : List (List Int)) (p1 : Int) (p2 : Int) : Option ((List Int) × Bool) :=
  (impl_isSquare_m p0).bind fun y1 => ((cond (!y1) (some true) ((impl_areVertices_m p0 ([p1])).bind fun y8 => some (!y8)) : Option Bool)).bind fun b3 => ((cond b3 (some true) ((impl_isFinite_m p2).bind fun y13 => some (!y13)) : Option Bool)).bind fun b10 => cond b10
        (some ([], false))
        ((impl_WayCosts_m p0).bind fun y16 => cond (!y16.2)
        (some ([], false))
        ((idx y16.1 p1).bind fun x25 => ((impl_WithinCost_l1 p2 x25 0 ([]) : Option (List Int))).bind (fun l34 => some (l34, true))))

end Go.Proofs.Ytjicdfplhenohaa
