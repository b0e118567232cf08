/- The plain functions that mirror the code of this unit: none where the code would panic or overflow. Written by program (wip/gen). -/
import Derived.Test.YtcglmncmnlkpmaaDoorTx2
import Derived.Test.YtcglmncmnlkpmaaDoorNumM
import Derived.Test.YtcglmncmnlkpmaaDoorMatM
import Derived.Test.YtcglmncmnlkpmaaDoorTxsM
namespace Go.Proofs.YtcglmncmnlkpmaaDoor
set_option linter.unusedVariables false

def spec_l1Split_l1 (p0 : List UInt8) (p1 : Int) : Nat → (List (List UInt8)) → Int → Int → Option ((List (List UInt8)) × Int)
  | 0, _, _, _ => none
  | k + 1, l3, n4, n5 => cond (decide (n5 < (p0.length : Int)))
        ((idx p0 n5).bind fun x12 => cond ((x12.toNat : Int) == p1)
        ((cutS p0 n4 n5).bind fun t14 => (app l3 t14).bind fun l16 => (ck (n5 + 1)).bind fun n20 => (ck (n5 + 1)).bind fun n22 => spec_l1Split_l1 p0 p1 k l16 n20 n22)
        ((ck (n5 + 1)).bind fun n24 => spec_l1Split_l1 p0 p1 k l3 n4 n24))
        (some (l3, n4))

def spec_l1Split_m (p0 : List UInt8) (p1 : Int) : Option (List (List UInt8)) :=
  ((spec_l1Split_l1 p0 p1 4000000 ([]) 0 0 : Option ((List (List UInt8)) × Int))).bind (fun s => (fun (l7 : List (List UInt8)) (n8 : Int) => (cutS p0 n8 (p0.length : Int)).bind fun t26 => (app l7 t26).bind fun l28 => some l28) s.1 s.2)

def spec_nuRead_l1 (p0 : List UInt8) : Nat → Int → Int → Option ((Int) ⊕ (Int))
  | 0, _, _ => none
  | k + 1, n11, n12 => cond (decide (n12 < (p0.length : Int)))
        ((idx p0 n12).bind fun x17 => ((cond (decide ((x17.toNat : Int) < 48)) (some true) ((idx p0 n12).bind fun x22 => some (decide ((x22.toNat : Int) > 57))) : Option Bool)).bind fun b19 => cond b19
        (some (Sum.inl (-1)))
        ((ck (10 * n11)).bind fun n24 => (idx p0 n12).bind fun x26 => (ckb ((x26.toNat : Int) - 48)).bind fun n28 => (ck n28).bind fun n30 => (ck (n24 + n30)).bind fun n32 => (ck (n12 + 1)).bind fun n34 => spec_nuRead_l1 p0 k n32 n34))
        (some (Sum.inr n11))

def spec_nuRead_m (p0 : List UInt8) : Option (Int) :=
  (spec_l1In_m (p0.length : Int) 1 10).bind fun y1 => ((cond (!y1) (some true) ((idx p0 0).bind fun x6 => ((cond ((x6.toNat : Int) == 48) (some (decide ((p0.length : Int) > 1))) (some false) : Option Bool)).bind fun b8 => some b8) : Option Bool)).bind fun b3 => cond b3
        (some (-1))
        (((spec_nuRead_l1 p0 4000000 0 0 : Option ((Int) ⊕ (Int)))).bind (fun s => Sum.elim (fun rv => some rv) (fun n13 => some n13) s))

def spec_nuParse_m (p0 : List UInt8) : Option (Int × Bool) :=
  ((cond (p0 != ([105, 110, 102] : List UInt8))
        ((spec_nuRead_m p0).bind fun y4 => ((cond (decide ((p0.length : Int) > 1)) ((idx p0 0).bind fun x9 => some ((x9.toNat : Int) == 45)) (some false) : Option Bool)).bind fun b6 => cond b6
        ((cutS p0 1 (p0.length : Int)).bind fun t11 => (spec_nuRead_m t11).bind fun y13 => (ck (-y13)).bind fun n15 => some n15)
        (some y4))
        (some 1000000000) : Option (Int))).bind (fun n1 => (spec_nuGood_m n1).bind fun y17 => ((cond (!y17) (some true) ((spec_nuText_m n1).bind fun y22 => some (y22 != p0)) : Option Bool)).bind fun b19 => cond b19
        (some (0, false))
        (some (n1, true)))

def spec_ParseMatrix_l2 : List (List UInt8) → Nat → (List Int) → Option (((List (List Int)) × Bool) ⊕ (List Int))
  | [], j32, l34 => some (Sum.inr l34)
  | x40 :: q39, j32, l34 => (spec_nuParse_m x40).bind fun y43 => cond (!y43.2)
        (some (Sum.inl ([], false)))
        ((app l34 y43.1).bind fun l46 => spec_ParseMatrix_l2 q39 (j32 + 1) l46)

def spec_ParseMatrix_l1 : List (List UInt8) → Nat → (List (List Int)) → Option (((List (List Int)) × Bool) ⊕ (List (List Int)))
  | [], j14, l17 => some (Sum.inr l17)
  | x24 :: q23, j14, l17 => (spec_l1Split_m x24 32).bind fun y28 => ((spec_ParseMatrix_l2 y28 0 ([]) : Option (((List (List Int)) × Bool) ⊕ (List Int)))).bind (fun s => Sum.elim (fun rv => some (Sum.inl rv)) (fun l36 => (app l17 l36).bind fun l50 => spec_ParseMatrix_l1 q23 (j14 + 1) l50) s)

def spec_ParseMatrix_m (p0 : List UInt8) : Option ((List (List Int)) × Bool) :=
  (spec_l1Split_m p0 59).bind fun y1 => cond (decide ((y1.length : Int) > 7))
        (some ([], false))
        ((ck ((y1.length : Int) - 1)).bind fun n7 => (cutO y1 n7).bind fun l9 => ((spec_ParseMatrix_l1 l9 0 ([]) : Option (((List (List Int)) × Bool) ⊕ (List (List Int))))).bind (fun s => Sum.elim (fun rv => some rv) (fun l20 => (spec_mxGood_m l20).bind fun y54 => ((cond (!y54) (some true) ((spec_mxText_m l20).bind fun y59 => some (y59 != p0)) : Option Bool)).bind fun b56 => cond b56
        (some ([], false))
        (some (l20, true))) s))

end Go.Proofs.YtcglmncmnlkpmaaDoor
