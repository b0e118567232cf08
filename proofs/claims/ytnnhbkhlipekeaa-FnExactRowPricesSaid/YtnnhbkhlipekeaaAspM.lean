/- The plain functions that mirror the code of this unit: none where the code would panic or overflow. Written by program (wip/gen). -/
import Derived.Test.YtnnhbkhlipekeaaMem
import Derived.Test.YtnnhbkhlipekeaaMatM
import Derived.Test.YtnnhbkhlipekeaaAsnM
namespace Go.Proofs.Ytnnhbkhlipekeaa
set_option linter.unusedVariables false

def impl_rowPrices_l3 (p0 : List (List Int)) (j12 : Nat) (x18 : Int) : List (List Int) → Nat → (List Int) → Option (List Int)
  | [], j21, l22 => some l22
  | x27 :: q26, j21, l22 => (idx x27 x18).bind fun x32 => cond (x32 != 1000000000)
        ((idx l22 (j21 : Int)).bind fun x35 => (idx l22 (j12 : Int)).bind fun x38 => (ck (x38 + x32)).bind fun n46 => (idx p0 (j12 : Int)).bind fun x48 => (idx x48 x18).bind fun x54 => (ck (n46 - x54)).bind fun n57 => (upd l22 (j21 : Int) (min x35 n57)).bind fun l60 => impl_rowPrices_l3 p0 j12 x18 q26 (j21 + 1) l60)
        (impl_rowPrices_l3 p0 j12 x18 q26 (j21 + 1) l22)

def impl_rowPrices_l2 (p0 : List (List Int)) : List Int → Nat → (List Int) → Option (List Int)
  | [], j12, l13 => some l13
  | x18 :: q17, j12, l13 => ((impl_rowPrices_l3 p0 j12 x18 p0 0 l13 : Option (List Int))).bind (fun l23 => impl_rowPrices_l2 p0 q17 (j12 + 1) l23)

def impl_rowPrices_l1 (p0 : List (List Int)) (p1 : List Int) : List (List Int) → Nat → (List Int) → Option (List Int)
  | [], j4, l5 => some l5
  | x10 :: q9, j4, l5 => ((impl_rowPrices_l2 p0 p1 0 l5 : Option (List Int))).bind (fun l14 => impl_rowPrices_l1 p0 p1 q9 (j4 + 1) l14)

def impl_rowPrices_m (p0 : List (List Int)) (p1 : List Int) : Option (List Int) :=
  (guardO (decide (0 ≤ (p0.length : Int) ∧ (p0.length : Int) < 1000000000))).bind fun _ => ((impl_rowPrices_l1 p0 p1 p0 0 (List.replicate ((p0.length : Int)).toNat (0 : Int)) : Option (List Int))).bind (fun l6 => some l6)

def impl_RowPrices_m (p0 : List (List Int)) : Option ((List Int) × Bool) :=
  (impl_bestAsked_m p0).bind fun y1 => cond (!y1.2.2)
        (some ([], false))
        ((impl_rowPrices_m p0 y1.2.1).bind fun y9 => (impl_toldList_m y9).bind fun y13 => some ((cond y13.1 y9 []), y13.2))

def impl_ColumnPrices_l1 (p0 : List (List Int)) (y1 : Int × (List Int) × Bool) : List Int → Nat → (List Int) → Option (List Int)
  | [], j16, l17 => some l17
  | x22 :: q21, j16, l17 => (idx y1.2.1 (j16 : Int)).bind fun x25 => (idx p0 (j16 : Int)).bind fun x28 => (idx x28 x25).bind fun x33 => (ck (x33 - x22)).bind fun n36 => (idx l17 x25).bind fun x38 => (upd l17 x25 n36).bind fun l41 => impl_ColumnPrices_l1 p0 y1 q21 (j16 + 1) l41

def impl_ColumnPrices_m (p0 : List (List Int)) : Option ((List Int) × Bool) :=
  (impl_bestAsked_m p0).bind fun y1 => cond (!y1.2.2)
        (some ([], false))
        ((guardO (decide (0 ≤ (p0.length : Int) ∧ (p0.length : Int) < 1000000000))).bind fun _ => (impl_rowPrices_m p0 y1.2.1).bind fun y12 => ((impl_ColumnPrices_l1 p0 y1 y12 0 (List.replicate ((p0.length : Int)).toNat (0 : Int)) : Option (List Int))).bind (fun l18 => (impl_toldList_m l18).bind fun y43 => some ((cond y43.1 l18 []), y43.2)))

end Go.Proofs.Ytnnhbkhlipekeaa
