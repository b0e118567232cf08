/- The plain functions that mirror the code of this unit: none where the code would panic or overflow. Written by program (wip/gen). -/
import Derived.Test.YtnnhbkhlipekeaaMem
import Derived.Test.YtnnhbkhlipekeaaNumM
import Derived.Test.YtnnhbkhlipekeaaMatM
import Derived.Test.YtnnhbkhlipekeaaAs1M
namespace Go.Proofs.Ytnnhbkhlipekeaa
set_option linter.unusedVariables false

def spec_asCost_l1 (p0 : List (List Int)) : List Int → Nat → Int → Option (Int)
  | [], j1, n2 => some n2
  | x7 :: q6, j1, n2 => (idx p0 (j1 : Int)).bind fun x10 => (idx x10 x7).bind fun x15 => (ck (n2 + x15)).bind fun n18 => spec_asCost_l1 p0 q6 (j1 + 1) n18

def spec_asCost_m (p0 : List (List Int)) (p1 : List Int) : Option (Int) :=
  ((spec_asCost_l1 p0 p1 0 0 : Option (Int))).bind (fun n3 => some n3)

def spec_asGood_l1 (p0 : List (List Int)) (p1 : List Int) : List Int → Nat → Option ((Bool) ⊕ (Unit))
  | [], j8 => some (Sum.inr ())
  | x12 :: q11, j8 => (cutO p1 (j8 : Int)).bind fun l15 => (spec_l1Has_m l15 x12).bind fun y20 => ((cond y20 (some true) ((idx p0 (j8 : Int)).bind fun x25 => (idx x25 x12).bind fun x30 => some (x30 == 1000000000)) : Option Bool)).bind fun b22 => cond b22
        (some (Sum.inl false))
        (spec_asGood_l1 p0 p1 q11 (j8 + 1))

def spec_asGood_m (p0 : List (List Int)) (p1 : List Int) : Option (Bool) :=
  ((cond ((p1.length : Int) != (p0.length : Int)) (some true) ((ck ((p0.length : Int) - 1)).bind fun n4 => (spec_l1All_m p1 0 n4).bind fun y6 => some (!y6)) : Option Bool)).bind fun b1 => cond b1
        (some false)
        (((spec_asGood_l1 p0 p1 p1 0 : Option ((Bool) ⊕ (Unit)))).bind (fun s => Sum.elim (fun rv => some rv) (fun _ => some true) s))

def impl_isAssignment_l1 (p0 : List (List Int)) : List Int → Nat → (List Bool) → Option ((Bool) ⊕ (Unit))
  | [], j4, l5 => some (Sum.inr ())
  | x9 :: q8, j4, l5 => (ck ((p0.length : Int) - 1)).bind fun n12 => (impl_within_m x9 0 n12).bind fun y14 => ((cond (!y14) (some true) ((idx l5 x9).bind fun x19 => some x19) : Option Bool)).bind fun b16 => cond b16
        (some (Sum.inl false))
        ((idx l5 x9).bind fun x22 => (upd l5 x9 true).bind fun l25 => impl_isAssignment_l1 p0 q8 (j4 + 1) l25)

def impl_isAssignment_m (p0 : List (List Int)) (p1 : List Int) : Option (Bool) :=
  cond ((p1.length : Int) != (p0.length : Int))
        (some false)
        ((guardO (decide (0 ≤ (p0.length : Int) ∧ (p0.length : Int) < 1000000000))).bind fun _ => ((impl_isAssignment_l1 p0 p1 0 (List.replicate ((p0.length : Int)).toNat false) : Option ((Bool) ⊕ (Unit)))).bind (fun s => Sum.elim (fun rv => some rv) (fun _ => some true) s))

def impl_costOf_l1 (p0 : List (List Int)) : List Int → Nat → Int → Option (Int)
  | [], j1, n2 => some n2
  | x7 :: q6, j1, n2 => (idx p0 (j1 : Int)).bind fun x10 => (idx x10 x7).bind fun x15 => (impl_product_m n2 x15).bind fun y18 => impl_costOf_l1 p0 q6 (j1 + 1) y18

def impl_costOf_m (p0 : List (List Int)) (p1 : List Int) : Option (Int) :=
  ((impl_costOf_l1 p0 p1 0 0 : Option (Int))).bind (fun n3 => some n3)

def impl_total_l1 : List Int → Nat → Int → Option (Int)
  | [], j1, n2 => some n2
  | x7 :: q6, j1, n2 => (ck (n2 + x7)).bind fun n10 => impl_total_l1 q6 (j1 + 1) n10

def impl_total_m (p0 : List Int) : Option (Int) :=
  ((impl_total_l1 p0 0 0 : Option (Int))).bind (fun n3 => some n3)

def spec_chSum_l1 : List Int → Nat → Int → Option (Int)
  | [], j1, n2 => some n2
  | x7 :: q6, j1, n2 => (ck (n2 + x7)).bind fun n10 => spec_chSum_l1 q6 (j1 + 1) n10

def spec_chSum_m (p0 : List Int) : Option (Int) :=
  ((spec_chSum_l1 p0 0 0 : Option (Int))).bind (fun n3 => some n3)

def spec_CostOfAssignment_m (p0 : List (List Int)) (p1 : List Int) : Option (Int × Bool) :=
  (spec_mxSquare_m p0).bind fun y1 => ((cond (!y1) (some true) ((spec_asGood_m p0 p1).bind fun y6 => some (!y6)) : Option Bool)).bind fun b3 => cond b3
        (some (0, false))
        ((spec_asCost_m p0 p1).bind fun y8 => (spec_nuIf_m y8).bind fun y10 => some (y10.1, y10.2))

def impl_CostOfAssignment_m (p0 : List (List Int)) (p1 : List Int) : Option (Int × Bool) :=
  (impl_isSquare_m p0).bind fun y1 => ((cond (!y1) (some true) ((impl_isAssignment_m p0 p1).bind fun y6 => some (!y6)) : Option Bool)).bind fun b3 => ((cond b3 (some true) ((impl_costOf_m p0 p1).bind fun y11 => some (y11 == 1000000000)) : Option Bool)).bind fun b8 => cond b8
        (some (0, false))
        ((impl_costOf_m p0 p1).bind fun y13 => (impl_told_m y13).bind fun y15 => some (y15.1, y15.2))

def spec_IsProvedBest_m (p0 : List (List Int)) (p1 : List Int) (p2 : List Int) (p3 : List Int) : Option (Bool × Bool) :=
  (spec_asNumbers_m p0 p2 p3).bind fun y1 => ((cond (!y1) (some true) ((spec_asGood_m p0 p1).bind fun y6 => some (!y6)) : Option Bool)).bind fun b3 => cond b3
        (some (false, false))
        ((spec_asPrices_m p0 p2 p3).bind fun y8 => ((cond y8 ((spec_chSum_m p2).bind fun y13 => (spec_chSum_m p3).bind fun y15 => (ck (y13 + y15)).bind fun n17 => (spec_asCost_m p0 p1).bind fun y19 => some (n17 == y19)) (some false) : Option Bool)).bind fun b10 => some (b10, true))

def impl_IsProvedBest_m (p0 : List (List Int)) (p1 : List Int) (p2 : List Int) (p3 : List Int) : Option (Bool × Bool) :=
  (impl_ArePrices_m p0 p2 p3).bind fun y1 => ((cond (!y1.2) (some true) ((impl_isAssignment_m p0 p1).bind fun y6 => some (!y6)) : Option Bool)).bind fun b3 => ((cond b3 (some true) ((impl_costOf_m p0 p1).bind fun y11 => some (y11 == 1000000000)) : Option Bool)).bind fun b8 => cond b8
        (some (false, false))
        (((cond y1.1 ((impl_total_m p2).bind fun y16 => (impl_total_m p3).bind fun y18 => (ck (y16 + y18)).bind fun n20 => (impl_costOf_m p0 p1).bind fun y22 => some (n20 == y22)) (some false) : Option Bool)).bind fun b13 => some (b13, true))

def spec_asAll_l1 (p0 : List (List Int)) (p1 : List Int) (rec : (List (List Int)) → (List Int) → Option (List (List Int))) : List Int → Nat → (List (List Int)) → Option (List (List Int))
  | [], j9, l12 => some l12
  | x19 :: q18, j9, l12 => ((cond (x19 != 1000000000) ((spec_l1Has_m p1 (j9 : Int)).bind fun y25 => some (!y25)) (some false) : Option Bool)).bind fun b22 => cond b22
        ((spec_l1Own_m p1).bind fun y27 => (app y27 (j9 : Int)).bind fun l31 => (rec p0 l31).bind fun y35 => (appS l12 y35).bind fun l40 => spec_asAll_l1 p0 p1 rec q18 (j9 + 1) l40)
        (spec_asAll_l1 p0 p1 rec q18 (j9 + 1) l12)

def spec_asAll_b (rec : (List (List Int)) → (List Int) → Option (List (List Int))) (p0 : List (List Int)) (p1 : List Int) : Option (List (List Int)) :=
  cond ((p1.length : Int) == (p0.length : Int))
        (some ([p1]))
        ((idx p0 (p1.length : Int)).bind fun x4 => ((spec_asAll_l1 p0 p1 rec x4 0 ([]) : Option (List (List Int)))).bind (fun l15 => some l15))

def spec_asAll_r : Nat → (List (List Int)) → (List Int) → Option (List (List Int))
  | 0 => fun _ _ => none
  | k + 1 => spec_asAll_b (spec_asAll_r k)
def spec_asAll_m (p0 : List (List Int)) (p1 : List Int) : Option (List (List Int)) := spec_asAll_r 64 p0 p1

def spec_asBest_l1 (p0 : List (List Int)) : List (List Int) → Nat → (List (List Int)) → Int → Option ((List (List Int)) × Int)
  | [], j8, l13, n14 => some (l13, n14)
  | x22 :: q21, j8, l13, n14 => (spec_asCost_m p0 x22).bind fun y27 => ((cond ((l13.length : Int) == 0) (some true) (some (decide (y27 < n14))) : Option Bool)).bind fun b29 => ((cond b29
        (some ([], y27))
        (some (l13, n14)) : Option ((List (List Int)) × Int))).bind (fun s => (fun (l34 : List (List Int)) (n35 : Int) => cond (y27 == n35)
        ((app l34 x22).bind fun l39 => spec_asBest_l1 p0 q21 (j8 + 1) l39 n35)
        (spec_asBest_l1 p0 q21 (j8 + 1) l34 n35)) s.1 s.2)

def spec_asBest_m (p0 : List (List Int)) : Option ((List (List Int)) × Int) :=
  (spec_asAll_m p0 ([])).bind fun y3 => ((spec_asBest_l1 p0 y3 0 ([]) 0 : Option ((List (List Int)) × Int))).bind (fun s => (fun (l17 : List (List Int)) (n18 : Int) => some (l17, n18)) s.1 s.2)

def spec_asAsked_m (p0 : List (List Int)) : Option (Bool) :=
  (spec_mxSquare_m p0).bind fun y1 => ((cond y1 ((spec_asAll_m p0 ([])).bind fun y7 => some (decide ((y7.length : Int) > 0))) (some false) : Option Bool)).bind fun b3 => some b3

def spec_BestAssignment_m (p0 : List (List Int)) : Option ((List Int) × Int × Bool) :=
  (spec_asAsked_m p0).bind fun y1 => cond (!y1)
        (some ([], 0, false))
        ((spec_asBest_m p0).bind fun y4 => (spec_nuGood_m y4.2).bind fun y10 => cond (!y10)
        (some ([], 0, false))
        ((idx y4.1 0).bind fun x13 => some (x13, y4.2, true)))

def spec_CountBest_m (p0 : List (List Int)) : Option (Int × Bool) :=
  (spec_asAsked_m p0).bind fun y1 => cond (!y1)
        (some (0, false))
        ((spec_asBest_m p0).bind fun y3 => some ((y3.1.length : Int), true))

end Go.Proofs.Ytnnhbkhlipekeaa
