/- The plain functions that mirror the code of this unit: none where the code would panic or overflow. Written by program (wip/gen). -/
import Derived.Test.YtjicdfplhenohaaMem
import Derived.Test.YtjicdfplhenohaaNumM
namespace Go.Proofs.Ytjicdfplhenohaa
set_option linter.unusedVariables false

def spec_wyWay_l1 (p0 : List (List Int)) (p1 : List Int) : Nat → Int → Option ((Bool) ⊕ (Unit))
  | 0, _ => none
  | k + 1, n10 => cond (decide (n10 < (p1.length : Int)))
        ((ck (n10 - 1)).bind fun n14 => (idx p1 n14).bind fun x16 => (idx p0 x16).bind fun x19 => (idx p1 n10).bind fun x24 => (idx x19 x24).bind fun x27 => cond (x27 == 1000000000)
        (some (Sum.inl false))
        ((ck (n10 + 1)).bind fun n30 => spec_wyWay_l1 p0 p1 k n30))
        (some (Sum.inr ()))

def spec_wyWay_m (p0 : List (List Int)) (p1 : List Int) : Option (Bool) :=
  (spec_l1In_m (p1.length : Int) 1 20).bind fun y1 => ((cond (!y1) (some true) ((ck ((p0.length : Int) - 1)).bind fun n6 => (spec_l1All_m p1 0 n6).bind fun y8 => some (!y8)) : Option Bool)).bind fun b3 => cond b3
        (some false)
        (((spec_wyWay_l1 p0 p1 4000000 1 : Option ((Bool) ⊕ (Unit)))).bind (fun s => Sum.elim (fun rv => some rv) (fun _ => some true) s))

def impl_areVertices_1_m (p0 : Int) (p1 : List (List Int)) : Option (Bool) :=
  (ck ((p1.length : Int) - 1)).bind fun n1 => (impl_within_m p0 0 n1).bind fun y3 => some (!y3)

def slices_IndexFunc_int_int_impl_areVertices_1_l1 (p10 : List (List Int)) : List Int → Nat → Option ((Int) ⊕ (Unit))
  | [], j1 => some (Sum.inr ())
  | x5 :: q4, j1 => (impl_areVertices_1_m x5 p10).bind fun y8 => cond y8
        (some (Sum.inl (j1 : Int)))
        (slices_IndexFunc_int_int_impl_areVertices_1_l1 p10 q4 (j1 + 1))

def slices_IndexFunc_int_int_impl_areVertices_1_m (p0 : List Int) (p10 : List (List Int)) : Option (Int) :=
  ((slices_IndexFunc_int_int_impl_areVertices_1_l1 p10 p0 0 : Option ((Int) ⊕ (Unit)))).bind (fun s => Sum.elim (fun rv => some rv) (fun _ => some (-1)) s)

def slices_ContainsFunc_int_int_impl_areVertices_1_m (p0 : List Int) (p10 : List (List Int)) : Option (Bool) :=
  (slices_IndexFunc_int_int_impl_areVertices_1_m p0 p10).bind fun y1 => some (decide (y1 ≥ 0))

def impl_areVertices_m (p0 : List (List Int)) (p1 : List Int) : Option (Bool) :=
  (slices_ContainsFunc_int_int_impl_areVertices_1_m p1 p0).bind fun y3 => some (!y3)

def impl_costOfSteps_l1 (p0 : List (List Int)) (p1 : List Int) : Nat → Int → Int → Option (Int)
  | 0, _, _ => none
  | k + 1, n1, n2 => cond (decide (n2 < (p1.length : Int)))
        ((ck (n2 - 1)).bind fun n7 => (idx p1 n7).bind fun x9 => (idx p0 x9).bind fun x12 => (idx p1 n2).bind fun x17 => (idx x12 x17).bind fun x20 => (impl_product_m n1 x20).bind fun y23 => (ck (n2 + 1)).bind fun n25 => impl_costOfSteps_l1 p0 p1 k y23 n25)
        (some n1)

def impl_costOfSteps_m (p0 : List (List Int)) (p1 : List Int) : Option (Int) :=
  ((impl_costOfSteps_l1 p0 p1 4000000 0 1 : Option (Int))).bind (fun n3 => some n3)

def impl_isWay_m (p0 : List (List Int)) (p1 : List Int) : Option (Bool) :=
  (impl_within_m (p1.length : Int) 1 20).bind fun y1 => ((cond y1 ((impl_areVertices_m p0 p1).bind fun y6 => some y6) (some false) : Option Bool)).bind fun b3 => ((cond b3 ((impl_costOfSteps_m p0 p1).bind fun y11 => some (y11 != 1000000000)) (some false) : Option Bool)).bind fun b8 => some b8

end Go.Proofs.Ytjicdfplhenohaa
