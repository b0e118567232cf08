/- The plain functions that mirror the code of this unit: none where the code would panic or overflow. Written by program (wip/gen). -/
import Derived.Test.YtnnhbkhlipekeaaMem
import Derived.Test.YtnnhbkhlipekeaaNumM
namespace Go.Proofs.Ytnnhbkhlipekeaa
set_option linter.unusedVariables false

def impl_areVertices_1_m (p0 : Int) (p1 : List (List Int)) : Option (Bool) :=
  (ck ((p1.length : Int) - 1)).bind fun n1 => (impl_within_m p0 0 n1).bind fun y3 => some (!y3)

def slices_IndexFunc_int_int_impl_areVertices_1_l1 (p10 : List (List Int)) : List Int → Nat → Option ((Int) ⊕ (Unit))
  | [], j1 => some (Sum.inr ())
  | x5 :: q4, j1 => (impl_areVertices_1_m x5 p10).bind fun y8 => cond y8
        (some (Sum.inl (j1 : Int)))
        (slices_IndexFunc_int_int_impl_areVertices_1_l1 p10 q4 (j1 + 1))

def slices_IndexFunc_int_int_impl_areVertices_1_m (p0 : List Int) (p10 : List (List Int)) : Option (Int) :=
  ((slices_IndexFunc_int_int_impl_areVertices_1_l1 p10 p0 0 : Option ((Int) ⊕ (Unit)))).bind (fun s => Sum.elim (fun rv => some rv) (fun _ => some (-1)) s)

def slices_ContainsFunc_int_int_impl_areVertices_1_m (p0 : List Int) (p10 : List (List Int)) : Option (Bool) :=
  (slices_IndexFunc_int_int_impl_areVertices_1_m p0 p10).bind fun y1 => some (decide (y1 ≥ 0))

def impl_areVertices_m (p0 : List (List Int)) (p1 : List Int) : Option (Bool) :=
  (slices_ContainsFunc_int_int_impl_areVertices_1_m p1 p0).bind fun y3 => some (!y3)

end Go.Proofs.Ytnnhbkhlipekeaa
