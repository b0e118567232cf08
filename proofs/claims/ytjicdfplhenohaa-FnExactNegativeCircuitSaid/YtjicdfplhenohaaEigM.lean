/- The plain functions that mirror the code of this unit: none where the code would panic or overflow. Written by program (wip/gen). -/
import Derived.Test.YtjicdfplhenohaaMem
namespace Go.Proofs.Ytjicdfplhenohaa
set_option linter.unusedVariables false

def slices_Index_int_int_l1 (p1 : Int) : List Int → Nat → Option ((Int) ⊕ (Unit))
  | [], j1 => some (Sum.inr ())
  | x5 :: q4, j1 => cond (p1 == x5)
        (some (Sum.inl (j1 : Int)))
        (slices_Index_int_int_l1 p1 q4 (j1 + 1))

def slices_Index_int_int_m (p0 : List Int) (p1 : Int) : Option (Int) :=
  ((slices_Index_int_int_l1 p1 p0 0 : Option ((Int) ⊕ (Unit)))).bind (fun s => Sum.elim (fun rv => some rv) (fun _ => some (-1)) s)

def slices_Contains_int_int_m (p0 : List Int) (p1 : Int) : Option (Bool) :=
  (slices_Index_int_int_m p0 p1).bind fun y1 => some (decide (y1 ≥ 0))

end Go.Proofs.Ytjicdfplhenohaa
