/- The plain functions that mirror the code of this unit: none where the code would panic or overflow. Written by program (wip/gen). -/
import Derived.Test.YtnnhbkhlipekeaaMem
namespace Go.Proofs.Ytnnhbkhlipekeaa
set_option linter.unusedVariables false

def slices_Equal_int_int_l1 (p1 : List Int) : List Int → Nat → Option ((Bool) ⊕ (Unit))
  | [], j1 => some (Sum.inr ())
  | x5 :: q4, j1 => (idx p1 (j1 : Int)).bind fun x8 => cond (x5 != x8)
        (some (Sum.inl false))
        (slices_Equal_int_int_l1 p1 q4 (j1 + 1))

def slices_Equal_int_int_m (p0 : List Int) (p1 : List Int) : Option (Bool) :=
  cond ((p0.length : Int) != (p1.length : Int))
        (some false)
        (((slices_Equal_int_int_l1 p1 p0 0 : Option ((Bool) ⊕ (Unit)))).bind (fun s => Sum.elim (fun rv => some rv) (fun _ => some true) s))

end Go.Proofs.Ytnnhbkhlipekeaa
