/- The plain functions that mirror the code of this unit: none where the code would panic or overflow. Written by program (wip/gen). -/
import Derived.Test.YtnnhbkhlipekeaaMem
import Derived.Test.YtnnhbkhlipekeaaNumM
namespace Go.Proofs.Ytnnhbkhlipekeaa
set_option linter.unusedVariables false

def slices_Clone_int_int_m (p0 : List Int) : Option (List Int) :=
  (appS ([]) p0).bind fun l4 => some l4

def spec_mxOwn_l1 : List (List Int) → Nat → (List (List Int)) → Option (List (List Int))
  | [], j2, l5 => some l5
  | x12 :: q11, j2, l5 => (spec_l1Own_m x12).bind fun y17 => (app l5 y17).bind fun l21 => spec_mxOwn_l1 q11 (j2 + 1) l21

def spec_mxOwn_m (p0 : List (List Int)) : Option (List (List Int)) :=
  ((spec_mxOwn_l1 p0 0 ([]) : Option (List (List Int)))).bind (fun l8 => some l8)

end Go.Proofs.Ytnnhbkhlipekeaa
