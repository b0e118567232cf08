/- The plain functions that mirror the code of this unit: none where the code would panic or overflow. Written by program (wip/gen). -/
import Derived.Test.YtjicdfplhenohaaMem
import Derived.Test.YtjicdfplhenohaaNumM
namespace Go.Proofs.Ytjicdfplhenohaa
set_option linter.unusedVariables false

def slices_Clone_int_int_m (p0 : List Int) : Option (List Int) :=
  (appS ([]) p0).bind fun l4 => some l4

def impl_clones_l1 : List (List Int) → Nat → (List (List Int)) → Option (List (List Int))
  | [], j6, l5 => some l5
  | x13 :: q12, j6, l5 => (slices_Clone_int_int_m x13).bind fun y18 => (app l5 y18).bind fun l22 => impl_clones_l1 q12 (j6 + 1) l22

def impl_clones_m (p0 : List (List Int)) : Option (List (List Int)) :=
  ((impl_clones_l1 p0 0 ([]) : Option (List (List Int)))).bind (fun l9 => some l9)

def spec_mxOwn_l1 : List (List Int) → Nat → (List (List Int)) → Option (List (List Int))
  | [], j5, l4 => some l4
  | x12 :: q11, j5, l4 => (spec_l1Own_m x12).bind fun y17 => (app l4 y17).bind fun l21 => spec_mxOwn_l1 q11 (j5 + 1) l21

def spec_mxOwn_m (p0 : List (List Int)) : Option (List (List Int)) :=
  ((spec_mxOwn_l1 p0 0 ([]) : Option (List (List Int)))).bind (fun l8 => some l8)

def spec_l1Most_m (p0 : Int) (p1 : Int) : Option (Int) :=
  cond (decide (p0 > p1))
        (some p0)
        (some p1)

end Go.Proofs.Ytjicdfplhenohaa
