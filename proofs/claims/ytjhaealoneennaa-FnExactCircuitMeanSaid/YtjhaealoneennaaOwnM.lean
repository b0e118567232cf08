/- The plain functions that mirror the code of this unit: none where the code would panic or overflow. Written by program (wip/gen). -/
import Derived.Test.YtjhaealoneennaaMem
import Derived.Test.YtjhaealoneennaaNumM
namespace Go.Proofs.Ytjhaealoneennaa
set_option linter.unusedVariables false

def slices_Clone_int_int_m (p0 : List Int) : Option (List Int) :=
  (appS ([]) p0).bind fun l4 => some l4

def impl_clones_l1 : List (List Int) → Nat → (List (List Int)) → Option (List (List Int))
  | [], j3, l6 => some l6
  | x13 :: q12, j3, l6 => (slices_Clone_int_int_m x13).bind fun y18 => (app l6 y18).bind fun l22 => impl_clones_l1 q12 (j3 + 1) l22

def impl_clones_m (p0 : List (List Int)) : Option (List (List Int)) :=
  ((impl_clones_l1 p0 0 ([]) : Option (List (List Int)))).bind (fun l9 => some l9)

def spec_mxOwn_l1 : List (List Int) → Nat → (List (List Int)) → Option (List (List Int))
  | [], j2, l5 => some l5
  | x12 :: q11, j2, l5 => (spec_l1Own_m x12).bind fun y17 => (app l5 y17).bind fun l21 => spec_mxOwn_l1 q11 (j2 + 1) l21

def spec_mxOwn_m (p0 : List (List Int)) : Option (List (List Int)) :=
  ((spec_mxOwn_l1 p0 0 ([]) : Option (List (List Int)))).bind (fun l8 => some l8)

def spec_l1Most_m (p0 : Int) (p1 : Int) : Option (Int) :=
  cond (decide (p0 > p1))
        (some p0)
        (some p1)

end Go.Proofs.Ytjhaealoneennaa
