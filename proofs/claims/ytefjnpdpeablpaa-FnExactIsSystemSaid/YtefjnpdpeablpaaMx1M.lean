/- The plain functions that mirror the code of this unit: none where the code would panic or overflow. Written by program (wip/gen). -/
import Derived.Test.YtefjnpdpeablpaaMem
import Derived.Test.YtefjnpdpeablpaaNumM
import Derived.Test.YtefjnpdpeablpaaMatM
namespace Go.Proofs.Ytefjnpdpeablpaa
set_option linter.unusedVariables false

def spec_UnitMatrix_m (p0 : Int) : Option ((List (List Int)) × Bool) :=
  (spec_l1In_m p0 1 6).bind fun y1 => cond (!y1)
        (some ([], false))
        ((spec_mxUnit_m p0).bind fun y4 => some (y4, true))

def impl_UnitMatrix_m (p0 : Int) : Option ((List (List Int)) × Bool) :=
  (impl_within_m p0 1 6).bind fun y1 => cond (!y1)
        (some ([], false))
        ((impl_unit_m p0).bind fun y4 => some (y4, true))

def spec_IsMatrix_m (p0 : List (List Int)) : Option (Bool) :=
  (spec_mxGood_m p0).bind fun y1 => some y1

def impl_IsMatrix_m (p0 : List (List Int)) : Option (Bool) :=
  (impl_isMatrix_m p0).bind fun y1 => some y1

def spec_TraceOf_l1 : List (List Int) → Nat → Int → Option (Int)
  | [], j4, n3 => some n3
  | x9 :: q8, j4, n3 => (idx x9 (j4 : Int)).bind fun x14 => (spec_l1Least_m n3 x14).bind fun y17 => spec_TraceOf_l1 q8 (j4 + 1) y17

def spec_TraceOf_m (p0 : List (List Int)) : Option (Int × Bool) :=
  (spec_mxSquare_m p0).bind fun y1 => cond (!y1)
        (some (0, false))
        (((spec_TraceOf_l1 p0 0 1000000000 : Option (Int))).bind (fun n5 => some (n5, true)))

def impl_TraceOf_l1 : List (List Int) → Nat → Int → Option (Int)
  | [], j4, n3 => some n3
  | x9 :: q8, j4, n3 => (idx x9 (j4 : Int)).bind fun x14 => impl_TraceOf_l1 q8 (j4 + 1) (min n3 x14)

def impl_TraceOf_m (p0 : List (List Int)) : Option (Int × Bool) :=
  (impl_isSquare_m p0).bind fun y1 => cond (!y1)
        (some (0, false))
        (((impl_TraceOf_l1 p0 0 1000000000 : Option (Int))).bind (fun n5 => some (n5, true)))

def spec_TransposeMatrix_m (p0 : List (List Int)) : Option ((List (List Int)) × Bool) :=
  (spec_mxGood_m p0).bind fun y1 => cond (!y1)
        (some ([], false))
        ((spec_mxTurn_m p0).bind fun y4 => some (y4, true))

def impl_TransposeMatrix_m (p0 : List (List Int)) : Option ((List (List Int)) × Bool) :=
  (impl_isMatrix_m p0).bind fun y1 => cond (!y1)
        (some ([], false))
        ((impl_transposed_m p0).bind fun y4 => some (y4, true))

end Go.Proofs.Ytefjnpdpeablpaa
