/- The plain functions that mirror the code of this unit: none where the code would panic or overflow. Written by program (wip/gen). -/
import Derived.Test.YtaagklbiebogfaaMem
import Derived.Test.YtaagklbiebogfaaNumM
namespace Go.Proofs.Ytaagklbiebogfaa
set_option linter.unusedVariables false

def impl_costOf_l1 (p0 : List (List Int)) : List Int → Nat → Int → Option (Int)
  | [], j1, n2 => some n2
  | x7 :: q6, j1, n2 => (idx p0 (j1 : Int)).bind fun x10 => (idx x10 x7).bind fun x15 => (impl_product_m n2 x15).bind fun y18 => impl_costOf_l1 p0 q6 (j1 + 1) y18

def impl_costOf_m (p0 : List (List Int)) (p1 : List Int) : Option (Int) :=
  ((impl_costOf_l1 p0 p1 0 0 : Option (Int))).bind (fun n3 => some n3)

end Go.Proofs.Ytaagklbiebogfaa
