/- The plain functions that mirror the code of this unit: none where the code would panic or overflow. Written by program (wip/gen). -/
import Derived.Test.YtjhaealoneennaaMem
import Derived.Test.YtjhaealoneennaaNumM
import Derived.Test.YtjhaealoneennaaWy2M
namespace Go.Proofs.Ytjhaealoneennaa
set_option linter.unusedVariables false

def impl_costOfCircuit_m (p0 : List (List Int)) (p1 : List Int) : Option (Int) :=
  (impl_costOfSteps_m p0 p1).bind fun y1 => (ck ((p1.length : Int) - 1)).bind fun n3 => (idx p1 n3).bind fun x5 => (idx p0 x5).bind fun x8 => (idx p1 0).bind fun x13 => (idx x8 x13).bind fun x16 => (impl_product_m y1 x16).bind fun y19 => some y19

end Go.Proofs.Ytjhaealoneennaa
