/- The plain functions that mirror the code of this unit: none where the code would panic or overflow. Written by program (wip/gen). -/
import Derived.Test.YtjhaealoneennaaMem
import Derived.Test.YtjhaealoneennaaMatM
import Derived.Test.YtjhaealoneennaaWy4M
import Derived.Test.YtjhaealoneennaaEigM
import Derived.Test.YtjhaealoneennaaMncM
import Derived.Test.YtjhaealoneennaaMniM
namespace Go.Proofs.Ytjhaealoneennaa
set_option linter.unusedVariables false

def spec_EigenvalueOf_m (p0 : List (List Int)) : Option (Int × Int × Bool) :=
  (spec_mxSquare_m p0).bind fun y3 => ((cond (!y3) (some true) ((spec_mnConnected_m p0).bind fun y8 => some (!y8)) : Option Bool)).bind fun b5 => cond b5
        (some (0, 0, false))
        ((spec_LeastMean_m p0).bind fun y10 => some (y10.1, y10.2.1, y10.2.2))

def impl_EigenvalueOf_m (p0 : List (List Int)) : Option (Int × Int × Bool) :=
  (impl_isSquare_m p0).bind fun y3 => ((cond (!y3) (some true) ((impl_isStrong_m p0).bind fun y8 => some (!y8)) : Option Bool)).bind fun b5 => cond b5
        (some (0, 0, false))
        ((impl_LeastMean_m p0).bind fun y10 => some (y10.1, y10.2.1, y10.2.2))

def spec_EigenvectorOf_l1 (p0 : List (List Int)) : List (List Int) → Nat → (List Int) → Option (List Int)
  | [], j26, l28 => some l28
  | x34 :: q33, j26, l28 => (spec_mnCritical_m p0).bind fun y36 => (idx y36 0).bind fun x40 => cond ((j26 : Int) == x40)
        ((app l28 0).bind fun l43 => spec_EigenvectorOf_l1 p0 q33 (j26 + 1) l43)
        ((app l28 1000000000).bind fun l47 => spec_EigenvectorOf_l1 p0 q33 (j26 + 1) l47)

def spec_EigenvectorOf_m (p0 : List (List Int)) : Option ((List Int) × Bool) :=
  (spec_mxSquare_m p0).bind fun y1 => ((cond (!y1) (some true) ((spec_mnConnected_m p0).bind fun y6 => some (!y6)) : Option Bool)).bind fun b3 => ((cond b3 (some true) ((spec_mnLeast_m p0).bind fun y11 => some ((y11.length : Int) == 0)) : Option Bool)).bind fun b8 => cond b8
        (some ([], false))
        ((spec_mnLeast_m p0).bind fun y16 => (spec_mnMean_m p0 y16).bind fun y20 => cond (y20.2 != 1)
        (some ([], false))
        (((spec_EigenvectorOf_l1 p0 p0 0 ([]) : Option (List Int))).bind (fun l30 => (spec_mnWays_m p0 y20.1 l30).bind fun y51 => (spec_mnIf_m y51).bind fun y55 => some ((cond y55.1 y51 []), y55.2))))

def impl_EigenvectorOf_m (p0 : List (List Int)) : Option ((List Int) × Bool) :=
  (impl_isSquare_m p0).bind fun y1 => ((cond (!y1) (some true) ((impl_isStrong_m p0).bind fun y6 => some (!y6)) : Option Bool)).bind fun b3 => cond b3
        (some ([], false))
        ((impl_leastMean_m p0).bind fun y9 => ((cond (!y9.2.2.2.2) (some true) (some (y9.2.1 != 1)) : Option Bool)).bind fun b18 => cond b18
        (some ([], false))
        ((impl_shorter_m p0 y9.1).bind fun y22 => (impl_wayCosts_m y22).bind fun y27 => (impl_transposed_m y27.1).bind fun y33 => (impl_markedOf_m y9.2.2.2.1).bind fun y38 => (idx y38 0).bind fun x42 => (idx y33 x42).bind fun x45 => (impl_toldList_m x45).bind fun y50 => some ((cond y50.1 x45 []), y50.2)))

end Go.Proofs.Ytjhaealoneennaa
