/- The plain functions that mirror the code of this unit: none where the code would panic or overflow. Written by program (wip/gen). -/
import Derived.Test.YtjhaealoneennaaMem
import Derived.Test.YtjhaealoneennaaNumM
import Derived.Test.YtjhaealoneennaaLfM
import Derived.Test.YtjhaealoneennaaMncM
import Derived.Test.YtjhaealoneennaaMniM
namespace Go.Proofs.Ytjhaealoneennaa
set_option linter.unusedVariables false

def laws_FnExactCircuitMean_m (p0 : List (List Int)) (p1 : List Int) : Option (Bool) :=
  cond (decide ((p1.length : Int) > 1048576))
        (some true)
        ((laws_szIntSS_m p0 1048576).bind fun y1 => cond (decide (y1 < 0))
        (some true)
        ((laws_toIntSS_m p0).bind fun y3 => (laws_toIntS_m p1).bind fun y8 => (spec_CircuitMean_m y3 y8).bind fun y12 => (laws_toIntSS_m p0).bind fun y16 => (laws_toIntS_m p1).bind fun y21 => (impl_CircuitMean_m y16 y21).bind fun y25 => (laws_eqFrac_m y25.1 y25.2.1 y12.1 y12.2.1).bind fun y29 => ((cond (!y29) (some true) (some (y25.2.2 != y12.2.2)) : Option Bool)).bind fun b31 => cond b31
        (some false)
        ((laws_toIntSS_m p0).bind fun y34 => (laws_eqIntSS_m y16 y34).bind fun y39 => cond (!y39)
        (some false)
        ((laws_toIntS_m p1).bind fun y41 => (laws_eqIntS_m y21 y41).bind fun y45 => cond (!y45)
        (some false)
        (some true)))))

end Go.Proofs.Ytjhaealoneennaa
