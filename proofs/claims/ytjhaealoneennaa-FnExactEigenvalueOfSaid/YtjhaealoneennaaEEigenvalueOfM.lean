/- The plain functions that mirror the code of this unit: none where the code would panic or overflow. Written by program (wip/gen). -/
import Derived.Test.YtjhaealoneennaaMem
import Derived.Test.YtjhaealoneennaaNumM
import Derived.Test.YtjhaealoneennaaLfM
import Derived.Test.YtjhaealoneennaaEvoM
namespace Go.Proofs.Ytjhaealoneennaa
set_option linter.unusedVariables false

def laws_FnExactEigenvalueOf_m (p0 : List (List Int)) : Option (Bool) :=
  (laws_szIntSS_m p0 1048576).bind fun y1 => cond (decide (y1 < 0))
        (some true)
        ((laws_toIntSS_m p0).bind fun y3 => (spec_EigenvalueOf_m y3).bind fun y8 => (laws_toIntSS_m p0).bind fun y12 => (impl_EigenvalueOf_m y12).bind fun y17 => (laws_eqFrac_m y17.1 y17.2.1 y8.1 y8.2.1).bind fun y21 => ((cond (!y21) (some true) (some (y17.2.2 != y8.2.2)) : Option Bool)).bind fun b23 => cond b23
        (some false)
        ((laws_toIntSS_m p0).bind fun y26 => (laws_eqIntSS_m y12 y26).bind fun y31 => cond (!y31)
        (some false)
        (some true)))

end Go.Proofs.Ytjhaealoneennaa
