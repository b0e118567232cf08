/- The plain functions that mirror the code of this unit: none where the code would panic or overflow. Written by program (wip/gen). -/
import Derived.Test.YtaagklbiebogfaaMem
import Derived.Test.YtaagklbiebogfaaNumM
import Derived.Test.YtaagklbiebogfaaCliM
namespace Go.Proofs.Ytaagklbiebogfaa
set_option linter.unusedVariables false

def laws_FnExactFactorBounds_m (p0 : List (List Int)) : Option (Bool) :=
  (laws_szIntSS_m p0 1048576).bind fun y1 => cond (decide (y1 < 0))
        (some true)
        ((laws_toIntSS_m p0).bind fun y3 => (spec_FactorBounds_m y3).bind fun y8 => (laws_toIntSS_m p0).bind fun y10 => (impl_FactorBounds_m y10).bind fun y15 => ((cond (y15.1 != y8.1) (some true) (some (y15.2.1 != y8.2.1)) : Option Bool)).bind fun b17 => ((cond b17 (some true) (some (y15.2.2 != y8.2.2)) : Option Bool)).bind fun b20 => cond b20
        (some false)
        ((laws_toIntSS_m p0).bind fun y23 => (laws_eqIntSS_m y10 y23).bind fun y28 => cond (!y28)
        (some false)
        (some true)))

end Go.Proofs.Ytaagklbiebogfaa
