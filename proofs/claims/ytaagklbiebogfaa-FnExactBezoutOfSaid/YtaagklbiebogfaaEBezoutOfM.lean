/- The plain functions that mirror the code of this unit: none where the code would panic or overflow. Written by program (wip/gen). -/
import Derived.Test.YtaagklbiebogfaaMem
import Derived.Test.YtaagklbiebogfaaRay
import Derived.Test.YtaagklbiebogfaaLryM
import Derived.Test.YtaagklbiebogfaaRay1M
namespace Go.Proofs.Ytaagklbiebogfaa
set_option linter.unusedVariables false

def laws_FnExactBezoutOf_m (p0 : List Y3) (p1 : List Y3) : Option (Bool) :=
  (laws_szRayS_m p0 1048576).bind fun y1 => cond (decide (y1 < 0))
        (some true)
        ((laws_szRayS_m p1 y1).bind fun y3 => cond (decide (y3 < 0))
        (some true)
        ((laws_toRayS_m p0).bind fun y5 => (laws_toRayS_m p1).bind fun y9 => (spec_BezoutOf_m y5 y9).bind fun y13 => (laws_toRayS_m p0).bind fun y15 => (laws_toRayS_m p1).bind fun y19 => (impl_BezoutOf_m y15 y19).bind fun y23 => ((cond (y23.1 != y13.1) (some true) (some (y23.2 != y13.2)) : Option Bool)).bind fun b25 => cond b25
        (some false)
        ((laws_toRayS_m p0).bind fun y28 => (laws_eqRayS_m y15 y28).bind fun y32 => cond (!y32)
        (some false)
        ((laws_toRayS_m p1).bind fun y34 => (laws_eqRayS_m y19 y34).bind fun y38 => cond (!y38)
        (some false)
        (some true)))))

end Go.Proofs.Ytaagklbiebogfaa
