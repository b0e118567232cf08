/- The plain functions that mirror the code of this unit: none where the code would panic or overflow. Written by program (wip/gen). -/
import Derived.Test.YtaagklbiebogfaaMem
import Derived.Test.YtaagklbiebogfaaRay
import Derived.Test.YtaagklbiebogfaaNumM
import Derived.Test.YtaagklbiebogfaaLryM
import Derived.Test.YtaagklbiebogfaaRay1M
namespace Go.Proofs.Ytaagklbiebogfaa
set_option linter.unusedVariables false

def laws_FnExactMeetingPairs_m (p0 : List Y3) (p1 : List Y3) (p2 : Int) (p3 : Int) : Option (Bool) :=
  (laws_szRayS_m p0 1048576).bind fun y1 => cond (decide (y1 < 0))
        (some true)
        ((laws_szRayS_m p1 y1).bind fun y3 => cond (decide (y3 < 0))
        (some true)
        ((laws_toRayS_m p0).bind fun y5 => (laws_toRayS_m p1).bind fun y9 => (spec_MeetingPairs_m y5 y9 p2 p3).bind fun y13 => (laws_toRayS_m p0).bind fun y19 => (laws_toRayS_m p1).bind fun y23 => (impl_MeetingPairs_m y19 y23 p2 p3).bind fun y27 => (laws_eqIntSS_m y27.1 y13.1).bind fun y33 => ((cond (!y33) (some true) (some (y27.2 != y13.2)) : Option Bool)).bind fun b35 => cond b35
        (some false)
        ((laws_toRayS_m p0).bind fun y38 => (laws_eqRayS_m y19 y38).bind fun y42 => cond (!y42)
        (some false)
        ((laws_toRayS_m p1).bind fun y44 => (laws_eqRayS_m y23 y44).bind fun y48 => cond (!y48)
        (some false)
        ((laws_markRayS_m y19 1).bind fun y50 => (laws_markRayS_m y23 y50.1).bind fun y52 => ((cond (decide (y52.1 < 0)) (some true) ((laws_eqIntSS_m y27.1 y13.1).bind fun y57 => some (!y57)) : Option Bool)).bind fun b54 => ((cond b54 (some true) (some (y27.2 != y13.2)) : Option Bool)).bind fun b59 => cond b59
        (some false)
        ((laws_markIntSS_m y27.1 1).bind fun y62 => (laws_heldIntSS_m y62.2 1).bind fun y65 => cond (decide (y65 < 0))
        (some false)
        (cond (y65 != y62.1)
        (some false)
        ((laws_toRayS_m p0).bind fun y67 => (laws_toRayS_m p1).bind fun y71 => (impl_MeetingPairs_m y67 y71 p2 p3).bind fun y75 => (laws_eqIntSS_m y75.1 y13.1).bind fun y81 => ((cond (!y81) (some true) (some (y75.2 != y13.2)) : Option Bool)).bind fun b83 => cond b83
        (some false)
        ((laws_heldIntSS_m y62.2 1).bind fun y86 => cond (decide (y86 < 0))
        (some false)
        (cond (y86 != y62.1)
        (some false)
        (some true)))))))))))

end Go.Proofs.Ytaagklbiebogfaa
