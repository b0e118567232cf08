/- The plain functions that mirror the code of this unit: none where the code would panic or overflow. Written by program (wip/gen). -/
import Derived.Test.YtaagklbiebogfaaMem
import Derived.Test.YtaagklbiebogfaaMatM
import Derived.Test.YtaagklbiebogfaaPermM
namespace Go.Proofs.Ytaagklbiebogfaa
set_option linter.unusedVariables false

def impl_isRegular_m (p0 : List (List Int)) : Option (Bool) :=
  (impl_permanent_m p0).bind fun y1 => ((cond (y1.1 != 1000000000) (some (y1.2 == 1)) (some false) : Option Bool)).bind fun b3 => some b3

def impl_IsSingular_m (p0 : List (List Int)) : Option (Bool × Bool) :=
  (impl_isSquare_m p0).bind fun y1 => cond (!y1)
        (some (false, false))
        ((impl_isRegular_m p0).bind fun y3 => some (!y3, true))

end Go.Proofs.Ytaagklbiebogfaa
