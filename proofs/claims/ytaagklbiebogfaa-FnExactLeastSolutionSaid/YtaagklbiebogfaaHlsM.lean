/- The plain functions that mirror the code of this unit: none where the code would panic or overflow. Written by program (wip/gen). -/
import Derived.Test.YtaagklbiebogfaaMem
import Derived.Test.YtaagklbiebogfaaNumM
import Derived.Test.YtaagklbiebogfaaLy1M
import Derived.Test.YtaagklbiebogfaaLinM
namespace Go.Proofs.Ytaagklbiebogfaa
set_option linter.unusedVariables false

def impl_systemOf_m (p0 : List (List Int)) (p1 : List Int) : Option (List Int × Bool) :=
  (impl_isSystem_m p0 p1).bind fun y1 => cond (!y1)
        (some ([], false))
        ((impl_leastSolution_m p0 p1).bind fun y2 => (impl_areNumbers_m y2).bind fun y3 => cond (!y3)
        (some ([], false))
        (some (y2, true)))

def impl_LeastSolution_m (p0 : List (List Int)) (p1 : List Int) : Option (List Int × Bool) :=
  (impl_systemOf_m p0 p1).bind fun y1 => cond (!y1.2)
        (some ([], false))
        (some (y1.1, true))

end Go.Proofs.Ytaagklbiebogfaa
