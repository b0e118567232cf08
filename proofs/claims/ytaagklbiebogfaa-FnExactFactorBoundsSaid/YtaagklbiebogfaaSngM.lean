/- The plain functions that mirror the code of this unit: none where the code would panic or overflow. Written by program (wip/gen). -/
import Derived.Test.YtaagklbiebogfaaMem
import Derived.Test.YtaagklbiebogfaaMatM
import Derived.Test.YtaagklbiebogfaaBestM
namespace Go.Proofs.Ytaagklbiebogfaa
set_option linter.unusedVariables false

def spec_rkSingular_m (p0 : List (List Int)) : Option (Bool) :=
  (spec_mxBest_m p0 0 ([]) 0).bind fun y1 => ((cond (y1.1 == 1000000000) (some true) (some (decide (y1.2 > 1))) : Option Bool)).bind fun b3 => some b3

def spec_IsSingular_m (p0 : List (List Int)) : Option (Bool × Bool) :=
  (spec_mxSquare_m p0).bind fun y1 => cond (!y1)
        (some (false, false))
        ((spec_rkSingular_m p0).bind fun y3 => some (y3, true))

end Go.Proofs.Ytaagklbiebogfaa
