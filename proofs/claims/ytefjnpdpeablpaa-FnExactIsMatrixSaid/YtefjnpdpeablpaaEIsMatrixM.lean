/- The plain functions that mirror the code of this unit: none where the code would panic or overflow. Written by program (wip/gen). -/
import Derived.Test.YtefjnpdpeablpaaMem
import Derived.Test.YtefjnpdpeablpaaNumM
import Derived.Test.YtefjnpdpeablpaaMx1M
namespace Go.Proofs.Ytefjnpdpeablpaa
set_option linter.unusedVariables false

def laws_FnExactIsMatrix_m (p0 : List (List Int)) : Option (Bool) :=
  (laws_szIntSS_m p0 1048576).bind fun y1 => cond (decide (y1 < 0))
        (some true)
        ((laws_toIntSS_m p0).bind fun y3 => (spec_IsMatrix_m y3).bind fun y8 => (laws_toIntSS_m p0).bind fun y10 => (impl_IsMatrix_m y10).bind fun y15 => cond (y15 != y8)
        (some false)
        ((laws_toIntSS_m p0).bind fun y17 => (laws_eqIntSS_m y10 y17).bind fun y22 => cond (!y22)
        (some false)
        (some true)))

end Go.Proofs.Ytefjnpdpeablpaa
