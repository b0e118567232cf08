/- The plain functions that mirror the code of this unit: none where the code would panic or overflow. Written by program (wip/gen). -/
import Derived.Test.YtefjnpdpeablpaaMem
import Derived.Test.YtefjnpdpeablpaaNumM
import Derived.Test.YtefjnpdpeablpaaLy1M
namespace Go.Proofs.Ytefjnpdpeablpaa
set_option linter.unusedVariables false

def laws_FnExactIsSystem_m (p0 : List (List Int)) (p1 : List Int) : Option (Bool) :=
  cond (decide ((p1.length : Int) > 1048576))
        (some true)
        ((laws_szIntSS_m p0 1048576).bind fun y1 => cond (decide (y1 < 0))
        (some true)
        ((laws_toIntSS_m p0).bind fun y3 => (laws_toIntS_m p1).bind fun y8 => (spec_IsSystem_m y3 y8).bind fun y12 => (laws_toIntSS_m p0).bind fun y14 => (laws_toIntS_m p1).bind fun y19 => (impl_IsSystem_m y14 y19).bind fun y23 => cond (y23 != y12)
        (some false)
        ((laws_toIntSS_m p0).bind fun y25 => (laws_eqIntSS_m y14 y25).bind fun y30 => cond (!y30)
        (some false)
        ((laws_toIntS_m p1).bind fun y32 => (laws_eqIntS_m y19 y32).bind fun y36 => cond (!y36)
        (some false)
        (some true)))))

end Go.Proofs.Ytefjnpdpeablpaa
