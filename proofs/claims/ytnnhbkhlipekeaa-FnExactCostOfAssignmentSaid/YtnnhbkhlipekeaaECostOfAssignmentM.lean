/- The plain functions that mirror the code of this unit: none where the code would panic or overflow. Written by program (wip/gen). -/
import Derived.Test.YtnnhbkhlipekeaaMem
import Derived.Test.YtnnhbkhlipekeaaNumM
import Derived.Test.YtnnhbkhlipekeaaAs2M
namespace Go.Proofs.Ytnnhbkhlipekeaa
set_option linter.unusedVariables false

def laws_FnExactCostOfAssignment_m (p0 : List (List Int)) (p1 : List Int) : Option (Bool) :=
  cond (decide ((p1.length : Int) > 1048576))
        (some true)
        ((laws_szIntSS_m p0 1048576).bind fun y1 => cond (decide (y1 < 0))
        (some true)
        ((laws_toIntSS_m p0).bind fun y3 => (laws_toIntS_m p1).bind fun y8 => (spec_CostOfAssignment_m y3 y8).bind fun y12 => (laws_toIntSS_m p0).bind fun y14 => (laws_toIntS_m p1).bind fun y19 => (impl_CostOfAssignment_m y14 y19).bind fun y23 => ((cond (y23.1 != y12.1) (some true) (some (y23.2 != y12.2)) : Option Bool)).bind fun b25 => cond b25
        (some false)
        ((laws_toIntSS_m p0).bind fun y28 => (laws_eqIntSS_m y14 y28).bind fun y33 => cond (!y33)
        (some false)
        ((laws_toIntS_m p1).bind fun y35 => (laws_eqIntS_m y19 y35).bind fun y39 => cond (!y39)
        (some false)
        (some true)))))

end Go.Proofs.Ytnnhbkhlipekeaa
