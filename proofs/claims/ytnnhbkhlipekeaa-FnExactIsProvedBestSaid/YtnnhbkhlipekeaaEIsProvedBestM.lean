/- The plain functions that mirror the code of this unit: none where the code would panic or overflow. Written by program (wip/gen). -/
import Derived.Test.YtnnhbkhlipekeaaMem
import Derived.Test.YtnnhbkhlipekeaaNumM
import Derived.Test.YtnnhbkhlipekeaaAs2M
namespace Go.Proofs.Ytnnhbkhlipekeaa
set_option linter.unusedVariables false

def laws_FnExactIsProvedBest_m (p0 : List (List Int)) (p1 : List Int) (p2 : List Int) (p3 : List Int) : Option (Bool) :=
  cond (decide ((p1.length : Int) > 1048576))
        (some true)
        (cond (decide ((p2.length : Int) > 1048576))
        (some true)
        (cond (decide ((p3.length : Int) > 1048576))
        (some true)
        ((laws_szIntSS_m p0 1048576).bind fun y1 => cond (decide (y1 < 0))
        (some true)
        ((laws_toIntSS_m p0).bind fun y3 => (laws_toIntS_m p1).bind fun y8 => (laws_toIntS_m p2).bind fun y12 => (laws_toIntS_m p3).bind fun y16 => (spec_IsProvedBest_m y3 y8 y12 y16).bind fun y20 => (laws_toIntSS_m p0).bind fun y22 => (laws_toIntS_m p1).bind fun y27 => (laws_toIntS_m p2).bind fun y31 => (laws_toIntS_m p3).bind fun y35 => (impl_IsProvedBest_m y22 y27 y31 y35).bind fun y39 => ((cond (y39.1 != y20.1) (some true) (some (y39.2 != y20.2)) : Option Bool)).bind fun b41 => cond b41
        (some false)
        ((laws_toIntSS_m p0).bind fun y44 => (laws_eqIntSS_m y22 y44).bind fun y49 => cond (!y49)
        (some false)
        ((laws_toIntS_m p1).bind fun y51 => (laws_eqIntS_m y27 y51).bind fun y55 => cond (!y55)
        (some false)
        ((laws_toIntS_m p2).bind fun y57 => (laws_eqIntS_m y31 y57).bind fun y61 => cond (!y61)
        (some false)
        ((laws_toIntS_m p3).bind fun y63 => (laws_eqIntS_m y35 y63).bind fun y67 => cond (!y67)
        (some false)
        (some true)))))))))

end Go.Proofs.Ytnnhbkhlipekeaa
