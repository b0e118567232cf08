/- The plain functions that mirror the code of this unit: none where the code would panic or overflow. Written by program (wip/gen). -/
import Derived.Test.YtjicdfplhenohaaMem
import Derived.Test.YtjicdfplhenohaaNumM
import Derived.Test.YtjicdfplhenohaaWy3M
namespace Go.Proofs.Ytjicdfplhenohaa
set_option linter.unusedVariables false

def laws_FnExactIsProvedWay_m (p0 : List (List Int)) (p1 : List Int) (p2 : List Int) : Option (Bool) :=
  cond (decide ((p1.length : Int) > 1048576))
        (some true)
        (cond (decide ((p2.length : Int) > 1048576))
        (some true)
        ((laws_szIntSS_m p0 1048576).bind fun y1 => cond (decide (y1 < 0))
        (some true)
        ((laws_toIntSS_m p0).bind fun y3 => (laws_toIntS_m p1).bind fun y8 => (laws_toIntS_m p2).bind fun y12 => (spec_IsProvedWay_m y3 y8 y12).bind fun y16 => (laws_toIntSS_m p0).bind fun y18 => (laws_toIntS_m p1).bind fun y23 => (laws_toIntS_m p2).bind fun y27 => (impl_IsProvedWay_m y18 y23 y27).bind fun y31 => ((cond (y31.1 != y16.1) (some true) (some (y31.2 != y16.2)) : Option Bool)).bind fun b33 => cond b33
        (some false)
        ((laws_toIntSS_m p0).bind fun y36 => (laws_eqIntSS_m y18 y36).bind fun y41 => cond (!y41)
        (some false)
        ((laws_toIntS_m p1).bind fun y43 => (laws_eqIntS_m y23 y43).bind fun y47 => cond (!y47)
        (some false)
        ((laws_toIntS_m p2).bind fun y49 => (laws_eqIntS_m y27 y49).bind fun y53 => cond (!y53)
        (some false)
        (some true)))))))

end Go.Proofs.Ytjicdfplhenohaa
