/- The plain functions that mirror the code of this unit: none where the code would panic or overflow. Written by program (wip/gen). -/
import Derived.Test.YtnnhbkhlipekeaaMem
import Derived.Test.YtnnhbkhlipekeaaNumM
import Derived.Test.YtnnhbkhlipekeaaAs2M
import Derived.Test.YtnnhbkhlipekeaaAsnM
namespace Go.Proofs.Ytnnhbkhlipekeaa
set_option linter.unusedVariables false

def laws_FnExactBestAssignment_m (p0 : List (List Int)) : Option (Bool) :=
  (laws_szIntSS_m p0 1048576).bind fun y1 => cond (decide (y1 < 0))
        (some true)
        ((laws_toIntSS_m p0).bind fun y3 => (spec_BestAssignment_m y3).bind fun y8 => (laws_toIntSS_m p0).bind fun y13 => (impl_BestAssignment_m y13).bind fun y18 => (laws_eqIntS_m y18.1 y8.1).bind fun y23 => ((cond (!y23) (some true) (some (y18.2.1 != y8.2.1)) : Option Bool)).bind fun b25 => ((cond b25 (some true) (some (y18.2.2 != y8.2.2)) : Option Bool)).bind fun b28 => cond b28
        (some false)
        ((laws_toIntSS_m p0).bind fun y31 => (laws_eqIntSS_m y13 y31).bind fun y36 => cond (!y36)
        (some false)
        ((laws_markIntSS_m y13 1).bind fun y38 => ((cond (decide (y38.1 < 0)) (some true) ((laws_eqIntS_m y18.1 y8.1).bind fun y44 => some (!y44)) : Option Bool)).bind fun b41 => ((cond b41 (some true) (some (y18.2.1 != y8.2.1)) : Option Bool)).bind fun b46 => ((cond b46 (some true) (some (y18.2.2 != y8.2.2)) : Option Bool)).bind fun b49 => cond b49
        (some false)
        ((laws_markIntS_m y18.1 1).bind fun y52 => (laws_heldIntS_m y52.2 1).bind fun y54 => cond (decide (y54 < 0))
        (some false)
        (cond (y54 != y52.1)
        (some false)
        ((laws_toIntSS_m p0).bind fun y56 => (impl_BestAssignment_m y56).bind fun y61 => (laws_eqIntS_m y61.1 y8.1).bind fun y66 => ((cond (!y66) (some true) (some (y61.2.1 != y8.2.1)) : Option Bool)).bind fun b68 => ((cond b68 (some true) (some (y61.2.2 != y8.2.2)) : Option Bool)).bind fun b71 => cond b71
        (some false)
        ((laws_heldIntS_m y52.2 1).bind fun y74 => cond (decide (y74 < 0))
        (some false)
        (cond (y74 != y52.1)
        (some false)
        (some true)))))))))

end Go.Proofs.Ytnnhbkhlipekeaa
