/- The plain functions that mirror the code of this unit: none where the code would panic or overflow. Written by program (wip/gen). -/
import Derived.Test.YtnnhbkhlipekeaaMem
import Derived.Test.YtnnhbkhlipekeaaNumM
import Derived.Test.YtnnhbkhlipekeaaAsuM
import Derived.Test.YtnnhbkhlipekeaaAsqM
namespace Go.Proofs.Ytnnhbkhlipekeaa
set_option linter.unusedVariables false

def laws_FnExactPossiblePairs_m (p0 : List (List Int)) : Option (Bool) :=
  (laws_szIntSS_m p0 1048576).bind fun y1 => cond (decide (y1 < 0))
        (some true)
        ((laws_toIntSS_m p0).bind fun y3 => (spec_PossiblePairs_m y3).bind fun y8 => (laws_toIntSS_m p0).bind fun y14 => (impl_PossiblePairs_m y14).bind fun y19 => (laws_eqIntSS_m y19.1 y8.1).bind fun y25 => ((cond (!y25) (some true) (some (y19.2 != y8.2)) : Option Bool)).bind fun b27 => cond b27
        (some false)
        ((laws_toIntSS_m p0).bind fun y30 => (laws_eqIntSS_m y14 y30).bind fun y35 => cond (!y35)
        (some false)
        ((laws_markIntSS_m y14 1).bind fun y37 => ((cond (decide (y37.1 < 0)) (some true) ((laws_eqIntSS_m y19.1 y8.1).bind fun y43 => some (!y43)) : Option Bool)).bind fun b40 => ((cond b40 (some true) (some (y19.2 != y8.2)) : Option Bool)).bind fun b45 => cond b45
        (some false)
        ((laws_markIntSS_m y19.1 1).bind fun y48 => (laws_heldIntSS_m y48.2 1).bind fun y51 => cond (decide (y51 < 0))
        (some false)
        (cond (y51 != y48.1)
        (some false)
        ((laws_toIntSS_m p0).bind fun y53 => (impl_PossiblePairs_m y53).bind fun y58 => (laws_eqIntSS_m y58.1 y8.1).bind fun y64 => ((cond (!y64) (some true) (some (y58.2 != y8.2)) : Option Bool)).bind fun b66 => cond b66
        (some false)
        ((laws_heldIntSS_m y48.2 1).bind fun y69 => cond (decide (y69 < 0))
        (some false)
        (cond (y69 != y48.1)
        (some false)
        (some true)))))))))

end Go.Proofs.Ytnnhbkhlipekeaa
