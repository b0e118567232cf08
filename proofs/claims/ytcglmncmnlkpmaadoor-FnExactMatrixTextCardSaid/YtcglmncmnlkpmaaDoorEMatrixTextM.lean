/- The plain functions that mirror the code of this unit: none where the code would panic or overflow. Written by program (wip/gen). -/
import Derived.Test.YtcglmncmnlkpmaaDoorTxt
import Derived.Test.YtcglmncmnlkpmaaDoorNumM
import Derived.Test.YtcglmncmnlkpmaaDoorTxsM
import Derived.Test.YtcglmncmnlkpmaaDoorTxiM
namespace Go.Proofs.YtcglmncmnlkpmaaDoor
set_option linter.unusedVariables false

def laws_FnExactMatrixText_m (p0 : List (List Int)) : Option (Bool) :=
  (laws_szIntSS_m p0 1048576).bind fun y1 => cond (decide (y1 < 0))
        (some true)
        ((laws_toIntSS_m p0).bind fun y3 => (spec_MatrixText_m y3).bind fun y8 => (laws_toIntSS_m p0).bind fun y10 => (impl_MatrixText_m y10).bind fun y15 => ((cond (y15.1 != y8.1) (some true) (some (y15.2 != y8.2)) : Option Bool)).bind fun b17 => cond b17
        (some false)
        ((laws_toIntSS_m p0).bind fun y20 => (laws_eqIntSS_m y10 y20).bind fun y25 => cond (!y25)
        (some false)
        (some true)))

end Go.Proofs.YtcglmncmnlkpmaaDoor
