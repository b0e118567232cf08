/- The plain functions that mirror the code of this unit: none where the code would panic or overflow. Written by program (wip/gen). -/
import Derived.Test.YtcglmncmnlkpmaaDoorTx2
import Derived.Test.YtcglmncmnlkpmaaDoorNumM
import Derived.Test.YtcglmncmnlkpmaaDoorTxpM
import Derived.Test.YtcglmncmnlkpmaaDoorTxrM
namespace Go.Proofs.YtcglmncmnlkpmaaDoor
set_option linter.unusedVariables false

def laws_FnExactParseMatrix_m (p0 : List UInt8) : Option (Bool) :=
  cond (decide ((p0.length : Int) > 1048576))
        (some true)
        ((spec_ParseMatrix_m p0).bind fun y1 => (impl_ParseMatrix_m p0).bind fun y7 => (laws_eqIntSS_m y7.1 y1.1).bind fun y13 => ((cond (!y13) (some true) (some (y7.2 != y1.2)) : Option Bool)).bind fun b15 => cond b15
        (some false)
        ((laws_markIntSS_m y7.1 1).bind fun y18 => (laws_heldIntSS_m y18.2 1).bind fun y21 => cond (decide (y21 < 0))
        (some false)
        (cond (y21 != y18.1)
        (some false)
        ((impl_ParseMatrix_m p0).bind fun y23 => (laws_eqIntSS_m y23.1 y1.1).bind fun y29 => ((cond (!y29) (some true) (some (y23.2 != y1.2)) : Option Bool)).bind fun b31 => cond b31
        (some false)
        ((laws_heldIntSS_m y18.2 1).bind fun y34 => cond (decide (y34 < 0))
        (some false)
        (cond (y34 != y18.1)
        (some false)
        (some true)))))))

end Go.Proofs.YtcglmncmnlkpmaaDoor
