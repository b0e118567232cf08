/- The plain functions that mirror the code of this unit: none where the code would panic or overflow. Written by program (wip/gen). -/
import Derived.Test.YtjhaealoneennaaMem
import Derived.Test.YtjhaealoneennaaNumM
import Derived.Test.YtjhaealoneennaaChwM
namespace Go.Proofs.Ytjhaealoneennaa
set_option linter.unusedVariables false

def laws_FnExactCheapestWay_m (p0 : List (List Int)) (p1 : Int) (p2 : Int) : Option (Bool) :=
  (laws_szIntSS_m p0 1048576).bind fun y1 => cond (decide (y1 < 0))
        (some true)
        ((laws_toIntSS_m p0).bind fun y3 => (spec_CheapestWay_m y3 p1 p2).bind fun y8 => (laws_toIntSS_m p0).bind fun y13 => (impl_CheapestWay_m y13 p1 p2).bind fun y18 => (laws_eqIntS_m y18.1 y8.1).bind fun y23 => ((cond (!y23) (some true) (some (y18.2 != y8.2)) : Option Bool)).bind fun b25 => cond b25
        (some false)
        ((laws_toIntSS_m p0).bind fun y28 => (laws_eqIntSS_m y13 y28).bind fun y33 => cond (!y33)
        (some false)
        ((laws_markIntSS_m y13 1).bind fun y35 => ((cond (decide (y35.1 < 0)) (some true) ((laws_eqIntS_m y18.1 y8.1).bind fun y41 => some (!y41)) : Option Bool)).bind fun b38 => ((cond b38 (some true) (some (y18.2 != y8.2)) : Option Bool)).bind fun b43 => cond b43
        (some false)
        ((laws_markIntS_m y18.1 1).bind fun y46 => (laws_heldIntS_m y46.2 1).bind fun y48 => cond (decide (y48 < 0))
        (some false)
        (cond (y48 != y46.1)
        (some false)
        ((laws_toIntSS_m p0).bind fun y50 => (impl_CheapestWay_m y50 p1 p2).bind fun y55 => (laws_eqIntS_m y55.1 y8.1).bind fun y60 => ((cond (!y60) (some true) (some (y55.2 != y8.2)) : Option Bool)).bind fun b62 => cond b62
        (some false)
        ((laws_heldIntS_m y46.2 1).bind fun y65 => cond (decide (y65 < 0))
        (some false)
        (cond (y65 != y46.1)
        (some false)
        (some true)))))))))

end Go.Proofs.Ytjhaealoneennaa
