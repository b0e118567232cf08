/- The plain functions that mirror the code of this unit: none where the code would panic or overflow. Written by program (wip/gen). -/
import Derived.Test.YtjicdfplhenohaaMem
import Derived.Test.YtjicdfplhenohaaNumM
import Derived.Test.YtjicdfplhenohaaWy3M
namespace Go.Proofs.Ytjicdfplhenohaa
set_option linter.unusedVariables false

def laws_FnExactReducedMatrix_m (p0 : List (List Int)) (p1 : List Int) : Option (Bool) :=
  cond (decide ((p1.length : Int) > 1048576))
        (some true)
        ((laws_szIntSS_m p0 1048576).bind fun y1 => cond (decide (y1 < 0))
        (some true)
        ((laws_toIntSS_m p0).bind fun y3 => (laws_toIntS_m p1).bind fun y8 => (spec_ReducedMatrix_m y3 y8).bind fun y12 => (laws_toIntSS_m p0).bind fun y18 => (laws_toIntS_m p1).bind fun y23 => (impl_ReducedMatrix_m y18 y23).bind fun y27 => (laws_eqIntSS_m y27.1 y12.1).bind fun y33 => ((cond (!y33) (some true) (some (y27.2 != y12.2)) : Option Bool)).bind fun b35 => cond b35
        (some false)
        ((laws_toIntSS_m p0).bind fun y38 => (laws_eqIntSS_m y18 y38).bind fun y43 => cond (!y43)
        (some false)
        ((laws_toIntS_m p1).bind fun y45 => (laws_eqIntS_m y23 y45).bind fun y49 => cond (!y49)
        (some false)
        ((laws_markIntSS_m y18 1).bind fun y51 => (laws_markIntS_m y23 y51.1).bind fun y54 => ((cond (decide (y54.1 < 0)) (some true) ((laws_eqIntSS_m y27.1 y12.1).bind fun y59 => some (!y59)) : Option Bool)).bind fun b56 => ((cond b56 (some true) (some (y27.2 != y12.2)) : Option Bool)).bind fun b61 => cond b61
        (some false)
        ((laws_markIntSS_m y27.1 1).bind fun y64 => (laws_heldIntSS_m y64.2 1).bind fun y67 => cond (decide (y67 < 0))
        (some false)
        (cond (y67 != y64.1)
        (some false)
        ((laws_toIntSS_m p0).bind fun y69 => (laws_toIntS_m p1).bind fun y74 => (impl_ReducedMatrix_m y69 y74).bind fun y78 => (laws_eqIntSS_m y78.1 y12.1).bind fun y84 => ((cond (!y84) (some true) (some (y78.2 != y12.2)) : Option Bool)).bind fun b86 => cond b86
        (some false)
        ((laws_heldIntSS_m y64.2 1).bind fun y89 => cond (decide (y89 < 0))
        (some false)
        (cond (y89 != y64.1)
        (some false)
        (some true)))))))))))

end Go.Proofs.Ytjicdfplhenohaa
