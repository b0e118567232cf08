/- The plain functions that mirror the code of this unit: none where the code would panic or overflow. Written by program (wip/gen). -/
import Derived.Test.YtjicdfplhenohaaMem
import Derived.Test.YtjicdfplhenohaaNumM
import Derived.Test.YtjicdfplhenohaaMx2M
namespace Go.Proofs.Ytjicdfplhenohaa
set_option linter.unusedVariables false

def laws_FnExactMultiplyMatrices_m (p0 : List (List Int)) (p1 : List (List Int)) : Option (Bool) :=
  (laws_szIntSS_m p0 1048576).bind fun y1 => cond (decide (y1 < 0))
        (some true)
        ((laws_szIntSS_m p1 y1).bind fun y3 => cond (decide (y3 < 0))
        (some true)
        ((laws_toIntSS_m p0).bind fun y5 => (laws_toIntSS_m p1).bind fun y10 => (spec_MultiplyMatrices_m y5 y10).bind fun y15 => (laws_toIntSS_m p0).bind fun y21 => (laws_toIntSS_m p1).bind fun y26 => (impl_MultiplyMatrices_m y21 y26).bind fun y31 => (laws_eqIntSS_m y31.1 y15.1).bind fun y37 => ((cond (!y37) (some true) (some (y31.2 != y15.2)) : Option Bool)).bind fun b39 => cond b39
        (some false)
        ((laws_toIntSS_m p0).bind fun y42 => (laws_eqIntSS_m y21 y42).bind fun y47 => cond (!y47)
        (some false)
        ((laws_toIntSS_m p1).bind fun y49 => (laws_eqIntSS_m y26 y49).bind fun y54 => cond (!y54)
        (some false)
        ((laws_markIntSS_m y21 1).bind fun y56 => (laws_markIntSS_m y26 y56.1).bind fun y59 => ((cond (decide (y59.1 < 0)) (some true) ((laws_eqIntSS_m y31.1 y15.1).bind fun y65 => some (!y65)) : Option Bool)).bind fun b62 => ((cond b62 (some true) (some (y31.2 != y15.2)) : Option Bool)).bind fun b67 => cond b67
        (some false)
        ((laws_markIntSS_m y31.1 1).bind fun y70 => (laws_heldIntSS_m y70.2 1).bind fun y73 => cond (decide (y73 < 0))
        (some false)
        (cond (y73 != y70.1)
        (some false)
        ((laws_toIntSS_m p0).bind fun y75 => (laws_toIntSS_m p1).bind fun y80 => (impl_MultiplyMatrices_m y75 y80).bind fun y85 => (laws_eqIntSS_m y85.1 y15.1).bind fun y91 => ((cond (!y91) (some true) (some (y85.2 != y15.2)) : Option Bool)).bind fun b93 => cond b93
        (some false)
        ((laws_heldIntSS_m y70.2 1).bind fun y96 => cond (decide (y96 < 0))
        (some false)
        (cond (y96 != y70.1)
        (some false)
        (some true)))))))))))

end Go.Proofs.Ytjicdfplhenohaa
