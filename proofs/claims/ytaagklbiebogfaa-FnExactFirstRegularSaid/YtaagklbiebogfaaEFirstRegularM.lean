/- The plain functions that mirror the code of this unit: none where the code would panic or overflow. Written by program (wip/gen). -/
import Derived.Test.YtaagklbiebogfaaMem
import Derived.Test.YtaagklbiebogfaaNumM
import Derived.Test.YtaagklbiebogfaaChoM
import Derived.Test.YtaagklbiebogfaaChiM
namespace Go.Proofs.Ytaagklbiebogfaa
set_option linter.unusedVariables false

def laws_FnExactFirstRegular_m (p0 : List (List Int)) (p1 : Int) : Option (Bool) :=
  (laws_szIntSS_m p0 1048576).bind fun y1 => cond (decide (y1 < 0))
        (some true)
        ((laws_toIntSS_m p0).bind fun y3 => (spec_FirstRegular_m y3 p1).bind fun y8 => (laws_toIntSS_m p0).bind fun y15 => (impl_FirstRegular_m y15 p1).bind fun y20 => (laws_eqIntS_m y20.1 y8.1).bind fun y27 => ((cond (!y27) (some true) ((laws_eqIntS_m y20.2.1 y8.2.1).bind fun y32 => some (!y32)) : Option Bool)).bind fun b29 => ((cond b29 (some true) (some (y20.2.2 != y8.2.2)) : Option Bool)).bind fun b34 => cond b34
        (some false)
        ((laws_toIntSS_m p0).bind fun y37 => (laws_eqIntSS_m y15 y37).bind fun y42 => cond (!y42)
        (some false)
        ((laws_markIntSS_m y15 1).bind fun y44 => ((cond (decide (y44.1 < 0)) (some true) ((laws_eqIntS_m y20.1 y8.1).bind fun y50 => some (!y50)) : Option Bool)).bind fun b47 => ((cond b47 (some true) ((laws_eqIntS_m y20.2.1 y8.2.1).bind fun y55 => some (!y55)) : Option Bool)).bind fun b52 => ((cond b52 (some true) (some (y20.2.2 != y8.2.2)) : Option Bool)).bind fun b57 => cond b57
        (some false)
        ((laws_markIntS_m y20.1 1).bind fun y60 => (laws_markIntS_m y20.2.1 y60.1).bind fun y62 => (laws_heldIntS_m y60.2 1).bind fun y64 => cond (decide (y64 < 0))
        (some false)
        ((laws_heldIntS_m y62.2 y64).bind fun y66 => cond (decide (y66 < 0))
        (some false)
        (cond (y66 != y62.1)
        (some false)
        ((laws_toIntSS_m p0).bind fun y68 => (impl_FirstRegular_m y68 p1).bind fun y73 => (laws_eqIntS_m y73.1 y8.1).bind fun y80 => ((cond (!y80) (some true) ((laws_eqIntS_m y73.2.1 y8.2.1).bind fun y85 => some (!y85)) : Option Bool)).bind fun b82 => ((cond b82 (some true) (some (y73.2.2 != y8.2.2)) : Option Bool)).bind fun b87 => cond b87
        (some false)
        ((laws_heldIntS_m y60.2 1).bind fun y90 => cond (decide (y90 < 0))
        (some false)
        ((laws_heldIntS_m y62.2 y90).bind fun y92 => cond (decide (y92 < 0))
        (some false)
        (cond (y92 != y62.1)
        (some false)
        (some true)))))))))))

end Go.Proofs.Ytaagklbiebogfaa
