/- The plain functions that mirror the code of this unit: none where the code would panic or overflow. Written by program (wip/gen). -/
import Derived.Test.YtaagklbiebogfaaMem
import Derived.Test.YtaagklbiebogfaaNumM
import Derived.Test.YtaagklbiebogfaaRk2M
namespace Go.Proofs.Ytaagklbiebogfaa
set_option linter.unusedVariables false

def laws_FnExactPartOf_m (p0 : List (List Int)) (p1 : List Int) (p2 : List Int) : Option (Bool) :=
  cond (decide ((p1.length : Int) > 1048576))
        (some true)
        (cond (decide ((p2.length : Int) > 1048576))
        (some true)
        ((laws_szIntSS_m p0 1048576).bind fun y1 => cond (decide (y1 < 0))
        (some true)
        ((laws_toIntSS_m p0).bind fun y3 => (laws_toIntS_m p1).bind fun y8 => (laws_toIntS_m p2).bind fun y12 => (spec_PartOf_m y3 y8 y12).bind fun y16 => (laws_toIntSS_m p0).bind fun y22 => (laws_toIntS_m p1).bind fun y27 => (laws_toIntS_m p2).bind fun y31 => (impl_PartOf_m y22 y27 y31).bind fun y35 => (laws_eqIntSS_m y35.1 y16.1).bind fun y41 => ((cond (!y41) (some true) (some (y35.2 != y16.2)) : Option Bool)).bind fun b43 => cond b43
        (some false)
        ((laws_toIntSS_m p0).bind fun y46 => (laws_eqIntSS_m y22 y46).bind fun y51 => cond (!y51)
        (some false)
        ((laws_toIntS_m p1).bind fun y53 => (laws_eqIntS_m y27 y53).bind fun y57 => cond (!y57)
        (some false)
        ((laws_toIntS_m p2).bind fun y59 => (laws_eqIntS_m y31 y59).bind fun y63 => cond (!y63)
        (some false)
        ((laws_markIntSS_m y22 1).bind fun y65 => (laws_markIntS_m y27 y65.1).bind fun y68 => (laws_markIntS_m y31 y68.1).bind fun y70 => ((cond (decide (y70.1 < 0)) (some true) ((laws_eqIntSS_m y35.1 y16.1).bind fun y75 => some (!y75)) : Option Bool)).bind fun b72 => ((cond b72 (some true) (some (y35.2 != y16.2)) : Option Bool)).bind fun b77 => cond b77
        (some false)
        ((laws_markIntSS_m y35.1 1).bind fun y80 => (laws_heldIntSS_m y80.2 1).bind fun y83 => cond (decide (y83 < 0))
        (some false)
        (cond (y83 != y80.1)
        (some false)
        ((laws_toIntSS_m p0).bind fun y85 => (laws_toIntS_m p1).bind fun y90 => (laws_toIntS_m p2).bind fun y94 => (impl_PartOf_m y85 y90 y94).bind fun y98 => (laws_eqIntSS_m y98.1 y16.1).bind fun y104 => ((cond (!y104) (some true) (some (y98.2 != y16.2)) : Option Bool)).bind fun b106 => cond b106
        (some false)
        ((laws_heldIntSS_m y80.2 1).bind fun y109 => cond (decide (y109 < 0))
        (some false)
        (cond (y109 != y80.1)
        (some false)
        (some true)))))))))))))

end Go.Proofs.Ytaagklbiebogfaa
