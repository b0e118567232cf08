/- The plain functions that mirror the code of this unit: none where the code would panic or overflow. Written by program (wip/gen). -/
import Derived.Test.YtaagklbiebogfaaMem
import Derived.Test.YtaagklbiebogfaaNumM
import Derived.Test.YtaagklbiebogfaaLinM
import Derived.Test.YtaagklbiebogfaaHlsM
namespace Go.Proofs.Ytaagklbiebogfaa
set_option linter.unusedVariables false

def laws_FnExactLeastSolution_m (p0 : List (List Int)) (p1 : List Int) : Option (Bool) :=
  cond (decide ((p1.length : Int) > 1048576))
        (some true)
        ((laws_szIntSS_m p0 1048576).bind fun y1 => cond (decide (y1 < 0))
        (some true)
        ((laws_toIntSS_m p0).bind fun y3 => (laws_toIntS_m p1).bind fun y8 => (spec_LeastSolution_m y3 y8).bind fun y12 => (laws_toIntSS_m p0).bind fun y17 => (laws_toIntS_m p1).bind fun y22 => (impl_LeastSolution_m y17 y22).bind fun y26 => (laws_eqIntS_m y26.1 y12.1).bind fun y31 => ((cond (!y31) (some true) (some (y26.2 != y12.2)) : Option Bool)).bind fun b33 => cond b33
        (some false)
        ((laws_toIntSS_m p0).bind fun y36 => (laws_eqIntSS_m y17 y36).bind fun y41 => cond (!y41)
        (some false)
        ((laws_toIntS_m p1).bind fun y43 => (laws_eqIntS_m y22 y43).bind fun y47 => cond (!y47)
        (some false)
        ((laws_markIntSS_m y17 1).bind fun y49 => (laws_markIntS_m y22 y49.1).bind fun y52 => ((cond (decide (y52.1 < 0)) (some true) ((laws_eqIntS_m y26.1 y12.1).bind fun y57 => some (!y57)) : Option Bool)).bind fun b54 => ((cond b54 (some true) (some (y26.2 != y12.2)) : Option Bool)).bind fun b59 => cond b59
        (some false)
        ((laws_markIntS_m y26.1 1).bind fun y62 => (laws_heldIntS_m y62.2 1).bind fun y64 => cond (decide (y64 < 0))
        (some false)
        (cond (y64 != y62.1)
        (some false)
        ((laws_toIntSS_m p0).bind fun y66 => (laws_toIntS_m p1).bind fun y71 => (impl_LeastSolution_m y66 y71).bind fun y75 => (laws_eqIntS_m y75.1 y12.1).bind fun y80 => ((cond (!y80) (some true) (some (y75.2 != y12.2)) : Option Bool)).bind fun b82 => cond b82
        (some false)
        ((laws_heldIntS_m y62.2 1).bind fun y85 => cond (decide (y85 < 0))
        (some false)
        (cond (y85 != y62.1)
        (some false)
        (some true)))))))))))

end Go.Proofs.Ytaagklbiebogfaa
