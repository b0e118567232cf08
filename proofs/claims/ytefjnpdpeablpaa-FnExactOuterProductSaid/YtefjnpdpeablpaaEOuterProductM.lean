/- The plain functions that mirror the code of this unit: none where the code would panic or overflow. Written by program (wip/gen). -/
import Derived.Test.YtefjnpdpeablpaaMem
import Derived.Test.YtefjnpdpeablpaaNumM
import Derived.Test.YtefjnpdpeablpaaRk1M
namespace Go.Proofs.Ytefjnpdpeablpaa
set_option linter.unusedVariables false

def laws_FnExactOuterProduct_m (p0 : List Int) (p1 : List Int) : Option (Bool) :=
  cond (decide ((p0.length : Int) > 1048576))
        (some true)
        (cond (decide ((p1.length : Int) > 1048576))
        (some true)
        ((laws_toIntS_m p0).bind fun y1 => (laws_toIntS_m p1).bind fun y5 => (spec_OuterProduct_m y1 y5).bind fun y9 => (laws_toIntS_m p0).bind fun y15 => (laws_toIntS_m p1).bind fun y19 => (impl_OuterProduct_m y15 y19).bind fun y23 => (laws_eqIntSS_m y23.1 y9.1).bind fun y29 => ((cond (!y29) (some true) (some (y23.2 != y9.2)) : Option Bool)).bind fun b31 => cond b31
        (some false)
        ((laws_toIntS_m p0).bind fun y34 => (laws_eqIntS_m y15 y34).bind fun y38 => cond (!y38)
        (some false)
        ((laws_toIntS_m p1).bind fun y40 => (laws_eqIntS_m y19 y40).bind fun y44 => cond (!y44)
        (some false)
        ((laws_markIntS_m y15 1).bind fun y46 => (laws_markIntS_m y19 y46.1).bind fun y48 => ((cond (decide (y48.1 < 0)) (some true) ((laws_eqIntSS_m y23.1 y9.1).bind fun y53 => some (!y53)) : Option Bool)).bind fun b50 => ((cond b50 (some true) (some (y23.2 != y9.2)) : Option Bool)).bind fun b55 => cond b55
        (some false)
        ((laws_markIntSS_m y23.1 1).bind fun y58 => (laws_heldIntSS_m y58.2 1).bind fun y61 => cond (decide (y61 < 0))
        (some false)
        (cond (y61 != y58.1)
        (some false)
        ((laws_toIntS_m p0).bind fun y63 => (laws_toIntS_m p1).bind fun y67 => (impl_OuterProduct_m y63 y67).bind fun y71 => (laws_eqIntSS_m y71.1 y9.1).bind fun y77 => ((cond (!y77) (some true) (some (y71.2 != y9.2)) : Option Bool)).bind fun b79 => cond b79
        (some false)
        ((laws_heldIntSS_m y58.2 1).bind fun y82 => cond (decide (y82 < 0))
        (some false)
        (cond (y82 != y58.1)
        (some false)
        (some true)))))))))))

end Go.Proofs.Ytefjnpdpeablpaa
