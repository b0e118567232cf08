/- The plain functions that mirror the code of this unit: none where the code would panic or overflow. Written by program (wip/gen). -/
import Derived.Test.YtaagklbiebogfaaMem
namespace Go.Proofs.Ytaagklbiebogfaa
set_option linter.unusedVariables false

def slices_Clone_int_int_m (p0 : List Int) : Option (List Int) :=
  (appS ([]) p0).bind fun l4 => some l4

def spec_l1Most_m (p0 : Int) (p1 : Int) : Option (Int) :=
  cond (decide (p0 > p1))
        (some p0)
        (some p1)

end Go.Proofs.Ytaagklbiebogfaa
