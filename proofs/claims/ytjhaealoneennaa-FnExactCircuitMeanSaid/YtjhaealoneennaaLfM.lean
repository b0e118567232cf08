/- The plain functions that mirror the code of this unit: none where the code would panic or overflow. Written by program (wip/gen). -/
import Derived.Test.YtjhaealoneennaaMem
namespace Go.Proofs.Ytjhaealoneennaa
set_option linter.unusedVariables false

def laws_eqFrac_m (p0_0 : Int) (p0_1 : Int) (p1_0 : Int) (p1_1 : Int) : Option (Bool) :=
  cond (p0_0 != p1_0)
        (some false)
        (cond (p0_1 != p1_1)
        (some false)
        (some true))

end Go.Proofs.Ytjhaealoneennaa
