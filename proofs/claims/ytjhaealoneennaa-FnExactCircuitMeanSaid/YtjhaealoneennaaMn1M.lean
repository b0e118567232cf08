/- The plain functions that mirror the code of this unit: none where the code would panic or overflow. Written by program (wip/gen). -/
import Derived.Test.YtjhaealoneennaaMem
import Derived.Test.YtjhaealoneennaaNumM
import Derived.Test.YtjhaealoneennaaMatM
namespace Go.Proofs.Ytjhaealoneennaa
set_option linter.unusedVariables false

def spec_mnVector_m (p0 : List (List Int)) (p1 : List Int) : Option (Bool) :=
  (spec_mxSquare_m p0).bind fun y1 => ((cond y1 (some ((p1.length : Int) == (p0.length : Int))) (some false) : Option Bool)).bind fun b3 => ((cond b3 ((spec_l1All_m p1 (-1000000) 1000000).bind fun y9 => some y9) (some false) : Option Bool)).bind fun b6 => some b6

def impl_isQuestion_m (p0 : List (List Int)) (p1 : Int) (p2 : List Int) : Option (Bool) :=
  (impl_isSquare_m p0).bind fun y1 => ((cond y1 ((impl_isFinite_m p1).bind fun y6 => some y6) (some false) : Option Bool)).bind fun b3 => ((cond b3 ((impl_areOnePerVertex_m p0 p2).bind fun y11 => some y11) (some false) : Option Bool)).bind fun b8 => some b8

end Go.Proofs.Ytjhaealoneennaa
