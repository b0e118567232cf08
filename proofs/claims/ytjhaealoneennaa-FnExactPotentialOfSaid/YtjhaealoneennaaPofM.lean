/- The plain functions that mirror the code of this unit: none where the code would panic or overflow. Written by program (wip/gen). -/
import Derived.Test.YtjhaealoneennaaMem
import Derived.Test.YtjhaealoneennaaNumM
import Derived.Test.YtjhaealoneennaaMatM
import Derived.Test.YtjhaealoneennaaWy4M
import Derived.Test.YtjhaealoneennaaEigM
import Derived.Test.YtjhaealoneennaaFracM
import Derived.Test.YtjhaealoneennaaMncM
namespace Go.Proofs.Ytjhaealoneennaa
set_option linter.unusedVariables false

def spec_PotentialOf_m (p0 : List (List Int)) (p1 : Int) : Option ((List Int) × Bool) :=
  (spec_mxSquare_m p0).bind fun y1 => ((cond (!y1) (some true) ((spec_poFinite_m p1).bind fun y6 => some (!y6)) : Option Bool)).bind fun b3 => cond b3
        (some ([], false))
        ((spec_mnLeast_m p0).bind fun y9 => ((cond (decide ((y9.length : Int) > 0)) ((spec_mnMean_m p0 y9).bind fun y16 => (spec_frInt_m p1).bind fun y18 => (spec_frCmp_m y16.1 y16.2 y18.1 y18.2).bind fun y20 => some (decide (y20 < 0))) (some false) : Option Bool)).bind fun b13 => cond b13
        (some ([], false))
        ((guardO (decide (0 ≤ (p0.length : Int) ∧ (p0.length : Int) < 1000000000))).bind fun _ => (spec_mnWays_m p0 p1 (List.replicate ((p0.length : Int)).toNat (0 : Int))).bind fun y26 => (spec_mnIf_m y26).bind fun y30 => some ((cond y30.1 y26 []), y30.2)))

def impl_PotentialOf_l1 : List (List Int) → Nat → (List Int) → Option (List Int)
  | [], j23, l25 => some l25
  | x31 :: q30, j23, l25 => (impl_sumOf_m x31).bind fun y36 => (app l25 y36).bind fun l38 => impl_PotentialOf_l1 q30 (j23 + 1) l38

def impl_PotentialOf_m (p0 : List (List Int)) (p1 : Int) : Option ((List Int) × Bool) :=
  (impl_isSquare_m p0).bind fun y1 => ((cond (!y1) (some true) ((impl_isFinite_m p1).bind fun y6 => some (!y6)) : Option Bool)).bind fun b3 => cond b3
        (some ([], false))
        ((impl_shorter_m p0 p1).bind fun y9 => (impl_wayCosts_m y9).bind fun y14 => cond (!y14.2)
        (some ([], false))
        (((impl_PotentialOf_l1 y14.1 0 ([]) : Option (List Int))).bind (fun l27 => (impl_toldList_m l27).bind fun y42 => some ((cond y42.1 l27 []), y42.2))))

end Go.Proofs.Ytjhaealoneennaa
