/- The plain functions that mirror the code of this unit: none where the code would panic or overflow. Written by program (wip/gen). -/
import Derived.Test.YtjhaealoneennaaMem
import Derived.Test.YtjhaealoneennaaNumM
import Derived.Test.YtjhaealoneennaaMatM
import Derived.Test.YtjhaealoneennaaWy4M
namespace Go.Proofs.Ytjhaealoneennaa
set_option linter.unusedVariables false

def spec_PotentialsFor_l2 (y4 : (List (List Int)) × Bool) (j14 : Nat) : List (List Int) → Nat → Int → Option (Int)
  | [], j23, n22 => some n22
  | x28 :: q27, j23, n22 => (idx y4.1 (j23 : Int)).bind fun x30 => (idx x30 (j14 : Int)).bind fun x35 => (spec_l1Least_m n22 x35).bind fun y38 => spec_PotentialsFor_l2 y4 j14 q27 (j23 + 1) y38

def spec_PotentialsFor_l1 (p0 : List (List Int)) (y4 : (List (List Int)) × Bool) : List (List Int) → Nat → (List Int) → Option (List Int)
  | [], j14, l13 => some l13
  | x20 :: q19, j14, l13 => ((spec_PotentialsFor_l2 y4 j14 p0 0 1000000000 : Option (Int))).bind (fun n24 => (app l13 n24).bind fun l40 => spec_PotentialsFor_l1 p0 y4 q19 (j14 + 1) l40)

def spec_PotentialsFor_m (p0 : List (List Int)) : Option ((List Int) × Bool) :=
  (spec_mxSquare_m p0).bind fun y1 => cond (!y1)
        (some ([], false))
        ((spec_wyCosts_m p0).bind fun y4 => cond (!y4.2)
        (some ([], false))
        (((spec_PotentialsFor_l1 p0 y4 p0 0 ([]) : Option (List Int))).bind (fun l16 => (spec_l1All_m l16 (-1000000) 1000000).bind fun y44 => cond (!y44)
        (some ([], false))
        (some (l16, true)))))

def impl_PotentialsFor_l1 : List (List Int) → Nat → (List Int) → Option (List Int)
  | [], j20, l19 => some l19
  | x26 :: q25, j20, l19 => (impl_sumOf_m x26).bind fun y31 => (app l19 y31).bind fun l33 => impl_PotentialsFor_l1 q25 (j20 + 1) l33

def impl_PotentialsFor_m (p0 : List (List Int)) : Option ((List Int) × Bool) :=
  (impl_isSquare_m p0).bind fun y1 => cond (!y1)
        (some ([], false))
        ((impl_wayCosts_m p0).bind fun y4 => cond (!y4.2)
        (some ([], false))
        ((impl_transposed_m y4.1).bind fun y13 => ((impl_PotentialsFor_l1 y13 0 ([]) : Option (List Int))).bind (fun l22 => (impl_toldList_m l22).bind fun y37 => some ((cond y37.1 l22 []), y37.2))))

end Go.Proofs.Ytjhaealoneennaa
