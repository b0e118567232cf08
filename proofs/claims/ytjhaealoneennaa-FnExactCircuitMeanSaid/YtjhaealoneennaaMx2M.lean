/- The plain functions that mirror the code of this unit: none where the code would panic or overflow. Written by program (wip/gen). -/
import Derived.Test.YtjhaealoneennaaMem
import Derived.Test.YtjhaealoneennaaNumM
namespace Go.Proofs.Ytjhaealoneennaa
set_option linter.unusedVariables false

def impl_applied_l1 (p1 : List Int) : List (List Int) → Nat → (List Int) → Option (List Int)
  | [], j3, l5 => some l5
  | x11 :: q10, j3, l5 => (impl_dot_m x11 p1).bind fun y16 => (app l5 y16).bind fun l18 => impl_applied_l1 p1 q10 (j3 + 1) l18

def impl_applied_m (p0 : List (List Int)) (p1 : List Int) : Option (List Int) :=
  ((impl_applied_l1 p1 p0 0 ([]) : Option (List Int))).bind (fun l7 => some l7)

end Go.Proofs.Ytjhaealoneennaa
