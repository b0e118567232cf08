/- The plain functions that mirror the code of this unit: none where the code would panic or overflow. Written by program (wip/gen). -/
import Derived.Test.YtjhaealoneennaaMem
import Derived.Test.YtjhaealoneennaaNumM
import Derived.Test.YtjhaealoneennaaMatM
import Derived.Test.YtjhaealoneennaaEigM
import Derived.Test.YtjhaealoneennaaFracM
import Derived.Test.YtjhaealoneennaaMnbM
namespace Go.Proofs.Ytjhaealoneennaa
set_option linter.unusedVariables false

def spec_mnMean_l1 (p0 : List (List Int)) (p1 : List Int) : List Int → Nat → Int → Option (Int)
  | [], j3, n4 => some n4
  | x9 :: q8, j3, n4 => (idx p0 x9).bind fun x12 => (ck ((j3 : Int) + 1)).bind fun n17 => (remO n17 (p1.length : Int)).bind fun n19 => (idx p1 n19).bind fun x21 => (idx x12 x21).bind fun x24 => (ck (n4 + x24)).bind fun n27 => spec_mnMean_l1 p0 p1 q8 (j3 + 1) n27

def spec_mnMean_m (p0 : List (List Int)) (p1 : List Int) : Option (Int × Int) :=
  ((spec_mnMean_l1 p0 p1 p1 0 0 : Option (Int))).bind (fun n5 => (spec_frMake_m n5 (p1.length : Int)).bind fun y29 => some (y29.1, y29.2.1))

def spec_mnLeast_l1 (p0 : List (List Int)) : List (List Int) → Nat → (List Int) → Option (List Int)
  | [], j7, l9 => some l9
  | x17 :: q16, j7, l9 => ((cond ((l9.length : Int) == 0) (some true) ((spec_mnMean_m p0 x17).bind fun y25 => (spec_mnMean_m p0 l9).bind fun y27 => (spec_frCmp_m y25.1 y25.2 y27.1 y27.2).bind fun y29 => some (decide (y29 < 0))) : Option Bool)).bind fun b22 => cond b22
        (spec_mnLeast_l1 p0 q16 (j7 + 1) x17)
        (spec_mnLeast_l1 p0 q16 (j7 + 1) l9)

def spec_mnLeast_m (p0 : List (List Int)) : Option (List Int) :=
  (spec_mnCircuits_m p0).bind fun y2 => ((spec_mnLeast_l1 p0 y2 0 ([]) : Option (List Int))).bind (fun l12 => some l12)

def spec_LeastMean_m (p0 : List (List Int)) : Option (Int × Int × Bool) :=
  (spec_mxSquare_m p0).bind fun y3 => ((cond (!y3) (some true) ((spec_mnLeast_m p0).bind fun y8 => some ((y8.length : Int) == 0)) : Option Bool)).bind fun b5 => cond b5
        (some (0, 0, false))
        ((spec_mnLeast_m p0).bind fun y12 => (spec_mnMean_m p0 y12).bind fun y16 => some (y16.1, y16.2, true))

def spec_LeastCircuit_m (p0 : List (List Int)) : Option ((List Int) × Bool) :=
  (spec_mxSquare_m p0).bind fun y1 => ((cond (!y1) (some true) ((spec_mnLeast_m p0).bind fun y6 => some ((y6.length : Int) == 0)) : Option Bool)).bind fun b3 => cond b3
        (some ([], false))
        ((spec_mnLeast_m p0).bind fun y11 => some (y11, true))

def spec_mnCritical_l2 : List Int → Nat → (List Int) → Option (List Int)
  | [], j28, l30 => some l30
  | x36 :: q35, j28, l30 => (spec_l1Put_m l30 x36).bind fun y39 => spec_mnCritical_l2 q35 (j28 + 1) y39

def spec_mnCritical_l1 (p0 : List (List Int)) (y2 : List Int) : List (List Int) → Nat → (List Int) → Option (List Int)
  | [], j11, l13 => some l13
  | x19 :: q18, j11, l13 => (spec_mnMean_m p0 x19).bind fun y24 => (spec_mnMean_m p0 y2).bind fun y26 => cond (y24.1 == y26.1 && y24.2 == y26.2)
        (((spec_mnCritical_l2 x19 0 l13 : Option (List Int))).bind (fun l32 => spec_mnCritical_l1 p0 y2 q18 (j11 + 1) l32))
        (spec_mnCritical_l1 p0 y2 q18 (j11 + 1) l13)

def spec_mnCritical_m (p0 : List (List Int)) : Option (List Int) :=
  (spec_mnLeast_m p0).bind fun y2 => (spec_mnCircuits_m p0).bind fun y6 => ((spec_mnCritical_l1 p0 y2 y6 0 ([]) : Option (List Int))).bind (fun l15 => some l15)

def spec_CriticalNodes_m (p0 : List (List Int)) : Option ((List Int) × Bool) :=
  (spec_mxSquare_m p0).bind fun y1 => cond (!y1)
        (some ([], false))
        ((spec_mnCritical_m p0).bind fun y4 => some (y4, true))

def spec_CircuitMean_l1 (p0 : List (List Int)) (p1 : List Int) : List (List Int) → Nat → Option ((Int × Int × Bool) ⊕ (Unit))
  | [], j10 => some (Sum.inr ())
  | x14 :: q13, j10 => (spec_l1Same_m x14 p1).bind fun y19 => cond y19
        ((spec_mnMean_m p0 x14).bind fun y21 => some (Sum.inl (y21.1, y21.2, true)))
        (spec_CircuitMean_l1 p0 p1 q13 (j10 + 1))

def spec_CircuitMean_m (p0 : List (List Int)) (p1 : List Int) : Option (Int × Int × Bool) :=
  (spec_mxSquare_m p0).bind fun y3 => cond (!y3)
        (some (0, 0, false))
        ((spec_mnCircuits_m p0).bind fun y5 => ((spec_CircuitMean_l1 p0 p1 y5 0 : Option ((Int × Int × Bool) ⊕ (Unit)))).bind (fun s => Sum.elim (fun rv => some rv) (fun _ => some (0, 0, false)) s))

end Go.Proofs.Ytjhaealoneennaa
