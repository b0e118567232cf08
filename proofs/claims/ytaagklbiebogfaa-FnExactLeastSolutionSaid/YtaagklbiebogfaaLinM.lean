/- The plain functions that mirror the code of this unit: none where the code would panic or overflow. Written by program (wip/gen). -/
import Derived.Test.YtaagklbiebogfaaMem
import Derived.Test.YtaagklbiebogfaaNumM
import Derived.Test.YtaagklbiebogfaaMatM
import Derived.Test.YtaagklbiebogfaaLy1M
namespace Go.Proofs.Ytaagklbiebogfaa
set_option linter.unusedVariables false

def spec_lyLeast_l2 (p1 : List Int) (j7 : Nat) : List (List Int) → Nat → Bool → Int → Option (Int)
  | [], j17, b18, n19 => some n19
  | x24 :: q23, j17, b18, n19 => (idx x24 (j7 : Int)).bind fun x29 => ((cond (x29 != 1000000000) (((cond b18 (some true) ((idx p1 (j17 : Int)).bind fun x38 => (ck (x38 - x29)).bind fun n42 => some (decide (n42 > n19))) : Option Bool)).bind fun b35 => some b35) (some false) : Option Bool)).bind fun b32 => cond b32
        ((idx p1 (j17 : Int)).bind fun x44 => (ck (x44 - x29)).bind fun n48 => spec_lyLeast_l2 p1 j7 q23 (j17 + 1) false n48)
        (spec_lyLeast_l2 p1 j7 q23 (j17 + 1) b18 n19)

def spec_lyLeast_l1 (p0 : List (List Int)) (p1 : List Int) : List Int → Nat → (List Int) → Option (List Int)
  | [], j7, l9 => some l9
  | x15 :: q14, j7, l9 => ((spec_lyLeast_l2 p1 j7 p0 0 true 0 : Option (Int))).bind (fun n20 => (app l9 n20).bind fun l50 => spec_lyLeast_l1 p0 p1 q14 (j7 + 1) l50)

def spec_lyLeast_m (p0 : List (List Int)) (p1 : List Int) : Option (List Int) :=
  (idx p0 0).bind fun x2 => ((spec_lyLeast_l1 p0 p1 x2 0 ([]) : Option (List Int))).bind (fun l11 => some l11)

def spec_lyAsked_m (p0 : List (List Int)) (p1 : List Int) : Option (Bool) :=
  (spec_lyGood_m p0 p1).bind fun y1 => ((cond y1 ((spec_lyLeast_m p0 p1).bind fun y6 => (spec_l1All_m y6 (-1000000) 1000000).bind fun y10 => some y10) (some false) : Option Bool)).bind fun b3 => some b3

def spec_LeastSolution_m (p0 : List (List Int)) (p1 : List Int) : Option ((List Int) × Bool) :=
  (spec_lyAsked_m p0 p1).bind fun y1 => cond (!y1)
        (some ([], false))
        ((spec_lyLeast_m p0 p1).bind fun y4 => some (y4, true))

def impl_leastSolution_l2 (p1 : List Int) : List Int → Nat → Int → Bool → Option (Int)
  | [], j21, n22, b23 => some n22
  | x28 :: q27, j21, n22, b23 => ((cond (x28 != 1000000000) (((cond (!b23) (some true) ((idx p1 (j21 : Int)).bind fun x37 => (ck (x37 - x28)).bind fun n40 => some (decide (n40 > n22))) : Option Bool)).bind fun b34 => some b34) (some false) : Option Bool)).bind fun b31 => cond b31
        ((idx p1 (j21 : Int)).bind fun x42 => (ck (x42 - x28)).bind fun n45 => impl_leastSolution_l2 p1 q27 (j21 + 1) n45 true)
        (impl_leastSolution_l2 p1 q27 (j21 + 1) n22 b23)

def impl_leastSolution_l1 (p1 : List Int) : List (List Int) → Nat → (List Int) → Option (List Int)
  | [], j8, l10 => some l10
  | x16 :: q15, j8, l10 => ((impl_leastSolution_l2 p1 x16 0 0 false : Option (Int))).bind (fun n24 => (app l10 n24).bind fun l47 => impl_leastSolution_l1 p1 q15 (j8 + 1) l47)

def impl_leastSolution_m (p0 : List (List Int)) (p1 : List Int) : Option (List Int) :=
  (impl_transposed_m p0).bind fun y3 => ((impl_leastSolution_l1 p1 y3 0 ([]) : Option (List Int))).bind (fun l12 => some l12)

end Go.Proofs.Ytaagklbiebogfaa
