/- The plain functions that mirror the code of this unit: none where the code would panic or overflow. Written by program (wip/gen). -/
import Derived.Test.YtjhaealoneennaaMem
import Derived.Test.YtjhaealoneennaaNumM
namespace Go.Proofs.Ytjhaealoneennaa
set_option linter.unusedVariables false

def spec_mnBehind_l1 (p0 : List (List Int)) (p1 : List Int) (rec : (List (List Int)) → (List Int) → Option (List (List Int))) (x7 : List Int) : Nat → (List (List Int)) → Int → Option (List (List Int))
  | 0, _, _ => none
  | k + 1, l36, n37 => cond (decide (n37 < (p0.length : Int)))
        ((idx x7 n37).bind fun x47 => ((cond (x47 != 1000000000) ((spec_l1Has_m p1 n37).bind fun y53 => some (!y53)) (some false) : Option Bool)).bind fun b50 => cond b50
        ((spec_l1Own_m p1).bind fun y55 => (app y55 n37).bind fun l59 => (rec p0 l59).bind fun y63 => (appS l36 y63).bind fun l68 => (ck (n37 + 1)).bind fun n71 => spec_mnBehind_l1 p0 p1 rec x7 k l68 n71)
        ((ck (n37 + 1)).bind fun n73 => spec_mnBehind_l1 p0 p1 rec x7 k l36 n73))
        (some l36)

def spec_mnBehind_b (rec : (List (List Int)) → (List Int) → Option (List (List Int))) (p0 : List (List Int)) (p1 : List Int) : Option (List (List Int)) :=
  (ck ((p1.length : Int) - 1)).bind fun n2 => (idx p1 n2).bind fun x4 => (idx p0 x4).bind fun x7 => (idx p1 0).bind fun x12 => (idx x7 x12).bind fun x15 => ((cond (x15 != 1000000000)
        ((spec_l1Own_m p1).bind fun y23 => (app ([]) y23).bind fun l27 => some l27)
        (some ([])) : Option (List (List Int)))).bind (fun l20 => (ck (x12 + 1)).bind fun n32 => ((spec_mnBehind_l1 p0 p1 rec x7 4000000 l20 n32 : Option (List (List Int)))).bind (fun l40 => some l40))

def spec_mnBehind_r : Nat → (List (List Int)) → (List Int) → Option (List (List Int))
  | 0 => fun _ _ => none
  | k + 1 => spec_mnBehind_b (spec_mnBehind_r k)
def spec_mnBehind_m (p0 : List (List Int)) (p1 : List Int) : Option (List (List Int)) := spec_mnBehind_r 64 p0 p1

def spec_mnCircuits_l1 (p0 : List (List Int)) : List (List Int) → Nat → (List (List Int)) → Option (List (List Int))
  | [], j2, l5 => some l5
  | x12 :: q11, j2, l5 => (spec_mnBehind_m p0 ([(j2 : Int)])).bind fun y16 => (appS l5 y16).bind fun l21 => spec_mnCircuits_l1 p0 q11 (j2 + 1) l21

def spec_mnCircuits_m (p0 : List (List Int)) : Option (List (List Int)) :=
  ((spec_mnCircuits_l1 p0 p0 0 ([]) : Option (List (List Int)))).bind (fun l8 => some l8)

end Go.Proofs.Ytjhaealoneennaa
