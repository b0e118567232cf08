/- The plain functions that mirror the code of this unit: none where the code would panic or overflow. Written by program (wip/gen). -/
import Derived.Test.YtaagklbiebogfaaMem
import Derived.Test.YtaagklbiebogfaaNumM
namespace Go.Proofs.Ytaagklbiebogfaa
set_option linter.unusedVariables false

def spec_mxBest_l1 (p0 : List (List Int)) (p1 : Int) (p2 : List Int) (p3 : Int) (rec : (List (List Int)) → Int → (List Int) → Int → Option (Int × Int)) : List Int → Nat → Int → Int → Option (Int × Int)
  | [], j6, n7, n8 => some (n7, n8)
  | x14 :: q13, j6, n7, n8 => (spec_l1Has_m p2 (j6 : Int)).bind fun y17 => cond y17
        (spec_mxBest_l1 p0 p1 p2 p3 rec q13 (j6 + 1) n7 n8)
        ((ck (p1 + 1)).bind fun n19 => (spec_l1Own_m p2).bind fun y21 => (app y21 (j6 : Int)).bind fun l25 => (spec_nuPlus_m p3 x14).bind fun y29 => (rec p0 n19 l25 y29).bind fun y31 => cond (decide (y31.1 < n7))
        (spec_mxBest_l1 p0 p1 p2 p3 rec q13 (j6 + 1) y31.1 y31.2)
        (cond (y31.1 == n7)
        ((ck (n8 + y31.2)).bind fun n33 => spec_mxBest_l1 p0 p1 p2 p3 rec q13 (j6 + 1) n7 n33)
        (spec_mxBest_l1 p0 p1 p2 p3 rec q13 (j6 + 1) n7 n8)))

def spec_mxBest_b (rec : (List (List Int)) → Int → (List Int) → Int → Option (Int × Int)) (p0 : List (List Int)) (p1 : Int) (p2 : List Int) (p3 : Int) : Option (Int × Int) :=
  cond (p1 == (p0.length : Int))
        (some (p3, 1))
        ((idx p0 p1).bind fun x1 => ((spec_mxBest_l1 p0 p1 p2 p3 rec x1 0 1000000000 0 : Option (Int × Int))).bind (fun s => (fun (n9 : Int) (n10 : Int) => some (n9, n10)) s.1 s.2))

def spec_mxBest_r : Nat → (List (List Int)) → Int → (List Int) → Int → Option (Int × Int)
  | 0 => fun _ _ _ _ => none
  | k + 1 => spec_mxBest_b (spec_mxBest_r k)
def spec_mxBest_m (p0 : List (List Int)) (p1 : Int) (p2 : List Int) (p3 : Int) : Option (Int × Int) := spec_mxBest_r 64 p0 p1 p2 p3

end Go.Proofs.Ytaagklbiebogfaa
