/- The plain functions that mirror the code of this unit: none where the code would panic or overflow. Written by program (wip/gen). -/
import Derived.Test.YtaagklbiebogfaaMem
import Derived.Test.YtaagklbiebogfaaNumM
import Derived.Test.YtaagklbiebogfaaMatM
import Derived.Test.YtaagklbiebogfaaRk2M
import Derived.Test.YtaagklbiebogfaaSngM
namespace Go.Proofs.Ytaagklbiebogfaa
set_option linter.unusedVariables false

def spec_rkChoices_l3 (n8 : Int) : List Int → Nat → (List Int) → Option (List Int)
  | [], j45, l47 => some l47
  | x53 :: q52, j45, l47 => (ck (n8 + 1)).bind fun n56 => (ck (n56 + x53)).bind fun n58 => (app l47 n58).bind fun l60 => spec_rkChoices_l3 n8 q52 (j45 + 1) l60

def spec_rkChoices_l2 (n8 : Int) : List (List Int) → Nat → (List (List Int)) → Option (List (List Int))
  | [], j28, l31 => some l31
  | x38 :: q37, j28, l31 => ((spec_rkChoices_l3 n8 x38 0 ([n8]) : Option (List Int))).bind (fun l49 => (app l31 l49).bind fun l64 => spec_rkChoices_l2 n8 q37 (j28 + 1) l64)

def spec_rkChoices_l1 (p0 : Int) (p1 : Int) (rec : Int → Int → Option (List (List Int))) : Nat → (List (List Int)) → Int → Option (List (List Int))
  | 0, _, _ => none
  | k + 1, l7, n8 => (ck (p0 - p1)).bind fun n15 => cond (decide (n8 ≤ n15))
        ((ck (p0 - n8)).bind fun n17 => (ck (n17 - 1)).bind fun n19 => (ck (p1 - 1)).bind fun n21 => (rec n19 n21).bind fun y23 => ((spec_rkChoices_l2 n8 y23 0 l7 : Option (List (List Int)))).bind (fun l34 => (ck (n8 + 1)).bind fun n68 => spec_rkChoices_l1 p0 p1 rec k l34 n68))
        (some l7)

def spec_rkChoices_b (rec : Int → Int → Option (List (List Int))) (p0 : Int) (p1 : Int) : Option (List (List Int)) :=
  cond (p1 == 0)
        (some ([[]]))
        (((spec_rkChoices_l1 p0 p1 rec 4000000 ([]) 0 : Option (List (List Int)))).bind (fun l11 => some l11))

def spec_rkChoices_r : Nat → Int → Int → Option (List (List Int))
  | 0 => fun _ _ => none
  | k + 1 => spec_rkChoices_b (spec_rkChoices_r k)
def spec_rkChoices_m (p0 : Int) (p1 : Int) : Option (List (List Int)) := spec_rkChoices_r 64 p0 p1

def spec_rkFirst_l2 (p0 : List (List Int)) (x10 : List Int) : List (List Int) → Nat → Option (((List Int) × (List Int) × Bool) ⊕ (Unit))
  | [], j25 => some (Sum.inr ())
  | x29 :: q28, j25 => (spec_rkPart_m p0 x10 x29).bind fun y34 => (spec_rkSingular_m y34).bind fun y39 => cond (!y39)
        (some (Sum.inl (x10, x29, true)))
        (spec_rkFirst_l2 p0 x10 q28 (j25 + 1))

def spec_rkFirst_l1 (p0 : List (List Int)) (p1 : Int) : List (List Int) → Nat → Option (((List Int) × (List Int) × Bool) ⊕ (Unit))
  | [], j6 => some (Sum.inr ())
  | x10 :: q9, j6 => (idx p0 0).bind fun x15 => (spec_rkChoices_m (x15.length : Int) p1).bind fun y20 => ((spec_rkFirst_l2 p0 x10 y20 0 : Option (((List Int) × (List Int) × Bool) ⊕ (Unit)))).bind (fun s => Sum.elim (fun rv => some (Sum.inl rv)) (fun _ => spec_rkFirst_l1 p0 p1 q9 (j6 + 1)) s)

def spec_rkFirst_m (p0 : List (List Int)) (p1 : Int) : Option ((List Int) × (List Int) × Bool) :=
  (spec_rkChoices_m (p0.length : Int) p1).bind fun y1 => ((spec_rkFirst_l1 p0 p1 y1 0 : Option (((List Int) × (List Int) × Bool) ⊕ (Unit)))).bind (fun s => Sum.elim (fun rv => some rv) (fun _ => some ([], [], false)) s)

def spec_rkRank_l1 (p0 : List (List Int)) : Nat → Int → Option ((Int) ⊕ (Unit))
  | 0, _ => none
  | k + 1, n8 => cond (decide (n8 > 0))
        ((spec_rkFirst_m p0 n8).bind fun y12 => cond y12.2.2
        (some (Sum.inl n8))
        ((ck (n8 - 1)).bind fun n19 => spec_rkRank_l1 p0 k n19))
        (some (Sum.inr ()))

def spec_rkRank_m (p0 : List (List Int)) : Option (Int) :=
  (idx p0 0).bind fun x1 => (spec_l1Least_m (p0.length : Int) (x1.length : Int)).bind fun y6 => ((spec_rkRank_l1 p0 4000000 y6 : Option ((Int) ⊕ (Unit)))).bind (fun s => Sum.elim (fun rv => some rv) (fun _ => some 0) s)

def spec_FirstRegular_m (p0 : List (List Int)) (p1 : Int) : Option ((List Int) × (List Int) × Bool) :=
  (spec_mxGood_m p0).bind fun y1 => ((cond (!y1) (some true) ((spec_l1In_m p1 1 6).bind fun y6 => some (!y6)) : Option Bool)).bind fun b3 => cond b3
        (some ([], [], false))
        ((spec_rkFirst_m p0 p1).bind fun y10 => some (y10.1, y10.2.1, y10.2.2))

def spec_TropicalRank_m (p0 : List (List Int)) : Option (Int × Bool) :=
  (spec_mxGood_m p0).bind fun y1 => cond (!y1)
        (some (0, false))
        ((spec_rkRank_m p0).bind fun y3 => some (y3, true))

end Go.Proofs.Ytaagklbiebogfaa
