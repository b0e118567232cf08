/- The plain functions that mirror the code of this unit: none where the code would panic or overflow. Written by program (wip/gen). -/
import Derived.Test.YtaagklbiebogfaaMem
import Derived.Test.YtaagklbiebogfaaMatM
namespace Go.Proofs.Ytaagklbiebogfaa
set_option linter.unusedVariables false

def spec_rkAlike_l1 (p1 : Int) (p2 : Int) : List (List Int) → Nat → Bool → Int → Option ((Bool) ⊕ (Unit))
  | [], j1, b2, n3 => some (Sum.inr ())
  | x7 :: q6, j1, b2, n3 => (idx x7 p1).bind fun x12 => (idx x7 p2).bind fun x15 => cond ((x12 == 1000000000) != (x15 == 1000000000))
        (some (Sum.inl false))
        (cond (x12 == 1000000000)
        (spec_rkAlike_l1 p1 p2 q6 (j1 + 1) b2 n3)
        (cond (!b2)
        ((ck (x15 - x12)).bind fun n18 => spec_rkAlike_l1 p1 p2 q6 (j1 + 1) true n18)
        ((ck (x15 - x12)).bind fun n20 => cond (n20 != n3)
        (some (Sum.inl false))
        (spec_rkAlike_l1 p1 p2 q6 (j1 + 1) b2 n3))))

def spec_rkAlike_m (p0 : List (List Int)) (p1 : Int) (p2 : Int) : Option (Bool) :=
  ((spec_rkAlike_l1 p1 p2 p0 0 false 0 : Option ((Bool) ⊕ (Unit)))).bind (fun s => Sum.elim (fun rv => some rv) (fun _ => some true) s)

def spec_rkClasses_l2 (p0 : List (List Int)) (j7 : Nat) : Nat → Nat → (List (List Int)) → Bool → Option ((List (List Int)) × Bool)
  | 0, j19, l21, b22 => some (l21, b22)
  | q28 + 1, j19, l21, b22 => (idx l21 (j19 : Int)).bind fun x29 => ((cond (!b22) ((idx x29 0).bind fun x37 => (spec_rkAlike_m p0 x37 (j7 : Int)).bind fun y40 => some y40) (some false) : Option Bool)).bind fun b34 => cond b34
        ((app x29 (j7 : Int)).bind fun l46 => (upd l21 (j19 : Int) l46).bind fun l53 => spec_rkClasses_l2 p0 j7 q28 (j19 + 1) l53 true)
        (spec_rkClasses_l2 p0 j7 q28 (j19 + 1) l21 b22)

def spec_rkClasses_l1 (p0 : List (List Int)) : List Int → Nat → (List (List Int)) → Option (List (List Int))
  | [], j7, l10 => some l10
  | x17 :: q16, j7, l10 => (((ck (l10.length : Int)).bind fun _ => spec_rkClasses_l2 p0 j7 (((l10.length : Int) - (0 : Nat) : Int).toNat) 0 l10 false : Option ((List (List Int)) × Bool))).bind (fun s => (fun (l24 : List (List Int)) (b25 : Bool) => cond (!b25)
        ((app l24 ([(j7 : Int)])).bind fun l57 => spec_rkClasses_l1 p0 q16 (j7 + 1) l57)
        (spec_rkClasses_l1 p0 q16 (j7 + 1) l24)) s.1 s.2)

def spec_rkClasses_m (p0 : List (List Int)) : Option (List (List Int)) :=
  (idx p0 0).bind fun x2 => ((spec_rkClasses_l1 p0 x2 0 ([]) : Option (List (List Int)))).bind (fun l13 => some l13)

def spec_ColumnClasses_m (p0 : List (List Int)) : Option ((List (List Int)) × Bool) :=
  (spec_mxGood_m p0).bind fun y1 => cond (!y1)
        (some ([], false))
        ((spec_rkClasses_m p0).bind fun y4 => some (y4, true))

def impl_differByOne_l1 (p1 : List Int) : List Int → Nat → Int → Bool → Option ((Bool) ⊕ (Unit))
  | [], j1, n2, b3 => some (Sum.inr ())
  | x7 :: q6, j1, n2, b3 => ((cond (x7 == 1000000000) ((idx p1 (j1 : Int)).bind fun x13 => some (x13 == 1000000000)) (some false) : Option Bool)).bind fun b10 => cond b10
        (impl_differByOne_l1 p1 q6 (j1 + 1) n2 b3)
        (((cond (x7 == 1000000000) (some true) ((idx p1 (j1 : Int)).bind fun x19 => some (x19 == 1000000000)) : Option Bool)).bind fun b16 => ((cond b16 (some true) (((cond b3 ((idx p1 (j1 : Int)).bind fun x28 => (ck (x28 - x7)).bind fun n31 => some (n31 != n2)) (some false) : Option Bool)).bind fun b25 => some b25) : Option Bool)).bind fun b22 => cond b22
        (some (Sum.inl false))
        ((idx p1 (j1 : Int)).bind fun x33 => (ck (x33 - x7)).bind fun n36 => impl_differByOne_l1 p1 q6 (j1 + 1) n36 true))

def impl_differByOne_m (p0 : List Int) (p1 : List Int) : Option (Bool) :=
  ((impl_differByOne_l1 p1 p0 0 0 false : Option ((Bool) ⊕ (Unit)))).bind (fun s => Sum.elim (fun rv => some rv) (fun _ => some true) s)

end Go.Proofs.Ytaagklbiebogfaa
