/- The plain functions that mirror the code of this unit: none where the code would panic or overflow. Written by program (wip/gen). -/
import Derived.Test.YtefjnpdpeablpaaMem
import Derived.Test.YtefjnpdpeablpaaNumM
import Derived.Test.YtefjnpdpeablpaaMatM
namespace Go.Proofs.Ytefjnpdpeablpaa
set_option linter.unusedVariables false

def spec_rkOne_l2 (p0 : List (List Int)) (x5 : List Int) : List Int → Nat → Option ((Bool) ⊕ (Unit))
  | [], j10 => some (Sum.inr ())
  | x14 :: q13, j10 => ((cond (x14 == 1000000000) (some true) ((idx x5 0).bind fun x20 => (ck (x14 - x20)).bind fun n23 => (idx p0 0).bind fun x25 => (idx x25 (j10 : Int)).bind fun x30 => (idx x25 0).bind fun x36 => (ck (x30 - x36)).bind fun n39 => some (n23 != n39)) : Option Bool)).bind fun b17 => cond b17
        (some (Sum.inl false))
        (spec_rkOne_l2 p0 x5 q13 (j10 + 1))

def spec_rkOne_l1 (p0 : List (List Int)) : List (List Int) → Nat → Option ((Bool) ⊕ (Unit))
  | [], j1 => some (Sum.inr ())
  | x5 :: q4, j1 => ((spec_rkOne_l2 p0 x5 x5 0 : Option ((Bool) ⊕ (Unit)))).bind (fun s => Sum.elim (fun rv => some (Sum.inl rv)) (fun _ => spec_rkOne_l1 p0 q4 (j1 + 1)) s)

def spec_rkOne_m (p0 : List (List Int)) : Option (Bool) :=
  ((spec_rkOne_l1 p0 p0 0 : Option ((Bool) ⊕ (Unit)))).bind (fun s => Sum.elim (fun rv => some rv) (fun _ => some true) s)

def impl_isRankOne_l2 (p0 : List (List Int)) (x5 : List Int) : List Int → Nat → Option ((Bool) ⊕ (Unit))
  | [], j10 => some (Sum.inr ())
  | x14 :: q13, j10 => (impl_isFinite_m x14).bind fun y17 => ((cond (!y17) (some true) ((idx p0 0).bind fun x22 => (idx x22 (j10 : Int)).bind fun x27 => some (x27 == 1000000000)) : Option Bool)).bind fun b19 => ((cond b19 (some true) ((idx x5 0).bind fun x33 => (ck (x14 - x33)).bind fun n36 => (idx p0 0).bind fun x38 => (idx x38 (j10 : Int)).bind fun x43 => (idx x38 0).bind fun x49 => (ck (x43 - x49)).bind fun n52 => some (n36 != n52)) : Option Bool)).bind fun b30 => cond b30
        (some (Sum.inl false))
        (impl_isRankOne_l2 p0 x5 q13 (j10 + 1))

def impl_isRankOne_l1 (p0 : List (List Int)) : List (List Int) → Nat → Option ((Bool) ⊕ (Unit))
  | [], j1 => some (Sum.inr ())
  | x5 :: q4, j1 => ((impl_isRankOne_l2 p0 x5 x5 0 : Option ((Bool) ⊕ (Unit)))).bind (fun s => Sum.elim (fun rv => some (Sum.inl rv)) (fun _ => impl_isRankOne_l1 p0 q4 (j1 + 1)) s)

def impl_isRankOne_m (p0 : List (List Int)) : Option (Bool) :=
  ((impl_isRankOne_l1 p0 p0 0 : Option ((Bool) ⊕ (Unit)))).bind (fun s => Sum.elim (fun rv => some rv) (fun _ => some true) s)

def spec_IsRankOne_m (p0 : List (List Int)) : Option (Bool × Bool) :=
  (spec_mxGood_m p0).bind fun y1 => cond (!y1)
        (some (false, false))
        ((spec_rkOne_m p0).bind fun y3 => some (y3, true))

def impl_IsRankOne_m (p0 : List (List Int)) : Option (Bool × Bool) :=
  (impl_isMatrix_m p0).bind fun y1 => cond (!y1)
        (some (false, false))
        ((impl_isRankOne_m p0).bind fun y3 => some (y3, true))

def spec_OuterProduct_l2 (x30 : Int) : List Int → Nat → (List Int) → Option (List Int)
  | [], j36, l35 => some l35
  | x42 :: q41, j36, l35 => (ck (x30 + x42)).bind fun n45 => (app l35 n45).bind fun l47 => spec_OuterProduct_l2 x30 q41 (j36 + 1) l47

def spec_OuterProduct_l1 (p1 : List Int) : List Int → Nat → (List (List Int)) → Option (List (List Int))
  | [], j23, l22 => some l22
  | x30 :: q29, j23, l22 => ((spec_OuterProduct_l2 x30 p1 0 ([]) : Option (List Int))).bind (fun l38 => (app l22 l38).bind fun l51 => spec_OuterProduct_l1 p1 q29 (j23 + 1) l51)

def spec_OuterProduct_m (p0 : List Int) (p1 : List Int) : Option ((List (List Int)) × Bool) :=
  (spec_mxVector_m p0).bind fun y1 => ((cond (!y1) (some true) ((spec_mxVector_m p1).bind fun y6 => some (!y6)) : Option Bool)).bind fun b3 => ((cond b3 (some true) ((spec_l1Has_m p0 1000000000).bind fun y11 => some y11) : Option Bool)).bind fun b8 => ((cond b8 (some true) ((spec_l1Has_m p1 1000000000).bind fun y16 => some y16) : Option Bool)).bind fun b13 => cond b13
        (some ([], false))
        (((spec_OuterProduct_l1 p1 p0 0 ([]) : Option (List (List Int)))).bind (fun l26 => (spec_mxGood_m l26).bind fun y55 => cond (!y55)
        (some ([], false))
        (some (l26, true))))

def impl_OuterProduct_l1 (p1 : List Int) : List Int → Nat → (List (List Int)) → Option (List (List Int))
  | [], j14, l13 => some l13
  | x21 :: q20, j14, l13 => (impl_shifted_m p1 x21).bind fun y24 => (app l13 y24).bind fun l28 => impl_OuterProduct_l1 p1 q20 (j14 + 1) l28

def impl_OuterProduct_m (p0 : List Int) (p1 : List Int) : Option ((List (List Int)) × Bool) :=
  (impl_isFiniteVector_m p0).bind fun y1 => ((cond (!y1) (some true) ((impl_isFiniteVector_m p1).bind fun y6 => some (!y6)) : Option Bool)).bind fun b3 => cond b3
        (some ([], false))
        (((impl_OuterProduct_l1 p1 p0 0 ([]) : Option (List (List Int)))).bind (fun l17 => (impl_toldMatrix_m l17).bind fun y32 => some ((cond y32.1 l17 []), y32.2)))

end Go.Proofs.Ytefjnpdpeablpaa
