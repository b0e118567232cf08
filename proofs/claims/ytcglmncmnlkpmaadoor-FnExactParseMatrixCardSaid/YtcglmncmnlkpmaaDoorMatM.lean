/- The plain functions that mirror the code of this unit: none where the code would panic or overflow. Written by program (wip/gen). -/
import Derived.Test.YtcglmncmnlkpmaaDoorTx2
import Derived.Test.YtcglmncmnlkpmaaDoorNumM
namespace Go.Proofs.YtcglmncmnlkpmaaDoor
set_option linter.unusedVariables false

def impl_isVector_m (p0 : List Int) : Option (Bool) :=
  (impl_within_m (p0.length : Int) 1 6).bind fun y1 => ((cond y1 ((impl_areNumbers_m p0).bind fun y6 => some y6) (some false) : Option Bool)).bind fun b3 => some b3

def impl_isMatrix_1_m (p0 : List Int) (p1 : List (List Int)) : Option (Bool) :=
  (impl_isVector_m p0).bind fun y1 => ((cond (!y1) (some true) ((idx p1 0).bind fun x6 => some ((p0.length : Int) != (x6.length : Int))) : Option Bool)).bind fun b3 => some b3

def slices_IndexFunc_int_int_impl_isMatrix_1_l1 (p10 : List (List Int)) : List (List Int) → Nat → Option ((Int) ⊕ (Unit))
  | [], j1 => some (Sum.inr ())
  | x5 :: q4, j1 => (impl_isMatrix_1_m x5 p10).bind fun y10 => cond y10
        (some (Sum.inl (j1 : Int)))
        (slices_IndexFunc_int_int_impl_isMatrix_1_l1 p10 q4 (j1 + 1))

def slices_IndexFunc_int_int_impl_isMatrix_1_m (p0 : List (List Int)) (p10 : List (List Int)) : Option (Int) :=
  ((slices_IndexFunc_int_int_impl_isMatrix_1_l1 p10 p0 0 : Option ((Int) ⊕ (Unit)))).bind (fun s => Sum.elim (fun rv => some rv) (fun _ => some (-1)) s)

def slices_ContainsFunc_int_int_impl_isMatrix_1_m (p0 : List (List Int)) (p10 : List (List Int)) : Option (Bool) :=
  (slices_IndexFunc_int_int_impl_isMatrix_1_m p0 p10).bind fun y1 => some (decide (y1 ≥ 0))

def impl_isMatrix_m (p0 : List (List Int)) : Option (Bool) :=
  (impl_within_m (p0.length : Int) 1 6).bind fun y3 => cond (!y3)
        (some false)
        ((slices_ContainsFunc_int_int_impl_isMatrix_1_m p0 p0).bind fun y5 => some (!y5))

def spec_mxVector_l1 : List Int → Nat → Option ((Bool) ⊕ (Unit))
  | [], j1 => some (Sum.inr ())
  | x5 :: q4, j1 => (spec_nuGood_m x5).bind fun y8 => cond (!y8)
        (some (Sum.inl false))
        (spec_mxVector_l1 q4 (j1 + 1))

def spec_mxVector_m (p0 : List Int) : Option (Bool) :=
  ((spec_mxVector_l1 p0 0 : Option ((Bool) ⊕ (Unit)))).bind (fun s => Sum.elim (fun rv => some rv) (fun _ => (spec_l1In_m (p0.length : Int) 1 6).bind fun y10 => some y10) s)

def spec_mxGood_l1 (p0 : List (List Int)) : List (List Int) → Nat → Option ((Bool) ⊕ (Unit))
  | [], j13 => some (Sum.inr ())
  | x17 :: q16, j13 => (idx p0 0).bind fun x22 => ((cond ((x17.length : Int) != (x22.length : Int)) (some true) ((spec_mxVector_m x17).bind fun y30 => some (!y30)) : Option Bool)).bind fun b27 => cond b27
        (some (Sum.inl false))
        (spec_mxGood_l1 p0 q16 (j13 + 1))

def spec_mxGood_m (p0 : List (List Int)) : Option (Bool) :=
  (spec_l1In_m (p0.length : Int) 1 6).bind fun y1 => ((cond (!y1) (some true) ((idx p0 0).bind fun x6 => (spec_l1In_m (x6.length : Int) 1 6).bind fun y11 => some (!y11)) : Option Bool)).bind fun b3 => cond b3
        (some false)
        (((spec_mxGood_l1 p0 p0 0 : Option ((Bool) ⊕ (Unit)))).bind (fun s => Sum.elim (fun rv => some rv) (fun _ => some true) s))

def impl_toldMatrix_m (p0 : List (List Int)) : Option (Bool × Bool) :=
  (impl_isMatrix_m p0).bind fun y1 => cond (!y1)
        (some (false, false))
        (some (true, true))

end Go.Proofs.YtcglmncmnlkpmaaDoor
