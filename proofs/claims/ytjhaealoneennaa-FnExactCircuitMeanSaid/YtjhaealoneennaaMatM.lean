/- The plain functions that mirror the code of this unit: none where the code would panic or overflow. Written by program (wip/gen). -/
import Derived.Test.YtjhaealoneennaaMem
import Derived.Test.YtjhaealoneennaaNumM
namespace Go.Proofs.Ytjhaealoneennaa
set_option linter.unusedVariables false

def impl_isVector_m (p0 : List Int) : Option (Bool) :=
  (impl_within_m (p0.length : Int) 1 6).bind fun y1 => ((cond y1 ((impl_areNumbers_m p0).bind fun y6 => some y6) (some false) : Option Bool)).bind fun b3 => some b3

def impl_isMatrix_1_m (p0 : List Int) (p1 : List (List Int)) : Option (Bool) :=
  (impl_isVector_m p0).bind fun y1 => ((cond (!y1) (some true) ((idx p1 0).bind fun x6 => some ((p0.length : Int) != (x6.length : Int))) : Option Bool)).bind fun b3 => some b3

def slices_IndexFunc_int_int_impl_isMatrix_1_l1 (p10 : List (List Int)) : List (List Int) → Nat → Option ((Int) ⊕ (Unit))
  | [], j1 => some (Sum.inr ())
  | x5 :: q4, j1 => (impl_isMatrix_1_m x5 p10).bind fun y10 => cond y10
        (some (Sum.inl (j1 : Int)))
        (slices_IndexFunc_int_int_impl_isMatrix_1_l1 p10 q4 (j1 + 1))

def slices_IndexFunc_int_int_impl_isMatrix_1_m (p0 : List (List Int)) (p10 : List (List Int)) : Option (Int) :=
  ((slices_IndexFunc_int_int_impl_isMatrix_1_l1 p10 p0 0 : Option ((Int) ⊕ (Unit)))).bind (fun s => Sum.elim (fun rv => some rv) (fun _ => some (-1)) s)

def slices_ContainsFunc_int_int_impl_isMatrix_1_m (p0 : List (List Int)) (p10 : List (List Int)) : Option (Bool) :=
  (slices_IndexFunc_int_int_impl_isMatrix_1_m p0 p10).bind fun y1 => some (decide (y1 ≥ 0))

def impl_isMatrix_m (p0 : List (List Int)) : Option (Bool) :=
  (impl_within_m (p0.length : Int) 1 6).bind fun y3 => cond (!y3)
        (some false)
        ((slices_ContainsFunc_int_int_impl_isMatrix_1_m p0 p0).bind fun y5 => some (!y5))

def impl_isSquare_m (p0 : List (List Int)) : Option (Bool) :=
  (impl_isMatrix_m p0).bind fun y1 => ((cond y1 ((idx p0 0).bind fun x6 => some ((p0.length : Int) == (x6.length : Int))) (some false) : Option Bool)).bind fun b3 => some b3

def spec_mxVector_l1 : List Int → Nat → Option ((Bool) ⊕ (Unit))
  | [], j1 => some (Sum.inr ())
  | x5 :: q4, j1 => (spec_nuGood_m x5).bind fun y8 => cond (!y8)
        (some (Sum.inl false))
        (spec_mxVector_l1 q4 (j1 + 1))

def spec_mxVector_m (p0 : List Int) : Option (Bool) :=
  ((spec_mxVector_l1 p0 0 : Option ((Bool) ⊕ (Unit)))).bind (fun s => Sum.elim (fun rv => some rv) (fun _ => (spec_l1In_m (p0.length : Int) 1 6).bind fun y10 => some y10) s)

def spec_mxGood_l1 (p0 : List (List Int)) : List (List Int) → Nat → Option ((Bool) ⊕ (Unit))
  | [], j13 => some (Sum.inr ())
  | x17 :: q16, j13 => (idx p0 0).bind fun x22 => ((cond ((x17.length : Int) != (x22.length : Int)) (some true) ((spec_mxVector_m x17).bind fun y30 => some (!y30)) : Option Bool)).bind fun b27 => cond b27
        (some (Sum.inl false))
        (spec_mxGood_l1 p0 q16 (j13 + 1))

def spec_mxGood_m (p0 : List (List Int)) : Option (Bool) :=
  (spec_l1In_m (p0.length : Int) 1 6).bind fun y1 => ((cond (!y1) (some true) ((idx p0 0).bind fun x6 => (spec_l1In_m (x6.length : Int) 1 6).bind fun y11 => some (!y11)) : Option Bool)).bind fun b3 => cond b3
        (some false)
        (((spec_mxGood_l1 p0 p0 0 : Option ((Bool) ⊕ (Unit)))).bind (fun s => Sum.elim (fun rv => some rv) (fun _ => some true) s))

def spec_mxSquare_m (p0 : List (List Int)) : Option (Bool) :=
  (spec_mxGood_m p0).bind fun y1 => ((cond y1 ((idx p0 0).bind fun x6 => some ((p0.length : Int) == (x6.length : Int))) (some false) : Option Bool)).bind fun b3 => some b3

def impl_toldList_m (p0 : List Int) : Option (Bool × Bool) :=
  (impl_areNumbers_m p0).bind fun y1 => cond (!y1)
        (some (false, false))
        (some (true, true))

def impl_unit_l2 (j3 : Nat) : Nat → Nat → (List Int) → Option (List Int)
  | 0, j15, l17 => some l17
  | q22 + 1, j15, l17 => cond ((j3 : Int) == (j15 : Int))
        ((app l17 0).bind fun l23 => impl_unit_l2 j3 q22 (j15 + 1) l23)
        ((app l17 1000000000).bind fun l27 => impl_unit_l2 j3 q22 (j15 + 1) l27)

def impl_unit_l1 (p0 : Int) : Nat → Nat → (List (List Int)) → Option (List (List Int))
  | 0, j3, l6 => some l6
  | q12 + 1, j3, l6 => (((ck p0).bind fun _ => impl_unit_l2 j3 ((p0 - (0 : Nat) : Int).toNat) 0 ([]) : Option (List Int))).bind (fun l19 => (app l6 l19).bind fun l31 => impl_unit_l1 p0 q12 (j3 + 1) l31)

def impl_unit_m (p0 : Int) : Option (List (List Int)) :=
  (((ck p0).bind fun _ => impl_unit_l1 p0 ((p0 - (0 : Nat) : Int).toNat) 0 ([]) : Option (List (List Int)))).bind (fun l9 => some l9)

def impl_transposed_l2 : List Int → Nat → (List (List Int)) → Option (List (List Int))
  | [], j22, l24 => some l24
  | x30 :: q29, j22, l24 => (idx l24 (j22 : Int)).bind fun x33 => (app x33 x30).bind fun l39 => (upd l24 (j22 : Int) l39).bind fun l46 => impl_transposed_l2 q29 (j22 + 1) l46

def impl_transposed_l1 : List (List Int) → Nat → (List (List Int)) → Option (List (List Int))
  | [], j9, l11 => some l11
  | x17 :: q16, j9, l11 => ((impl_transposed_l2 x17 0 l11 : Option (List (List Int)))).bind (fun l26 => impl_transposed_l1 q16 (j9 + 1) l26)

def impl_transposed_m (p0 : List (List Int)) : Option (List (List Int)) :=
  (idx p0 0).bind fun x1 => (guardO (decide (0 ≤ (x1.length : Int) ∧ (x1.length : Int) < 1000000000))).bind fun _ => ((impl_transposed_l1 p0 0 (List.replicate ((x1.length : Int)).toNat ([] : List Int)) : Option (List (List Int)))).bind (fun l13 => some l13)

def impl_shifted_l1 (p1 : Int) : List Int → Nat → (List Int) → Option (List Int)
  | [], j4, l6 => some l6
  | x12 :: q11, j4, l6 => (impl_product_m x12 p1).bind fun y15 => (app l6 y15).bind fun l17 => impl_shifted_l1 p1 q11 (j4 + 1) l17

def impl_shifted_m (p0 : List Int) (p1 : Int) : Option (List Int) :=
  (guardO (decide (0 ≤ (p0.length : Int) ∧ (p0.length : Int) < 1000000000))).bind fun _ => ((impl_shifted_l1 p1 p0 0 ([]) : Option (List Int))).bind (fun l8 => some l8)

def impl_areOnePerVertex_m (p0 : List (List Int)) (p1 : List Int) : Option (Bool) :=
  ((cond ((p1.length : Int) == (p0.length : Int)) ((impl_areFinite_m p1).bind fun y4 => some y4) (some false) : Option Bool)).bind fun b1 => some b1

end Go.Proofs.Ytjhaealoneennaa
