/- The plain functions that mirror the code of this unit: none where the code would panic or overflow. Written by program (wip/gen). -/
import Derived.Test.YtjhaealoneennaaMem
import Derived.Test.YtjhaealoneennaaNumM
import Derived.Test.YtjhaealoneennaaMatM
import Derived.Test.YtjhaealoneennaaMn1M
import Derived.Test.YtjhaealoneennaaOwnM
import Derived.Test.YtjhaealoneennaaMx2M
import Derived.Test.YtjhaealoneennaaWy4M
namespace Go.Proofs.Ytjhaealoneennaa
set_option linter.unusedVariables false

def slices_Index_int_int_l1 (p1 : Int) : List Int → Nat → Option ((Int) ⊕ (Unit))
  | [], j1 => some (Sum.inr ())
  | x5 :: q4, j1 => cond (p1 == x5)
        (some (Sum.inl (j1 : Int)))
        (slices_Index_int_int_l1 p1 q4 (j1 + 1))

def slices_Index_int_int_m (p0 : List Int) (p1 : Int) : Option (Int) :=
  ((slices_Index_int_int_l1 p1 p0 0 : Option ((Int) ⊕ (Unit)))).bind (fun s => Sum.elim (fun rv => some rv) (fun _ => some (-1)) s)

def slices_Contains_int_int_m (p0 : List Int) (p1 : Int) : Option (Bool) :=
  (slices_Index_int_int_m p0 p1).bind fun y1 => some (decide (y1 ≥ 0))

def slices_Equal_int_int_l1 (p1 : List Int) : List Int → Nat → Option ((Bool) ⊕ (Unit))
  | [], j1 => some (Sum.inr ())
  | x5 :: q4, j1 => (idx p1 (j1 : Int)).bind fun x8 => cond (x5 != x8)
        (some (Sum.inl false))
        (slices_Equal_int_int_l1 p1 q4 (j1 + 1))

def slices_Equal_int_int_m (p0 : List Int) (p1 : List Int) : Option (Bool) :=
  cond ((p0.length : Int) != (p1.length : Int))
        (some false)
        (((slices_Equal_int_int_l1 p1 p0 0 : Option ((Bool) ⊕ (Unit)))).bind (fun s => Sum.elim (fun rv => some rv) (fun _ => some true) s))

def spec_IsEigenvector_l2 (p2 : List Int) : List Int → Nat → Int → Option (Int)
  | [], j17, n18 => some n18
  | x23 :: q22, j17, n18 => (idx p2 (j17 : Int)).bind fun x26 => (spec_nuPlus_m x23 x26).bind fun y29 => (spec_l1Least_m n18 y29).bind fun y31 => spec_IsEigenvector_l2 p2 q22 (j17 + 1) y31

def spec_IsEigenvector_l1 (p1 : Int) (p2 : List Int) : List (List Int) → Nat → Option ((Bool × Bool) ⊕ (Unit))
  | [], j8 => some (Sum.inr ())
  | x12 :: q11, j8 => ((spec_IsEigenvector_l2 p2 x12 0 1000000000 : Option (Int))).bind (fun n19 => (idx p2 (j8 : Int)).bind fun x33 => (ck (p1 + x33)).bind fun n36 => cond (n19 != n36)
        (some (Sum.inl (false, true)))
        (spec_IsEigenvector_l1 p1 p2 q11 (j8 + 1)))

def spec_IsEigenvector_m (p0 : List (List Int)) (p1 : Int) (p2 : List Int) : Option (Bool × Bool) :=
  (spec_mnVector_m p0 p2).bind fun y1 => ((cond (!y1) (some true) ((spec_poFinite_m p1).bind fun y6 => some (!y6)) : Option Bool)).bind fun b3 => cond b3
        (some (false, false))
        (((spec_IsEigenvector_l1 p1 p2 p0 0 : Option ((Bool × Bool) ⊕ (Unit)))).bind (fun s => Sum.elim (fun rv => some rv) (fun _ => some (true, true)) s))

def impl_IsEigenvector_m (p0 : List (List Int)) (p1 : Int) (p2 : List Int) : Option (Bool × Bool) :=
  (impl_isQuestion_m p0 p1 p2).bind fun y1 => cond (!y1)
        (some (false, false))
        ((impl_applied_m p0 p2).bind fun y3 => (impl_shifted_m p2 p1).bind fun y7 => (slices_Equal_int_int_m y3 y7).bind fun y11 => some (y11, true))

def spec_l1Put_l1 (p0 : List Int) (p1 : Int) : Nat → Int → Option (Int)
  | 0, _ => none
  | k + 1, n1 => ((cond (decide (n1 < (p0.length : Int))) ((idx p0 n1).bind fun x9 => some (decide (x9 < p1))) (some false) : Option Bool)).bind fun b6 => cond b6
        ((ck (n1 + 1)).bind fun n12 => spec_l1Put_l1 p0 p1 k n12)
        (some n1)

def spec_l1Put_m (p0 : List Int) (p1 : Int) : Option (List Int) :=
  ((spec_l1Put_l1 p0 p1 4000000 0 : Option (Int))).bind (fun n2 => ((cond (decide (n2 < (p0.length : Int))) ((idx p0 n2).bind fun x17 => some (x17 == p1)) (some false) : Option Bool)).bind fun b14 => cond b14
        (some p0)
        ((cutO p0 n2).bind fun l22 => (appS ([]) l22).bind fun l27 => (app l27 p1).bind fun l30 => (cutL p0 n2).bind fun l34 => (appS l30 l34).bind fun l39 => some l39))

def spec_mnReach_l2 : List Int → Nat → (List Int) → (List Int) → Option ((List Int) × (List Int))
  | [], j26, l28, l30 => some (l28, l30)
  | x38 :: q37, j26, l28, l30 => ((cond (x38 != 1000000000) ((spec_l1Has_m l30 (j26 : Int)).bind fun y44 => some (!y44)) (some false) : Option Bool)).bind fun b41 => cond b41
        ((spec_l1Put_m l30 (j26 : Int)).bind fun y46 => (app l28 (j26 : Int)).bind fun l50 => spec_mnReach_l2 q37 (j26 + 1) l50 y46)
        (spec_mnReach_l2 q37 (j26 + 1) l28 l30)

def spec_mnReach_l1 (p0 : List (List Int)) : Nat → (List Int) → (List Int) → Option (List Int)
  | 0, _, _ => none
  | k + 1, l6, l8 => cond (decide ((l6.length : Int) > 0))
        ((idx l6 0).bind fun x14 => (cutL l6 1).bind fun l17 => (idx p0 x14).bind fun x21 => ((spec_mnReach_l2 x21 0 l17 l8 : Option ((List Int) × (List Int)))).bind (fun s => (fun (l32 : List Int) (l34 : List Int) => spec_mnReach_l1 p0 k l32 l34) s.1 s.2))
        (some l8)

def spec_mnReach_m (p0 : List (List Int)) (p1 : Int) : Option (List Int) :=
  ((spec_mnReach_l1 p0 4000000 ([p1]) ([p1]) : Option (List Int))).bind (fun l10 => some l10)

def spec_mnConnected_l1 (p0 : List (List Int)) : List (List Int) → Nat → Option ((Bool) ⊕ (Unit))
  | [], j1 => some (Sum.inr ())
  | x5 :: q4, j1 => (spec_mnReach_m p0 (j1 : Int)).bind fun y7 => cond (decide ((y7.length : Int) < (p0.length : Int)))
        (some (Sum.inl false))
        (spec_mnConnected_l1 p0 q4 (j1 + 1))

def spec_mnConnected_m (p0 : List (List Int)) : Option (Bool) :=
  ((spec_mnConnected_l1 p0 p0 0 : Option ((Bool) ⊕ (Unit)))).bind (fun s => Sum.elim (fun rv => some rv) (fun _ => some true) s)

def impl_isStrong_1_m (p0 : List Int) : Option (Bool) :=
  (slices_Contains_int_int_m p0 1000000000).bind fun y1 => some y1

def slices_IndexFunc_int_int_impl_isStrong_1_l1 : List (List Int) → Nat → Option ((Int) ⊕ (Unit))
  | [], j1 => some (Sum.inr ())
  | x5 :: q4, j1 => (impl_isStrong_1_m x5).bind fun y10 => cond y10
        (some (Sum.inl (j1 : Int)))
        (slices_IndexFunc_int_int_impl_isStrong_1_l1 q4 (j1 + 1))

def slices_IndexFunc_int_int_impl_isStrong_1_m (p0 : List (List Int)) : Option (Int) :=
  ((slices_IndexFunc_int_int_impl_isStrong_1_l1 p0 0 : Option ((Int) ⊕ (Unit)))).bind (fun s => Sum.elim (fun rv => some rv) (fun _ => some (-1)) s)

def slices_ContainsFunc_int_int_impl_isStrong_1_m (p0 : List (List Int)) : Option (Bool) :=
  (slices_IndexFunc_int_int_impl_isStrong_1_m p0).bind fun y1 => some (decide (y1 ≥ 0))

def impl_isStrong_l2 (j6 : Nat) : List Int → Nat → (List (List Int)) → Option (List (List Int))
  | [], j17, l18 => some l18
  | x23 :: q22, j17, l18 => cond (x23 != 1000000000)
        ((idx l18 (j6 : Int)).bind fun x26 => (idx x26 (j17 : Int)).bind fun x31 => (upd x26 (j17 : Int) 0).bind fun l34 => impl_isStrong_l2 j6 q22 (j17 + 1) (l18.set ((j6 : Int)).toNat l34))
        (impl_isStrong_l2 j6 q22 (j17 + 1) l18)

def impl_isStrong_l1 : List (List Int) → Nat → (List (List Int)) → Option (List (List Int))
  | [], j6, l7 => some l7
  | x12 :: q11, j6, l7 => ((impl_isStrong_l2 j6 x12 0 l7 : Option (List (List Int)))).bind (fun l19 => impl_isStrong_l1 q11 (j6 + 1) l19)

def impl_isStrong_m (p0 : List (List Int)) : Option (Bool) :=
  (impl_clones_m p0).bind fun y1 => ((impl_isStrong_l1 p0 0 y1 : Option (List (List Int)))).bind (fun l8 => (impl_wayCosts_m l8).bind fun y36 => (slices_ContainsFunc_int_int_impl_isStrong_1_m y36.1).bind fun y42 => some (!y42))

def spec_IsStrong_m (p0 : List (List Int)) : Option (Bool × Bool) :=
  (spec_mxSquare_m p0).bind fun y1 => cond (!y1)
        (some (false, false))
        ((spec_mnConnected_m p0).bind fun y3 => some (y3, true))

def impl_IsStrong_m (p0 : List (List Int)) : Option (Bool × Bool) :=
  (impl_isSquare_m p0).bind fun y1 => cond (!y1)
        (some (false, false))
        ((impl_isStrong_m p0).bind fun y3 => some (y3, true))

def impl_shorter_l1 (p1 : Int) : List (List Int) → Nat → (List (List Int)) → Option (List (List Int))
  | [], j3, l6 => some l6
  | x13 :: q12, j3, l6 => (ck (-p1)).bind fun n18 => (impl_shifted_m x13 n18).bind fun y20 => (app l6 y20).bind fun l24 => impl_shorter_l1 p1 q12 (j3 + 1) l24

def impl_shorter_m (p0 : List (List Int)) (p1 : Int) : Option (List (List Int)) :=
  ((impl_shorter_l1 p1 p0 0 ([]) : Option (List (List Int)))).bind (fun l9 => some l9)

def impl_markedOf_l1 : List Bool → Nat → (List Int) → Option (List Int)
  | [], j3, l5 => some l5
  | x11 :: q10, j3, l5 => cond x11
        ((app l5 (j3 : Int)).bind fun l14 => impl_markedOf_l1 q10 (j3 + 1) l14)
        (impl_markedOf_l1 q10 (j3 + 1) l5)

def impl_markedOf_m (p0 : List Bool) : Option (List Int) :=
  ((impl_markedOf_l1 p0 0 ([]) : Option (List Int))).bind (fun l7 => some l7)

def spec_mnWays_l3 (p1 : Int) (j13 : Nat) : List Int → Nat → (List Int) → Option (List Int)
  | [], j24, l25 => some l25
  | x30 :: q29, j24, l25 => ((cond (x30 != 1000000000) ((idx l25 (j24 : Int)).bind fun x36 => some (x36 != 1000000000)) (some false) : Option Bool)).bind fun b33 => cond b33
        ((idx l25 (j13 : Int)).bind fun x39 => (ck (x30 - p1)).bind fun n42 => (idx l25 (j24 : Int)).bind fun x44 => (ck (n42 + x44)).bind fun n47 => (spec_l1Least_m x39 n47).bind fun y49 => (upd l25 (j13 : Int) y49).bind fun l52 => spec_mnWays_l3 p1 j13 q29 (j24 + 1) l52)
        (spec_mnWays_l3 p1 j13 q29 (j24 + 1) l25)

def spec_mnWays_l2 (p1 : Int) : List (List Int) → Nat → (List Int) → Option (List Int)
  | [], j13, l14 => some l14
  | x19 :: q18, j13, l14 => ((spec_mnWays_l3 p1 j13 x19 0 l14 : Option (List Int))).bind (fun l26 => spec_mnWays_l2 p1 q18 (j13 + 1) l26)

def spec_mnWays_l1 (p0 : List (List Int)) (p1 : Int) : List (List Int) → Nat → (List Int) → Option (List Int)
  | [], j5, l6 => some l6
  | x11 :: q10, j5, l6 => ((spec_mnWays_l2 p1 p0 0 l6 : Option (List Int))).bind (fun l15 => spec_mnWays_l1 p0 p1 q10 (j5 + 1) l15)

def spec_mnWays_m (p0 : List (List Int)) (p1 : Int) (p2 : List Int) : Option (List Int) :=
  (spec_l1Own_m p2).bind fun y1 => ((spec_mnWays_l1 p0 p1 p0 0 y1 : Option (List Int))).bind (fun l7 => some l7)

def spec_mnIf_m (p0 : List Int) : Option (Bool × Bool) :=
  (spec_l1All_m p0 (-1000000) 1000000).bind fun y1 => cond (!y1)
        (some (false, false))
        (some (true, true))

end Go.Proofs.Ytjhaealoneennaa
