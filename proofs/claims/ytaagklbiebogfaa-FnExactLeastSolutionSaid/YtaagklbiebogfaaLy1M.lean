/- The plain functions that mirror the code of this unit: none where the code would panic or overflow. Written by program (wip/gen). -/
import Derived.Test.YtaagklbiebogfaaMem
import Derived.Test.YtaagklbiebogfaaNumM
import Derived.Test.YtaagklbiebogfaaMatM
namespace Go.Proofs.Ytaagklbiebogfaa
set_option linter.unusedVariables false

def spec_lyGood_l2 (j16 : Nat) : List (List Int) → Nat → Bool → Option (Bool)
  | [], j22, b23 => some b23
  | x28 :: q27, j22, b23 => ((cond b23 (some true) ((idx x28 (j16 : Int)).bind fun x36 => some (x36 != 1000000000)) : Option Bool)).bind fun b33 => spec_lyGood_l2 j16 q27 (j22 + 1) b33

def spec_lyGood_l1 (p0 : List (List Int)) : List Int → Nat → Option ((Bool) ⊕ (Unit))
  | [], j16 => some (Sum.inr ())
  | x20 :: q19, j16 => ((spec_lyGood_l2 j16 p0 0 false : Option (Bool))).bind (fun b24 => cond (!b24)
        (some (Sum.inl false))
        (spec_lyGood_l1 p0 q19 (j16 + 1)))

def spec_lyGood_m (p0 : List (List Int)) (p1 : List Int) : Option (Bool) :=
  (spec_mxGood_m p0).bind fun y1 => ((cond (!y1) (some true) (some ((p1.length : Int) != (p0.length : Int))) : Option Bool)).bind fun b3 => ((cond b3 (some true) ((spec_l1All_m p1 (-1000000) 1000000).bind fun y9 => some (!y9)) : Option Bool)).bind fun b6 => cond b6
        (some false)
        ((idx p0 0).bind fun x11 => ((spec_lyGood_l1 p0 x11 0 : Option ((Bool) ⊕ (Unit)))).bind (fun s => Sum.elim (fun rv => some rv) (fun _ => some true) s))

def impl_isSystem_1_m (p0 : List Int) : Option (Bool) :=
  (impl_sumOf_m p0).bind fun y1 => some (y1 == 1000000000)

def slices_IndexFunc_int_int_impl_isSystem_1_l1 : List (List Int) → Nat → Option ((Int) ⊕ (Unit))
  | [], j1 => some (Sum.inr ())
  | x5 :: q4, j1 => (impl_isSystem_1_m x5).bind fun y10 => cond y10
        (some (Sum.inl (j1 : Int)))
        (slices_IndexFunc_int_int_impl_isSystem_1_l1 q4 (j1 + 1))

def slices_IndexFunc_int_int_impl_isSystem_1_m (p0 : List (List Int)) : Option (Int) :=
  ((slices_IndexFunc_int_int_impl_isSystem_1_l1 p0 0 : Option ((Int) ⊕ (Unit)))).bind (fun s => Sum.elim (fun rv => some rv) (fun _ => some (-1)) s)

def slices_ContainsFunc_int_int_impl_isSystem_1_m (p0 : List (List Int)) : Option (Bool) :=
  (slices_IndexFunc_int_int_impl_isSystem_1_m p0).bind fun y1 => some (decide (y1 ≥ 0))

def impl_isSystem_m (p0 : List (List Int)) (p1 : List Int) : Option (Bool) :=
  (impl_isMatrix_m p0).bind fun y1 => ((cond (!y1) (some true) ((impl_areOnePerVertex_m p0 p1).bind fun y6 => some (!y6)) : Option Bool)).bind fun b3 => cond b3
        (some false)
        ((impl_transposed_m p0).bind fun y8 => (slices_ContainsFunc_int_int_impl_isSystem_1_m y8).bind fun y13 => some (!y13))

end Go.Proofs.Ytaagklbiebogfaa
