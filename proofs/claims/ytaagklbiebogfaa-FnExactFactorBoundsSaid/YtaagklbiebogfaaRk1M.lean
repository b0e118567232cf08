/- The plain functions that mirror the code of this unit: none where the code would panic or overflow. Written by program (wip/gen). -/
import Derived.Test.YtaagklbiebogfaaMem
import Derived.Test.YtaagklbiebogfaaNumM
namespace Go.Proofs.Ytaagklbiebogfaa
set_option linter.unusedVariables false

def spec_rkOne_l2 (p0 : List (List Int)) (x5 : List Int) : List Int → Nat → Option ((Bool) ⊕ (Unit))
  | [], j10 => some (Sum.inr ())
  | x14 :: q13, j10 => ((cond (x14 == 1000000000) (some true) ((idx x5 0).bind fun x20 => (ck (x14 - x20)).bind fun n23 => (idx p0 0).bind fun x25 => (idx x25 (j10 : Int)).bind fun x30 => (idx x25 0).bind fun x36 => (ck (x30 - x36)).bind fun n39 => some (n23 != n39)) : Option Bool)).bind fun b17 => cond b17
        (some (Sum.inl false))
        (spec_rkOne_l2 p0 x5 q13 (j10 + 1))

def spec_rkOne_l1 (p0 : List (List Int)) : List (List Int) → Nat → Option ((Bool) ⊕ (Unit))
  | [], j1 => some (Sum.inr ())
  | x5 :: q4, j1 => ((spec_rkOne_l2 p0 x5 x5 0 : Option ((Bool) ⊕ (Unit)))).bind (fun s => Sum.elim (fun rv => some (Sum.inl rv)) (fun _ => spec_rkOne_l1 p0 q4 (j1 + 1)) s)

def spec_rkOne_m (p0 : List (List Int)) : Option (Bool) :=
  ((spec_rkOne_l1 p0 p0 0 : Option ((Bool) ⊕ (Unit)))).bind (fun s => Sum.elim (fun rv => some rv) (fun _ => some true) s)

def impl_isRankOne_l2 (p0 : List (List Int)) (x5 : List Int) : List Int → Nat → Option ((Bool) ⊕ (Unit))
  | [], j10 => some (Sum.inr ())
  | x14 :: q13, j10 => (impl_isFinite_m x14).bind fun y17 => ((cond (!y17) (some true) ((idx p0 0).bind fun x22 => (idx x22 (j10 : Int)).bind fun x27 => some (x27 == 1000000000)) : Option Bool)).bind fun b19 => ((cond b19 (some true) ((idx x5 0).bind fun x33 => (ck (x14 - x33)).bind fun n36 => (idx p0 0).bind fun x38 => (idx x38 (j10 : Int)).bind fun x43 => (idx x38 0).bind fun x49 => (ck (x43 - x49)).bind fun n52 => some (n36 != n52)) : Option Bool)).bind fun b30 => cond b30
        (some (Sum.inl false))
        (impl_isRankOne_l2 p0 x5 q13 (j10 + 1))

def impl_isRankOne_l1 (p0 : List (List Int)) : List (List Int) → Nat → Option ((Bool) ⊕ (Unit))
  | [], j1 => some (Sum.inr ())
  | x5 :: q4, j1 => ((impl_isRankOne_l2 p0 x5 x5 0 : Option ((Bool) ⊕ (Unit)))).bind (fun s => Sum.elim (fun rv => some (Sum.inl rv)) (fun _ => impl_isRankOne_l1 p0 q4 (j1 + 1)) s)

def impl_isRankOne_m (p0 : List (List Int)) : Option (Bool) :=
  ((impl_isRankOne_l1 p0 p0 0 : Option ((Bool) ⊕ (Unit)))).bind (fun s => Sum.elim (fun rv => some rv) (fun _ => some true) s)

end Go.Proofs.Ytaagklbiebogfaa
