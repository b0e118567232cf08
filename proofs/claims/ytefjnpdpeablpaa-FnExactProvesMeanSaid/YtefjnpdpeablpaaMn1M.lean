/- The plain functions that mirror the code of this unit: none where the code would panic or overflow. Written by program (wip/gen). -/
import Derived.Test.YtefjnpdpeablpaaMem
import Derived.Test.YtefjnpdpeablpaaNumM
import Derived.Test.YtefjnpdpeablpaaMatM
namespace Go.Proofs.Ytefjnpdpeablpaa
set_option linter.unusedVariables false

def spec_mnVector_m (p0 : List (List Int)) (p1 : List Int) : Option (Bool) :=
  (spec_mxSquare_m p0).bind fun y1 => ((cond y1 (some ((p1.length : Int) == (p0.length : Int))) (some false) : Option Bool)).bind fun b3 => ((cond b3 ((spec_l1All_m p1 (-1000000) 1000000).bind fun y9 => some y9) (some false) : Option Bool)).bind fun b6 => some b6

def impl_isQuestion_m (p0 : List (List Int)) (p1 : Int) (p2 : List Int) : Option (Bool) :=
  (impl_isSquare_m p0).bind fun y1 => ((cond y1 ((impl_isFinite_m p1).bind fun y6 => some y6) (some false) : Option Bool)).bind fun b3 => ((cond b3 ((impl_areOnePerVertex_m p0 p2).bind fun y11 => some y11) (some false) : Option Bool)).bind fun b8 => some b8

def spec_ProvesMean_l2 (p1 : Int) (p2 : List Int) (j8 : Nat) : List Int → Nat → Option ((Bool × Bool) ⊕ (Unit))
  | [], j17 => some (Sum.inr ())
  | x21 :: q20, j17 => ((cond (x21 != 1000000000) ((idx p2 (j17 : Int)).bind fun x27 => (ck (x21 + x27)).bind fun n30 => (idx p2 (j8 : Int)).bind fun x32 => (ck (p1 + x32)).bind fun n35 => some (decide (n30 < n35))) (some false) : Option Bool)).bind fun b24 => cond b24
        (some (Sum.inl (false, true)))
        (spec_ProvesMean_l2 p1 p2 j8 q20 (j17 + 1))

def spec_ProvesMean_l1 (p1 : Int) (p2 : List Int) : List (List Int) → Nat → Option ((Bool × Bool) ⊕ (Unit))
  | [], j8 => some (Sum.inr ())
  | x12 :: q11, j8 => ((spec_ProvesMean_l2 p1 p2 j8 x12 0 : Option ((Bool × Bool) ⊕ (Unit)))).bind (fun s => Sum.elim (fun rv => some (Sum.inl rv)) (fun _ => spec_ProvesMean_l1 p1 p2 q11 (j8 + 1)) s)

def spec_ProvesMean_m (p0 : List (List Int)) (p1 : Int) (p2 : List Int) : Option (Bool × Bool) :=
  (spec_mnVector_m p0 p2).bind fun y1 => ((cond (!y1) (some true) ((spec_poFinite_m p1).bind fun y6 => some (!y6)) : Option Bool)).bind fun b3 => cond b3
        (some (false, false))
        (((spec_ProvesMean_l1 p1 p2 p0 0 : Option ((Bool × Bool) ⊕ (Unit)))).bind (fun s => Sum.elim (fun rv => some rv) (fun _ => some (true, true)) s))

def impl_ProvesMean_l2 (p1 : Int) (p2 : List Int) (j3 : Nat) : List Int → Nat → Option ((Bool × Bool) ⊕ (Unit))
  | [], j12 => some (Sum.inr ())
  | x16 :: q15, j12 => ((cond (x16 != 1000000000) ((idx p2 (j12 : Int)).bind fun x22 => (ck (x16 + x22)).bind fun n25 => (idx p2 (j3 : Int)).bind fun x27 => (ck (p1 + x27)).bind fun n30 => some (decide (n25 < n30))) (some false) : Option Bool)).bind fun b19 => cond b19
        (some (Sum.inl (false, true)))
        (impl_ProvesMean_l2 p1 p2 j3 q15 (j12 + 1))

def impl_ProvesMean_l1 (p1 : Int) (p2 : List Int) : List (List Int) → Nat → Option ((Bool × Bool) ⊕ (Unit))
  | [], j3 => some (Sum.inr ())
  | x7 :: q6, j3 => ((impl_ProvesMean_l2 p1 p2 j3 x7 0 : Option ((Bool × Bool) ⊕ (Unit)))).bind (fun s => Sum.elim (fun rv => some (Sum.inl rv)) (fun _ => impl_ProvesMean_l1 p1 p2 q6 (j3 + 1)) s)

def impl_ProvesMean_m (p0 : List (List Int)) (p1 : Int) (p2 : List Int) : Option (Bool × Bool) :=
  (impl_isQuestion_m p0 p1 p2).bind fun y1 => cond (!y1)
        (some (false, false))
        (((impl_ProvesMean_l1 p1 p2 p0 0 : Option ((Bool × Bool) ⊕ (Unit)))).bind (fun s => Sum.elim (fun rv => some rv) (fun _ => some (true, true)) s))

end Go.Proofs.Ytefjnpdpeablpaa
