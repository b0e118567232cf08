/- The plain functions that mirror the code of this unit: none where the code would panic or overflow. Written by program (wip/gen). -/
import Derived.Test.YtnnhbkhlipekeaaMem
import Derived.Test.YtnnhbkhlipekeaaNumM
import Derived.Test.YtnnhbkhlipekeaaMatM
namespace Go.Proofs.Ytnnhbkhlipekeaa
set_option linter.unusedVariables false

def spec_asNumbers_m (p0 : List (List Int)) (p1 : List Int) (p2 : List Int) : Option (Bool) :=
  (spec_mxSquare_m p0).bind fun y1 => ((cond y1 (some ((p1.length : Int) == (p0.length : Int))) (some false) : Option Bool)).bind fun b3 => ((cond b3 (some ((p2.length : Int) == (p0.length : Int))) (some false) : Option Bool)).bind fun b6 => ((cond b6 ((spec_l1All_m p1 (-1000000) 1000000).bind fun y12 => some y12) (some false) : Option Bool)).bind fun b9 => ((cond b9 ((spec_l1All_m p2 (-1000000) 1000000).bind fun y17 => some y17) (some false) : Option Bool)).bind fun b14 => some b14

def spec_asPrices_l2 (p1 : List Int) (p2 : List Int) (j1 : Nat) : List Int → Nat → Option ((Bool) ⊕ (Unit))
  | [], j10 => some (Sum.inr ())
  | x14 :: q13, j10 => (idx p1 (j1 : Int)).bind fun x17 => (idx p2 (j10 : Int)).bind fun x20 => (ck (x17 + x20)).bind fun n23 => cond (decide (n23 > x14))
        (some (Sum.inl false))
        (spec_asPrices_l2 p1 p2 j1 q13 (j10 + 1))

def spec_asPrices_l1 (p1 : List Int) (p2 : List Int) : List (List Int) → Nat → Option ((Bool) ⊕ (Unit))
  | [], j1 => some (Sum.inr ())
  | x5 :: q4, j1 => ((spec_asPrices_l2 p1 p2 j1 x5 0 : Option ((Bool) ⊕ (Unit)))).bind (fun s => Sum.elim (fun rv => some (Sum.inl rv)) (fun _ => spec_asPrices_l1 p1 p2 q4 (j1 + 1)) s)

def spec_asPrices_m (p0 : List (List Int)) (p1 : List Int) (p2 : List Int) : Option (Bool) :=
  ((spec_asPrices_l1 p1 p2 p0 0 : Option ((Bool) ⊕ (Unit)))).bind (fun s => Sum.elim (fun rv => some rv) (fun _ => some true) s)

def impl_arePrices_l2 (p1 : List Int) (p2 : List Int) (j1 : Nat) : List Int → Nat → Option ((Bool) ⊕ (Unit))
  | [], j10 => some (Sum.inr ())
  | x14 :: q13, j10 => (idx p1 (j1 : Int)).bind fun x17 => (idx p2 (j10 : Int)).bind fun x20 => (ck (x17 + x20)).bind fun n23 => cond (decide (n23 > x14))
        (some (Sum.inl false))
        (impl_arePrices_l2 p1 p2 j1 q13 (j10 + 1))

def impl_arePrices_l1 (p1 : List Int) (p2 : List Int) : List (List Int) → Nat → Option ((Bool) ⊕ (Unit))
  | [], j1 => some (Sum.inr ())
  | x5 :: q4, j1 => ((impl_arePrices_l2 p1 p2 j1 x5 0 : Option ((Bool) ⊕ (Unit)))).bind (fun s => Sum.elim (fun rv => some (Sum.inl rv)) (fun _ => impl_arePrices_l1 p1 p2 q4 (j1 + 1)) s)

def impl_arePrices_m (p0 : List (List Int)) (p1 : List Int) (p2 : List Int) : Option (Bool) :=
  ((impl_arePrices_l1 p1 p2 p0 0 : Option ((Bool) ⊕ (Unit)))).bind (fun s => Sum.elim (fun rv => some rv) (fun _ => some true) s)

def impl_ArePrices_m (p0 : List (List Int)) (p1 : List Int) (p2 : List Int) : Option (Bool × Bool) :=
  (impl_isSquare_m p0).bind fun y1 => ((cond (!y1) (some true) ((impl_areOnePerVertex_m p0 p1).bind fun y6 => some (!y6)) : Option Bool)).bind fun b3 => ((cond b3 (some true) ((impl_areOnePerVertex_m p0 p2).bind fun y11 => some (!y11)) : Option Bool)).bind fun b8 => cond b8
        (some (false, false))
        ((impl_arePrices_m p0 p1 p2).bind fun y13 => some (y13, true))

end Go.Proofs.Ytnnhbkhlipekeaa
