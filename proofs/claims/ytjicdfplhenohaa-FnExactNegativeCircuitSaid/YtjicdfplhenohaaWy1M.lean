/- The plain functions that mirror the code of this unit: none where the code would panic or overflow. Written by program (wip/gen). -/
import Derived.Test.YtjicdfplhenohaaMem
import Derived.Test.YtjicdfplhenohaaNumM
import Derived.Test.YtjicdfplhenohaaMatM
namespace Go.Proofs.Ytjicdfplhenohaa
set_option linter.unusedVariables false

def spec_wyAsked_m (p0 : List (List Int)) (p1 : List Int) : Option (Bool) :=
  (spec_mxSquare_m p0).bind fun y1 => ((cond y1 (some ((p1.length : Int) == (p0.length : Int))) (some false) : Option Bool)).bind fun b3 => ((cond b3 ((spec_l1All_m p1 (-1000000) 1000000).bind fun y9 => some y9) (some false) : Option Bool)).bind fun b6 => some b6

def spec_wyPotentials_l2 (p1 : List Int) (j1 : Nat) : List Int → Nat → Option ((Bool) ⊕ (Unit))
  | [], j10 => some (Sum.inr ())
  | x14 :: q13, j10 => (idx p1 (j10 : Int)).bind fun x17 => (idx p1 (j1 : Int)).bind fun x20 => (spec_nuPlus_m x20 x14).bind fun y23 => cond (decide (x17 > y23))
        (some (Sum.inl false))
        (spec_wyPotentials_l2 p1 j1 q13 (j10 + 1))

def spec_wyPotentials_l1 (p1 : List Int) : List (List Int) → Nat → Option ((Bool) ⊕ (Unit))
  | [], j1 => some (Sum.inr ())
  | x5 :: q4, j1 => ((spec_wyPotentials_l2 p1 j1 x5 0 : Option ((Bool) ⊕ (Unit)))).bind (fun s => Sum.elim (fun rv => some (Sum.inl rv)) (fun _ => spec_wyPotentials_l1 p1 q4 (j1 + 1)) s)

def spec_wyPotentials_m (p0 : List (List Int)) (p1 : List Int) : Option (Bool) :=
  ((spec_wyPotentials_l1 p1 p0 0 : Option ((Bool) ⊕ (Unit)))).bind (fun s => Sum.elim (fun rv => some rv) (fun _ => some true) s)

def impl_arePotentials_l2 (p1 : List Int) (j1 : Nat) : List Int → Nat → Option ((Bool) ⊕ (Unit))
  | [], j10 => some (Sum.inr ())
  | x14 :: q13, j10 => ((cond (x14 != 1000000000) ((idx p1 (j10 : Int)).bind fun x20 => (idx p1 (j1 : Int)).bind fun x23 => (ck (x23 + x14)).bind fun n26 => some (decide (x20 > n26))) (some false) : Option Bool)).bind fun b17 => cond b17
        (some (Sum.inl false))
        (impl_arePotentials_l2 p1 j1 q13 (j10 + 1))

def impl_arePotentials_l1 (p1 : List Int) : List (List Int) → Nat → Option ((Bool) ⊕ (Unit))
  | [], j1 => some (Sum.inr ())
  | x5 :: q4, j1 => ((impl_arePotentials_l2 p1 j1 x5 0 : Option ((Bool) ⊕ (Unit)))).bind (fun s => Sum.elim (fun rv => some (Sum.inl rv)) (fun _ => impl_arePotentials_l1 p1 q4 (j1 + 1)) s)

def impl_arePotentials_m (p0 : List (List Int)) (p1 : List Int) : Option (Bool) :=
  ((impl_arePotentials_l1 p1 p0 0 : Option ((Bool) ⊕ (Unit)))).bind (fun s => Sum.elim (fun rv => some rv) (fun _ => some true) s)

end Go.Proofs.Ytjicdfplhenohaa
