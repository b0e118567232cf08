/- The plain functions that mirror the code of this unit: none where the code would panic or overflow. Written by program (wip/gen). -/
import Derived.Test.YtjicdfplhenohaaMem
import Derived.Test.YtjicdfplhenohaaNumM
import Derived.Test.YtjicdfplhenohaaMatM
namespace Go.Proofs.Ytjicdfplhenohaa
set_option linter.unusedVariables false

def spec_wyCircuit_l1 (p0 : List (List Int)) (p1 : List Int) (p2 : Int) (p3 : Int) (rec : (List (List Int)) → (List Int) → Int → Int → Option ((List Int) × Bool)) (x3 : Int) : Nat → Int → Option (((List Int) × Bool) ⊕ (Unit))
  | 0, _ => none
  | k + 1, n24 => cond (decide (n24 < (p0.length : Int)))
        ((spec_l1Has_m p1 n24).bind fun y28 => ((cond y28 (some true) ((idx p0 x3).bind fun x33 => (idx x33 n24).bind fun x38 => some (x38 == 1000000000)) : Option Bool)).bind fun b30 => cond b30
        ((ck (n24 + 1)).bind fun n41 => spec_wyCircuit_l1 p0 p1 p2 p3 rec x3 k n41)
        ((((idx p0 x3).bind fun x48 => (idx x48 n24).bind fun x54 => (ck (p2 + x54)).bind fun n57 => (spec_l1Own_m p1).bind fun y3060 => (appS y3060 ([n24])).bind fun l6060 => (rec p0 l6060 n57 p3).bind fun y17060 => some (y17060.1, y17060.2) : Option ((List Int) × Bool))).bind (fun s => (fun (l44 : List Int) (b45 : Bool) => cond b45
        (some (Sum.inl (l44, true)))
        ((ck (n24 + 1)).bind fun n24060 => spec_wyCircuit_l1 p0 p1 p2 p3 rec x3 k n24060)) s.1 s.2)))
        (some (Sum.inr ()))

def spec_wyCircuit_b (rec : (List (List Int)) → (List Int) → Int → Int → Option ((List Int) × Bool)) (p0 : List (List Int)) (p1 : List Int) (p2 : Int) (p3 : Int) : Option ((List Int) × Bool) :=
  (ck ((p1.length : Int) - 1)).bind fun n1 => (idx p1 n1).bind fun x3 => cond ((p1.length : Int) == p3)
        ((idx p0 x3).bind fun x6 => (idx p1 0).bind fun x11 => (idx x6 x11).bind fun x14 => (spec_nuPlus_m p2 x14).bind fun y17 => some (p1, decide (y17 < 0)))
        ((idx p1 0).bind fun x19 => (ck (x19 + 1)).bind fun n22 => ((spec_wyCircuit_l1 p0 p1 p2 p3 rec x3 4000000 n22 : Option (((List Int) × Bool) ⊕ (Unit)))).bind (fun s => Sum.elim (fun rv => some rv) (fun _ => some ([], false)) s))

def spec_wyCircuit_r : Nat → (List (List Int)) → (List Int) → Int → Int → Option ((List Int) × Bool)
  | 0 => fun _ _ _ _ => none
  | k + 1 => spec_wyCircuit_b (spec_wyCircuit_r k)
def spec_wyCircuit_m (p0 : List (List Int)) (p1 : List Int) (p2 : Int) (p3 : Int) : Option ((List Int) × Bool) := spec_wyCircuit_r 64 p0 p1 p2 p3

def spec_NegativeCircuit_l2 (p0 : List (List Int)) (n4 : Int) : List (List Int) → Nat → Option (((List Int) × Bool) ⊕ (Unit))
  | [], j8 => some (Sum.inr ())
  | x12 :: q11, j8 => (spec_wyCircuit_m p0 ([(j8 : Int)]) 0 n4).bind fun y16 => cond y16.2
        (some (Sum.inl (y16.1, true)))
        (spec_NegativeCircuit_l2 p0 n4 q11 (j8 + 1))

def spec_NegativeCircuit_l1 (p0 : List (List Int)) : Nat → Int → Option (((List Int) × Bool) ⊕ (Unit))
  | 0, _ => none
  | k + 1, n4 => cond (decide (n4 ≤ (p0.length : Int)))
        (((spec_NegativeCircuit_l2 p0 n4 p0 0 : Option (((List Int) × Bool) ⊕ (Unit)))).bind (fun s => Sum.elim (fun rv => some (Sum.inl rv)) (fun _ => (ck (n4 + 1)).bind fun n21 => spec_NegativeCircuit_l1 p0 k n21) s))
        (some (Sum.inr ()))

def spec_NegativeCircuit_m (p0 : List (List Int)) : Option ((List Int) × Bool) :=
  (spec_mxSquare_m p0).bind fun y1 => cond (!y1)
        (some ([], false))
        (((spec_NegativeCircuit_l1 p0 4000000 1 : Option (((List Int) × Bool) ⊕ (Unit)))).bind (fun s => Sum.elim (fun rv => some rv) (fun _ => some ([], false)) s))

end Go.Proofs.Ytjicdfplhenohaa
