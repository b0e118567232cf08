/- The plain functions that mirror the code of this unit: none where the code would panic or overflow. Written by program (wip/gen). -/
import Derived.Test.YtjicdfplhenohaaMem
import Derived.Test.YtjicdfplhenohaaNumM
import Derived.Test.YtjicdfplhenohaaMatM
import Derived.Test.YtjicdfplhenohaaWy2M
import Derived.Test.YtjicdfplhenohaaOwnM
import Derived.Test.YtjicdfplhenohaaEigM
namespace Go.Proofs.Ytjicdfplhenohaa
set_option linter.unusedVariables false

def impl_costOfCircuit_m (p0 : List (List Int)) (p1 : List Int) : Option (Int) :=
  (impl_costOfSteps_m p0 p1).bind fun y1 => (ck ((p1.length : Int) - 1)).bind fun n3 => (idx p1 n3).bind fun x5 => (idx p0 x5).bind fun x8 => (idx p1 0).bind fun x13 => (idx x8 x13).bind fun x16 => (impl_product_m y1 x16).bind fun y19 => some y19

def impl_NegativeCircuit_1_m (p0 : List Int) (m : List (List Int)) (best : List Int) : Option (List Int) :=
  (impl_costOfCircuit_m m p0).bind fun y1 => ((cond (decide (y1 < 0)) (((cond ((best.length : Int) == 0) (some true) (some (decide ((p0.length : Int) < (best.length : Int)))) : Option Bool)).bind fun b6 => some b6) (some false) : Option Bool)).bind fun b3 => cond b3
        ((slices_Clone_int_int_m p0).bind fun y9 => some y9)
        (some best)

def impl_circuits_1_NegativeCircuit_l1 (mm : List (List Int)) (m : List (List Int)) (rec : (List Int) → (List (List Int)) → (List (List Int)) → (List Int) → Option ((List Int) × (List Int))) (x6 : List Int) : Nat → (List Int) → (List Int) → Int → Option ((List Int) × (List Int))
  | 0, _, _, _ => none
  | k + 1, l28, l30, n31 => cond (decide (n31 < (mm.length : Int)))
        ((idx x6 n31).bind fun x42 => ((cond (x42 != 1000000000) ((slices_Contains_int_int_m l28 n31).bind fun y48 => some (!y48)) (some false) : Option Bool)).bind fun b45 => cond b45
        ((app l28 n31).bind fun l50 => (rec l50 mm m l30).bind fun y54 => (ck ((y54.1.length : Int) - 1)).bind fun n58 => (cutO y54.1 n58).bind fun l60 => (ck (n31 + 1)).bind fun n64 => impl_circuits_1_NegativeCircuit_l1 mm m rec x6 k l60 y54.2 n64)
        ((ck (n31 + 1)).bind fun n66 => impl_circuits_1_NegativeCircuit_l1 mm m rec x6 k l28 l30 n66))
        (some (l28, l30))

def impl_circuits_1_NegativeCircuit_b (rec : (List Int) → (List (List Int)) → (List (List Int)) → (List Int) → Option ((List Int) × (List Int))) (l : List Int) (mm : List (List Int)) (m : List (List Int)) (best : List Int) : Option ((List Int) × (List Int)) :=
  (ck ((l.length : Int) - 1)).bind fun n1 => (idx l n1).bind fun x3 => (idx mm x3).bind fun x6 => (idx l 0).bind fun x11 => (idx x6 x11).bind fun x14 => ((cond (x14 != 1000000000)
        ((impl_NegativeCircuit_1_m l m best).bind fun y21 => some y21)
        (some best) : Option (List Int))).bind (fun l18 => (ck (x11 + 1)).bind fun n25 => ((impl_circuits_1_NegativeCircuit_l1 mm m rec x6 4000000 l l18 n25 : Option ((List Int) × (List Int)))).bind (fun s => (fun (l33 : List Int) (l35 : List Int) => some (l33, l35)) s.1 s.2))

def impl_circuits_1_NegativeCircuit_r : Nat → (List Int) → (List (List Int)) → (List (List Int)) → (List Int) → Option ((List Int) × (List Int))
  | 0 => fun _ _ _ _ => none
  | k + 1 => impl_circuits_1_NegativeCircuit_b (impl_circuits_1_NegativeCircuit_r k)
def impl_circuits_1_NegativeCircuit_m (l : List Int) (mm : List (List Int)) (m : List (List Int)) (best : List Int) : Option ((List Int) × (List Int)) := impl_circuits_1_NegativeCircuit_r 64 l mm m best

def impl_circuits_NegativeCircuit_l1 (p0 : List (List Int)) (m : List (List Int)) : List (List Int) → Nat → (List Int) → (List Int) → Option (List Int)
  | [], j17, l14, l16 => some l16
  | x23 :: q22, j17, l14, l16 => (impl_circuits_1_NegativeCircuit_m ([(j17 : Int)]) p0 m l16).bind fun y27 => impl_circuits_NegativeCircuit_l1 p0 m q22 (j17 + 1) y27.1 y27.2

def impl_circuits_NegativeCircuit_m (p0 : List (List Int)) (m : List (List Int)) (best : List Int) : Option (List Int) :=
  ((impl_circuits_NegativeCircuit_l1 p0 m p0 0 ([]) best : Option (List Int))).bind (fun l19 => some l19)

def impl_NegativeCircuit_m (p0 : List (List Int)) : Option ((List Int) × Bool) :=
  (impl_isSquare_m p0).bind fun y3 => cond (!y3)
        (some ([], false))
        ((impl_circuits_NegativeCircuit_m p0 p0 ([])).bind fun y10 => some (y10, decide ((y10.length : Int) > 0)))

end Go.Proofs.Ytjicdfplhenohaa
