/- The plain functions that mirror the code of this unit: none where the code would panic or overflow. Written by program (wip/gen). -/
import Derived.Test.YtjhaealoneennaaMem
import Derived.Test.YtjhaealoneennaaNumM
import Derived.Test.YtjhaealoneennaaMatM
import Derived.Test.YtjhaealoneennaaWy2M
import Derived.Test.YtjhaealoneennaaOwnM
import Derived.Test.YtjhaealoneennaaEigM
import Derived.Test.YtjhaealoneennaaCirM
import Derived.Test.YtjhaealoneennaaFracM
namespace Go.Proofs.Ytjhaealoneennaa
set_option linter.unusedVariables false

def impl_meanOf_m (p0 : List (List Int)) (p1 : List Int) : Option (Int × Int) :=
  (impl_costOfCircuit_m p0 p1).bind fun y3 => (impl_lowest_m y3 (p1.length : Int)).bind fun y5 => some (y5.1, y5.2)

def impl_leastMean_1_l1 : List Int → Nat → (List Bool) → Option (List Bool)
  | [], j11027, l11028 => some l11028
  | x11033 :: q11032, j11027, l11028 => (idx l11028 x11033).bind fun x11036 => (upd l11028 x11033 true).bind fun l11039 => impl_leastMean_1_l1 q11032 (j11027 + 1) l11039

def impl_leastMean_1_m (p0 : List Int) (m : List (List Int)) (first : List Int) (least_0 : Int) (least_1 : Int) (nodes : List Bool) : Option ((List Int) × Int × Int × (List Bool)) :=
  (impl_meanOf_m m p0).bind fun y1 => ((cond ((first.length : Int) == 0) (some true) ((impl_Frac_compare_m y1.1 y1.2 least_0 least_1).bind fun y8 => some (decide (y8 < 0))) : Option Bool)).bind fun b5 => ((cond b5
        ((((slices_Clone_int_int_m p0).bind fun y3027 => (guardO (decide (0 ≤ (m.length : Int) ∧ (m.length : Int) < 1000000000))).bind fun _ => some ((List.replicate ((m.length : Int)).toNat false), y3027, y1.1, y1.2) : Option ((List Bool) × (List Int) × Int × Int))).bind (fun s => (fun (l19 : List Bool) (l21 : List Int) (n22 : Int) (n23 : Int) => some (l19, l21, n22, n23)) s.1 s.2.1 s.2.2.1 s.2.2.2))
        (some (nodes, first, least_0, least_1)) : Option ((List Bool) × (List Int) × Int × Int))).bind (fun s => (fun (l11 : List Bool) (l13 : List Int) (n14 : Int) (n15 : Int) => cond (y1.1 == n14 && y1.2 == n15)
        (((impl_leastMean_1_l1 p0 0 l11 : Option (List Bool))).bind (fun l11029 => some (l13, n14, n15, l11029)))
        (some (l13, n14, n15, l11))) s.1 s.2.1 s.2.2.1 s.2.2.2)

def impl_circuits_1_leastMean_l1 (mm : List (List Int)) (m : List (List Int)) (rec : (List Int) → (List (List Int)) → (List (List Int)) → (List Int) → Int → Int → (List Bool) → Option ((List Int) × (List Int) × Int × Int × (List Bool))) (x6 : List Int) : Nat → (List Int) → (List Int) → (List Bool) → Int → Int → Int → Option ((List Int) × (List Int) × (List Bool) × Int × Int)
  | 0, _, _, _, _, _, _ => none
  | k + 1, l33, l35, l37, n38, n39, n40 => cond (decide (n40 < (mm.length : Int)))
        ((idx x6 n40).bind fun x55 => ((cond (x55 != 1000000000) ((slices_Contains_int_int_m l33 n40).bind fun y61 => some (!y61)) (some false) : Option Bool)).bind fun b58 => cond b58
        ((app l33 n40).bind fun l63 => (rec l63 mm m l35 n38 n39 l37).bind fun y67 => (ck ((y67.1.length : Int) - 1)).bind fun n72 => (cutO y67.1 n72).bind fun l74 => (ck (n40 + 1)).bind fun n78 => impl_circuits_1_leastMean_l1 mm m rec x6 k l74 y67.2.1 y67.2.2.2.2 y67.2.2.1 y67.2.2.2.1 n78)
        ((ck (n40 + 1)).bind fun n80 => impl_circuits_1_leastMean_l1 mm m rec x6 k l33 l35 l37 n38 n39 n80))
        (some (l33, l35, l37, n38, n39))

def impl_circuits_1_leastMean_b (rec : (List Int) → (List (List Int)) → (List (List Int)) → (List Int) → Int → Int → (List Bool) → Option ((List Int) × (List Int) × Int × Int × (List Bool))) (l : List Int) (mm : List (List Int)) (m : List (List Int)) (first : List Int) (least_0 : Int) (least_1 : Int) (nodes : List Bool) : Option ((List Int) × (List Int) × Int × Int × (List Bool)) :=
  (ck ((l.length : Int) - 1)).bind fun n1 => (idx l n1).bind fun x3 => (idx mm x3).bind fun x6 => (idx l 0).bind fun x11 => (idx x6 x11).bind fun x14 => ((cond (x14 != 1000000000)
        ((impl_leastMean_1_m l m first least_0 least_1 nodes).bind fun y25 => some (y25.1, y25.2.2.2, y25.2.1, y25.2.2.1))
        (some (first, nodes, least_0, least_1)) : Option ((List Int) × (List Bool) × Int × Int))).bind (fun s => (fun (l18 : List Int) (l20 : List Bool) (n21 : Int) (n22 : Int) => (ck (x11 + 1)).bind fun n30 => ((impl_circuits_1_leastMean_l1 mm m rec x6 4000000 l l18 l20 n21 n22 n30 : Option ((List Int) × (List Int) × (List Bool) × Int × Int))).bind (fun s => (fun (l42 : List Int) (l44 : List Int) (l46 : List Bool) (n47 : Int) (n48 : Int) => some (l42, l44, n47, n48, l46)) s.1 s.2.1 s.2.2.1 s.2.2.2.1 s.2.2.2.2)) s.1 s.2.1 s.2.2.1 s.2.2.2)

def impl_circuits_1_leastMean_r : Nat → (List Int) → (List (List Int)) → (List (List Int)) → (List Int) → Int → Int → (List Bool) → Option ((List Int) × (List Int) × Int × Int × (List Bool))
  | 0 => fun _ _ _ _ _ _ _ => none
  | k + 1 => impl_circuits_1_leastMean_b (impl_circuits_1_leastMean_r k)
def impl_circuits_1_leastMean_m (l : List Int) (mm : List (List Int)) (m : List (List Int)) (first : List Int) (least_0 : Int) (least_1 : Int) (nodes : List Bool) : Option ((List Int) × (List Int) × Int × Int × (List Bool)) := impl_circuits_1_leastMean_r 64 l mm m first least_0 least_1 nodes

def impl_circuits_leastMean_l1 (p0 : List (List Int)) (m : List (List Int)) : List (List Int) → Nat → (List Int) → (List Int) → (List Bool) → Int → Int → Option ((List Int) × (List Bool) × Int × Int)
  | [], j13, l15, l17, l19, n20, n21 => some (l17, l19, n20, n21)
  | x31 :: q30, j13, l15, l17, l19, n20, n21 => (impl_circuits_1_leastMean_m ([(j13 : Int)]) p0 m l17 n20 n21 l19).bind fun y35 => impl_circuits_leastMean_l1 p0 m q30 (j13 + 1) y35.1 y35.2.1 y35.2.2.2.2 y35.2.2.1 y35.2.2.2.1

def impl_circuits_leastMean_m (p0 : List (List Int)) (m : List (List Int)) (first : List Int) (least_0 : Int) (least_1 : Int) (nodes : List Bool) : Option ((List Int) × Int × Int × (List Bool)) :=
  ((impl_circuits_leastMean_l1 p0 m p0 0 ([]) first nodes least_0 least_1 : Option ((List Int) × (List Bool) × Int × Int))).bind (fun s => (fun (l23 : List Int) (l25 : List Bool) (n26 : Int) (n27 : Int) => some (l23, n26, n27, l25)) s.1 s.2.1 s.2.2.1 s.2.2.2)

def impl_leastMean_m (p0 : List (List Int)) : Option (Int × Int × (List Int) × (List Bool) × Bool) :=
  (((guardO (decide (0 ≤ (p0.length : Int) ∧ (p0.length : Int) < 1000000000))).bind fun _ => some ((List.replicate ((p0.length : Int)).toNat false), [], 0, 0) : Option ((List Bool) × (List Int) × Int × Int))).bind (fun s => (fun (l9 : List Bool) (l11 : List Int) (n12 : Int) (n13 : Int) => (impl_circuits_leastMean_m p0 p0 l11 n12 n13 l9).bind fun y13017 => some (y13017.2.1, y13017.2.2.1, y13017.1, y13017.2.2.2, decide ((y13017.1.length : Int) > 0))) s.1 s.2.1 s.2.2.1 s.2.2.2)

def impl_LeastMean_m (p0 : List (List Int)) : Option (Int × Int × Bool) :=
  (impl_isSquare_m p0).bind fun y3 => cond (!y3)
        (some (0, 0, false))
        ((impl_leastMean_m p0).bind fun y5 => some (y5.1, y5.2.1, y5.2.2.2.2))

def impl_LeastCircuit_m (p0 : List (List Int)) : Option ((List Int) × Bool) :=
  (impl_isSquare_m p0).bind fun y1 => cond (!y1)
        (some ([], false))
        ((impl_leastMean_m p0).bind fun y4 => some (y4.2.2.1, y4.2.2.2.2))

def impl_CriticalNodes_m (p0 : List (List Int)) : Option ((List Int) × Bool) :=
  (impl_isSquare_m p0).bind fun y1 => cond (!y1)
        (some ([], false))
        ((impl_leastMean_m p0).bind fun y4 => (impl_markedOf_m y4.2.2.2.1).bind fun y13 => some (y13, true))

def impl_isCircuit_l1 (p1 : List Int) : List Int → Nat → (List Int) → Option ((Bool) ⊕ (Unit))
  | [], j10, l11 => some (Sum.inr ())
  | x15 :: q14, j10, l11 => (ck x15).bind fun _ => ((cond (l11.contains x15) (some true) ((idx p1 0).bind fun x22 => some (decide (x15 < x22))) : Option Bool)).bind fun b19 => cond b19
        (some (Sum.inl false))
        ((ck x15).bind fun _ => (app l11 x15).bind fun l27 => impl_isCircuit_l1 p1 q14 (j10 + 1) l27)

def impl_isCircuit_m (p0 : List (List Int)) (p1 : List Int) : Option (Bool) :=
  (impl_within_m (p1.length : Int) 1 (p0.length : Int)).bind fun y1 => ((cond (!y1) (some true) ((impl_areVertices_m p0 p1).bind fun y6 => some (!y6)) : Option Bool)).bind fun b3 => cond b3
        (some false)
        (((impl_isCircuit_l1 p1 p1 0 ([] : List Int) : Option ((Bool) ⊕ (Unit)))).bind (fun s => Sum.elim (fun rv => some rv) (fun _ => (impl_costOfCircuit_m p0 p1).bind fun y28 => some (y28 != 1000000000)) s))

def impl_CircuitMean_m (p0 : List (List Int)) (p1 : List Int) : Option (Int × Int × Bool) :=
  (impl_isSquare_m p0).bind fun y3 => ((cond (!y3) (some true) ((impl_isCircuit_m p0 p1).bind fun y8 => some (!y8)) : Option Bool)).bind fun b5 => cond b5
        (some (0, 0, false))
        ((impl_meanOf_m p0 p1).bind fun y10 => (impl_toldFrac_m y10.1 y10.2).bind fun y12 => some (y12.1, y12.2.1, y12.2.2))

end Go.Proofs.Ytjhaealoneennaa
