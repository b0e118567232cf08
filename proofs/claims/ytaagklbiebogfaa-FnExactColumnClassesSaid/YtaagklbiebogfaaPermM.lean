/- The plain functions that mirror the code of this unit: none where the code would panic or overflow. Written by program (wip/gen). -/
import Derived.Test.YtaagklbiebogfaaMem
import Derived.Test.YtaagklbiebogfaaAs2M
namespace Go.Proofs.Ytaagklbiebogfaa
set_option linter.unusedVariables false

def impl_permanent_1_m (p0 : List Int) (m : List (List Int)) (least : Int) (ways : Int) : Option (Int × Int) :=
  (impl_costOf_m m p0).bind fun y1 => ((cond (decide (y1 < least))
        (some (1, y1))
        (cond (y1 == least)
        ((ck (ways + 1)).bind fun n7 => some (n7, least))
        (some (ways, least))) : Option (Int × Int))).bind (fun s => (fun (n3 : Int) (n4 : Int) => some (n4, n3)) s.1 s.2)

def impl_permutations_1_permanent_l1 (n : Int) (m : List (List Int)) (rec : (List Int) → Int → (List Bool) → (List (List Int)) → Int → Int → Option ((List Int) × (List Bool) × Int × Int)) : Nat → Nat → (List Int) → (List Bool) → Int → Int → Option ((List Int) × (List Bool) × Int × Int)
  | 0, j3, l5, l7, n8, n9 => some (l5, l7, n8, n9)
  | q18 + 1, j3, l5, l7, n8, n9 => (idx l7 (j3 : Int)).bind fun x19 => cond x19
        (impl_permutations_1_permanent_l1 n m rec q18 (j3 + 1) l5 l7 n8 n9)
        ((upd l7 (j3 : Int) true).bind fun l23 => (app l5 (j3 : Int)).bind fun l25 => (rec l25 n l23 m n8 n9).bind fun y29 => (ck ((y29.1.length : Int) - 1)).bind fun n33 => (cutO y29.1 n33).bind fun l35 => (idx y29.2.1 (j3 : Int)).bind fun x39 => (upd y29.2.1 (j3 : Int) false).bind fun l42 => impl_permutations_1_permanent_l1 n m rec q18 (j3 + 1) l35 l42 y29.2.2.1 y29.2.2.2)

def impl_permutations_1_permanent_b (rec : (List Int) → Int → (List Bool) → (List (List Int)) → Int → Int → Option ((List Int) × (List Bool) × Int × Int)) (l : List Int) (n : Int) (used : List Bool) (m : List (List Int)) (least : Int) (ways : Int) : Option ((List Int) × (List Bool) × Int × Int) :=
  cond ((l.length : Int) == n)
        ((impl_permanent_1_m l m least ways).bind fun y1 => some (l, used, y1.1, y1.2))
        ((((ck n).bind fun _ => impl_permutations_1_permanent_l1 n m rec ((n - (0 : Nat) : Int).toNat) 0 l used least ways : Option ((List Int) × (List Bool) × Int × Int))).bind (fun s => (fun (l11 : List Int) (l13 : List Bool) (n14 : Int) (n15 : Int) => some (l11, l13, n14, n15)) s.1 s.2.1 s.2.2.1 s.2.2.2))

def impl_permutations_1_permanent_r : Nat → (List Int) → Int → (List Bool) → (List (List Int)) → Int → Int → Option ((List Int) × (List Bool) × Int × Int)
  | 0 => fun _ _ _ _ _ _ => none
  | k + 1 => impl_permutations_1_permanent_b (impl_permutations_1_permanent_r k)
def impl_permutations_1_permanent_m (l : List Int) (n : Int) (used : List Bool) (m : List (List Int)) (least : Int) (ways : Int) : Option ((List Int) × (List Bool) × Int × Int) := impl_permutations_1_permanent_r 64 l n used m least ways

def impl_permutations_permanent_m (p0 : Int) (m : List (List Int)) (least : Int) (ways : Int) : Option (Int × Int) :=
  (((guardO (decide (0 ≤ p0 ∧ p0 < 1000000000))).bind fun _ => some ((List.replicate (p0).toNat false), []) : Option ((List Bool) × (List Int)))).bind (fun s => (fun (l8 : List Bool) (l10 : List Int) => (impl_permutations_1_permanent_m l10 p0 l8 m least ways).bind fun y9016 => some (y9016.2.2.1, y9016.2.2.2)) s.1 s.2)

def impl_permanent_m (p0 : List (List Int)) : Option (Int × Int) :=
  (impl_permutations_permanent_m (p0.length : Int) p0 1000000000 0).bind fun y7 => some (y7.1, y7.2)

end Go.Proofs.Ytaagklbiebogfaa
