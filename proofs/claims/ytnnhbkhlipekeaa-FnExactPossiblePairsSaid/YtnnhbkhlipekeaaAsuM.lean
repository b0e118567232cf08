/- The plain functions that mirror the code of this unit: none where the code would panic or overflow. Written by program (wip/gen). -/
import Derived.Test.YtnnhbkhlipekeaaMem
import Derived.Test.YtnnhbkhlipekeaaAs2M
import Derived.Test.YtnnhbkhlipekeaaAsnM
namespace Go.Proofs.Ytnnhbkhlipekeaa
set_option linter.unusedVariables false

def impl_usesOf_1_l1 : List Int → Nat → (List (List Int)) → Option (List (List Int))
  | [], j5, l6 => some l6
  | x11 :: q10, j5, l6 => (idx l6 (j5 : Int)).bind fun x14 => (idx x14 x11).bind fun x19 => (ck (x19 + 1)).bind fun n22 => (upd x14 x11 n22).bind fun l25 => impl_usesOf_1_l1 q10 (j5 + 1) (l6.set ((j5 : Int)).toNat l25)

def impl_usesOf_1_m (p0 : List Int) (m : List (List Int)) (b_0 : Int) (b_1 : List Int) (count : Int) (uses : List (List Int)) : Option (Int × (List (List Int))) :=
  (impl_costOf_m m p0).bind fun y1 => cond (y1 != b_0)
        (some (count, uses))
        ((ck (count + 1)).bind fun n3 => ((impl_usesOf_1_l1 p0 0 uses : Option (List (List Int)))).bind (fun l7 => some (n3, l7)))

def impl_permutations_1_uses_l1 (n : Int) (m : List (List Int)) (b_0 : Int) (b_1 : List Int) (rec : (List Int) → Int → (List Bool) → (List (List Int)) → Int → (List Int) → Int → (List (List Int)) → Option ((List Int) × (List Bool) × Int × (List (List Int)))) : Nat → Nat → (List Int) → (List Bool) → (List (List Int)) → Int → Option ((List Int) × (List Bool) × (List (List Int)) × Int)
  | 0, j5, l7, l9, l12, n13 => some (l7, l9, l12, n13)
  | q24 + 1, j5, l7, l9, l12, n13 => (idx l9 (j5 : Int)).bind fun x25 => cond x25
        (impl_permutations_1_uses_l1 n m b_0 b_1 rec q24 (j5 + 1) l7 l9 l12 n13)
        ((upd l9 (j5 : Int) true).bind fun l29 => (app l7 (j5 : Int)).bind fun l31 => (rec l31 n l29 m b_0 b_1 n13 l12).bind fun y35 => (ck ((y35.1.length : Int) - 1)).bind fun n41 => (cutO y35.1 n41).bind fun l43 => (idx y35.2.1 (j5 : Int)).bind fun x47 => (upd y35.2.1 (j5 : Int) false).bind fun l50 => impl_permutations_1_uses_l1 n m b_0 b_1 rec q24 (j5 + 1) l43 l50 y35.2.2.2 y35.2.2.1)

def impl_permutations_1_uses_b (rec : (List Int) → Int → (List Bool) → (List (List Int)) → Int → (List Int) → Int → (List (List Int)) → Option ((List Int) × (List Bool) × Int × (List (List Int)))) (l : List Int) (n : Int) (used : List Bool) (m : List (List Int)) (b_0 : Int) (b_1 : List Int) (count : Int) (uses : List (List Int)) : Option ((List Int) × (List Bool) × Int × (List (List Int))) :=
  cond ((l.length : Int) == n)
        ((impl_usesOf_1_m l m b_0 b_1 count uses).bind fun y1 => some (l, used, y1.1, y1.2))
        ((((ck n).bind fun _ => impl_permutations_1_uses_l1 n m b_0 b_1 rec ((n - (0 : Nat) : Int).toNat) 0 l used uses count : Option ((List Int) × (List Bool) × (List (List Int)) × Int))).bind (fun s => (fun (l15 : List Int) (l17 : List Bool) (l20 : List (List Int)) (n21 : Int) => some (l15, l17, n21, l20)) s.1 s.2.1 s.2.2.1 s.2.2.2))

def impl_permutations_1_uses_r : Nat → (List Int) → Int → (List Bool) → (List (List Int)) → Int → (List Int) → Int → (List (List Int)) → Option ((List Int) × (List Bool) × Int × (List (List Int)))
  | 0 => fun _ _ _ _ _ _ _ _ => none
  | k + 1 => impl_permutations_1_uses_b (impl_permutations_1_uses_r k)
def impl_permutations_1_uses_m (l : List Int) (n : Int) (used : List Bool) (m : List (List Int)) (b_0 : Int) (b_1 : List Int) (count : Int) (uses : List (List Int)) : Option ((List Int) × (List Bool) × Int × (List (List Int))) := impl_permutations_1_uses_r 64 l n used m b_0 b_1 count uses

def impl_permutations_uses_m (p0 : Int) (m : List (List Int)) (b_0 : Int) (b_1 : List Int) (count : Int) (uses : List (List Int)) : Option (Int × (List (List Int))) :=
  (((guardO (decide (0 ≤ p0 ∧ p0 < 1000000000))).bind fun _ => some ((List.replicate (p0).toNat false), []) : Option ((List Bool) × (List Int)))).bind (fun s => (fun (l8 : List Bool) (l10 : List Int) => (impl_permutations_1_uses_m l10 p0 l8 m b_0 b_1 count uses).bind fun y9016 => some (y9016.2.2.1, y9016.2.2.2)) s.1 s.2)

def impl_usesOf_l1 (p0 : List (List Int)) : Nat → Nat → (List (List Int)) → Option (List (List Int))
  | 0, j12, l14 => some l14
  | q19 + 1, j12, l14 => (guardO (decide (0 ≤ (p0.length : Int) ∧ (p0.length : Int) < 1000000000))).bind fun _ => (idx l14 (j12 : Int)).bind fun x23 => (upd l14 (j12 : Int) (List.replicate ((p0.length : Int)).toNat (0 : Int))).bind fun l28 => impl_usesOf_l1 p0 q19 (j12 + 1) l28

def impl_usesOf_m (p0 : List (List Int)) (p1_0 : Int) (p1_1 : List Int) : Option ((List (List Int)) × Int) :=
  (guardO (decide (0 ≤ (p0.length : Int) ∧ (p0.length : Int) < 1000000000))).bind fun _ => (((ck ((List.replicate ((p0.length : Int)).toNat ([] : List Int)).length : Int)).bind fun _ => impl_usesOf_l1 p0 ((((List.replicate ((p0.length : Int)).toNat ([] : List Int)).length : Int) - (0 : Nat) : Int).toNat) 0 (List.replicate ((p0.length : Int)).toNat ([] : List Int)) : Option (List (List Int)))).bind (fun l16 => (impl_permutations_uses_m (p0.length : Int) p0 p1_0 p1_1 0 l16).bind fun y30 => some (y30.2, y30.1))

def impl_CountBest_m (p0 : List (List Int)) : Option (Int × Bool) :=
  (impl_bestAsked_m p0).bind fun y1 => cond (!y1.2.2)
        (some (0, false))
        ((impl_usesOf_m p0 y1.1 y1.2.1).bind fun y8 => some (y8.2, true))

def impl_ForcedPairs_1_m (p0 : Int) (p1 : Int) : Option (Bool) :=
  some (p0 == p1)

def impl_pairsUsed_forced_l2 (y9 : (List (List Int)) × Int) (j17 : Nat) : List Int → Nat → (List (List Int)) → Option (List (List Int))
  | [], j32, l35 => some l35
  | x42 :: q41, j32, l35 => (impl_ForcedPairs_1_m x42 y9.2).bind fun y45 => cond y45
        ((app l35 ([(j17 : Int), (j32 : Int)])).bind fun l49 => impl_pairsUsed_forced_l2 y9 j17 q41 (j32 + 1) l49)
        (impl_pairsUsed_forced_l2 y9 j17 q41 (j32 + 1) l35)

def impl_pairsUsed_forced_l1 (y9 : (List (List Int)) × Int) : List (List Int) → Nat → (List (List Int)) → Option (List (List Int))
  | [], j17, l20 => some l20
  | x27 :: q26, j17, l20 => ((impl_pairsUsed_forced_l2 y9 j17 x27 0 l20 : Option (List (List Int)))).bind (fun l38 => impl_pairsUsed_forced_l1 y9 q26 (j17 + 1) l38)

def impl_pairsUsed_forced_m (p0 : List (List Int)) : Option ((List (List Int)) × Bool) :=
  (impl_bestAsked_m p0).bind fun y1 => cond (!y1.2.2)
        (some ([], false))
        ((impl_usesOf_m p0 y1.1 y1.2.1).bind fun y9 => ((impl_pairsUsed_forced_l1 y9 y9.1 0 ([]) : Option (List (List Int)))).bind (fun l23 => some (l23, true)))

def impl_ForcedPairs_m (p0 : List (List Int)) : Option ((List (List Int)) × Bool) :=
  (impl_pairsUsed_forced_m p0).bind fun y1 => some (y1.1, y1.2)

def impl_PossiblePairs_1_m (p0 : Int) (p1 : Int) : Option (Bool) :=
  some (decide (p0 > 0))

def impl_pairsUsed_possible_l2 (y9 : (List (List Int)) × Int) (j17 : Nat) : List Int → Nat → (List (List Int)) → Option (List (List Int))
  | [], j32, l35 => some l35
  | x42 :: q41, j32, l35 => (impl_PossiblePairs_1_m x42 y9.2).bind fun y45 => cond y45
        ((app l35 ([(j17 : Int), (j32 : Int)])).bind fun l49 => impl_pairsUsed_possible_l2 y9 j17 q41 (j32 + 1) l49)
        (impl_pairsUsed_possible_l2 y9 j17 q41 (j32 + 1) l35)

def impl_pairsUsed_possible_l1 (y9 : (List (List Int)) × Int) : List (List Int) → Nat → (List (List Int)) → Option (List (List Int))
  | [], j17, l20 => some l20
  | x27 :: q26, j17, l20 => ((impl_pairsUsed_possible_l2 y9 j17 x27 0 l20 : Option (List (List Int)))).bind (fun l38 => impl_pairsUsed_possible_l1 y9 q26 (j17 + 1) l38)

def impl_pairsUsed_possible_m (p0 : List (List Int)) : Option ((List (List Int)) × Bool) :=
  (impl_bestAsked_m p0).bind fun y1 => cond (!y1.2.2)
        (some ([], false))
        ((impl_usesOf_m p0 y1.1 y1.2.1).bind fun y9 => ((impl_pairsUsed_possible_l1 y9 y9.1 0 ([]) : Option (List (List Int)))).bind (fun l23 => some (l23, true)))

def impl_PossiblePairs_m (p0 : List (List Int)) : Option ((List (List Int)) × Bool) :=
  (impl_pairsUsed_possible_m p0).bind fun y1 => some (y1.1, y1.2)

end Go.Proofs.Ytnnhbkhlipekeaa
