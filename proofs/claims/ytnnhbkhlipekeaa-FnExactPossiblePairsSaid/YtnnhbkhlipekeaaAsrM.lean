/- The plain functions that mirror the code of this unit: none where the code would panic or overflow. Written by program (wip/gen). -/
import Derived.Test.YtnnhbkhlipekeaaMem
import Derived.Test.YtnnhbkhlipekeaaNumM
import Derived.Test.YtnnhbkhlipekeaaMatM
import Derived.Test.YtnnhbkhlipekeaaWy2M
import Derived.Test.YtnnhbkhlipekeaaOwnM
import Derived.Test.YtnnhbkhlipekeaaAs2M
import Derived.Test.YtnnhbkhlipekeaaAsnM
namespace Go.Proofs.Ytnnhbkhlipekeaa
set_option linter.unusedVariables false

def impl_RegretOf_1_m (p0 : List Int) (ii : Int) (kk : Int) : Option (Bool) :=
  (idx p0 ii).bind fun x1 => some (x1 == kk)

def impl_bestOf_1_regret_m (p0 : List Int) (m : List (List Int)) (out_0 : Int) (out_1 : List Int) (ii : Int) (kk : Int) : Option (Int × (List Int)) :=
  (impl_costOf_m m p0).bind fun y1 => ((cond (decide (y1 < out_0)) ((impl_RegretOf_1_m p0 ii kk).bind fun y6 => some y6) (some false) : Option Bool)).bind fun b3 => cond b3
        ((slices_Clone_int_int_m p0).bind fun y8 => (guardO (decide (0 < y8.length))).bind fun _ => some (y1, y8))
        (some (out_0, out_1))

def impl_permutations_1_regret_l1 (n : Int) (m : List (List Int)) (ii : Int) (kk : Int) (rec : (List Int) → Int → (List Bool) → (List (List Int)) → Int → (List Int) → Int → Int → Option ((List Int) × (List Bool) × Int × (List Int))) : Nat → Nat → (List Int) → (List Bool) → (List Int) → Int → Option ((List Int) × (List Bool) × (List Int) × Int)
  | 0, j4, l6, l8, l10, n11 => some (l6, l8, l10, n11)
  | q21 + 1, j4, l6, l8, l10, n11 => (idx l8 (j4 : Int)).bind fun x22 => cond x22
        (impl_permutations_1_regret_l1 n m ii kk rec q21 (j4 + 1) l6 l8 l10 n11)
        ((upd l8 (j4 : Int) true).bind fun l26 => (app l6 (j4 : Int)).bind fun l28 => (rec l28 n l26 m n11 l10 ii kk).bind fun y32 => (ck ((y32.1.length : Int) - 1)).bind fun n37 => (cutO y32.1 n37).bind fun l39 => (idx y32.2.1 (j4 : Int)).bind fun x43 => (upd y32.2.1 (j4 : Int) false).bind fun l46 => impl_permutations_1_regret_l1 n m ii kk rec q21 (j4 + 1) l39 l46 y32.2.2.2 y32.2.2.1)

def impl_permutations_1_regret_b (rec : (List Int) → Int → (List Bool) → (List (List Int)) → Int → (List Int) → Int → Int → Option ((List Int) × (List Bool) × Int × (List Int))) (l : List Int) (n : Int) (used : List Bool) (m : List (List Int)) (out_0 : Int) (out_1 : List Int) (ii : Int) (kk : Int) : Option ((List Int) × (List Bool) × Int × (List Int)) :=
  cond ((l.length : Int) == n)
        ((impl_bestOf_1_regret_m l m out_0 out_1 ii kk).bind fun y1 => some (l, used, y1.1, y1.2))
        ((((ck n).bind fun _ => impl_permutations_1_regret_l1 n m ii kk rec ((n - (0 : Nat) : Int).toNat) 0 l used out_1 out_0 : Option ((List Int) × (List Bool) × (List Int) × Int))).bind (fun s => (fun (l13 : List Int) (l15 : List Bool) (l17 : List Int) (n18 : Int) => some (l13, l15, n18, l17)) s.1 s.2.1 s.2.2.1 s.2.2.2))

def impl_permutations_1_regret_r : Nat → (List Int) → Int → (List Bool) → (List (List Int)) → Int → (List Int) → Int → Int → Option ((List Int) × (List Bool) × Int × (List Int))
  | 0 => fun _ _ _ _ _ _ _ _ => none
  | k + 1 => impl_permutations_1_regret_b (impl_permutations_1_regret_r k)
def impl_permutations_1_regret_m (l : List Int) (n : Int) (used : List Bool) (m : List (List Int)) (out_0 : Int) (out_1 : List Int) (ii : Int) (kk : Int) : Option ((List Int) × (List Bool) × Int × (List Int)) := impl_permutations_1_regret_r 64 l n used m out_0 out_1 ii kk

def impl_permutations_regret_m (p0 : Int) (m : List (List Int)) (out_0 : Int) (out_1 : List Int) (ii : Int) (kk : Int) : Option (Int × (List Int)) :=
  (((guardO (decide (0 ≤ p0 ∧ p0 < 1000000000))).bind fun _ => some ((List.replicate (p0).toNat false), []) : Option ((List Bool) × (List Int)))).bind (fun s => (fun (l8 : List Bool) (l10 : List Int) => (impl_permutations_1_regret_m l10 p0 l8 m out_0 out_1 ii kk).bind fun y9016 => some (y9016.2.2.1, y9016.2.2.2)) s.1 s.2)

def impl_bestOf_regret_m (p0 : List (List Int)) (ii : Int) (kk : Int) : Option (Int × (List Int) × Bool) :=
  (impl_permutations_regret_m (p0.length : Int) p0 1000000000 ([]) ii kk).bind fun y10 => some (y10.1, y10.2, decide ((y10.2.length : Int) > 0))

def impl_RegretOf_m (p0 : List (List Int)) (p1 : Int) (p2 : Int) : Option (Int × Bool) :=
  (impl_isSquare_m p0).bind fun y5 => ((cond (!y5) (some true) ((impl_areVertices_m p0 ([p1, p2])).bind fun y12 => some (!y12)) : Option Bool)).bind fun b7 => cond b7
        (some (0, false))
        ((impl_bestOf_any_m p0).bind fun y14 => (impl_bestOf_regret_m p0 p1 p2).bind fun y21 => ((cond (!y14.2.2) (some true) (some (!y21.2.2)) : Option Bool)).bind fun b27 => cond b27
        (some (0, false))
        ((ck (y21.1 - y14.1)).bind fun n30 => (impl_told_m n30).bind fun y32 => some (y32.1, y32.2)))

end Go.Proofs.Ytnnhbkhlipekeaa
