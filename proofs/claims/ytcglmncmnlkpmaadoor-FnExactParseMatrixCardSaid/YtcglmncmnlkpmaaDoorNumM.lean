/- The plain functions that mirror the code of this unit: none where the code would panic or overflow. Written by program (wip/gen). -/
import Derived.Test.YtcglmncmnlkpmaaDoorTx2
namespace Go.Proofs.YtcglmncmnlkpmaaDoor
set_option linter.unusedVariables false

def spec_l1In_m (p0 : Int) (p1 : Int) (p2 : Int) : Option (Bool) :=
  ((cond (decide (p0 ≥ p1)) (some (decide (p0 ≤ p2))) (some false) : Option Bool)).bind fun b1 => some b1

def impl_within_m (p0 : Int) (p1 : Int) (p2 : Int) : Option (Bool) :=
  ((cond (decide (p0 ≥ p1)) (some (decide (p0 ≤ p2))) (some false) : Option Bool)).bind fun b1 => some b1

def impl_isFinite_m (p0 : Int) : Option (Bool) :=
  ((cond (decide (p0 ≥ (-1000000))) (some (decide (p0 ≤ 1000000))) (some false) : Option Bool)).bind fun b1 => some b1

def impl_isNumber_m (p0 : Int) : Option (Bool) :=
  (impl_isFinite_m p0).bind fun y1 => ((cond y1 (some true) (some (p0 == 1000000000)) : Option Bool)).bind fun b3 => some b3

def spec_nuGood_m (p0 : Int) : Option (Bool) :=
  ((cond (p0 == 1000000000) (some true) ((spec_l1In_m p0 (-1000000) 1000000).bind fun y4 => some y4) : Option Bool)).bind fun b1 => some b1

def impl_areNumbers_l1 : List Int → Nat → Option ((Bool) ⊕ (Unit))
  | [], j1 => some (Sum.inr ())
  | x5 :: q4, j1 => (impl_isNumber_m x5).bind fun y8 => cond (!y8)
        (some (Sum.inl false))
        (impl_areNumbers_l1 q4 (j1 + 1))

def impl_areNumbers_m (p0 : List Int) : Option (Bool) :=
  ((impl_areNumbers_l1 p0 0 : Option ((Bool) ⊕ (Unit)))).bind (fun s => Sum.elim (fun rv => some rv) (fun _ => some true) s)

def laws_eqIntS_l1 (p0 : List Int) (p1 : List Int) : Nat → Int → Option ((Bool) ⊕ (Unit))
  | 0, _ => none
  | k + 1, n1 => cond (decide (n1 < (p0.length : Int)))
        ((idx p0 n1).bind fun x5 => (idx p1 n1).bind fun x8 => cond (x5 != x8)
        (some (Sum.inl false))
        ((ck (n1 + 1)).bind fun n11 => laws_eqIntS_l1 p0 p1 k n11))
        (some (Sum.inr ()))

def laws_eqIntS_m (p0 : List Int) (p1 : List Int) : Option (Bool) :=
  cond ((p0.length : Int) != (p1.length : Int))
        (some false)
        (((laws_eqIntS_l1 p0 p1 4000000 0 : Option ((Bool) ⊕ (Unit)))).bind (fun s => Sum.elim (fun rv => some rv) (fun _ => some true) s))

def laws_eqIntSS_l1 (p0 : List (List Int)) (p1 : List (List Int)) : Nat → Int → Option ((Bool) ⊕ (Unit))
  | 0, _ => none
  | k + 1, n1 => cond (decide (n1 < (p0.length : Int)))
        ((idx p0 n1).bind fun x5 => (idx p1 n1).bind fun x10 => (laws_eqIntS_m x5 x10).bind fun y15 => cond (!y15)
        (some (Sum.inl false))
        ((ck (n1 + 1)).bind fun n17 => laws_eqIntSS_l1 p0 p1 k n17))
        (some (Sum.inr ()))

def laws_eqIntSS_m (p0 : List (List Int)) (p1 : List (List Int)) : Option (Bool) :=
  cond ((p0.length : Int) != (p1.length : Int))
        (some false)
        (((laws_eqIntSS_l1 p0 p1 4000000 0 : Option ((Bool) ⊕ (Unit)))).bind (fun s => Sum.elim (fun rv => some rv) (fun _ => some true) s))

def laws_szIntS_m (p0 : List Int) (p1 : Int) : Option (Int) :=
  (ck (p1 - (p0.length : Int))).bind fun n1 => cond (decide (n1 < 0))
        (some (-1))
        (some n1)

def laws_szIntSS_l1 (p0 : List (List Int)) : Nat → Int → Int → Option ((Int) ⊕ (Int))
  | 0, _, _ => none
  | k + 1, n3, n4 => cond (decide (n4 < (p0.length : Int)))
        ((idx p0 n4).bind fun x9 => (laws_szIntS_m x9 n3).bind fun y14 => cond (decide (y14 < 0))
        (some (Sum.inl (-1)))
        ((ck (n4 + 1)).bind fun n16 => laws_szIntSS_l1 p0 k y14 n16))
        (some (Sum.inr n3))

def laws_szIntSS_m (p0 : List (List Int)) (p1 : Int) : Option (Int) :=
  (ck (p1 - (p0.length : Int))).bind fun n1 => cond (decide (n1 < 0))
        (some (-1))
        (((laws_szIntSS_l1 p0 4000000 n1 0 : Option ((Int) ⊕ (Int)))).bind (fun s => Sum.elim (fun rv => some rv) (fun n5 => some n5) s))

def laws_heldIntS_l1 (p0 : List Int) : Nat → Int → Int → Option ((Int) ⊕ (Int))
  | 0, _, _ => none
  | k + 1, n1, n2 => cond (decide (n2 < (p0.length : Int)))
        ((idx p0 n2).bind fun x7 => cond (x7 != n1)
        (some (Sum.inl (-1)))
        ((ck (n1 + 1)).bind fun n10 => (ck (n2 + 1)).bind fun n12 => laws_heldIntS_l1 p0 k n10 n12))
        (some (Sum.inr n1))

def laws_heldIntS_m (p0 : List Int) (p1 : Int) : Option (Int) :=
  ((laws_heldIntS_l1 p0 4000000 p1 0 : Option ((Int) ⊕ (Int)))).bind (fun s => Sum.elim (fun rv => some rv) (fun n3 => some n3) s)

def laws_heldIntSS_l1 (p0 : List (List Int)) : Nat → Int → Int → Option ((Int) ⊕ (Int))
  | 0, _, _ => none
  | k + 1, n1, n2 => cond (decide (n2 < (p0.length : Int)))
        ((idx p0 n2).bind fun x7 => (laws_heldIntS_m x7 n1).bind fun y12 => cond (decide (y12 < 0))
        (some (Sum.inl (-1)))
        ((ck (n2 + 1)).bind fun n14 => laws_heldIntSS_l1 p0 k y12 n14))
        (some (Sum.inr n1))

def laws_heldIntSS_m (p0 : List (List Int)) (p1 : Int) : Option (Int) :=
  ((laws_heldIntSS_l1 p0 4000000 p1 0 : Option ((Int) ⊕ (Int)))).bind (fun s => Sum.elim (fun rv => some rv) (fun n3 => some n3) s)

def laws_toIntS_l1 (p0 : List Int) : Nat → (List Int) → Int → Option (List Int)
  | 0, _, _ => none
  | k + 1, l4, n5 => cond (decide (n5 < (p0.length : Int)))
        ((idx p0 n5).bind fun x10 => (idx l4 n5).bind fun x13 => (upd l4 n5 x10).bind fun l16 => (ck (n5 + 1)).bind fun n18 => laws_toIntS_l1 p0 k l16 n18)
        (some l4)

def laws_toIntS_m (p0 : List Int) : Option (List Int) :=
  (guardO (decide (0 ≤ (p0.length : Int) ∧ (p0.length : Int) < 1000000000))).bind fun _ => ((laws_toIntS_l1 p0 4000000 (List.replicate ((p0.length : Int)).toNat (0 : Int)) 0 : Option (List Int))).bind (fun l6 => some l6)

def laws_toIntSS_l1 (p0 : List (List Int)) : Nat → (List (List Int)) → Int → Option (List (List Int))
  | 0, _, _ => none
  | k + 1, l5, n6 => cond (decide (n6 < (p0.length : Int)))
        ((idx p0 n6).bind fun x12 => (laws_toIntS_m x12).bind fun y17 => (idx l5 n6).bind fun x21 => (upd l5 n6 y17).bind fun l26 => (ck (n6 + 1)).bind fun n28 => laws_toIntSS_l1 p0 k l26 n28)
        (some l5)

def laws_toIntSS_m (p0 : List (List Int)) : Option (List (List Int)) :=
  (guardO (decide (0 ≤ (p0.length : Int) ∧ (p0.length : Int) < 1000000000))).bind fun _ => ((laws_toIntSS_l1 p0 4000000 (List.replicate ((p0.length : Int)).toNat ([] : List Int)) 0 : Option (List (List Int)))).bind (fun l8 => some l8)

def laws_markIntS_l1 : Nat → (List Int) → Int → Int → Option ((List Int) × Int)
  | 0, _, _, _ => none
  | k + 1, l1, n2, n3 => cond (decide (n3 < (l1.length : Int)))
        ((idx l1 n3).bind fun x9 => (upd l1 n3 n2).bind fun l12 => (ck (n2 + 1)).bind fun n14 => (ck (n3 + 1)).bind fun n16 => laws_markIntS_l1 k l12 n14 n16)
        (some (l1, n2))

def laws_markIntS_m (p0 : List Int) (p1 : Int) : Option (Int × (List Int)) :=
  ((laws_markIntS_l1 4000000 p0 p1 0 : Option ((List Int) × Int))).bind (fun s => (fun (l4 : List Int) (n5 : Int) => some (n5, l4)) s.1 s.2)

def laws_markIntSS_l1 : Nat → (List (List Int)) → Int → Int → Option ((List (List Int)) × Int)
  | 0, _, _, _ => none
  | k + 1, l1, n2, n3 => cond (decide (n3 < (l1.length : Int)))
        ((idx l1 n3).bind fun x9 => (laws_markIntS_m x9 n2).bind fun y15 => (ck (n3 + 1)).bind fun n17 => laws_markIntSS_l1 k (l1.set (n3).toNat y15.2) y15.1 n17)
        (some (l1, n2))

def laws_markIntSS_m (p0 : List (List Int)) (p1 : Int) : Option (Int × (List (List Int))) :=
  ((laws_markIntSS_l1 4000000 p0 p1 0 : Option ((List (List Int)) × Int))).bind (fun s => (fun (l4 : List (List Int)) (n5 : Int) => some (n5, l4)) s.1 s.2)

end Go.Proofs.YtcglmncmnlkpmaaDoor
