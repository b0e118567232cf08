/- The plain functions that mirror the code of this unit: none where the code would panic or overflow. Written by program (wip/gen). -/
import Derived.Test.YtaagklbiebogfaaMem
import Derived.Test.YtaagklbiebogfaaRay
namespace Go.Proofs.Ytaagklbiebogfaa
set_option linter.unusedVariables false

def laws_toRay_m (p0_0 : Int) (p0_1 : Int) (p0_2 : Int) : Option (Int × Int × Int) :=
  some (p0_0, p0_1, p0_2)

def laws_toRayS_l1 (p0 : List Y3) : Nat → (List Y3) → Int → Option (List Y3)
  | 0, _, _ => none
  | k + 1, l4, n5 => cond (decide (n5 < (p0.length : Int)))
        ((idx p0 n5).bind fun x10 => (laws_toRay_m x10.1 x10.2.1 x10.2.2).bind fun y13 => (idx l4 n5).bind fun x15 => (upd l4 n5 (y13.1, y13.2.1, y13.2.2)).bind fun l18 => (ck (n5 + 1)).bind fun n20 => laws_toRayS_l1 p0 k l18 n20)
        (some l4)

def laws_toRayS_m (p0 : List Y3) : Option (List Y3) :=
  (guardO (decide (0 ≤ (p0.length : Int) ∧ (p0.length : Int) < 1000000000))).bind fun _ => ((laws_toRayS_l1 p0 4000000 (List.replicate ((p0.length : Int)).toNat ((0, 0, 0) : Y3)) 0 : Option (List Y3))).bind (fun l6 => some l6)

def laws_szRayS_m (p0 : List Y3) (p1 : Int) : Option (Int) :=
  (ck (p1 - (p0.length : Int))).bind fun n1 => cond (decide (n1 < 0))
        (some (-1))
        (some n1)

def laws_eqRay_m (p0_0 : Int) (p0_1 : Int) (p0_2 : Int) (p1_0 : Int) (p1_1 : Int) (p1_2 : Int) : Option (Bool) :=
  cond (p0_0 != p1_0)
        (some false)
        (cond (p0_1 != p1_1)
        (some false)
        (cond (p0_2 != p1_2)
        (some false)
        (some true)))

def laws_eqRayS_l1 (p0 : List Y3) (p1 : List Y3) : Nat → Int → Option ((Bool) ⊕ (Unit))
  | 0, _ => none
  | k + 1, n1 => cond (decide (n1 < (p0.length : Int)))
        ((idx p0 n1).bind fun x5 => (idx p1 n1).bind fun x8 => (laws_eqRay_m x5.1 x5.2.1 x5.2.2 x8.1 x8.2.1 x8.2.2).bind fun y11 => cond (!y11)
        (some (Sum.inl false))
        ((ck (n1 + 1)).bind fun n13 => laws_eqRayS_l1 p0 p1 k n13))
        (some (Sum.inr ()))

def laws_eqRayS_m (p0 : List Y3) (p1 : List Y3) : Option (Bool) :=
  cond ((p0.length : Int) != (p1.length : Int))
        (some false)
        (((laws_eqRayS_l1 p0 p1 4000000 0 : Option ((Bool) ⊕ (Unit)))).bind (fun s => Sum.elim (fun rv => some rv) (fun _ => some true) s))

def laws_markRayS_l1 : Nat → (List Y3) → Int → Int → Option ((List Y3) × Int)
  | 0, _, _, _ => none
  | k + 1, l1, n2, n3 => cond (decide (n3 < (l1.length : Int)))
        ((idx l1 n3).bind fun x9 => (upd l1 n3 (setF x9 0 n2)).bind fun l12 => (ck (n2 + 1)).bind fun n14 => (idx l12 n3).bind fun x16 => (upd l12 n3 (setF x16 1 n14)).bind fun l19 => (ck (n14 + 1)).bind fun n21 => (idx l19 n3).bind fun x23 => (upd l19 n3 (setF x23 2 n21)).bind fun l26 => (ck (n21 + 1)).bind fun n28 => (ck (n3 + 1)).bind fun n30 => laws_markRayS_l1 k l26 n28 n30)
        (some (l1, n2))

def laws_markRayS_m (p0 : List Y3) (p1 : Int) : Option (Int × (List Y3)) :=
  ((laws_markRayS_l1 4000000 p0 p1 0 : Option ((List Y3) × Int))).bind (fun s => (fun (l4 : List Y3) (n5 : Int) => some (n5, l4)) s.1 s.2)

def laws_szRaySS_l1 (p0 : List (List Y3)) : Nat → Int → Int → Option ((Int) ⊕ (Int))
  | 0, _, _ => none
  | k + 1, n3, n4 => cond (decide (n4 < (p0.length : Int)))
        ((idx p0 n4).bind fun x9 => (laws_szRayS_m x9 n3).bind fun y14 => cond (decide (y14 < 0))
        (some (Sum.inl (-1)))
        ((ck (n4 + 1)).bind fun n16 => laws_szRaySS_l1 p0 k y14 n16))
        (some (Sum.inr n3))

def laws_szRaySS_m (p0 : List (List Y3)) (p1 : Int) : Option (Int) :=
  (ck (p1 - (p0.length : Int))).bind fun n1 => cond (decide (n1 < 0))
        (some (-1))
        (((laws_szRaySS_l1 p0 4000000 n1 0 : Option ((Int) ⊕ (Int)))).bind (fun s => Sum.elim (fun rv => some rv) (fun n5 => some n5) s))

def laws_toRaySS_l1 (p0 : List (List Y3)) : Nat → (List (List Y3)) → Int → Option (List (List Y3))
  | 0, _, _ => none
  | k + 1, l5, n6 => cond (decide (n6 < (p0.length : Int)))
        ((idx p0 n6).bind fun x12 => (laws_toRayS_m x12).bind fun y17 => (idx l5 n6).bind fun x21 => (upd l5 n6 y17).bind fun l26 => (ck (n6 + 1)).bind fun n28 => laws_toRaySS_l1 p0 k l26 n28)
        (some l5)

def laws_toRaySS_m (p0 : List (List Y3)) : Option (List (List Y3)) :=
  (guardO (decide (0 ≤ (p0.length : Int) ∧ (p0.length : Int) < 1000000000))).bind fun _ => ((laws_toRaySS_l1 p0 4000000 (List.replicate ((p0.length : Int)).toNat ([] : List Y3)) 0 : Option (List (List Y3)))).bind (fun l8 => some l8)

def laws_eqRaySS_l1 (p0 : List (List Y3)) (p1 : List (List Y3)) : Nat → Int → Option ((Bool) ⊕ (Unit))
  | 0, _ => none
  | k + 1, n1 => cond (decide (n1 < (p0.length : Int)))
        ((idx p0 n1).bind fun x5 => (idx p1 n1).bind fun x10 => (laws_eqRayS_m x5 x10).bind fun y15 => cond (!y15)
        (some (Sum.inl false))
        ((ck (n1 + 1)).bind fun n17 => laws_eqRaySS_l1 p0 p1 k n17))
        (some (Sum.inr ()))

def laws_eqRaySS_m (p0 : List (List Y3)) (p1 : List (List Y3)) : Option (Bool) :=
  cond ((p0.length : Int) != (p1.length : Int))
        (some false)
        (((laws_eqRaySS_l1 p0 p1 4000000 0 : Option ((Bool) ⊕ (Unit)))).bind (fun s => Sum.elim (fun rv => some rv) (fun _ => some true) s))

def laws_markRaySS_l1 : Nat → (List (List Y3)) → Int → Int → Option ((List (List Y3)) × Int)
  | 0, _, _, _ => none
  | k + 1, l1, n2, n3 => cond (decide (n3 < (l1.length : Int)))
        ((idx l1 n3).bind fun x9 => (laws_markRayS_m x9 n2).bind fun y15 => (ck (n3 + 1)).bind fun n17 => laws_markRaySS_l1 k (l1.set (n3).toNat y15.2) y15.1 n17)
        (some (l1, n2))

def laws_markRaySS_m (p0 : List (List Y3)) (p1 : Int) : Option (Int × (List (List Y3))) :=
  ((laws_markRaySS_l1 4000000 p0 p1 0 : Option ((List (List Y3)) × Int))).bind (fun s => (fun (l4 : List (List Y3)) (n5 : Int) => some (n5, l4)) s.1 s.2)

end Go.Proofs.Ytaagklbiebogfaa
