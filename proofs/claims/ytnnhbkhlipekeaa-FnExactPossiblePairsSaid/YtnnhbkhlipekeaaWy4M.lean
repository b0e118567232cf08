/- The plain functions that mirror the code of this unit: none where the code would panic or overflow. Written by program (wip/gen). -/
import Derived.Test.YtnnhbkhlipekeaaMem
import Derived.Test.YtnnhbkhlipekeaaNumM
import Derived.Test.YtnnhbkhlipekeaaOwnM
namespace Go.Proofs.Ytnnhbkhlipekeaa
set_option linter.unusedVariables false

def spec_wyStart_l2 (p0 : Int) (n5 : Int) : Nat → (List Int) → Int → Option (List Int)
  | 0, _, _ => none
  | k + 1, l14, n15 => cond (decide (n15 < p0))
        (cond (n5 == n15)
        ((app l14 0).bind fun l21 => (ck (n15 + 1)).bind fun n25 => spec_wyStart_l2 p0 n5 k l21 n25)
        ((app l14 1000000000).bind fun l27 => (ck (n15 + 1)).bind fun n31 => spec_wyStart_l2 p0 n5 k l27 n31))
        (some l14)

def spec_wyStart_l1 (p0 : Int) : Nat → (List (List Int)) → Int → Option (List (List Int))
  | 0, _, _ => none
  | k + 1, l4, n5 => cond (decide (n5 < p0))
        (((spec_wyStart_l2 p0 n5 4000000 ([]) 0 : Option (List Int))).bind (fun l17 => (app l4 l17).bind fun l33 => (ck (n5 + 1)).bind fun n37 => spec_wyStart_l1 p0 k l33 n37))
        (some l4)

def spec_wyStart_m (p0 : Int) : Option (List (List Int)) :=
  ((spec_wyStart_l1 p0 4000000 ([]) 0 : Option (List (List Int)))).bind (fun l8 => some l8)

def spec_wyStep_l3 (p1 : List (List Int)) (j6 : Nat) (j14 : Nat) (x20 : List Int) : List (List Int) → Nat → (List (List Int)) → Option (List (List Int))
  | [], j22, l23 => some l23
  | x28 :: q27, j22, l23 => (idx l23 (j6 : Int)).bind fun x30 => (idx x30 (j22 : Int)).bind fun x40 => (idx p1 (j6 : Int)).bind fun x43 => (idx x43 (j14 : Int)).bind fun x49 => (idx x20 (j22 : Int)).bind fun x56 => (spec_nuPlus_m x49 x56).bind fun y59 => (spec_l1Least_m x40 y59).bind fun y61 => (upd x30 (j22 : Int) y61).bind fun l64 => spec_wyStep_l3 p1 j6 j14 x20 q27 (j22 + 1) (l23.set ((j6 : Int)).toNat l64)

def spec_wyStep_l2 (p0 : List (List Int)) (p1 : List (List Int)) (j6 : Nat) : List (List Int) → Nat → (List (List Int)) → Option (List (List Int))
  | [], j14, l15 => some l15
  | x20 :: q19, j14, l15 => ((spec_wyStep_l3 p1 j6 j14 x20 p0 0 l15 : Option (List (List Int)))).bind (fun l24 => spec_wyStep_l2 p0 p1 j6 q19 (j14 + 1) l24)

def spec_wyStep_l1 (p0 : List (List Int)) (p1 : List (List Int)) : List (List Int) → Nat → (List (List Int)) → Option (List (List Int))
  | [], j6, l7 => some l7
  | x12 :: q11, j6, l7 => ((spec_wyStep_l2 p0 p1 j6 p0 0 l7 : Option (List (List Int)))).bind (fun l16 => spec_wyStep_l1 p0 p1 q11 (j6 + 1) l16)

def spec_wyStep_m (p0 : List (List Int)) (p1 : List (List Int)) : Option (List (List Int)) :=
  (spec_mxOwn_m p1).bind fun y1 => ((spec_wyStep_l1 p0 p1 p0 0 y1 : Option (List (List Int)))).bind (fun l8 => some l8)

def spec_wySame_l1 (p1 : List (List Int)) : List (List Int) → Nat → Option ((Bool) ⊕ (Unit))
  | [], j1 => some (Sum.inr ())
  | x5 :: q4, j1 => (idx p1 (j1 : Int)).bind fun x10 => (spec_l1Same_m x5 x10).bind fun y15 => cond (!y15)
        (some (Sum.inl false))
        (spec_wySame_l1 p1 q4 (j1 + 1))

def spec_wySame_m (p0 : List (List Int)) (p1 : List (List Int)) : Option (Bool) :=
  ((spec_wySame_l1 p1 p0 0 : Option ((Bool) ⊕ (Unit)))).bind (fun s => Sum.elim (fun rv => some rv) (fun _ => some true) s)

def spec_wyCosts_l1 (p0 : List (List Int)) : List (List Int) → Nat → (List (List Int)) → Option (List (List Int))
  | [], j8, l11 => some l11
  | x18 :: q17, j8, l11 => (spec_wyStep_m p0 l11).bind fun y20 => spec_wyCosts_l1 p0 q17 (j8 + 1) y20

def spec_wyCosts_m (p0 : List (List Int)) : Option ((List (List Int)) × Bool) :=
  (spec_wyStart_m (p0.length : Int)).bind fun y1 => ((spec_wyCosts_l1 p0 p0 0 y1 : Option (List (List Int)))).bind (fun l14 => (spec_wyStep_m p0 l14).bind fun y26 => (spec_wySame_m l14 y26).bind fun y31 => some (l14, y31))

end Go.Proofs.Ytnnhbkhlipekeaa
