/- The plain functions that mirror the code of this unit: none where the code would panic or overflow. Written by program (wip/gen). -/
import Derived.Test.YtnnhbkhlipekeaaMem
import Derived.Test.YtnnhbkhlipekeaaNumM
import Derived.Test.YtnnhbkhlipekeaaWy4M
import Derived.Test.YtnnhbkhlipekeaaAs2M
namespace Go.Proofs.Ytnnhbkhlipekeaa
set_option linter.unusedVariables false

def spec_RegretOf_l1 (p0 : List (List Int)) (p1 : Int) (p2 : Int) : List (List Int) → Nat → Bool → Int → Option (Bool × Int)
  | [], j29, b30, n31 => some (b30, n31)
  | x37 :: q36, j29, b30, n31 => (spec_asCost_m p0 x37).bind fun y42 => (idx x37 p1).bind fun x44 => ((cond (x44 == p2) (((cond (!b30) (some true) (some (decide (y42 < n31))) : Option Bool)).bind fun b50 => some b50) (some false) : Option Bool)).bind fun b47 => cond b47
        (spec_RegretOf_l1 p0 p1 p2 q36 (j29 + 1) true y42)
        (spec_RegretOf_l1 p0 p1 p2 q36 (j29 + 1) b30 n31)

def spec_RegretOf_m (p0 : List (List Int)) (p1 : Int) (p2 : Int) : Option (Int × Bool) :=
  (spec_asAsked_m p0).bind fun y1 => ((cond (!y1) (some true) ((ck ((p0.length : Int) - 1)).bind fun n6 => (spec_l1In_m p1 0 n6).bind fun y8 => some (!y8)) : Option Bool)).bind fun b3 => ((cond b3 (some true) ((ck ((p0.length : Int) - 1)).bind fun n13 => (spec_l1In_m p2 0 n13).bind fun y15 => some (!y15)) : Option Bool)).bind fun b10 => cond b10
        (some (0, false))
        ((spec_asBest_m p0).bind fun y17 => (spec_asAll_m p0 ([])).bind fun y24 => ((spec_RegretOf_l1 p0 p1 p2 y24 0 false 0 : Option (Bool × Int))).bind (fun s => (fun (b32 : Bool) (n33 : Int) => cond (!b32)
        (some (0, false))
        ((ck (n33 - y17.2)).bind fun n53 => (spec_nuIf_m n53).bind fun y55 => some (y55.1, y55.2))) s.1 s.2))

def spec_SecondBest_l1 (p0 : List (List Int)) (y3 : (List (List Int)) × Int) : List (List Int) → Nat → Int → Bool → Option (Int × Bool)
  | [], j17, n18, b19 => some (n18, b19)
  | x25 :: q24, j17, n18, b19 => (idx y3.1 0).bind fun x30 => (spec_l1Same_m x25 x30).bind fun y35 => cond y35
        (spec_SecondBest_l1 p0 y3 q24 (j17 + 1) n18 b19)
        ((spec_asCost_m p0 x25).bind fun y37 => ((cond (!b19) (some true) (some (decide (y37 < n18))) : Option Bool)).bind fun b39 => cond b39
        (spec_SecondBest_l1 p0 y3 q24 (j17 + 1) y37 true)
        (spec_SecondBest_l1 p0 y3 q24 (j17 + 1) n18 b19))

def spec_SecondBest_m (p0 : List (List Int)) : Option (Int × Bool) :=
  (spec_asAsked_m p0).bind fun y1 => cond (!y1)
        (some (0, false))
        ((spec_asBest_m p0).bind fun y3 => cond (decide ((y3.1.length : Int) > 1))
        ((spec_nuIf_m y3.2).bind fun y9 => some (y9.1, y9.2))
        ((spec_asAll_m p0 ([])).bind fun y12 => ((spec_SecondBest_l1 p0 y3 y12 0 y3.2 false : Option (Int × Bool))).bind (fun s => (fun (n20 : Int) (b21 : Bool) => cond (!b21)
        (some (0, false))
        ((spec_nuIf_m n20).bind fun y42 => some (y42.1, y42.2))) s.1 s.2)))

def spec_ForcedPairs_l2 (j16 : Nat) (x26 : Int) : List (List Int) → Nat → Bool → Option (Bool)
  | [], j29, b30 => some b30
  | x35 :: q34, j29, b30 => ((cond b30 ((idx x35 (j16 : Int)).bind fun x43 => some (x43 == x26)) (some false) : Option Bool)).bind fun b40 => spec_ForcedPairs_l2 j16 x26 q34 (j29 + 1) b40

def spec_ForcedPairs_l1 (y4 : (List (List Int)) × Int) : List Int → Nat → (List (List Int)) → Option (List (List Int))
  | [], j16, l19 => some l19
  | x26 :: q25, j16, l19 => ((spec_ForcedPairs_l2 j16 x26 y4.1 0 true : Option (Bool))).bind (fun b31 => cond b31
        ((app l19 ([(j16 : Int), x26])).bind fun l48 => spec_ForcedPairs_l1 y4 q25 (j16 + 1) l48)
        (spec_ForcedPairs_l1 y4 q25 (j16 + 1) l19))

def spec_ForcedPairs_m (p0 : List (List Int)) : Option ((List (List Int)) × Bool) :=
  (spec_asAsked_m p0).bind fun y1 => cond (!y1)
        (some ([], false))
        ((spec_asBest_m p0).bind fun y4 => (idx y4.1 0).bind fun x11 => ((spec_ForcedPairs_l1 y4 x11 0 ([]) : Option (List (List Int)))).bind (fun l22 => some (l22, true)))

def spec_ceBefore_l1 (p1 : List Int) : List Int → Nat → Option ((Bool) ⊕ (Unit))
  | [], j1 => some (Sum.inr ())
  | x5 :: q4, j1 => ((cond ((j1 : Int) == (p1.length : Int)) (some true) ((idx p1 (j1 : Int)).bind fun x11 => some (x5 != x11)) : Option Bool)).bind fun b8 => cond b8
        (((cond (decide ((j1 : Int) < (p1.length : Int))) ((idx p1 (j1 : Int)).bind fun x17 => some (decide (x5 < x17))) (some false) : Option Bool)).bind fun b14 => some (Sum.inl b14))
        (spec_ceBefore_l1 p1 q4 (j1 + 1))

def spec_ceBefore_m (p0 : List Int) (p1 : List Int) : Option (Bool) :=
  ((spec_ceBefore_l1 p1 p0 0 : Option ((Bool) ⊕ (Unit)))).bind (fun s => Sum.elim (fun rv => some rv) (fun _ => some (decide ((p0.length : Int) < (p1.length : Int)))) s)

def spec_cePut_l1 (p0 : List (List Int)) (p1 : List Int) : Nat → Int → Option (Int)
  | 0, _ => none
  | k + 1, n1 => ((cond (decide (n1 < (p0.length : Int))) ((idx p0 n1).bind fun x9 => (spec_ceBefore_m x9 p1).bind fun y14 => some y14) (some false) : Option Bool)).bind fun b6 => cond b6
        ((ck (n1 + 1)).bind fun n16 => spec_cePut_l1 p0 p1 k n16)
        (some n1)

def spec_cePut_m (p0 : List (List Int)) (p1 : List Int) : Option (List (List Int)) :=
  ((spec_cePut_l1 p0 p1 4000000 0 : Option (Int))).bind (fun n2 => ((cond (decide (n2 < (p0.length : Int))) ((idx p0 n2).bind fun x21 => (spec_l1Same_m x21 p1).bind fun y26 => some y26) (some false) : Option Bool)).bind fun b18 => cond b18
        (some p0)
        ((((cutO p0 n2).bind fun l33 => (cutL p0 n2).bind fun l38 => (appS ([]) l33).bind fun l5044 => (appS l5044 ([p1])).bind fun l8044 => (appS l8044 l38).bind fun l12044 => some l12044 : Option (List (List Int)))).bind (fun l30 => some l30)))

def spec_PossiblePairs_l2 : List Int → Nat → (List (List Int)) → Option (List (List Int))
  | [], j26, l29 => some l29
  | x36 :: q35, j26, l29 => (spec_cePut_m l29 ([(j26 : Int), x36])).bind fun y41 => spec_PossiblePairs_l2 q35 (j26 + 1) y41

def spec_PossiblePairs_l1 : List (List Int) → Nat → (List (List Int)) → Option (List (List Int))
  | [], j11, l14 => some l14
  | x21 :: q20, j11, l14 => ((spec_PossiblePairs_l2 x21 0 l14 : Option (List (List Int)))).bind (fun l32 => spec_PossiblePairs_l1 q20 (j11 + 1) l32)

def spec_PossiblePairs_m (p0 : List (List Int)) : Option ((List (List Int)) × Bool) :=
  (spec_asAsked_m p0).bind fun y1 => cond (!y1)
        (some ([], false))
        ((spec_asBest_m p0).bind fun y4 => ((spec_PossiblePairs_l1 y4.1 0 ([]) : Option (List (List Int)))).bind (fun l17 => some (l17, true)))

def spec_asRows_l2 (x7 : List Int) (j13 : Nat) (x23 : List Int) : List (List Int) → Nat → (List Int) → Option (List Int)
  | [], j26, l28 => some l28
  | x34 :: q33, j26, l28 => (idx x7 (j13 : Int)).bind fun x40 => (idx x34 x40).bind fun x43 => (idx x23 x40).bind fun x51 => (ck (-x51)).bind fun n54 => (spec_nuPlus_m x43 n54).bind fun y56 => (appS l28 ([y56])).bind fun l60 => spec_asRows_l2 x7 j13 x23 q33 (j26 + 1) l60

def spec_asRows_l1 (p0 : List (List Int)) (x7 : List Int) : List (List Int) → Nat → (List (List Int)) → Option (List (List Int))
  | [], j13, l16 => some l16
  | x23 :: q22, j13, l16 => ((spec_asRows_l2 x7 j13 x23 p0 0 ([]) : Option (List Int))).bind (fun l30 => (app l16 l30).bind fun l63 => spec_asRows_l1 p0 x7 q22 (j13 + 1) l63)

def spec_asRows_l4 (y67 : (List (List Int)) × Bool) (j74 : Nat) : List (List Int) → Nat → Int → Option (Int)
  | [], j84, n85 => some n85
  | x90 :: q89, j84, n85 => (idx y67.1 (j84 : Int)).bind fun x92 => (idx x92 (j74 : Int)).bind fun x97 => (spec_l1Least_m n85 x97).bind fun y100 => spec_asRows_l4 y67 j74 q89 (j84 + 1) y100

def spec_asRows_l3 (p0 : List (List Int)) (y67 : (List (List Int)) × Bool) : List (List Int) → Nat → (List Int) → Option (List Int)
  | [], j74, l76 => some l76
  | x82 :: q81, j74, l76 => ((spec_asRows_l4 y67 j74 p0 0 0 : Option (Int))).bind (fun n86 => (app l76 n86).bind fun l102 => spec_asRows_l3 p0 y67 q81 (j74 + 1) l102)

def spec_asRows_m (p0 : List (List Int)) : Option ((List Int) × (List Int)) :=
  (spec_asBest_m p0).bind fun y1 => (idx y1.1 0).bind fun x7 => ((spec_asRows_l1 p0 x7 p0 0 ([]) : Option (List (List Int)))).bind (fun l19 => (spec_wyCosts_m l19).bind fun y67 => ((spec_asRows_l3 p0 y67 p0 0 ([]) : Option (List Int))).bind (fun l78 => some (l78, x7)))

def spec_RowPrices_m (p0 : List (List Int)) : Option ((List Int) × Bool) :=
  (spec_asAsked_m p0).bind fun y1 => cond (!y1)
        (some ([], false))
        ((spec_asRows_m p0).bind fun y4 => (spec_l1All_m y4.1 (-1000000) 1000000).bind fun y11 => cond (!y11)
        (some ([], false))
        (some (y4.1, true)))

def spec_ColumnPrices_l1 (p0 : List (List Int)) (y4 : (List Int) × (List Int)) : List Int → Nat → (List Int) → Option (List Int)
  | [], j14, l15 => some l15
  | x20 :: q19, j14, l15 => (idx p0 (j14 : Int)).bind fun x23 => (idx x23 x20).bind fun x29 => (idx y4.1 (j14 : Int)).bind fun x32 => (ck (x29 - x32)).bind fun n35 => (idx l15 x20).bind fun x37 => (upd l15 x20 n35).bind fun l40 => spec_ColumnPrices_l1 p0 y4 q19 (j14 + 1) l40

def spec_ColumnPrices_m (p0 : List (List Int)) : Option ((List Int) × Bool) :=
  (spec_asAsked_m p0).bind fun y1 => cond (!y1)
        (some ([], false))
        ((spec_asRows_m p0).bind fun y4 => (guardO (decide (0 ≤ (p0.length : Int) ∧ (p0.length : Int) < 1000000000))).bind fun _ => ((spec_ColumnPrices_l1 p0 y4 y4.2 0 (List.replicate ((p0.length : Int)).toNat (0 : Int)) : Option (List Int))).bind (fun l16 => (spec_l1All_m l16 (-1000000) 1000000).bind fun y42 => cond (!y42)
        (some ([], false))
        (some (l16, true))))

end Go.Proofs.Ytnnhbkhlipekeaa
