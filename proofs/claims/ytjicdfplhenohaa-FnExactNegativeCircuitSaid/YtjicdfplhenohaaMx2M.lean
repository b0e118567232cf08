/- The plain functions that mirror the code of this unit: none where the code would panic or overflow. Written by program (wip/gen). -/
import Derived.Test.YtjicdfplhenohaaMem
import Derived.Test.YtjicdfplhenohaaNumM
import Derived.Test.YtjicdfplhenohaaMatM
import Derived.Test.YtjicdfplhenohaaOwnM
namespace Go.Proofs.Ytjicdfplhenohaa
set_option linter.unusedVariables false

def spec_SumOfMatrices_l2 (j31 : Nat) : List Int → Nat → (List (List Int)) → Option (List (List Int))
  | [], j42, l41 => some l41
  | x47 :: q46, j42, l41 => (idx l41 (j31 : Int)).bind fun x50 => (idx x50 (j42 : Int)).bind fun x60 => (spec_l1Least_m x60 x47).bind fun y63 => (upd x50 (j42 : Int) y63).bind fun l66 => spec_SumOfMatrices_l2 j31 q46 (j42 + 1) (l41.set ((j31 : Int)).toNat l66)

def spec_SumOfMatrices_l1 : List (List Int) → Nat → (List (List Int)) → Option (List (List Int))
  | [], j31, l30 => some l30
  | x36 :: q35, j31, l30 => ((spec_SumOfMatrices_l2 j31 x36 0 l30 : Option (List (List Int)))).bind (fun l43 => spec_SumOfMatrices_l1 q35 (j31 + 1) l43)

def spec_SumOfMatrices_m (p0 : List (List Int)) (p1 : List (List Int)) : Option ((List (List Int)) × Bool) :=
  (spec_mxGood_m p0).bind fun y1 => ((cond (!y1) (some true) ((spec_mxGood_m p1).bind fun y6 => some (!y6)) : Option Bool)).bind fun b3 => ((cond b3 (some true) (some ((p0.length : Int) != (p1.length : Int))) : Option Bool)).bind fun b8 => ((cond b8 (some true) ((idx p0 0).bind fun x14 => (idx p1 0).bind fun x19 => some ((x14.length : Int) != (x19.length : Int))) : Option Bool)).bind fun b11 => cond b11
        (some ([], false))
        ((spec_mxOwn_m p0).bind fun y25 => ((spec_SumOfMatrices_l1 p1 0 y25 : Option (List (List Int)))).bind (fun l32 => some (l32, true)))

def impl_SumOfMatrices_l2 (j31 : Nat) : List Int → Nat → (List (List Int)) → Option (List (List Int))
  | [], j42, l41 => some l41
  | x47 :: q46, j42, l41 => (idx l41 (j31 : Int)).bind fun x50 => (idx x50 (j42 : Int)).bind fun x60 => (upd x50 (j42 : Int) (min x60 x47)).bind fun l64 => impl_SumOfMatrices_l2 j31 q46 (j42 + 1) (l41.set ((j31 : Int)).toNat l64)

def impl_SumOfMatrices_l1 : List (List Int) → Nat → (List (List Int)) → Option (List (List Int))
  | [], j31, l30 => some l30
  | x36 :: q35, j31, l30 => ((impl_SumOfMatrices_l2 j31 x36 0 l30 : Option (List (List Int)))).bind (fun l43 => impl_SumOfMatrices_l1 q35 (j31 + 1) l43)

def impl_SumOfMatrices_m (p0 : List (List Int)) (p1 : List (List Int)) : Option ((List (List Int)) × Bool) :=
  (impl_isMatrix_m p0).bind fun y1 => ((cond (!y1) (some true) ((impl_isMatrix_m p1).bind fun y6 => some (!y6)) : Option Bool)).bind fun b3 => ((cond b3 (some true) (some ((p0.length : Int) != (p1.length : Int))) : Option Bool)).bind fun b8 => ((cond b8 (some true) ((idx p0 0).bind fun x14 => (idx p1 0).bind fun x19 => some ((x14.length : Int) != (x19.length : Int))) : Option Bool)).bind fun b11 => cond b11
        (some ([], false))
        ((impl_clones_m p0).bind fun y25 => ((impl_SumOfMatrices_l1 p1 0 y25 : Option (List (List Int)))).bind (fun l32 => some (l32, true)))

def spec_mxApply_l2 (p1 : List Int) : List Int → Nat → Int → Option (Int)
  | [], j16, n15 => some n15
  | x21 :: q20, j16, n15 => (idx p1 (j16 : Int)).bind fun x24 => (spec_nuPlus_m x21 x24).bind fun y27 => (spec_l1Least_m n15 y27).bind fun y29 => spec_mxApply_l2 p1 q20 (j16 + 1) y29

def spec_mxApply_l1 (p1 : List Int) : List (List Int) → Nat → (List Int) → Option (((List Int) × Bool) ⊕ (List Int))
  | [], j4, l3 => some (Sum.inr l3)
  | x10 :: q9, j4, l3 => ((spec_mxApply_l2 p1 x10 0 1000000000 : Option (Int))).bind (fun n17 => (spec_nuGood_m n17).bind fun y31 => cond (!y31)
        (some (Sum.inl ([], false)))
        ((app l3 n17).bind fun l34 => spec_mxApply_l1 p1 q9 (j4 + 1) l34))

def spec_mxApply_m (p0 : List (List Int)) (p1 : List Int) : Option ((List Int) × Bool) :=
  ((spec_mxApply_l1 p1 p0 0 ([]) : Option (((List Int) × Bool) ⊕ (List Int)))).bind (fun s => Sum.elim (fun rv => some rv) (fun l6 => some (l6, true)) s)

def impl_applied_l1 (p1 : List Int) : List (List Int) → Nat → (List Int) → Option (List Int)
  | [], j5, l4 => some l4
  | x11 :: q10, j5, l4 => (impl_dot_m x11 p1).bind fun y16 => (app l4 y16).bind fun l18 => impl_applied_l1 p1 q10 (j5 + 1) l18

def impl_applied_m (p0 : List (List Int)) (p1 : List Int) : Option (List Int) :=
  ((impl_applied_l1 p1 p0 0 ([]) : Option (List Int))).bind (fun l7 => some l7)

def spec_ApplyMatrix_m (p0 : List (List Int)) (p1 : List Int) : Option ((List Int) × Bool) :=
  (spec_mxGood_m p0).bind fun y1 => ((cond (!y1) (some true) ((spec_mxVector_m p1).bind fun y6 => some (!y6)) : Option Bool)).bind fun b3 => ((cond b3 (some true) ((idx p0 0).bind fun x11 => some ((p1.length : Int) != (x11.length : Int))) : Option Bool)).bind fun b8 => cond b8
        (some ([], false))
        ((spec_mxApply_m p0 p1).bind fun y17 => some (y17.1, y17.2))

def impl_ApplyMatrix_m (p0 : List (List Int)) (p1 : List Int) : Option ((List Int) × Bool) :=
  (impl_isMatrix_m p0).bind fun y1 => ((cond (!y1) (some true) ((impl_isVector_m p1).bind fun y6 => some (!y6)) : Option Bool)).bind fun b3 => ((cond b3 (some true) ((idx p0 0).bind fun x11 => some ((x11.length : Int) != (p1.length : Int))) : Option Bool)).bind fun b8 => cond b8
        (some ([], false))
        ((impl_applied_m p0 p1).bind fun y17 => (impl_toldList_m y17).bind fun y21 => some ((cond y21.1 y17 []), y21.2))

def spec_ShiftMatrix_l2 (p1 : Int) (j18 : Nat) : List Int → Nat → (List (List Int)) → Option (((List (List Int)) × Bool) ⊕ (List (List Int)))
  | [], j29, l28 => some (Sum.inr l28)
  | x34 :: q33, j29, l28 => (spec_nuMul_m x34 p1).bind fun y37 => cond (!y37.2)
        (some (Sum.inl ([], false)))
        ((idx l28 (j18 : Int)).bind fun x40 => (idx x40 (j29 : Int)).bind fun x45 => (upd x40 (j29 : Int) y37.1).bind fun l48 => spec_ShiftMatrix_l2 p1 j18 q33 (j29 + 1) (l28.set ((j18 : Int)).toNat l48))

def spec_ShiftMatrix_l1 (p1 : Int) : List (List Int) → Nat → (List (List Int)) → Option (((List (List Int)) × Bool) ⊕ (List (List Int)))
  | [], j18, l17 => some (Sum.inr l17)
  | x23 :: q22, j18, l17 => ((spec_ShiftMatrix_l2 p1 j18 x23 0 l17 : Option (((List (List Int)) × Bool) ⊕ (List (List Int))))).bind (fun s => Sum.elim (fun rv => some (Sum.inl rv)) (fun l30 => spec_ShiftMatrix_l1 p1 q22 (j18 + 1) l30) s)

def spec_ShiftMatrix_m (p0 : List (List Int)) (p1 : Int) : Option ((List (List Int)) × Bool) :=
  (spec_mxGood_m p0).bind fun y1 => ((cond (!y1) (some true) ((spec_nuGood_m p1).bind fun y6 => some (!y6)) : Option Bool)).bind fun b3 => ((cond b3 (some true) (some (p1 == 1000000000)) : Option Bool)).bind fun b8 => cond b8
        (some ([], false))
        ((spec_mxOwn_m p0).bind fun y12 => ((spec_ShiftMatrix_l1 p1 p0 0 y12 : Option (((List (List Int)) × Bool) ⊕ (List (List Int))))).bind (fun s => Sum.elim (fun rv => some rv) (fun l19 => some (l19, true)) s))

def impl_ShiftMatrix_l1 (p1 : Int) : List (List Int) → Nat → (List (List Int)) → Option (List (List Int))
  | [], j14, l13 => some l13
  | x21 :: q20, j14, l13 => (impl_shifted_m x21 p1).bind fun y26 => (app l13 y26).bind fun l30 => impl_ShiftMatrix_l1 p1 q20 (j14 + 1) l30

def impl_ShiftMatrix_m (p0 : List (List Int)) (p1 : Int) : Option ((List (List Int)) × Bool) :=
  (impl_isMatrix_m p0).bind fun y1 => ((cond (!y1) (some true) ((impl_isFinite_m p1).bind fun y6 => some (!y6)) : Option Bool)).bind fun b3 => cond b3
        (some ([], false))
        (((impl_ShiftMatrix_l1 p1 p0 0 ([]) : Option (List (List Int)))).bind (fun l17 => (impl_toldMatrix_m l17).bind fun y34 => some ((cond y34.1 l17 []), y34.2)))

def spec_mxMul_l3 (p1 : List (List Int)) (j25 : Nat) : List Int → Nat → Int → Option (Int)
  | [], j34, n33 => some n33
  | x39 :: q38, j34, n33 => (idx p1 (j34 : Int)).bind fun x42 => (idx x42 (j25 : Int)).bind fun x47 => (spec_nuPlus_m x39 x47).bind fun y50 => (spec_l1Least_m n33 y50).bind fun y52 => spec_mxMul_l3 p1 j25 q38 (j34 + 1) y52

def spec_mxMul_l2 (p1 : List (List Int)) (x12 : List Int) : List Int → Nat → (List Int) → Option (((List (List Int)) × Bool) ⊕ (List Int))
  | [], j25, l24 => some (Sum.inr l24)
  | x31 :: q30, j25, l24 => ((spec_mxMul_l3 p1 j25 x12 0 1000000000 : Option (Int))).bind (fun n35 => (spec_nuGood_m n35).bind fun y54 => cond (!y54)
        (some (Sum.inl ([], false)))
        ((app l24 n35).bind fun l57 => spec_mxMul_l2 p1 x12 q30 (j25 + 1) l57))

def spec_mxMul_l1 (p1 : List (List Int)) : List (List Int) → Nat → (List (List Int)) → Option (((List (List Int)) × Bool) ⊕ (List (List Int)))
  | [], j5, l4 => some (Sum.inr l4)
  | x12 :: q11, j5, l4 => (idx p1 0).bind fun x18 => ((spec_mxMul_l2 p1 x12 x18 0 ([]) : Option (((List (List Int)) × Bool) ⊕ (List Int)))).bind (fun s => Sum.elim (fun rv => some (Sum.inl rv)) (fun l27 => (app l4 l27).bind fun l61 => spec_mxMul_l1 p1 q11 (j5 + 1) l61) s)

def spec_mxMul_m (p0 : List (List Int)) (p1 : List (List Int)) : Option ((List (List Int)) × Bool) :=
  ((spec_mxMul_l1 p1 p0 0 ([]) : Option (((List (List Int)) × Bool) ⊕ (List (List Int))))).bind (fun s => Sum.elim (fun rv => some rv) (fun l8 => some (l8, true)) s)

def impl_multiplied_l2 (x18 : List Int) : List (List Int) → Nat → (List Int) → Option (List Int)
  | [], j27, l26 => some l26
  | x33 :: q32, j27, l26 => (impl_dot_m x18 x33).bind fun y38 => (app l26 y38).bind fun l40 => impl_multiplied_l2 x18 q32 (j27 + 1) l40

def impl_multiplied_l1 (y1 : List (List Int)) : List (List Int) → Nat → (List (List Int)) → Option (List (List Int))
  | [], j11, l10 => some l10
  | x18 :: q17, j11, l10 => ((impl_multiplied_l2 x18 y1 0 ([]) : Option (List Int))).bind (fun l29 => (app l10 l29).bind fun l44 => impl_multiplied_l1 y1 q17 (j11 + 1) l44)

def impl_multiplied_m (p0 : List (List Int)) (p1 : List (List Int)) : Option (List (List Int)) :=
  (impl_transposed_m p1).bind fun y1 => ((impl_multiplied_l1 y1 p0 0 ([]) : Option (List (List Int)))).bind (fun l14 => some l14)

def spec_MultiplyMatrices_m (p0 : List (List Int)) (p1 : List (List Int)) : Option ((List (List Int)) × Bool) :=
  (spec_mxGood_m p0).bind fun y1 => ((cond (!y1) (some true) ((spec_mxGood_m p1).bind fun y6 => some (!y6)) : Option Bool)).bind fun b3 => ((cond b3 (some true) ((idx p0 0).bind fun x11 => some ((x11.length : Int) != (p1.length : Int))) : Option Bool)).bind fun b8 => cond b8
        (some ([], false))
        ((spec_mxMul_m p0 p1).bind fun y17 => some (y17.1, y17.2))

def impl_MultiplyMatrices_m (p0 : List (List Int)) (p1 : List (List Int)) : Option ((List (List Int)) × Bool) :=
  (impl_isMatrix_m p0).bind fun y1 => ((cond (!y1) (some true) ((impl_isMatrix_m p1).bind fun y6 => some (!y6)) : Option Bool)).bind fun b3 => ((cond b3 (some true) ((idx p0 0).bind fun x11 => some ((x11.length : Int) != (p1.length : Int))) : Option Bool)).bind fun b8 => cond b8
        (some ([], false))
        ((impl_multiplied_m p0 p1).bind fun y17 => (impl_toldMatrix_m y17).bind fun y22 => some ((cond y22.1 y17 []), y22.2))

def spec_mxPower_l1 (p0 : List (List Int)) : Nat → (List (List Int)) → Int → Option (((List (List Int)) × Bool) ⊕ (List (List Int)))
  | 0, _, _ => none
  | k + 1, l10, n11 => cond (decide (n11 > 0))
        ((spec_mxMul_m l10 p0).bind fun y18 => cond (!y18.2)
        (some (Sum.inl ([], false)))
        ((ck (n11 - 1)).bind fun n25 => spec_mxPower_l1 p0 k y18.1 n25))
        (some (Sum.inr l10))

def spec_mxPower_m (p0 : List (List Int)) (p1 : Int) : Option ((List (List Int)) × Bool) :=
  (spec_mxUnit_m (p0.length : Int)).bind fun y1 => ((spec_mxPower_l1 p0 4000000 y1 p1 : Option (((List (List Int)) × Bool) ⊕ (List (List Int))))).bind (fun s => Sum.elim (fun rv => some rv) (fun l14 => some (l14, true)) s)

def spec_PowerOfMatrix_m (p0 : List (List Int)) (p1 : Int) : Option ((List (List Int)) × Bool) :=
  (spec_mxSquare_m p0).bind fun y1 => ((cond (!y1) (some true) ((spec_l1In_m p1 0 20).bind fun y6 => some (!y6)) : Option Bool)).bind fun b3 => cond b3
        (some ([], false))
        ((spec_mxPower_m p0 p1).bind fun y9 => some (y9.1, y9.2))

def impl_PowerOfMatrix_l1 (p0 : List (List Int)) : Nat → Nat → (List (List Int)) → Option (((List (List Int)) × Bool) ⊕ (List (List Int)))
  | 0, j19, l18 => some (Sum.inr l18)
  | q25 + 1, j19, l18 => (impl_multiplied_m l18 p0).bind fun y26 => (impl_isMatrix_m y26).bind fun y31 => cond (!y31)
        (some (Sum.inl ([], false)))
        (impl_PowerOfMatrix_l1 p0 q25 (j19 + 1) y26)

def impl_PowerOfMatrix_m (p0 : List (List Int)) (p1 : Int) : Option ((List (List Int)) × Bool) :=
  (impl_isSquare_m p0).bind fun y1 => ((cond (!y1) (some true) ((impl_within_m p1 0 20).bind fun y6 => some (!y6)) : Option Bool)).bind fun b3 => cond b3
        (some ([], false))
        ((impl_unit_m (p0.length : Int)).bind fun y9 => (((ck p1).bind fun _ => impl_PowerOfMatrix_l1 p0 ((p1 - (0 : Nat) : Int).toNat) 0 y9 : Option (((List (List Int)) × Bool) ⊕ (List (List Int))))).bind (fun s => Sum.elim (fun rv => some rv) (fun l22 => some (l22, true)) s))

end Go.Proofs.Ytjicdfplhenohaa
