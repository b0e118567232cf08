/- The plain functions that mirror the code of this unit: none where the code would panic or overflow. Written by program (wip/gen). -/
import Derived.Test.YtaagklbiebogfaaMem
import Derived.Test.YtaagklbiebogfaaNumM
import Derived.Test.YtaagklbiebogfaaMatM
import Derived.Test.YtaagklbiebogfaaRk1M
import Derived.Test.YtaagklbiebogfaaOwnM
namespace Go.Proofs.Ytaagklbiebogfaa
set_option linter.unusedVariables false

def spec_RankOneParts_l1 : List (List Int) → Nat → (List Int) → Option (List Int)
  | [], j12, l14 => some l14
  | x20 :: q19, j12, l14 => (idx x20 0).bind fun x25 => (app l14 x25).bind fun l28 => spec_RankOneParts_l1 q19 (j12 + 1) l28

def spec_RankOneParts_l2 (x32 : List Int) : List Int → Nat → (List Int) → Option (List Int)
  | [], j37, l39 => some l39
  | x45 :: q44, j37, l39 => (idx x32 0).bind fun x51 => (ck (x45 - x51)).bind fun n54 => (app l39 n54).bind fun l56 => spec_RankOneParts_l2 x32 q44 (j37 + 1) l56

def spec_RankOneParts_m (p0 : List (List Int)) : Option ((List Int) × (List Int) × Bool) :=
  (spec_mxGood_m p0).bind fun y1 => ((cond (!y1) (some true) ((spec_rkOne_m p0).bind fun y6 => some (!y6)) : Option Bool)).bind fun b3 => cond b3
        (some ([], [], false))
        (((spec_RankOneParts_l1 p0 0 ([]) : Option (List Int))).bind (fun l16 => (idx p0 0).bind fun x32 => ((spec_RankOneParts_l2 x32 x32 0 ([]) : Option (List Int))).bind (fun l41 => some (l16, l41, true))))

def impl_RankOneParts_m (p0 : List (List Int)) : Option ((List Int) × (List Int) × Bool) :=
  (impl_isMatrix_m p0).bind fun y1 => ((cond (!y1) (some true) ((impl_isRankOne_m p0).bind fun y6 => some (!y6)) : Option Bool)).bind fun b3 => cond b3
        (some ([], [], false))
        ((idx p0 0).bind fun x10 => (idx x10 0).bind fun x20 => (ck (-x20)).bind fun n23 => (impl_transposed_m p0).bind fun y25 => (idx y25 0).bind fun x30 => (slices_Clone_int_int_m x30).bind fun y35 => (impl_shifted_m x10 n23).bind fun y39 => some (y35, y39, true))

def spec_l1Rising_l1 (p0 : List Int) (p1 : Int) (p2 : Int) : List Int → Nat → Option ((Bool) ⊕ (Unit))
  | [], j1 => some (Sum.inr ())
  | x5 :: q4, j1 => (spec_l1In_m x5 p1 p2).bind fun y8 => ((cond (!y8) (some true) (((cond (decide ((j1 : Int) > 0)) ((ck ((j1 : Int) - 1)).bind fun n16 => (idx p0 n16).bind fun x18 => some (decide (x18 ≥ x5))) (some false) : Option Bool)).bind fun b13 => some b13) : Option Bool)).bind fun b10 => cond b10
        (some (Sum.inl false))
        (spec_l1Rising_l1 p0 p1 p2 q4 (j1 + 1))

def spec_l1Rising_m (p0 : List Int) (p1 : Int) (p2 : Int) : Option (Bool) :=
  ((spec_l1Rising_l1 p0 p1 p2 p0 0 : Option ((Bool) ⊕ (Unit)))).bind (fun s => Sum.elim (fun rv => some rv) (fun _ => some true) s)

def spec_rkPart_l2 (p0 : List (List Int)) (x12 : Int) : List Int → Nat → (List Int) → Option (List Int)
  | [], j16, l18 => some l18
  | x24 :: q23, j16, l18 => (idx p0 x12).bind fun x27 => (idx x27 x24).bind fun x32 => (app l18 x32).bind fun l35 => spec_rkPart_l2 p0 x12 q23 (j16 + 1) l35

def spec_rkPart_l1 (p0 : List (List Int)) (p2 : List Int) : List Int → Nat → (List (List Int)) → Option (List (List Int))
  | [], j2, l5 => some l5
  | x12 :: q11, j2, l5 => ((spec_rkPart_l2 p0 x12 p2 0 ([]) : Option (List Int))).bind (fun l20 => (app l5 l20).bind fun l39 => spec_rkPart_l1 p0 p2 q11 (j2 + 1) l39)

def spec_rkPart_m (p0 : List (List Int)) (p1 : List Int) (p2 : List Int) : Option (List (List Int)) :=
  ((spec_rkPart_l1 p0 p2 p1 0 ([]) : Option (List (List Int)))).bind (fun l8 => some l8)

def spec_PartOf_m (p0 : List (List Int)) (p1 : List Int) (p2 : List Int) : Option ((List (List Int)) × Bool) :=
  (spec_mxGood_m p0).bind fun y1 => ((cond (!y1) (some true) (some ((p1.length : Int) == 0)) : Option Bool)).bind fun b3 => ((cond b3 (some true) (some ((p2.length : Int) == 0)) : Option Bool)).bind fun b6 => ((cond b6 (some true) ((ck ((p0.length : Int) - 1)).bind fun n12 => (spec_l1Rising_m p1 0 n12).bind fun y14 => some (!y14)) : Option Bool)).bind fun b9 => ((cond b9 (some true) ((idx p0 0).bind fun x19 => (ck ((x19.length : Int) - 1)).bind fun n24 => (spec_l1Rising_m p2 0 n24).bind fun y26 => some (!y26)) : Option Bool)).bind fun b16 => cond b16
        (some ([], false))
        ((spec_rkPart_m p0 p1 p2).bind fun y29 => some (y29, true))

def impl_areIndices_l1 (p0 : List Int) (p1 : Int) : List Int → Nat → Option ((Bool) ⊕ (Unit))
  | [], j1 => some (Sum.inr ())
  | x5 :: q4, j1 => (ck (p1 - 1)).bind fun n8 => (impl_within_m x5 0 n8).bind fun y10 => ((cond (!y10) (some true) (((cond (decide ((j1 : Int) > 0)) ((ck ((j1 : Int) - 1)).bind fun n18 => (idx p0 n18).bind fun x20 => some (decide (x20 ≥ x5))) (some false) : Option Bool)).bind fun b15 => some b15) : Option Bool)).bind fun b12 => cond b12
        (some (Sum.inl false))
        (impl_areIndices_l1 p0 p1 q4 (j1 + 1))

def impl_areIndices_m (p0 : List Int) (p1 : Int) : Option (Bool) :=
  ((impl_areIndices_l1 p0 p1 p0 0 : Option ((Bool) ⊕ (Unit)))).bind (fun s => Sum.elim (fun rv => some rv) (fun _ => some (decide ((p0.length : Int) > 0))) s)

def impl_partOf_l2 (p0 : List (List Int)) (x13 : Int) : List Int → Nat → (List Int) → Option (List Int)
  | [], j18, l20 => some l20
  | x26 :: q25, j18, l20 => (idx p0 x13).bind fun x29 => (idx x29 x26).bind fun x34 => (app l20 x34).bind fun l37 => impl_partOf_l2 p0 x13 q25 (j18 + 1) l37

def impl_partOf_l1 (p0 : List (List Int)) (p2 : List Int) : List Int → Nat → (List (List Int)) → Option (List (List Int))
  | [], j3, l6 => some l6
  | x13 :: q12, j3, l6 => ((impl_partOf_l2 p0 x13 p2 0 ([]) : Option (List Int))).bind (fun l22 => (app l6 l22).bind fun l41 => impl_partOf_l1 p0 p2 q12 (j3 + 1) l41)

def impl_partOf_m (p0 : List (List Int)) (p1 : List Int) (p2 : List Int) : Option (List (List Int)) :=
  ((impl_partOf_l1 p0 p2 p1 0 ([]) : Option (List (List Int)))).bind (fun l9 => some l9)

def impl_PartOf_m (p0 : List (List Int)) (p1 : List Int) (p2 : List Int) : Option ((List (List Int)) × Bool) :=
  (impl_isMatrix_m p0).bind fun y1 => ((cond (!y1) (some true) ((impl_areIndices_m p1 (p0.length : Int)).bind fun y6 => some (!y6)) : Option Bool)).bind fun b3 => ((cond b3 (some true) ((idx p0 0).bind fun x11 => (impl_areIndices_m p2 (x11.length : Int)).bind fun y16 => some (!y16)) : Option Bool)).bind fun b8 => cond b8
        (some ([], false))
        ((impl_partOf_m p0 p1 p2).bind fun y19 => some (y19, true))

end Go.Proofs.Ytaagklbiebogfaa
