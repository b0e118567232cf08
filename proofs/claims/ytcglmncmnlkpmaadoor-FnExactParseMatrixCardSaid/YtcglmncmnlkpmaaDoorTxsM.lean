/- The plain functions that mirror the code of this unit: none where the code would panic or overflow. Written by program (wip/gen). -/
import Derived.Test.YtcglmncmnlkpmaaDoorTx2
import Derived.Test.YtcglmncmnlkpmaaDoorMatM
namespace Go.Proofs.YtcglmncmnlkpmaaDoor
set_option linter.unusedVariables false

def spec_l1Num_b (rec : Int → Option (List UInt8)) (p0 : Int) : Option (List UInt8) :=
  cond (decide (p0 < 10))
        ((ck (48 + p0)).bind fun n1 => (ckb n1).bind fun n3 => some (([n3]).map byteOf))
        ((quoO p0 10).bind fun n7 => (rec n7).bind fun y9 => (remO p0 10).bind fun n11 => (ck (48 + n11)).bind fun n13 => (ckb n13).bind fun n15 => (scat y9 (([n15]).map byteOf)).bind fun t19 => some t19)

def spec_l1Num_r : Nat → Int → Option (List UInt8)
  | 0 => fun _ => none
  | k + 1 => spec_l1Num_b (spec_l1Num_r k)
def spec_l1Num_m (p0 : Int) : Option (List UInt8) := spec_l1Num_r 64 p0

def spec_l1Int_m (p0 : Int) : Option (List UInt8) :=
  cond (decide (p0 < 0))
        ((ck (-p0)).bind fun n1 => (spec_l1Num_m n1).bind fun y3 => (scat ([45] : List UInt8) y3).bind fun t5 => some t5)
        ((spec_l1Num_m p0).bind fun y7 => some y7)

def spec_nuText_m (p0 : Int) : Option (List UInt8) :=
  cond (p0 == 1000000000)
        (some ([105, 110, 102] : List UInt8))
        ((spec_l1Int_m p0).bind fun y1 => some y1)

def spec_mxText_l2 : List Int → Nat → (List UInt8) → Option (List UInt8)
  | [], j12, t13 => some t13
  | x18 :: q17, j12, t13 => ((cond (decide ((j12 : Int) > 0))
        ((scat t13 ([32] : List UInt8)).bind fun t24 => some t24)
        (some t13) : Option (List UInt8))).bind (fun t21 => (spec_nuText_m x18).bind fun y26 => (scat t21 y26).bind fun t28 => spec_mxText_l2 q17 (j12 + 1) t28)

def spec_mxText_l1 : List (List Int) → Nat → (List UInt8) → Option (List UInt8)
  | [], j1, t2 => some t2
  | x7 :: q6, j1, t2 => ((spec_mxText_l2 x7 0 t2 : Option (List UInt8))).bind (fun t14 => (scat t14 ([59] : List UInt8)).bind fun t30 => spec_mxText_l1 q6 (j1 + 1) t30)

def spec_mxText_m (p0 : List (List Int)) : Option (List UInt8) :=
  ((spec_mxText_l1 p0 0 ([] : List UInt8) : Option (List UInt8))).bind (fun t3 => some t3)

def spec_MatrixText_m (p0 : List (List Int)) : Option ((List UInt8) × Bool) :=
  (spec_mxGood_m p0).bind fun y1 => cond (!y1)
        (some (([] : List UInt8), false))
        ((spec_mxText_m p0).bind fun y3 => some (y3, true))

end Go.Proofs.YtcglmncmnlkpmaaDoor
