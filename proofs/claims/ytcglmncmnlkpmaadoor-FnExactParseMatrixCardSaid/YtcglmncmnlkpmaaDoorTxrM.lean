/- The plain functions that mirror the code of this unit: none where the code would panic or overflow. Written by program (wip/gen). -/
import Derived.Test.YtcglmncmnlkpmaaDoorTx2
import Derived.Test.YtcglmncmnlkpmaaDoorMatM
import Derived.Test.YtcglmncmnlkpmaaDoorTxqM
namespace Go.Proofs.YtcglmncmnlkpmaaDoor
set_option linter.unusedVariables false

def impl_parseNumbers_l1 : List (List UInt8) → List Int → Option (List Int × Bool)
  | [], l => some (l, true)
  | x :: q, l => (impl_parseNumber_m x).bind fun y => cond y.2 ((app l y.1).bind fun l2 => impl_parseNumbers_l1 q l2) (some ([], false))
def impl_parseNumbers_m (p0 p1 : List UInt8) : Option (List Int × Bool) := cond (decide (p1 = [32] ∧ p0.length < 1000000000)) (impl_parseNumbers_l1 (splitC 32 p0) []) none

def impl_ParseMatrix_l1 : List (List UInt8) → Nat → (List (List Int)) → Option (((List (List Int)) × Bool) ⊕ (List (List Int)))
  | [], j8, l11 => some (Sum.inr l11)
  | x18 :: q17, j8, l11 => (impl_parseNumbers_m x18 ([32] : List UInt8)).bind fun y21 => cond (!y21.2)
        (some (Sum.inl ([], false)))
        ((app l11 y21.1).bind fun l27 => impl_ParseMatrix_l1 q17 (j8 + 1) l27)

def impl_ParseMatrix_m (p0 : List UInt8) : Option ((List (List Int)) × Bool) :=
  (impl_parts_m p0).bind fun y1 => ((impl_ParseMatrix_l1 y1.1 0 ([]) : Option (((List (List Int)) × Bool) ⊕ (List (List Int))))).bind (fun s => Sum.elim (fun rv => some rv) (fun l14 => cond (!y1.2)
        (some ([], false))
        ((impl_toldMatrix_m l14).bind fun y32 => some ((cond y32.1 l14 []), y32.2))) s)

end Go.Proofs.YtcglmncmnlkpmaaDoor
