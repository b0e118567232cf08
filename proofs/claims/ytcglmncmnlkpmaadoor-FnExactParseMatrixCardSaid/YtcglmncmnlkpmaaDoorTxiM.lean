/- The plain functions that mirror the code of this unit: none where the code would panic or overflow. Written by program (wip/gen). -/
import Derived.Test.YtcglmncmnlkpmaaDoorTx2
import Derived.Test.YtcglmncmnlkpmaaDoorMatM
namespace Go.Proofs.YtcglmncmnlkpmaaDoor
set_option linter.unusedVariables false

def impl_numberText_m (p0 : Int) : Option (List UInt8) :=
  cond (p0 == 1000000000)
        (some ([105, 110, 102] : List UInt8))
        ((strconv_Itoa_m p0).bind fun y1 => some y1)

def impl_numbersText_l1 : List Int → Nat → (List (List UInt8)) → Option (List (List UInt8))
  | [], j3, l5 => some l5
  | x11 :: q10, j3, l5 => (impl_numberText_m x11).bind fun y14 => (app l5 y14).bind fun l16 => impl_numbersText_l1 q10 (j3 + 1) l16

def impl_numbersText_m (p0 : List Int) (p1 : List UInt8) : Option (List UInt8) :=
  ((impl_numbersText_l1 p0 0 ([]) : Option (List (List UInt8)))).bind (fun l7 => (strings_Join_m l7 p1).bind fun y20 => some y20)

def impl_matrixText_l1 : List (List Int) → Nat → List UInt8 → Option (List UInt8)
  | [], j, t => some t
  | x :: q, j, t => (impl_numbersText_m x ([32] : List UInt8)).bind fun y => (scat y ([59] : List UInt8)).bind fun z => (scat t z).bind fun t2 => impl_matrixText_l1 q (j + 1) t2
def impl_matrixText_m (p0 : List (List Int)) : Option (List UInt8) := (impl_matrixText_l1 p0 0 []).bind fun t => some t

def impl_MatrixText_m (p0 : List (List Int)) : Option ((List UInt8) × Bool) :=
  (impl_isMatrix_m p0).bind fun y1 => cond (!y1)
        (some (([] : List UInt8), false))
        ((impl_matrixText_m p0).bind fun y3 => some (y3, true))

end Go.Proofs.YtcglmncmnlkpmaaDoor
