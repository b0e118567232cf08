/- The plain functions that mirror the code of this unit: none where the code would panic or overflow. Written by program (wip/gen). -/
import Derived.Test.YtaagklbiebogfaaMem
import Derived.Test.YtaagklbiebogfaaNumM
import Derived.Test.YtaagklbiebogfaaMatM
import Derived.Test.YtaagklbiebogfaaClsM
import Derived.Test.YtaagklbiebogfaaChoM
import Derived.Test.YtaagklbiebogfaaChiM
namespace Go.Proofs.Ytaagklbiebogfaa
set_option linter.unusedVariables false

def impl_columnClasses_l2 (y1 : List (List Int)) (j8 : Nat) (l11 : List (List Int)) (x18 : List Int) : List (List Int) → Nat → Option ((List (List Int)) ⊕ (Unit))
  | [], j23 => some (Sum.inr ())
  | x29 :: q28, j23 => (idx x29 0).bind fun x34 => (idx y1 x34).bind fun x37 => (impl_differByOne_m x37 x18).bind fun y42 => cond y42
        ((app x29 (j8 : Int)).bind fun l45 => (upd l11 (j23 : Int) l45).bind fun l52 => some (Sum.inl l52))
        (impl_columnClasses_l2 y1 j8 l11 x18 q28 (j23 + 1))

def impl_columnClasses_l1 (y1 : List (List Int)) : List (List Int) → Nat → (List (List Int)) → Option (List (List Int))
  | [], j8, l11 => some l11
  | x18 :: q17, j8, l11 => ((impl_columnClasses_l2 y1 j8 l11 x18 l11 0 : Option ((List (List Int)) ⊕ (Unit)))).bind (fun s => Sum.elim (fun l27 => impl_columnClasses_l1 y1 q17 (j8 + 1) l27) (fun _ => (app l11 ([(j8 : Int)])).bind fun l56 => impl_columnClasses_l1 y1 q17 (j8 + 1) l56) s)

def impl_columnClasses_m (p0 : List (List Int)) : Option (List (List Int)) :=
  (impl_transposed_m p0).bind fun y1 => ((impl_columnClasses_l1 y1 y1 0 ([]) : Option (List (List Int)))).bind (fun l14 => some l14)

def impl_ColumnClasses_m (p0 : List (List Int)) : Option ((List (List Int)) × Bool) :=
  (impl_isMatrix_m p0).bind fun y1 => cond (!y1)
        (some ([], false))
        ((impl_columnClasses_m p0).bind fun y4 => some (y4, true))

def spec_FactorBounds_m (p0 : List (List Int)) : Option (Int × Int × Bool) :=
  (spec_mxGood_m p0).bind fun y1 => cond (!y1)
        (some (0, 0, false))
        ((spec_rkRank_m p0).bind fun y3 => (spec_rkClasses_m p0).bind fun y5 => (spec_mxTurn_m p0).bind fun y10 => (spec_rkClasses_m y10).bind fun y15 => (spec_l1Least_m (y5.length : Int) (y15.length : Int)).bind fun y20 => some (y3, y20, true))

def impl_FactorBounds_m (p0 : List (List Int)) : Option (Int × Int × Bool) :=
  (impl_isMatrix_m p0).bind fun y1 => cond (!y1)
        (some (0, 0, false))
        ((impl_tropicalRank_m p0).bind fun y3 => (impl_columnClasses_m p0).bind fun y5 => (impl_transposed_m p0).bind fun y10 => (impl_columnClasses_m y10).bind fun y15 => some (y3, min (y5.length : Int) (y15.length : Int), true))

end Go.Proofs.Ytaagklbiebogfaa
