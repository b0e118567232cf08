/- The plain functions that mirror the code of this unit: none where the code would panic or overflow. Written by program (wip/gen). -/
import Derived.Test.YtaagklbiebogfaaMem
import Derived.Test.YtaagklbiebogfaaOwnM
namespace Go.Proofs.Ytaagklbiebogfaa
set_option linter.unusedVariables false

def spec_l1Abs_m (p0 : Int) : Option (Int) :=
  (ck (-p0)).bind fun n1 => (spec_l1Most_m p0 n1).bind fun y3 => some y3

def spec_l1Sign_m (p0 : Int) : Option (Int) :=
  cond (decide (p0 > 0))
        (some 1)
        (cond (decide (p0 < 0))
        (some (-1))
        (some 0))

def impl_abs_m (p0 : Int) : Option (Int) :=
  (ck (-p0)).bind fun n1 => some (max p0 n1)

def impl_gcd_l1 : Nat → Int → Int → Option (Int)
  | 0, _, _ => none
  | k + 1, n5, n6 => cond (n6 != 0)
        ((remO n5 n6).bind fun n11 => impl_gcd_l1 k n6 n11)
        (some n5)

def impl_gcd_m (p0 : Int) (p1 : Int) : Option (Int) :=
  (impl_abs_m p0).bind fun y1 => (impl_abs_m p1).bind fun y3 => ((impl_gcd_l1 4000000 y1 y3 : Option (Int))).bind (fun n7 => some n7)

end Go.Proofs.Ytaagklbiebogfaa
