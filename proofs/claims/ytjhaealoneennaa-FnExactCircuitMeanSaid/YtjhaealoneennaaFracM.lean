/- The plain functions that mirror the code of this unit: none where the code would panic or overflow. Written by program (wip/gen). -/
import Derived.Test.YtjhaealoneennaaMem
import Derived.Test.YtjhaealoneennaaNumM
import Derived.Test.YtjhaealoneennaaOwnM
namespace Go.Proofs.Ytjhaealoneennaa
set_option linter.unusedVariables false

def spec_l1Abs_m (p0 : Int) : Option (Int) :=
  (ck (-p0)).bind fun n1 => (spec_l1Most_m p0 n1).bind fun y3 => some y3

def spec_frGcd_l1 : Nat → Int → Int → Option (Int)
  | 0, _, _ => none
  | k + 1, n1, n2 => cond (n2 != 0)
        ((remO n1 n2).bind fun n7 => spec_frGcd_l1 k n2 n7)
        (some n1)

def spec_frGcd_m (p0 : Int) (p1 : Int) : Option (Int) :=
  ((spec_frGcd_l1 4000000 p0 p1 : Option (Int))).bind (fun n3 => (spec_l1Abs_m n3).bind fun y9 => some y9)

def spec_l1Sign_m (p0 : Int) : Option (Int) :=
  cond (decide (p0 > 0))
        (some 1)
        (cond (decide (p0 < 0))
        (some (-1))
        (some 0))

def impl_abs_m (p0 : Int) : Option (Int) :=
  (ck (-p0)).bind fun n1 => some (max p0 n1)

def impl_gcd_l1 : Nat → Int → Int → Option (Int)
  | 0, _, _ => none
  | k + 1, n5, n6 => cond (n6 != 0)
        ((remO n5 n6).bind fun n11 => impl_gcd_l1 k n6 n11)
        (some n5)

def impl_gcd_m (p0 : Int) (p1 : Int) : Option (Int) :=
  (impl_abs_m p0).bind fun y1 => (impl_abs_m p1).bind fun y3 => ((impl_gcd_l1 4000000 y1 y3 : Option (Int))).bind (fun n7 => some n7)

def spec_frGood_m (p0_0 : Int) (p0_1 : Int) : Option (Bool) :=
  (spec_l1In_m p0_1 1 1000000000).bind fun y3 => ((cond y3 ((spec_l1In_m p0_0 (-1000000000) 1000000000).bind fun y8 => some y8) (some false) : Option Bool)).bind fun b5 => ((cond b5 ((spec_frGcd_m p0_0 p0_1).bind fun y13 => some (y13 == 1)) (some false) : Option Bool)).bind fun b10 => some b10

def impl_isFrac_m (p0_0 : Int) (p0_1 : Int) : Option (Bool) :=
  (impl_within_m p0_0 (-1000000000) 1000000000).bind fun y3 => ((cond y3 ((impl_within_m p0_1 1 1000000000).bind fun y8 => some y8) (some false) : Option Bool)).bind fun b5 => ((cond b5 ((impl_gcd_m p0_0 p0_1).bind fun y13 => some (y13 == 1)) (some false) : Option Bool)).bind fun b10 => some b10

def spec_frMake_m (p0 : Int) (p1 : Int) : Option (Int × Int × Bool) :=
  cond (p1 == 0)
        (some (0, 0, false))
        ((spec_frGcd_m p0 p1).bind fun y3 => ((cond (decide (p1 < 0))
        ((ck (-y3)).bind fun n8 => some n8)
        (some y3) : Option (Int))).bind (fun n5 => (quoO p0 n5).bind fun n10 => (quoO p1 n5).bind fun n12 => (spec_frGood_m n10 n12).bind fun y16 => cond (!y16)
        (some (0, 0, false))
        (some (n10, n12, true))))

def impl_lowest_m (p0 : Int) (p1 : Int) : Option (Int × Int) :=
  (impl_gcd_m p0 p1).bind fun y3 => ((cond (decide (p1 < 0))
        ((ck (-y3)).bind fun n8 => some n8)
        (some y3) : Option (Int))).bind (fun n5 => (quoO p0 n5).bind fun n10 => (quoO p1 n5).bind fun n12 => some (n10, n12))

def impl_toldFrac_m (p0_0 : Int) (p0_1 : Int) : Option (Int × Int × Bool) :=
  (impl_isFrac_m p0_0 p0_1).bind fun y5 => cond (!y5)
        (some (0, 0, false))
        (some (p0_0, p0_1, true))

def impl_Frac_compare_m (p0_0 : Int) (p0_1 : Int) (p1_0 : Int) (p1_1 : Int) : Option (Int) :=
  (ck (p0_0 * p1_1)).bind fun n5 => (ck (p1_0 * p0_1)).bind fun n7 => (ck (n5 - n7)).bind fun n9 => cond (decide (n9 < 0))
        (some (-1))
        (cond (decide (n9 > 0))
        (some 1)
        (some 0))

def spec_frCmp_m (p0_0 : Int) (p0_1 : Int) (p1_0 : Int) (p1_1 : Int) : Option (Int) :=
  (ck (p0_0 * p1_1)).bind fun n5 => (ck (p1_0 * p0_1)).bind fun n7 => (ck (n5 - n7)).bind fun n9 => (spec_l1Sign_m n9).bind fun y11 => some y11

def spec_frInt_m (p0 : Int) : Option (Int × Int) :=
  some (p0, 1)

end Go.Proofs.Ytjhaealoneennaa
