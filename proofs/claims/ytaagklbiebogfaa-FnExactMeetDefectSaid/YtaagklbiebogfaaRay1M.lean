/- The plain functions that mirror the code of this unit: none where the code would panic or overflow. Written by program (wip/gen). -/
import Derived.Test.YtaagklbiebogfaaMem
import Derived.Test.YtaagklbiebogfaaRay
import Derived.Test.YtaagklbiebogfaaNumM
import Derived.Test.YtaagklbiebogfaaFracM
namespace Go.Proofs.Ytaagklbiebogfaa
set_option linter.unusedVariables false

def spec_stCommon_l1 : Nat → Int → Int → Option (Int)
  | 0, _, _ => none
  | k + 1, n1, n2 => cond (decide (n2 > 0))
        ((remO n1 n2).bind fun n7 => spec_stCommon_l1 k n2 n7)
        (some n1)

def spec_stCommon_m (p0 : Int) (p1 : Int) : Option (Int) :=
  ((spec_stCommon_l1 4000000 p0 p1 : Option (Int))).bind (fun n3 => some n3)

def spec_stRay_m (p0_0 : Int) (p0_1 : Int) (p0_2 : Int) : Option (Bool) :=
  (spec_l1In_m p0_0 (-20) 20).bind fun y3 => ((cond y3 ((spec_l1In_m p0_1 (-20) 20).bind fun y8 => some y8) (some false) : Option Bool)).bind fun b5 => ((cond b5 ((spec_l1Abs_m p0_0).bind fun y13 => (spec_l1Abs_m p0_1).bind fun y15 => (spec_stCommon_m y13 y15).bind fun y17 => some (y17 == 1)) (some false) : Option Bool)).bind fun b10 => ((cond b10 ((spec_l1In_m p0_2 1 20).bind fun y22 => some y22) (some false) : Option Bool)).bind fun b19 => some b19

def spec_stBefore_m (p0_0 : Int) (p0_1 : Int) (p0_2 : Int) (p1_0 : Int) (p1_1 : Int) (p1_2 : Int) : Option (Bool) :=
  ((cond (decide (p0_0 < p1_0)) (some true) (((cond (p0_0 == p1_0) (some (decide (p0_1 < p1_1))) (some false) : Option Bool)).bind fun b8 => some b8) : Option Bool)).bind fun b5 => some b5

def spec_stGood_l1 (p0 : List Y3) : List Y3 → Nat → Option ((Bool) ⊕ (Unit))
  | [], j1 => some (Sum.inr ())
  | x5 :: q4, j1 => (spec_stRay_m x5.1 x5.2.1 x5.2.2).bind fun y10 => ((cond (!y10) (some true) (((cond (decide ((j1 : Int) > 0)) ((ck ((j1 : Int) - 1)).bind fun n18 => (idx p0 n18).bind fun x20 => (spec_stBefore_m x20.1 x20.2.1 x20.2.2 x5.1 x5.2.1 x5.2.2).bind fun y23 => some (!y23)) (some false) : Option Bool)).bind fun b15 => some b15) : Option Bool)).bind fun b12 => cond b12
        (some (Sum.inl false))
        (spec_stGood_l1 p0 q4 (j1 + 1))

def spec_stGood_m (p0 : List Y3) : Option (Bool) :=
  ((spec_stGood_l1 p0 p0 0 : Option ((Bool) ⊕ (Unit)))).bind (fun s => Sum.elim (fun rv => some rv) (fun _ => some (decide ((p0.length : Int) ≤ 10))) s)

def spec_stSum_l1 : List Y3 → Nat → Int → Int → Option (Int × Int)
  | [], j1, n2, n3 => some (n3, n2)
  | x9 :: q8, j1, n2, n3 => (ck (x9.2.2 * x9.1)).bind fun n14 => (ck (n2 + n14)).bind fun n16 => (ck (x9.2.2 * x9.2.1)).bind fun n18 => (ck (n3 + n18)).bind fun n20 => spec_stSum_l1 q8 (j1 + 1) n16 n20

def spec_stSum_m (p0 : List Y3) : Option (Int × Int) :=
  ((spec_stSum_l1 p0 0 0 0 : Option (Int × Int))).bind (fun s => (fun (n4 : Int) (n5 : Int) => some (n5, n4)) s.1 s.2)

def spec_stBalanced_m (p0 : List Y3) : Option (Bool) :=
  (spec_stSum_m p0).bind fun y1 => ((cond (y1.1 == 0) (some (y1.2 == 0)) (some false) : Option Bool)).bind fun b3 => some b3

def spec_mtDet_m (p0_0 : Int) (p0_1 : Int) (p0_2 : Int) (p1_0 : Int) (p1_1 : Int) (p1_2 : Int) : Option (Int) :=
  (ck (p0_0 * p1_1)).bind fun n5 => (ck (p0_1 * p1_0)).bind fun n7 => (ck (n5 - n7)).bind fun n9 => some n9

def spec_mtTwo_m (p0_0 : Int) (p0_1 : Int) (p0_2 : Int) (p1_0 : Int) (p1_1 : Int) (p1_2 : Int) : Option (Int) :=
  (ck (p0_2 * p1_2)).bind fun n5 => (spec_mtDet_m p0_0 p0_1 p0_2 p1_0 p1_1 p1_2).bind fun y7 => (spec_l1Abs_m y7).bind fun y9 => (ck (n5 * y9)).bind fun n11 => some n11

def spec_mtMove_m (p0 : Int) (p1 : Int) : Option (Bool) :=
  (spec_l1In_m p0 (-1000) 1000).bind fun y1 => ((cond y1 ((spec_l1In_m p1 (-1000) 1000).bind fun y6 => some y6) (some false) : Option Bool)).bind fun b3 => ((cond b3 (((cond (p0 != 0) (some true) (some (p1 != 0)) : Option Bool)).bind fun b11 => some b11) (some false) : Option Bool)).bind fun b8 => some b8

def spec_mtMeets_m (p0_0 : Int) (p0_1 : Int) (p0_2 : Int) (p1_0 : Int) (p1_1 : Int) (p1_2 : Int) (p2 : Int) (p3 : Int) : Option (Bool) :=
  (spec_mtDet_m p0_0 p0_1 p0_2 p1_0 p1_1 p1_2).bind fun y5 => (spec_l1Sign_m y5).bind fun y7 => ((cond (y7 != 0) ((ck (p2 * p1_1)).bind fun n12 => (ck (p3 * p1_0)).bind fun n14 => (ck (n12 - n14)).bind fun n16 => (spec_l1Sign_m n16).bind fun y18 => some (y18 == y7)) (some false) : Option Bool)).bind fun b9 => ((cond b9 ((ck (p2 * p0_1)).bind fun n23 => (ck (p3 * p0_0)).bind fun n25 => (ck (n23 - n25)).bind fun n27 => (spec_l1Sign_m n27).bind fun y29 => some (y29 == y7)) (some false) : Option Bool)).bind fun b20 => some b20

def spec_mtFree_l1 (p1 : Int) (p2 : Int) : List Y3 → Nat → Option ((Bool) ⊕ (Unit))
  | [], j1 => some (Sum.inr ())
  | x5 :: q4, j1 => (ck (p1 * x5.2.1)).bind fun n10 => (ck (p2 * x5.1)).bind fun n12 => cond (n10 == n12)
        (some (Sum.inl false))
        (spec_mtFree_l1 p1 p2 q4 (j1 + 1))

def spec_mtFree_m (p0 : List Y3) (p1 : Int) (p2 : Int) : Option (Bool) :=
  ((spec_mtFree_l1 p1 p2 p0 0 : Option ((Bool) ⊕ (Unit)))).bind (fun s => Sum.elim (fun rv => some rv) (fun _ => some true) s)

def spec_mtAsked_m (p0 : List Y3) (p1 : List Y3) (p2 : Int) (p3 : Int) : Option (Bool) :=
  (spec_stGood_m p0).bind fun y1 => ((cond y1 ((spec_stGood_m p1).bind fun y6 => some y6) (some false) : Option Bool)).bind fun b3 => ((cond b3 ((spec_mtMove_m p2 p3).bind fun y11 => some y11) (some false) : Option Bool)).bind fun b8 => ((cond b8 ((spec_mtFree_m p0 p2 p3).bind fun y16 => some y16) (some false) : Option Bool)).bind fun b13 => ((cond b13 ((spec_mtFree_m p1 p2 p3).bind fun y21 => some y21) (some false) : Option Bool)).bind fun b18 => some b18

def spec_mtPairs_l2 (p2 : Int) (p3 : Int) (j2 : Nat) (x12 : Y3) : List Y3 → Nat → (List (List Int)) → Option (List (List Int))
  | [], j17, l20 => some l20
  | x27 :: q26, j17, l20 => (spec_mtMeets_m x12.1 x12.2.1 x12.2.2 x27.1 x27.2.1 x27.2.2 p2 p3).bind fun y32 => cond y32
        ((app l20 ([(j2 : Int), (j17 : Int)])).bind fun l36 => spec_mtPairs_l2 p2 p3 j2 x12 q26 (j17 + 1) l36)
        (spec_mtPairs_l2 p2 p3 j2 x12 q26 (j17 + 1) l20)

def spec_mtPairs_l1 (p1 : List Y3) (p2 : Int) (p3 : Int) : List Y3 → Nat → (List (List Int)) → Option (List (List Int))
  | [], j2, l5 => some l5
  | x12 :: q11, j2, l5 => ((spec_mtPairs_l2 p2 p3 j2 x12 p1 0 l5 : Option (List (List Int)))).bind (fun l23 => spec_mtPairs_l1 p1 p2 p3 q11 (j2 + 1) l23)

def spec_mtPairs_m (p0 : List Y3) (p1 : List Y3) (p2 : Int) (p3 : Int) : Option (List (List Int)) :=
  ((spec_mtPairs_l1 p1 p2 p3 p0 0 ([]) : Option (List (List Int)))).bind (fun l8 => some l8)

def spec_mtSum_l1 (p0 : List Y3) (p1 : List Y3) : List (List Int) → Nat → Int → Option (Int)
  | [], j6, n7 => some n7
  | x12 :: q11, j6, n7 => (idx x12 0).bind fun x17 => (idx p0 x17).bind fun x20 => (idx x12 1).bind fun x23 => (idx p1 x23).bind fun x26 => (spec_mtTwo_m x20.1 x20.2.1 x20.2.2 x26.1 x26.2.1 x26.2.2).bind fun y29 => (ck (n7 + y29)).bind fun n31 => spec_mtSum_l1 p0 p1 q11 (j6 + 1) n31

def spec_mtSum_m (p0 : List Y3) (p1 : List Y3) (p2 : Int) (p3 : Int) : Option (Int) :=
  (spec_mtPairs_m p0 p1 p2 p3).bind fun y1 => ((spec_mtSum_l1 p0 p1 y1 0 0 : Option (Int))).bind (fun n8 => some n8)

def spec_mtStar_m (p0 : List Y3) : Option (Bool) :=
  (spec_stGood_m p0).bind fun y1 => ((cond y1 ((spec_stBalanced_m p0).bind fun y6 => some y6) (some false) : Option Bool)).bind fun b3 => some b3

def spec_mtCount_m (p0 : List Y3) (p1 : List Y3) : Option (Int) :=
  (spec_mtSum_m p0 p1 1000 1).bind fun y1 => some y1

def spec_mtDegree_m (p0 : List Y3) : Option (Int) :=
  (spec_mtCount_m p0 ([((-1), (-1), 1), (0, 1, 1), (1, 0, 1)])).bind fun y3 => some y3

def spec_MeetingPairs_m (p0 : List Y3) (p1 : List Y3) (p2 : Int) (p3 : Int) : Option ((List (List Int)) × Bool) :=
  (spec_mtAsked_m p0 p1 p2 p3).bind fun y1 => cond (!y1)
        (some ([], false))
        ((spec_mtPairs_m p0 p1 p2 p3).bind fun y4 => some (y4, true))

def spec_BezoutOf_m (p0 : List Y3) (p1 : List Y3) : Option (Int × Bool) :=
  (spec_mtStar_m p0).bind fun y1 => ((cond (!y1) (some true) ((spec_mtStar_m p1).bind fun y6 => some (!y6)) : Option Bool)).bind fun b3 => cond b3
        (some (0, false))
        ((spec_mtDegree_m p0).bind fun y8 => (spec_mtDegree_m p1).bind fun y10 => (ck (y8 * y10)).bind fun n12 => some (n12, true))

def spec_MeetDefect_m (p0 : List Y3) (p1 : List Y3) : Option (Int × Bool) :=
  (spec_mtStar_m p0).bind fun y1 => ((cond (!y1) (some true) ((spec_mtStar_m p1).bind fun y6 => some (!y6)) : Option Bool)).bind fun b3 => cond b3
        (some (0, false))
        ((spec_mtDegree_m p0).bind fun y8 => (spec_mtDegree_m p1).bind fun y10 => (ck (y8 * y10)).bind fun n12 => (spec_mtCount_m p0 p1).bind fun y14 => (ck (n12 - y14)).bind fun n16 => some (n16, true))

def spec_MeetTable_l1 : List (List Y3) → Nat → Option (((List (List Int)) × Bool) ⊕ (Unit))
  | [], j2 => some (Sum.inr ())
  | x6 :: q5, j2 => (spec_mtStar_m x6).bind fun y11 => cond (!y11)
        (some (Sum.inl ([], false)))
        (spec_MeetTable_l1 q5 (j2 + 1))

def spec_MeetTable_l3 (x25 : List Y3) : List (List Y3) → Nat → (List Int) → Option (List Int)
  | [], j31, l33 => some l33
  | x39 :: q38, j31, l33 => (spec_mtCount_m x25 x39).bind fun y44 => (app l33 y44).bind fun l46 => spec_MeetTable_l3 x25 q38 (j31 + 1) l46

def spec_MeetTable_l2 (p0 : List (List Y3)) : List (List Y3) → Nat → (List (List Int)) → Option (List (List Int))
  | [], j15, l18 => some l18
  | x25 :: q24, j15, l18 => ((spec_MeetTable_l3 x25 p0 0 ([]) : Option (List Int))).bind (fun l35 => (app l18 l35).bind fun l50 => spec_MeetTable_l2 p0 q24 (j15 + 1) l50)

def spec_MeetTable_m (p0 : List (List Y3)) : Option ((List (List Int)) × Bool) :=
  cond (decide ((p0.length : Int) > 6))
        (some ([], false))
        (((spec_MeetTable_l1 p0 0 : Option (((List (List Int)) × Bool) ⊕ (Unit)))).bind (fun s => Sum.elim (fun rv => some rv) (fun _ => ((spec_MeetTable_l2 p0 p0 0 ([]) : Option (List (List Int)))).bind (fun l21 => some (l21, true))) s))

def impl_areSteps_m (p0 : Int) (p1 : Int) : Option (Bool) :=
  (impl_within_m p0 (-20) 20).bind fun y1 => ((cond y1 ((impl_within_m p1 (-20) 20).bind fun y6 => some y6) (some false) : Option Bool)).bind fun b3 => ((cond b3 (((cond (p0 != 0) (some true) (some (p1 != 0)) : Option Bool)).bind fun b11 => some b11) (some false) : Option Bool)).bind fun b8 => some b8

def impl_Ray_steps_m (p0_0 : Int) (p0_1 : Int) (p0_2 : Int) : Option (Int × Int) :=
  some (p0_0, p0_1)

def impl_comparePoints_m (p0_0 : Int) (p0_1 : Int) (p1_0 : Int) (p1_1 : Int) : Option (Int) :=
  cond (p0_0 != p1_0)
        ((ck (p0_0 - p1_0)).bind fun n5 => some n5)
        ((ck (p0_1 - p1_1)).bind fun n7 => some n7)

def impl_compareRays_m (p0_0 : Int) (p0_1 : Int) (p0_2 : Int) (p1_0 : Int) (p1_1 : Int) (p1_2 : Int) : Option (Int) :=
  (impl_Ray_steps_m p0_0 p0_1 p0_2).bind fun y5 => (impl_Ray_steps_m p1_0 p1_1 p1_2).bind fun y7 => (impl_comparePoints_m y5.1 y5.2 y7.1 y7.2).bind fun y9 => some y9

def impl_isRay_m (p0_0 : Int) (p0_1 : Int) (p0_2 : Int) : Option (Bool) :=
  (impl_areSteps_m p0_0 p0_1).bind fun y3 => ((cond y3 ((impl_gcd_m p0_0 p0_1).bind fun y8 => some (y8 == 1)) (some false) : Option Bool)).bind fun b5 => ((cond b5 ((impl_within_m p0_2 1 20).bind fun y13 => some y13) (some false) : Option Bool)).bind fun b10 => some b10

def impl_isStar_l1 (p0 : List Y3) : List Y3 → Nat → Option ((Bool) ⊕ (Unit))
  | [], j1 => some (Sum.inr ())
  | x5 :: q4, j1 => (impl_isRay_m x5.1 x5.2.1 x5.2.2).bind fun y10 => ((cond (!y10) (some true) (((cond (decide ((j1 : Int) > 0)) ((ck ((j1 : Int) - 1)).bind fun n18 => (idx p0 n18).bind fun x20 => (impl_compareRays_m x20.1 x20.2.1 x20.2.2 x5.1 x5.2.1 x5.2.2).bind fun y23 => some (decide (y23 ≥ 0))) (some false) : Option Bool)).bind fun b15 => some b15) : Option Bool)).bind fun b12 => cond b12
        (some (Sum.inl false))
        (impl_isStar_l1 p0 q4 (j1 + 1))

def impl_isStar_m (p0 : List Y3) : Option (Bool) :=
  cond (decide ((p0.length : Int) > 10))
        (some false)
        (((impl_isStar_l1 p0 p0 0 : Option ((Bool) ⊕ (Unit)))).bind (fun s => Sum.elim (fun rv => some rv) (fun _ => some true) s))

def impl_cross_m (p0_0 : Int) (p0_1 : Int) (p1_0 : Int) (p1_1 : Int) : Option (Int) :=
  (ck (p0_0 * p1_1)).bind fun n5 => (ck (p0_1 * p1_0)).bind fun n7 => (ck (n5 - n7)).bind fun n9 => some n9

def impl_sign_m (p0 : Int) : Option (Int) :=
  some (max (-1) (min 1 p0))

def impl_isMove_m (p0 : Int) (p1 : Int) : Option (Bool) :=
  (impl_within_m p0 (-1000) 1000).bind fun y1 => ((cond y1 ((impl_within_m p1 (-1000) 1000).bind fun y6 => some y6) (some false) : Option Bool)).bind fun b3 => ((cond b3 (((cond (p0 != 0) (some true) (some (p1 != 0)) : Option Bool)).bind fun b11 => some b11) (some false) : Option Bool)).bind fun b8 => some b8

def impl_isGeneral_l1 (p1_0 : Int) (p1_1 : Int) : List Y3 → Nat → Option ((Bool) ⊕ (Unit))
  | [], j3 => some (Sum.inr ())
  | x7 :: q6, j3 => (impl_Ray_steps_m x7.1 x7.2.1 x7.2.2).bind fun y12 => (impl_cross_m y12.1 y12.2 p1_0 p1_1).bind fun y14 => cond (y14 == 0)
        (some (Sum.inl false))
        (impl_isGeneral_l1 p1_0 p1_1 q6 (j3 + 1))

def impl_isGeneral_m (p0 : List Y3) (p1_0 : Int) (p1_1 : Int) : Option (Bool) :=
  ((impl_isGeneral_l1 p1_0 p1_1 p0 0 : Option ((Bool) ⊕ (Unit)))).bind (fun s => Sum.elim (fun rv => some rv) (fun _ => some true) s)

def impl_meets_m (p0_0 : Int) (p0_1 : Int) (p0_2 : Int) (p1_0 : Int) (p1_1 : Int) (p1_2 : Int) (p2_0 : Int) (p2_1 : Int) : Option (Bool) :=
  (impl_Ray_steps_m p0_0 p0_1 p0_2).bind fun y7 => (impl_Ray_steps_m p1_0 p1_1 p1_2).bind fun y9 => (impl_cross_m y7.1 y7.2 y9.1 y9.2).bind fun y11 => (impl_sign_m y11).bind fun y13 => ((cond (y13 != 0) ((impl_Ray_steps_m p1_0 p1_1 p1_2).bind fun y18 => (impl_cross_m p2_0 p2_1 y18.1 y18.2).bind fun y20 => (impl_sign_m y20).bind fun y22 => some (y22 == y13)) (some false) : Option Bool)).bind fun b15 => ((cond b15 ((impl_Ray_steps_m p0_0 p0_1 p0_2).bind fun y27 => (impl_cross_m p2_0 p2_1 y27.1 y27.2).bind fun y29 => (impl_sign_m y29).bind fun y31 => some (y31 == y13)) (some false) : Option Bool)).bind fun b24 => some b24

def impl_meetingPairs_l2 (p2_0 : Int) (p2_1 : Int) (j5 : Nat) (x15 : Y3) : List Y3 → Nat → (List (List Int)) → Option (List (List Int))
  | [], j20, l23 => some l23
  | x30 :: q29, j20, l23 => (impl_meets_m x15.1 x15.2.1 x15.2.2 x30.1 x30.2.1 x30.2.2 p2_0 p2_1).bind fun y35 => cond y35
        ((app l23 ([(j5 : Int), (j20 : Int)])).bind fun l39 => impl_meetingPairs_l2 p2_0 p2_1 j5 x15 q29 (j20 + 1) l39)
        (impl_meetingPairs_l2 p2_0 p2_1 j5 x15 q29 (j20 + 1) l23)

def impl_meetingPairs_l1 (p1 : List Y3) (p2_0 : Int) (p2_1 : Int) : List Y3 → Nat → (List (List Int)) → Option (List (List Int))
  | [], j5, l8 => some l8
  | x15 :: q14, j5, l8 => ((impl_meetingPairs_l2 p2_0 p2_1 j5 x15 p1 0 l8 : Option (List (List Int)))).bind (fun l26 => impl_meetingPairs_l1 p1 p2_0 p2_1 q14 (j5 + 1) l26)

def impl_meetingPairs_m (p0 : List Y3) (p1 : List Y3) (p2_0 : Int) (p2_1 : Int) : Option (List (List Int)) :=
  ((impl_meetingPairs_l1 p1 p2_0 p2_1 p0 0 ([]) : Option (List (List Int)))).bind (fun l11 => some l11)

def impl_multiplicity_m (p0_0 : Int) (p0_1 : Int) (p0_2 : Int) (p1_0 : Int) (p1_1 : Int) (p1_2 : Int) : Option (Int) :=
  (ck (p0_2 * p1_2)).bind fun n5 => (impl_Ray_steps_m p0_0 p0_1 p0_2).bind fun y7 => (impl_Ray_steps_m p1_0 p1_1 p1_2).bind fun y9 => (impl_cross_m y7.1 y7.2 y9.1 y9.2).bind fun y11 => (impl_abs_m y11).bind fun y13 => (ck (n5 * y13)).bind fun n15 => some n15

def impl_meetSum_l1 (p0 : List Y3) (p1 : List Y3) : List (List Int) → Nat → Int → Option (Int)
  | [], j1, n2 => some n2
  | x7 :: q6, j1, n2 => (idx x7 0).bind fun x12 => (idx p0 x12).bind fun x15 => (idx x7 1).bind fun x18 => (idx p1 x18).bind fun x21 => (impl_multiplicity_m x15.1 x15.2.1 x15.2.2 x21.1 x21.2.1 x21.2.2).bind fun y24 => (ck (n2 + y24)).bind fun n26 => impl_meetSum_l1 p0 p1 q6 (j1 + 1) n26

def impl_meetSum_m (p0 : List Y3) (p1 : List Y3) (p2 : List (List Int)) : Option (Int) :=
  ((impl_meetSum_l1 p0 p1 p2 0 0 : Option (Int))).bind (fun n3 => some n3)

def impl_Point_plus_m (p0_0 : Int) (p0_1 : Int) (p1_0 : Int) (p1_1 : Int) : Option (Int × Int) :=
  (ck (p0_0 + p1_0)).bind fun n7 => (ck (p0_1 + p1_1)).bind fun n9 => some (n7, n9)

def impl_starSum_l1 : List Y3 → Nat → Int → Int → Option (Int × Int)
  | [], j5, n6, n7 => some (n6, n7)
  | x13 :: q12, j5, n6, n7 => (ck (x13.2.2 * x13.1)).bind fun n18 => (ck (x13.2.2 * x13.2.1)).bind fun n20 => (impl_Point_plus_m n6 n7 n18 n20).bind fun y22 => impl_starSum_l1 q12 (j5 + 1) y22.1 y22.2

def impl_starSum_m (p0 : List Y3) : Option (Int × Int) :=
  ((impl_starSum_l1 p0 0 0 0 : Option (Int × Int))).bind (fun s => (fun (n8 : Int) (n9 : Int) => some (n8, n9)) s.1 s.2)

def impl_isBalanced_m (p0 : List Y3) : Option (Bool) :=
  (impl_isStar_m p0).bind fun y1 => ((cond y1 ((impl_starSum_m p0).bind fun y6 => some (y6.1 == 0 && y6.2 == 0)) (some false) : Option Bool)).bind fun b3 => some b3

def impl_meetCount_m (p0 : List Y3) (p1 : List Y3) : Option (Int) :=
  (impl_meetingPairs_m p0 p1 1000 1).bind fun y1 => (impl_meetSum_m p0 p1 y1).bind fun y6 => some y6

def impl_MeetCount_m (p0 : List Y3) (p1 : List Y3) : Option (Int × Bool) :=
  (impl_isBalanced_m p0).bind fun y1 => ((cond (!y1) (some true) ((impl_isBalanced_m p1).bind fun y6 => some (!y6)) : Option Bool)).bind fun b3 => cond b3
        (some (0, false))
        ((impl_meetCount_m p0 p1).bind fun y8 => some (y8, true))

def impl_lineStar_m : Option (List Y3) :=
  some ([((-1), (-1), 1), (0, 1, 1), (1, 0, 1)])

def impl_StarDegree_m (p0 : List Y3) : Option (Int × Bool) :=
  (impl_lineStar_m ).bind fun y1 => (impl_MeetCount_m p0 y1).bind fun y5 => some (y5.1, y5.2)

def impl_BezoutOf_m (p0 : List Y3) (p1 : List Y3) : Option (Int × Bool) :=
  (impl_StarDegree_m p0).bind fun y1 => (impl_StarDegree_m p1).bind fun y3 => (ck (y1.1 * y3.1)).bind fun n5 => ((cond y1.2 (some y3.2) (some false) : Option Bool)).bind fun b7 => some (n5, b7)

def impl_MeetDefect_m (p0 : List Y3) (p1 : List Y3) : Option (Int × Bool) :=
  (impl_BezoutOf_m p0 p1).bind fun y1 => cond (!y1.2)
        (some (0, false))
        ((impl_meetCount_m p0 p1).bind fun y3 => (ck (y1.1 - y3)).bind fun n5 => some (n5, true))

def impl_MeetingPairs_m (p0 : List Y3) (p1 : List Y3) (p2 : Int) (p3 : Int) : Option ((List (List Int)) × Bool) :=
  (impl_isStar_m p0).bind fun y3 => ((cond (!y3) (some true) ((impl_isStar_m p1).bind fun y8 => some (!y8)) : Option Bool)).bind fun b5 => ((cond b5 (some true) ((impl_isMove_m p2 p3).bind fun y13 => some (!y13)) : Option Bool)).bind fun b10 => ((cond b10 (some true) ((impl_isGeneral_m p0 p2 p3).bind fun y18 => some (!y18)) : Option Bool)).bind fun b15 => ((cond b15 (some true) ((impl_isGeneral_m p1 p2 p3).bind fun y23 => some (!y23)) : Option Bool)).bind fun b20 => cond b20
        (some ([], false))
        ((impl_meetingPairs_m p0 p1 p2 p3).bind fun y26 => some (y26, true))

def impl_MeetTable_l2 (x14 : List Y3) : List (List Y3) → Nat → (List Int) → Option (((List (List Int)) × Bool) ⊕ (List Int))
  | [], j21, l23 => some (Sum.inr l23)
  | x29 :: q28, j21, l23 => (impl_MeetCount_m x14 x29).bind fun y34 => cond (!y34.2)
        (some (Sum.inl ([], false)))
        ((app l23 y34.1).bind fun l37 => impl_MeetTable_l2 x14 q28 (j21 + 1) l37)

def impl_MeetTable_l1 (p0 : List (List Y3)) : List (List Y3) → Nat → (List (List Int)) → Option (((List (List Int)) × Bool) ⊕ (List (List Int)))
  | [], j4, l7 => some (Sum.inr l7)
  | x14 :: q13, j4, l7 => ((impl_MeetTable_l2 x14 p0 0 ([]) : Option (((List (List Int)) × Bool) ⊕ (List Int)))).bind (fun s => Sum.elim (fun rv => some (Sum.inl rv)) (fun l25 => (app l7 l25).bind fun l41 => impl_MeetTable_l1 p0 q13 (j4 + 1) l41) s)

def impl_MeetTable_m (p0 : List (List Y3)) : Option ((List (List Int)) × Bool) :=
  cond (decide ((p0.length : Int) > 6))
        (some ([], false))
        (((impl_MeetTable_l1 p0 p0 0 ([]) : Option (((List (List Int)) × Bool) ⊕ (List (List Int))))).bind (fun s => Sum.elim (fun rv => some rv) (fun l10 => some (l10, true)) s))

end Go.Proofs.Ytaagklbiebogfaa
