/- The plain functions that mirror the code of this unit: none where the code would panic or overflow. Written by program (wip/gen). -/
import Derived.Test.YtjhaealoneennaaMem
import Derived.Test.YtjhaealoneennaaNumM
import Derived.Test.YtjhaealoneennaaMatM
import Derived.Test.YtjhaealoneennaaWy2M
import Derived.Test.YtjhaealoneennaaMx2M
import Derived.Test.YtjhaealoneennaaWy4M
namespace Go.Proofs.Ytjhaealoneennaa
set_option linter.unusedVariables false

def spec_wyExact_l1 (p1 : Int) : List (List Int) → Nat → (List Int) → Option (List Int)
  | [], j2, l4 => some l4
  | x10 :: q9, j2, l4 => cond ((j2 : Int) == p1)
        ((app l4 0).bind fun l12 => spec_wyExact_l1 p1 q9 (j2 + 1) l12)
        ((app l4 1000000000).bind fun l16 => spec_wyExact_l1 p1 q9 (j2 + 1) l16)

def spec_wyExact_l4 (l24 : List (List Int)) (n25 : Int) (x41 : List Int) : List (List Int) → Nat → Int → Option (Int)
  | [], j43, n44 => some n44
  | x49 :: q48, j43, n44 => (idx x41 (j43 : Int)).bind fun x54 => (ck (n25 - 1)).bind fun n57 => (idx l24 n57).bind fun x59 => (idx x59 (j43 : Int)).bind fun x64 => (spec_nuPlus_m x54 x64).bind fun y67 => (spec_l1Least_m n44 y67).bind fun y69 => spec_wyExact_l4 l24 n25 x41 q48 (j43 + 1) y69

def spec_wyExact_l3 (p0 : List (List Int)) (l24 : List (List Int)) (n25 : Int) : List (List Int) → Nat → (List Int) → Option (List Int)
  | [], j33, l35 => some l35
  | x41 :: q40, j33, l35 => ((spec_wyExact_l4 l24 n25 x41 p0 0 1000000000 : Option (Int))).bind (fun n45 => (app l35 n45).bind fun l71 => spec_wyExact_l3 p0 l24 n25 q40 (j33 + 1) l71)

def spec_wyExact_l2 (p0 : List (List Int)) : Nat → (List (List Int)) → Int → Option (List (List Int))
  | 0, _, _ => none
  | k + 1, l24, n25 => cond (decide (n25 < (p0.length : Int)))
        (((spec_wyExact_l3 p0 l24 n25 p0 0 ([]) : Option (List Int))).bind (fun l37 => (app l24 l37).bind fun l75 => (ck (n25 + 1)).bind fun n79 => spec_wyExact_l2 p0 k l75 n79))
        (some l24)

def spec_wyExact_m (p0 : List (List Int)) (p1 : Int) : Option (List (List Int)) :=
  ((spec_wyExact_l1 p1 p0 0 ([]) : Option (List Int))).bind (fun l6 => ((spec_wyExact_l2 p0 4000000 ([l6]) 1 : Option (List (List Int)))).bind (fun l28 => some l28))

def spec_CheapestWay_l1 (p1 : Int) (p2 : Int) (y18 : (List (List Int)) × Bool) (y36 : List (List Int)) : Nat → Int → Option (Int)
  | 0, _ => none
  | k + 1, n41 => (idx y36 n41).bind fun x46 => (idx x46 p1).bind fun x51 => (idx y18.1 p1).bind fun x54 => (idx x54 p2).bind fun x59 => cond (x51 != x59)
        ((ck (n41 + 1)).bind fun n62 => spec_CheapestWay_l1 p1 p2 y18 y36 k n62)
        (some n41)

def spec_CheapestWay_l3 (p0 : List (List Int)) (y36 : List (List Int)) (n68 : Int) (n69 : Int) : Nat → Int → Option (Int)
  | 0, _ => none
  | k + 1, n75 => (idx p0 n69).bind fun x80 => (idx x80 n75).bind fun x85 => ((cond (x85 == 1000000000) (some true) ((ck (n68 - 1)).bind fun n95 => (idx y36 n95).bind fun x97 => (idx x97 n75).bind fun x102 => (spec_nuPlus_m x85 x102).bind fun y105 => (idx y36 n68).bind fun x107 => (idx x107 n69).bind fun x112 => some (y105 != x112)) : Option Bool)).bind fun b88 => cond b88
        ((ck (n75 + 1)).bind fun n115 => spec_CheapestWay_l3 p0 y36 n68 n69 k n115)
        (some n75)

def spec_CheapestWay_l2 (p0 : List (List Int)) (y36 : List (List Int)) : Nat → (List Int) → Int → Int → Option (List Int)
  | 0, _, _, _ => none
  | k + 1, l67, n68, n69 => cond (decide (n68 > 0))
        (((spec_CheapestWay_l3 p0 y36 n68 n69 4000000 0 : Option (Int))).bind (fun n76 => (app l67 n76).bind fun l117 => (ck (n68 - 1)).bind fun n121 => spec_CheapestWay_l2 p0 y36 k l117 n121 n76))
        (some l67)

def spec_CheapestWay_m (p0 : List (List Int)) (p1 : Int) (p2 : Int) : Option ((List Int) × Bool) :=
  (spec_mxSquare_m p0).bind fun y1 => ((cond (!y1) (some true) ((ck ((p0.length : Int) - 1)).bind fun n6 => (spec_l1In_m p1 0 n6).bind fun y8 => some (!y8)) : Option Bool)).bind fun b3 => ((cond b3 (some true) ((ck ((p0.length : Int) - 1)).bind fun n13 => (spec_l1In_m p2 0 n13).bind fun y15 => some (!y15)) : Option Bool)).bind fun b10 => cond b10
        (some ([], false))
        ((spec_wyCosts_m p0).bind fun y18 => ((cond (!y18.2) (some true) ((idx y18.1 p1).bind fun x27 => (idx x27 p2).bind fun x32 => some (x32 == 1000000000)) : Option Bool)).bind fun b24 => cond b24
        (some ([], false))
        ((spec_wyExact_m p0 p2).bind fun y36 => ((spec_CheapestWay_l1 p1 p2 y18 y36 4000000 0 : Option (Int))).bind (fun n42 => ((spec_CheapestWay_l2 p0 y36 4000000 ([p1]) n42 p1 : Option (List Int))).bind (fun l71 => some (l71, true)))))

def impl_byStep_l1 (p0 : List (List Int)) : List (List Int) → Nat → (List (List Int)) → (List Int) → Option (List (List Int))
  | [], j15, l18, l20 => some l18
  | x28 :: q27, j15, l18, l20 => (impl_applied_m p0 l20).bind fun y30 => (app l18 y30).bind fun l34 => impl_byStep_l1 p0 q27 (j15 + 1) l34 y30

def impl_byStep_m (p0 : List (List Int)) (p1 : Int) : Option (List (List Int)) :=
  (impl_unit_m (p0.length : Int)).bind fun y1 => (idx y1 p1).bind fun x6 => ((impl_byStep_l1 p0 p0 0 ([x6]) x6 : Option (List (List Int)))).bind (fun l24 => some l24)

def impl_CheapestWay_1_m (p0 : List Int) (p1 : Int) (p2 : Int) : Option (Bool) :=
  (idx p0 p1).bind fun x1 => some (x1 == p2)

def slices_IndexFunc_int_int_impl_CheapestWay_1_l1 (p10 : Int) (p11 : Int) : List (List Int) → Nat → Option ((Int) ⊕ (Unit))
  | [], j1 => some (Sum.inr ())
  | x5 :: q4, j1 => (impl_CheapestWay_1_m x5 p10 p11).bind fun y10 => cond y10
        (some (Sum.inl (j1 : Int)))
        (slices_IndexFunc_int_int_impl_CheapestWay_1_l1 p10 p11 q4 (j1 + 1))

def slices_IndexFunc_int_int_impl_CheapestWay_1_m (p0 : List (List Int)) (p10 : Int) (p11 : Int) : Option (Int) :=
  ((slices_IndexFunc_int_int_impl_CheapestWay_1_l1 p10 p11 p0 0 : Option ((Int) ⊕ (Unit)))).bind (fun s => Sum.elim (fun rv => some rv) (fun _ => some (-1)) s)

def impl_CheapestWay_l2 (p0 : List (List Int)) (l34 : List (List Int)) (n15054 : Int) (n15055 : Int) (x15063 : Int) : List (List Int) → Nat → Int → Option (Int)
  | [], j15066, n15067 => some n15067
  | x15072 :: q15071, j15066, n15067 => ((cond (decide (n15067 < 0)) ((idx p0 x15063).bind fun x15077 => (idx x15077 (j15066 : Int)).bind fun x15082 => some (x15082 != 1000000000)) (some false) : Option Bool)).bind fun b15074 => ((cond b15074 ((idx p0 x15063).bind fun x15088 => (idx x15088 (j15066 : Int)).bind fun x15093 => (ck (n15055 - 1)).bind fun n15096 => (idx l34 n15096).bind fun x15098 => (idx x15098 (j15066 : Int)).bind fun x15103 => (impl_product_m x15093 x15103).bind fun y15106 => some (y15106 == n15054)) (some false) : Option Bool)).bind fun b15085 => cond b15085
        (impl_CheapestWay_l2 p0 l34 n15054 n15055 x15063 q15071 (j15066 + 1) (j15066 : Int))
        (impl_CheapestWay_l2 p0 l34 n15054 n15055 x15063 q15071 (j15066 + 1) n15067)

def impl_CheapestWay_l1 (p0 : List (List Int)) (l34 : List (List Int)) : Nat → (List Int) → Int → Int → Option (List Int)
  | 0, _, _, _ => none
  | k + 1, l15053, n15054, n15055 => cond (decide (n15055 > 0))
        ((ck ((l15053.length : Int) - 1)).bind fun n15061 => (idx l15053 n15061).bind fun x15063 => ((impl_CheapestWay_l2 p0 l34 n15054 n15055 x15063 p0 0 (-1) : Option (Int))).bind (fun n15068 => (idx p0 x15063).bind fun x15108 => (idx x15108 n15068).bind fun x15114 => (ck (n15054 - x15114)).bind fun n15117 => (app l15053 n15068).bind fun l15119 => (ck (n15055 - 1)).bind fun n15123 => impl_CheapestWay_l1 p0 l34 k l15119 n15117 n15123))
        (some l15053)

def impl_CheapestWay_m (p0 : List (List Int)) (p1 : Int) (p2 : Int) : Option ((List Int) × Bool) :=
  (impl_isSquare_m p0).bind fun y3 => ((cond (!y3) (some true) ((impl_areVertices_m p0 ([p1, p2])).bind fun y10 => some (!y10)) : Option Bool)).bind fun b5 => cond b5
        (some ([], false))
        ((impl_wayCosts_m p0).bind fun y13 => ((cond (!y13.2) (some true) ((idx y13.1 p1).bind fun x22 => (idx x22 p2).bind fun x27 => some (x27 == 1000000000)) : Option Bool)).bind fun b19 => cond b19
        (some ([], false))
        ((((idx y13.1 p1).bind fun x38 => (idx x38 p2).bind fun x44 => (impl_byStep_m p0 p2).bind fun y10048 => some (y10048, x44) : Option ((List (List Int)) × Int))).bind (fun s => (fun (l34 : List (List Int)) (n35 : Int) => (slices_IndexFunc_int_int_impl_CheapestWay_1_m l34 p1 n35).bind fun y15048 => ((impl_CheapestWay_l1 p0 l34 4000000 ([p1]) n35 y15048 : Option (List Int))).bind (fun l15057 => some (l15057, true))) s.1 s.2)))

end Go.Proofs.Ytjhaealoneennaa
