/- The plain functions that mirror the code of this unit: none where the code would panic or overflow. Written by program (wip/gen). -/
import Derived.Test.YtjicdfplhenohaaMem
import Derived.Test.YtjicdfplhenohaaNumM
import Derived.Test.YtjicdfplhenohaaMatM
import Derived.Test.YtjicdfplhenohaaWy1M
import Derived.Test.YtjicdfplhenohaaWy2M
import Derived.Test.YtjicdfplhenohaaOwnM
namespace Go.Proofs.Ytjicdfplhenohaa
set_option linter.unusedVariables false

def spec_wyGood_l2 : List Int → Nat → Option ((Bool) ⊕ (Unit))
  | [], j10 => some (Sum.inr ())
  | x14 :: q13, j10 => (spec_nuGood_m x14).bind fun y17 => cond (!y17)
        (some (Sum.inl false))
        (spec_wyGood_l2 q13 (j10 + 1))

def spec_wyGood_l1 : List (List Int) → Nat → Option ((Bool) ⊕ (Unit))
  | [], j1 => some (Sum.inr ())
  | x5 :: q4, j1 => ((spec_wyGood_l2 x5 0 : Option ((Bool) ⊕ (Unit)))).bind (fun s => Sum.elim (fun rv => some (Sum.inl rv)) (fun _ => spec_wyGood_l1 q4 (j1 + 1)) s)

def spec_wyGood_m (p0 : List (List Int)) : Option (Bool) :=
  ((spec_wyGood_l1 p0 0 : Option ((Bool) ⊕ (Unit)))).bind (fun s => Sum.elim (fun rv => some rv) (fun _ => some true) s)

def impl_hasPotentials_m (p0 : List (List Int)) (p1 : List Int) : Option (Bool) :=
  (impl_isSquare_m p0).bind fun y1 => ((cond y1 ((impl_areOnePerVertex_m p0 p1).bind fun y6 => some y6) (some false) : Option Bool)).bind fun b3 => ((cond b3 ((impl_arePotentials_m p0 p1).bind fun y11 => some y11) (some false) : Option Bool)).bind fun b8 => some b8

def impl_toldNumbers_1_m (p0 : List Int) : Option (Bool) :=
  (impl_areNumbers_m p0).bind fun y1 => some (!y1)

def slices_IndexFunc_int_int_impl_toldNumbers_1_l1 : List (List Int) → Nat → Option ((Int) ⊕ (Unit))
  | [], j1 => some (Sum.inr ())
  | x5 :: q4, j1 => (impl_toldNumbers_1_m x5).bind fun y10 => cond y10
        (some (Sum.inl (j1 : Int)))
        (slices_IndexFunc_int_int_impl_toldNumbers_1_l1 q4 (j1 + 1))

def slices_IndexFunc_int_int_impl_toldNumbers_1_m (p0 : List (List Int)) : Option (Int) :=
  ((slices_IndexFunc_int_int_impl_toldNumbers_1_l1 p0 0 : Option ((Int) ⊕ (Unit)))).bind (fun s => Sum.elim (fun rv => some rv) (fun _ => some (-1)) s)

def slices_ContainsFunc_int_int_impl_toldNumbers_1_m (p0 : List (List Int)) : Option (Bool) :=
  (slices_IndexFunc_int_int_impl_toldNumbers_1_m p0).bind fun y1 => some (decide (y1 ≥ 0))

def impl_toldNumbers_m (p0 : List (List Int)) : Option (Bool × Bool) :=
  (slices_ContainsFunc_int_int_impl_toldNumbers_1_m p0).bind fun y1 => cond y1
        (some (false, false))
        (some (true, true))

def spec_ReducedMatrix_l2 (p1 : List Int) (j13 : Nat) : List Int → Nat → (List Int) → Option (List Int)
  | [], j28, l27 => some l27
  | x34 :: q33, j28, l27 => (idx p1 (j13 : Int)).bind fun x37 => (idx p1 (j28 : Int)).bind fun x40 => (ck (x37 - x40)).bind fun n43 => (spec_nuPlus_m x34 n43).bind fun y45 => (appS l27 ([y45])).bind fun l49 => spec_ReducedMatrix_l2 p1 j13 q33 (j28 + 1) l49

def spec_ReducedMatrix_l1 (p1 : List Int) : List (List Int) → Nat → (List (List Int)) → Option (List (List Int))
  | [], j13, l12 => some l12
  | x20 :: q19, j13, l12 => ((spec_ReducedMatrix_l2 p1 j13 x20 0 ([]) : Option (List Int))).bind (fun l30 => (app l12 l30).bind fun l52 => spec_ReducedMatrix_l1 p1 q19 (j13 + 1) l52)

def spec_ReducedMatrix_m (p0 : List (List Int)) (p1 : List Int) : Option ((List (List Int)) × Bool) :=
  (spec_wyAsked_m p0 p1).bind fun y1 => ((cond (!y1) (some true) ((spec_wyPotentials_m p0 p1).bind fun y6 => some (!y6)) : Option Bool)).bind fun b3 => cond b3
        (some ([], false))
        (((spec_ReducedMatrix_l1 p1 p0 0 ([]) : Option (List (List Int)))).bind (fun l16 => (spec_wyGood_m l16).bind fun y56 => cond (!y56)
        (some ([], false))
        (some (l16, true))))

def impl_ReducedMatrix_l2 (p1 : List Int) (j10 : Nat) : List Int → Nat → (List (List Int)) → Option (List (List Int))
  | [], j21, l20 => some l20
  | x26 :: q25, j21, l20 => (idx l20 (j10 : Int)).bind fun x29 => (idx p1 (j10 : Int)).bind fun x35 => (idx p1 (j21 : Int)).bind fun x38 => (ck (x35 - x38)).bind fun n41 => (impl_product_m x26 n41).bind fun y43 => (idx x29 (j21 : Int)).bind fun x45 => (upd x29 (j21 : Int) y43).bind fun l48 => impl_ReducedMatrix_l2 p1 j10 q25 (j21 + 1) (l20.set ((j10 : Int)).toNat l48)

def impl_ReducedMatrix_l1 (p1 : List Int) : List (List Int) → Nat → (List (List Int)) → Option (List (List Int))
  | [], j10, l9 => some l9
  | x15 :: q14, j10, l9 => ((impl_ReducedMatrix_l2 p1 j10 x15 0 l9 : Option (List (List Int)))).bind (fun l22 => impl_ReducedMatrix_l1 p1 q14 (j10 + 1) l22)

def impl_ReducedMatrix_m (p0 : List (List Int)) (p1 : List Int) : Option ((List (List Int)) × Bool) :=
  (impl_hasPotentials_m p0 p1).bind fun y1 => cond (!y1)
        (some ([], false))
        ((impl_clones_m p0).bind fun y4 => ((impl_ReducedMatrix_l1 p1 p0 0 y4 : Option (List (List Int)))).bind (fun l11 => (impl_toldNumbers_m l11).bind fun y50 => some ((cond y50.1 l11 []), y50.2)))

def spec_IsProvedWay_l1 (p0 : List (List Int)) (p1 : List Int) (p2 : List Int) : Nat → Int → Option ((Bool × Bool) ⊕ (Unit))
  | 0, _ => none
  | k + 1, n13 => cond (decide (n13 < (p2.length : Int)))
        ((idx p2 n13).bind fun x17 => (idx p1 x17).bind fun x20 => (ck (n13 - 1)).bind fun n23 => (idx p2 n23).bind fun x25 => (idx p1 x25).bind fun x28 => (ck (n13 - 1)).bind fun n31 => (idx p2 n31).bind fun x33 => (idx p0 x33).bind fun x36 => (idx x36 x17).bind fun x42 => (ck (x28 + x42)).bind fun n45 => cond (x20 != n45)
        (some (Sum.inl (false, true)))
        ((ck (n13 + 1)).bind fun n47 => spec_IsProvedWay_l1 p0 p1 p2 k n47))
        (some (Sum.inr ()))

def spec_IsProvedWay_m (p0 : List (List Int)) (p1 : List Int) (p2 : List Int) : Option (Bool × Bool) :=
  (spec_wyAsked_m p0 p1).bind fun y1 => ((cond (!y1) (some true) ((spec_wyPotentials_m p0 p1).bind fun y6 => some (!y6)) : Option Bool)).bind fun b3 => ((cond b3 (some true) ((spec_wyWay_m p0 p2).bind fun y11 => some (!y11)) : Option Bool)).bind fun b8 => cond b8
        (some (false, false))
        (((spec_IsProvedWay_l1 p0 p1 p2 4000000 1 : Option ((Bool × Bool) ⊕ (Unit)))).bind (fun s => Sum.elim (fun rv => some rv) (fun _ => some (true, true)) s))

def impl_IsProvedWay_l1 (p0 : List (List Int)) (p1 : List Int) (p2 : List Int) : Nat → Int → Option ((Bool × Bool) ⊕ (Unit))
  | 0, _ => none
  | k + 1, n8 => cond (decide (n8 < (p2.length : Int)))
        ((idx p2 n8).bind fun x12 => (idx p1 x12).bind fun x15 => (ck (n8 - 1)).bind fun n18 => (idx p2 n18).bind fun x20 => (idx p1 x20).bind fun x23 => (ck (n8 - 1)).bind fun n26 => (idx p2 n26).bind fun x28 => (idx p0 x28).bind fun x31 => (idx x31 x12).bind fun x37 => (ck (x23 + x37)).bind fun n40 => cond (x15 != n40)
        (some (Sum.inl (false, true)))
        ((ck (n8 + 1)).bind fun n42 => impl_IsProvedWay_l1 p0 p1 p2 k n42))
        (some (Sum.inr ()))

def impl_IsProvedWay_m (p0 : List (List Int)) (p1 : List Int) (p2 : List Int) : Option (Bool × Bool) :=
  (impl_hasPotentials_m p0 p1).bind fun y1 => ((cond (!y1) (some true) ((impl_isWay_m p0 p2).bind fun y6 => some (!y6)) : Option Bool)).bind fun b3 => cond b3
        (some (false, false))
        (((impl_IsProvedWay_l1 p0 p1 p2 4000000 1 : Option ((Bool × Bool) ⊕ (Unit)))).bind (fun s => Sum.elim (fun rv => some rv) (fun _ => some (true, true)) s))

end Go.Proofs.Ytjicdfplhenohaa
