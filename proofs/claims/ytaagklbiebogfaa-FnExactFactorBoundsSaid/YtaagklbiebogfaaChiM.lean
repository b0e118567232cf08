/- The plain functions that mirror the code of this unit: none where the code would panic or overflow. Written by program (wip/gen). -/
import Derived.Test.YtaagklbiebogfaaMem
import Derived.Test.YtaagklbiebogfaaNumM
import Derived.Test.YtaagklbiebogfaaMatM
import Derived.Test.YtaagklbiebogfaaOwnM
import Derived.Test.YtaagklbiebogfaaRk2M
import Derived.Test.YtaagklbiebogfaaSgiM
namespace Go.Proofs.Ytaagklbiebogfaa
set_option linter.unusedVariables false

def impl_firstRegular_1_1_m (p0 : List Int) (m : List (List Int)) (rr : List Int) (rows : List Int) (columns : List Int) : Option (Bool × (List Int) × (List Int)) :=
  (impl_partOf_m m rr p0).bind fun y1 => (impl_isRegular_m y1).bind fun y6 => cond (!y6)
        (some (true, rows, columns))
        ((slices_Clone_int_int_m rr).bind fun y8 => (slices_Clone_int_int_m p0).bind fun y12 => some (false, y8, y12))

def impl_choices_1_in_l1 (kk : Int) (n : Int) (m : List (List Int)) (rr : List Int) (rec : Int → (List Int) → Int → Int → (List (List Int)) → (List Int) → (List Int) → (List Int) → Option (Bool × (List Int) × (List Int) × (List Int))) : Nat → (List Int) → (List Int) → (List Int) → Int → Option ((Bool × (List Int) × (List Int) × (List Int)) ⊕ ((List Int) × (List Int) × (List Int)))
  | 0, _, _, _, _ => none
  | k + 1, l6, l8, l10, n11 => cond (decide (n11 < n))
        ((app l6 n11).bind fun l21 => (ck (n11 + 1)).bind fun n25 => (rec n25 l21 kk n m rr l8 l10).bind fun y27 => cond (!y27.1)
        (some (Sum.inl (false, y27.2.1, y27.2.2.1, y27.2.2.2)))
        ((ck ((y27.2.1.length : Int) - 1)).bind fun n32 => (cutO y27.2.1 n32).bind fun l34 => (ck (n11 + 1)).bind fun n38 => impl_choices_1_in_l1 kk n m rr rec k l34 y27.2.2.1 y27.2.2.2 n38))
        (some (Sum.inr (l6, l8, l10)))

def impl_choices_1_in_b (rec : Int → (List Int) → Int → Int → (List (List Int)) → (List Int) → (List Int) → (List Int) → Option (Bool × (List Int) × (List Int) × (List Int))) (p0 : Int) (l : List Int) (kk : Int) (n : Int) (m : List (List Int)) (rr : List Int) (rows : List Int) (columns : List Int) : Option (Bool × (List Int) × (List Int) × (List Int)) :=
  cond ((l.length : Int) == kk)
        ((impl_firstRegular_1_1_m l m rr rows columns).bind fun y1 => some (y1.1, l, y1.2.1, y1.2.2))
        (((impl_choices_1_in_l1 kk n m rr rec 4000000 l rows columns p0 : Option ((Bool × (List Int) × (List Int) × (List Int)) ⊕ ((List Int) × (List Int) × (List Int))))).bind (fun s => Sum.elim (fun rv => some rv) (fun s => (fun (l13 : List Int) (l15 : List Int) (l17 : List Int) => some (true, l13, l15, l17)) s.1 s.2.1 s.2.2) s))

def impl_choices_1_in_r : Nat → Int → (List Int) → Int → Int → (List (List Int)) → (List Int) → (List Int) → (List Int) → Option (Bool × (List Int) × (List Int) × (List Int))
  | 0 => fun _ _ _ _ _ _ _ _ => none
  | k + 1 => impl_choices_1_in_b (impl_choices_1_in_r k)
def impl_choices_1_in_m (p0 : Int) (l : List Int) (kk : Int) (n : Int) (m : List (List Int)) (rr : List Int) (rows : List Int) (columns : List Int) : Option (Bool × (List Int) × (List Int) × (List Int)) := impl_choices_1_in_r 64 p0 l kk n m rr rows columns

def impl_choices_in_m (p0 : Int) (p1 : Int) (m : List (List Int)) (rr : List Int) (rows : List Int) (columns : List Int) : Option (Bool × (List Int) × (List Int)) :=
  (impl_choices_1_in_m 0 ([]) p1 p0 m rr rows columns).bind fun y13 => some (y13.1, y13.2.2.1, y13.2.2.2)

def impl_firstRegular_1_m (p0 : List Int) (m : List (List Int)) (nn : Int) (rows : List Int) (columns : List Int) : Option (Bool × (List Int) × (List Int)) :=
  (idx m 0).bind fun x3 => (impl_choices_in_m (x3.length : Int) nn m p0 rows columns).bind fun y9 => some (y9.1, y9.2.1, y9.2.2)

def impl_choices_1_out_l1 (kk : Int) (n : Int) (m : List (List Int)) (nn : Int) (rec : Int → (List Int) → Int → Int → (List (List Int)) → Int → (List Int) → (List Int) → Option (Bool × (List Int) × (List Int) × (List Int))) : Nat → (List Int) → (List Int) → (List Int) → Int → Option ((Bool × (List Int) × (List Int) × (List Int)) ⊕ ((List Int) × (List Int) × (List Int)))
  | 0, _, _, _, _ => none
  | k + 1, l6, l8, l10, n11 => cond (decide (n11 < n))
        ((app l6 n11).bind fun l21 => (ck (n11 + 1)).bind fun n25 => (rec n25 l21 kk n m nn l8 l10).bind fun y27 => cond (!y27.1)
        (some (Sum.inl (false, y27.2.1, y27.2.2.1, y27.2.2.2)))
        ((ck ((y27.2.1.length : Int) - 1)).bind fun n32 => (cutO y27.2.1 n32).bind fun l34 => (ck (n11 + 1)).bind fun n38 => impl_choices_1_out_l1 kk n m nn rec k l34 y27.2.2.1 y27.2.2.2 n38))
        (some (Sum.inr (l6, l8, l10)))

def impl_choices_1_out_b (rec : Int → (List Int) → Int → Int → (List (List Int)) → Int → (List Int) → (List Int) → Option (Bool × (List Int) × (List Int) × (List Int))) (p0 : Int) (l : List Int) (kk : Int) (n : Int) (m : List (List Int)) (nn : Int) (rows : List Int) (columns : List Int) : Option (Bool × (List Int) × (List Int) × (List Int)) :=
  cond ((l.length : Int) == kk)
        ((impl_firstRegular_1_m l m nn rows columns).bind fun y1 => some (y1.1, l, y1.2.1, y1.2.2))
        (((impl_choices_1_out_l1 kk n m nn rec 4000000 l rows columns p0 : Option ((Bool × (List Int) × (List Int) × (List Int)) ⊕ ((List Int) × (List Int) × (List Int))))).bind (fun s => Sum.elim (fun rv => some rv) (fun s => (fun (l13 : List Int) (l15 : List Int) (l17 : List Int) => some (true, l13, l15, l17)) s.1 s.2.1 s.2.2) s))

def impl_choices_1_out_r : Nat → Int → (List Int) → Int → Int → (List (List Int)) → Int → (List Int) → (List Int) → Option (Bool × (List Int) × (List Int) × (List Int))
  | 0 => fun _ _ _ _ _ _ _ _ => none
  | k + 1 => impl_choices_1_out_b (impl_choices_1_out_r k)
def impl_choices_1_out_m (p0 : Int) (l : List Int) (kk : Int) (n : Int) (m : List (List Int)) (nn : Int) (rows : List Int) (columns : List Int) : Option (Bool × (List Int) × (List Int) × (List Int)) := impl_choices_1_out_r 64 p0 l kk n m nn rows columns

def impl_choices_out_m (p0 : Int) (p1 : Int) (m : List (List Int)) (nn : Int) (rows : List Int) (columns : List Int) : Option (Bool × (List Int) × (List Int)) :=
  (impl_choices_1_out_m 0 ([]) p1 p0 m nn rows columns).bind fun y13 => some (y13.1, y13.2.2.1, y13.2.2.2)

def impl_firstRegular_m (p0 : List (List Int)) (p1 : Int) : Option ((List Int) × (List Int) × Bool) :=
  (impl_choices_out_m (p0.length : Int) p1 p0 p1 ([]) ([])).bind fun y11 => some (y11.2.1, y11.2.2, !y11.1)

def impl_tropicalRank_l1 (p0 : List (List Int)) : Nat → Int → Option ((Int) ⊕ (Unit))
  | 0, _ => none
  | k + 1, n6 => cond (decide (n6 > 0))
        ((impl_firstRegular_m p0 n6).bind fun y10 => cond y10.2.2
        (some (Sum.inl n6))
        ((ck (n6 - 1)).bind fun n17 => impl_tropicalRank_l1 p0 k n17))
        (some (Sum.inr ()))

def impl_tropicalRank_m (p0 : List (List Int)) : Option (Int) :=
  (idx p0 0).bind fun x1 => ((impl_tropicalRank_l1 p0 4000000 (min (p0.length : Int) (x1.length : Int)) : Option ((Int) ⊕ (Unit)))).bind (fun s => Sum.elim (fun rv => some rv) (fun _ => some 0) s)

def impl_FirstRegular_m (p0 : List (List Int)) (p1 : Int) : Option ((List Int) × (List Int) × Bool) :=
  (impl_isMatrix_m p0).bind fun y1 => ((cond (!y1) (some true) ((impl_within_m p1 1 6).bind fun y6 => some (!y6)) : Option Bool)).bind fun b3 => cond b3
        (some ([], [], false))
        ((impl_firstRegular_m p0 p1).bind fun y10 => some (y10.1, y10.2.1, y10.2.2))

def impl_TropicalRank_m (p0 : List (List Int)) : Option (Int × Bool) :=
  (impl_isMatrix_m p0).bind fun y1 => cond (!y1)
        (some (0, false))
        ((impl_tropicalRank_m p0).bind fun y3 => some (y3, true))

end Go.Proofs.Ytaagklbiebogfaa
