/- Plain laws: is the matrix of rank one, and the outer product of two vectors. -/
import Derived.Test.YtjhaealoneennaaPMat
namespace Go.Proofs.Ytjhaealoneennaa
set_option linter.unusedVariables false
set_option linter.unusedSimpArgs false

/-- Entry x of row r at column j is as in a matrix of rank one, whose first row is h. -/
def r1 (h r : List Int) (j : Nat) (x : Int) : Bool := !(x == 1000000000) && decide (x - nth r 0 = nth h j - nth h 0)
def r1' (h r : List Int) (j : Nat) (x : Int) : Bool := !(x == 1000000000) && (!(nth h j == 1000000000) && decide (x - nth r 0 = nth h j - nth h 0))
theorem r1_same {m : List (List Int)} {c : Nat} (g : Good m c) : (m.all fun r => allI (r1 (hd m) r) r 0) = (m.all fun r => allI (r1' (hd m) r) r 0) := by
  have := g.lo
  have hh : (hd m).length = c := g.head
  have hhm : hd m ∈ m := by cases m with | nil => simp at this | cons x m => rw [hd_cons]; exact List.mem_cons_self
  rw [Bool.eq_iff_iff]
  simp only [List.all_eq_true, allI_iff _ (0 : Int), Nat.zero_add]
  constructor
  · intro h r hr i hi
    have h1 := h r hr i hi
    have h2 := h _ hhm i (by have := g.row r hr; omega)
    simp only [r1, r1', Bool.and_eq_true] at *
    exact ⟨h1.1, h2.1, h1.2⟩
  · intro h r hr i hi
    have h1 := h r hr i hi
    simp only [r1, r1', Bool.and_eq_true] at *
    exact ⟨h1.1, h1.2.2⟩
/-! ### The outer product -/
theorem shifted_l1_eq (x : Int) (hx : fin x = true) (q : List Int) : ∀ j l, l.length + q.length < 1000000 → (∀ y ∈ q, fin y = true) → impl_shifted_l1 x q j l = some (l ++ q.map (fun y => x + y)) := by
  have hx := (fin_iff x).1 hx
  induction q with
  | nil => intro j l _ _; simp [impl_shifted_l1]
  | cons y q ih =>
    intro j l hl hn
    simp only [List.length_cons] at hl
    have := (fin_iff y).1 (hn y List.mem_cons_self)
    rw [impl_shifted_l1, product_eq (by omega) (by omega)]
    simp only [bs]
    rw [app_lt (by omega)]
    simp only [bs]
    rw [ih _ _ (by simp; omega) (fun z hz => hn z (List.mem_cons_of_mem _ hz))]
    have e : plus y x = x + y := by unfold plus; rw [if_neg (by omega)]; omega
    simp [e]
theorem shifted_eq (b : List Int) (hb : b.length ≤ 6) (hbn : ∀ y ∈ b, fin y = true) (x : Int) (hx : fin x = true) : impl_shifted_m b x = some (b.map (fun y => x + y)) := by
  unfold impl_shifted_m
  rw [guardO_t (by simp; omega)]
  simp only [bs]
  rw [shifted_l1_eq x hx b 0 [] (by simp; omega) hbn]
  rfl
def outer (a b : List Int) : List (List Int) := a.map (fun x => b.map (fun y => x + y))
end Go.Proofs.Ytjhaealoneennaa
