/- Rows of an owned matrix that other variables hold too; rows that move from one matrix into another. Nothing of a program is named here. -/
import Derived.Test.YtjhaealoneennaaMore
namespace Go.Proofs.Ytjhaealoneennaa
open Go.RowKit
set_option linter.unusedVariables false
set_option linter.unusedSimpArgs false

section
variable {vs : List Value} {m m' m2 : List (List Int)} {v x : Value} {l xl : List Int} {j : Nat}
/-- v is nil, or one of the rows. -/
def RowOf (vs : List Value) (m : List (List Int)) (v : Value) (l : List Int) : Prop :=
  (v = .slice none 0 0 ∧ l = []) ∨ ∃ j : Nat, vs[j]? = some v ∧ m[j]? = some l
theorem RowOf.nil_ : RowOf vs m (.slice none 0 0) [] := .inl ⟨rfl, rfl⟩
theorem RowOf.row (h : vs[j]? = some v) (h' : m[j]? = some l) : RowOf vs m v l := .inr ⟨j, h, h'⟩
theorem RowOf.grow (hl : vs.length = m.length) (ha : app m xl = some m') (h : RowOf vs m v l) : RowOf (vs ++ [x]) m' v l := by
  obtain ⟨rfl, _⟩ := app_spec ha
  rcases h with h | ⟨j, h1, h2⟩
  · exact .inl h
  · have h3 := (List.getElem?_eq_some_iff.1 h1).1
    have h4 := (List.getElem?_eq_some_iff.1 h2).1
    exact .inr ⟨j, by rw [List.getElem?_append_left h3]; exact h1, by rw [List.getElem?_append_left h4]; exact h2⟩
theorem RowOf.last (hl : vs.length = m.length) (ha : app m xl = some m') : RowOf (vs ++ [x]) m' x xl := by
  obtain ⟨rfl, _⟩ := app_spec ha
  exact .inr ⟨vs.length, by simp, by simp [hl]⟩
theorem RowOf.only : RowOf [x] [xl] x xl := .inr ⟨0, rfl, rfl⟩
end
section
variable {W w : World} {As : List Atom} {ts ti : TypeId} {v x : Value} {vs : List Value} {m : List (List Int)} {l : List Int} {out : Nat → Bool}
theorem Mem.lenM (h : Mem W w As) (i : Nat) (hi : As[i]? = some (aMatO ts ti v vs m out)) : vs.length = m.length := by
  obtain ⟨f, h1, _⟩ := h.get hi
  exact h1.2.2.1
theorem Mem.rdP (h : Mem W w As) (i : Nat) (hi : As[i]? = some (aMat ts ti v vs m)) (hr : RowOf vs m x l) : RdI w x l := by
  rcases hr with ⟨rfl, rfl⟩ | ⟨j, h1, h2⟩
  · exact RdS.nil_ _ _
  · exact h.rdRow i (out := fun _ => false) hi rfl h1 h2
/-- The row alone, as an object of its own. -/
theorem Mem.rowOut (h : Mem W w (aMat ts ti v vs m :: As)) (hr : RowOf vs m x l) : Mem W w (aInts ti x l :: As) := by
  rcases hr with ⟨rfl, rfl⟩ | ⟨j, h1, h2⟩
  · exact h.drop.nilI ti
  · exact ((h.take (out := fun _ => false) rfl h1 h2).front 1 rfl).drop
theorem RowOf.one (h : Mem W w As) (i : Nat) (hi : As[i]? = some (aMat ts ti v vs m)) (hr : RowOf vs m x l) : x.oneCell' = true := RdS.one (h.rdP i hi hr)
theorem out_all (e : Nat) : ∀ k, e ≤ k → (fun _ : Nat => false) k = false := fun _ _ => rfl
theorem out_next {e j : Nat} (h : ∀ k, j ≤ k → out k = false) (he : j < e) : ∀ k, e ≤ k → out k = false := fun k hk => h k (by omega)
theorem out_take {e j : Nat} {i : Int} (h : ∀ k, j ≤ k → out k = false) (hi : i = (j : Int)) (he : j < e) : ∀ k, e ≤ k → setO out i.toNat k = false := fun k hk => by
  rw [setO_other out (by omega)]; exact h k (by omega)
end
theorem Mem.rdMO {W w : World} {As : List Atom} {ts ti : TypeId} {v : Value} {vs : List Value} {m : List (List Int)} {out : Nat → Bool} (h : Mem W w As) (i : Nat) (hi : As[i]? = some (aMatO ts ti v vs m out)) : RdS (fun _ _ (_ : List Int) => True) w v m := by
  obtain ⟨f, ⟨h1, h2, h3, h4⟩, _⟩ := h.get hi
  exact h2.rd h3 fun _ _ _ _ _ => trivial
end Go.Proofs.Ytjhaealoneennaa
