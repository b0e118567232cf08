/- Plain laws: the unit matrix, is it a matrix, the trace, the transpose; and their four checks answer true. -/
import Derived.Test.YtnnhbkhlipekeaaPMat
namespace Go.Proofs.Ytnnhbkhlipekeaa
set_option linter.unusedVariables false
set_option linter.unusedSimpArgs false

def unitM (n : Nat) : List (List Int) := (List.range n).map fun i => (List.range n).map fun j => if i = j then 0 else 1000000000
/-! ### The transpose -/
def colAt (m : List (List Int)) (j : Nat) : List Int := m.map fun r => nth r j
def turn (m : List (List Int)) (c : Nat) : List (List Int) := (List.range c).map (colAt m)
theorem zip_turn (P : List (List Int)) (x : List Int) : List.zipWith (fun (r : List Int) v => r ++ [v]) (turn P x.length) x = turn (P ++ [x]) x.length := by
  apply List.ext_getElem
  · simp [turn]
  · intro i h1 h2
    simp [turn, colAt, nth]
    have : i < x.length := by simpa [turn] using h1
    simp [this]
theorem turn_good {m : List (List Int)} {c : Nat} (g : Good m c) : SmallM (turn m c) := by
  have := g.hi; have := g.chi
  refine ⟨by simp [Small, turn]; omega, fun l h => ?_⟩
  simp only [turn, List.mem_map] at h
  obtain ⟨i, _, rfl⟩ := h
  simp [Small, colAt]; omega
end Go.Proofs.Ytnnhbkhlipekeaa
