/- Plain laws: does a vector prove a mean, are these prices, are these potentials. -/
import Derived.Test.YtjhaealoneennaaMn1M
import Derived.Test.YtjhaealoneennaaPMat
namespace Go.Proofs.Ytjhaealoneennaa
set_option linter.unusedVariables false
set_option linter.unusedSimpArgs false

theorem l1All_fin (l : List Int) : spec_l1All_m l (-1000000) 1000000 = some (l.all fin) := l1All_eq l _ _
theorem isQuestion_eq (m : List (List Int)) (n : Int) (v : List Int) : impl_isQuestion_m m n v = some (sqr m && (fin n && (decide (v.length = m.length) && v.all fin))) := by
  unfold impl_isQuestion_m
  rw [isSquare_eq, isFinite_eq, areOnePerVertex_eq]
  simp only [bs]
  cases sqr m
  · rfl
  · cases fin n <;> rfl
theorem mnVector_eq (m : List (List Int)) (v : List Int) : spec_mnVector_m m v = some (sqr m && (decide (v.length = m.length) && v.all fin)) := by
  unfold spec_mnVector_m
  rw [mxSquare_eq, l1All_fin]
  simp only [bs, nbeq]
  cases sqr m
  · rfl
  · cases decide (v.length = m.length) <;> rfl

def pm (p : Int) (v : List Int) (i j : Nat) (x : Int) : Bool := x == 1000000000 || !decide (x + nth v j < p + nth v i)
/-! ### Prices -/
/-! ### Potentials -/
end Go.Proofs.Ytjhaealoneennaa
