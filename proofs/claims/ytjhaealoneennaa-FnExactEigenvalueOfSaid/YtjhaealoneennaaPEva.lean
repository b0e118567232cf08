/- Plain laws: the eigenvalue. -/
import Derived.Test.YtjhaealoneennaaEvoM
import Derived.Test.YtjhaealoneennaaPStg
import Derived.Test.YtjhaealoneennaaPMean
namespace Go.Proofs.Ytjhaealoneennaa
set_option linter.unusedVariables false
set_option linter.unusedSimpArgs false

theorem EigenvalueOf_both (m : List (List Int)) : ∃ r, spec_EigenvalueOf_m m = some r ∧ impl_EigenvalueOf_m m = some r ∧ True := by
  unfold spec_EigenvalueOf_m impl_EigenvalueOf_m
  rw [mxSquare_eq, isSquare_eq]
  cases hs : sqr m with
  | false => exact ⟨_, rfl, rfl, trivial⟩
  | true =>
    obtain ⟨b, h1, h2, _⟩ := strong_eq (sqr_good hs) rfl
    obtain ⟨r, h3, h4, _⟩ := LeastMean_both m
    simp only [Bool.not_true, cF, bs]
    rw [h1, h2]
    simp only [bs]
    cases b with
    | false => exact ⟨_, rfl, rfl, trivial⟩
    | true =>
      simp only [Bool.not_true, cF]
      rw [h3, h4]
      exact ⟨_, rfl, rfl, trivial⟩
end Go.Proofs.Ytjhaealoneennaa
