/- Proved here: what the document's answers of layer 2 (Right, Mul, Raise, Times, Power, Join) come to. -/
import Derived.Test.YtbiijcehgiibeaaKCBackPureB
import Derived.Test.YtbiijcehgiibeaaKCBackQg3
import Derived.Test.YtbiijcehgiibeaaKCBackQ0
namespace Go.Proofs.Ytbiijcehgiibeaa.Pure
open Go.RowKit Go.Proofs.Ytbiijcehgiibeaa.Q Go.Proofs.YtbiijcehgiibeaaW.PrintWords
set_option linter.unusedVariables false
set_option linter.unusedSimpArgs false
theorem rright (a b : Int) : reeveref02_Right.f a b = some (M.right a b) := by
  unfold reeveref02_Right.f M.right
  by_cases h1 : 0 ≤ a
  · rw [if_pos h1]
    by_cases h2 : a < 16777199
    · rw [if_pos h2]
      by_cases h3 : 0 ≤ b
      · rw [if_pos h3]; congr 1; simp [h1, h2, h3]
      · rw [if_neg h3]; congr 1; simp [h3]
    · rw [if_neg h2]; congr 1; simp [h2]
  · rw [if_neg h1]; congr 1; simp [h1]
end Go.Proofs.Ytbiijcehgiibeaa.Pure
