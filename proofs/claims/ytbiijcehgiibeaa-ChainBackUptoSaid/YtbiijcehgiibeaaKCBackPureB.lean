/- Proved here: what seal.Join, seal.Times, seal.Power come to where their seals are right. -/
import Derived.Test.YtbiijcehgiibeaaKCBackPureA
import Derived.Test.YtbiijcehgiibeaaKCBackQg2
import Derived.Test.YtbiijcehgiibeaaKCBackField
namespace Go.Proofs.Ytbiijcehgiibeaa.Pure
open Go.RowKit Go.Proofs.Ytbiijcehgiibeaa.Q Go.Proofs.YtbiijcehgiibeaaW.PrintWords
set_option linter.unusedVariables false
set_option linter.unusedSimpArgs false
theorem bytes_append {a b : List Int} (ha : M.bytes a = true) (hb : M.bytes b = true) : M.bytes (a ++ b) = true := by
  unfold M.bytes at *
  rw [List.all_append, ha, hb]
  rfl
end Go.Proofs.Ytbiijcehgiibeaa.Pure
