/- Proved here: what seal.Join, seal.Times, seal.Power come to where their seals are right. -/
import Derived.Test.YtbiijcehgiibeaaKSAddsPureA
import Derived.Test.YtbiijcehgiibeaaKSAddsQg2
import Derived.Test.YtbiijcehgiibeaaKSAddsField
namespace Go.Proofs.Ytbiijcehgiibeaa.Pure
open Go.RowKit Go.Proofs.Ytbiijcehgiibeaa.Q Go.Proofs.YtbiijcehgiibeaaW.PrintWords
set_option linter.unusedVariables false
set_option linter.unusedSimpArgs false
theorem start_ok : seal_Start.f = some (1, 2) := rfl
end Go.Proofs.Ytbiijcehgiibeaa.Pure
