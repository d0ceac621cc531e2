/- Proved here: what seal.Join, seal.Times, seal.Power come to where their seals are right. -/
import Derived.Test.YtbiijcehgiibeaaKCWholePureA
import Derived.Test.YtbiijcehgiibeaaKCWholeQg2
import Derived.Test.YtbiijcehgiibeaaKCWholeField
namespace Go.Proofs.Ytbiijcehgiibeaa.Pure
open Go.RowKit Go.Proofs.Ytbiijcehgiibeaa.Q Go.Proofs.YtbiijcehgiibeaaW.PrintWords
set_option linter.unusedVariables false
set_option linter.unusedSimpArgs false
theorem addp_ok {x : Int × Int} {l : List Int} (h : M.right x.1 x.2 = true) (hb : M.bytes l = true) (hl : (l.length : Int) ≤ 9223372036854775807) : seal_Add.f x.1 x.2 l = some ((M.add x l).1, (M.add x l).2, 0) := add_ok h hb hl
end Go.Proofs.Ytbiijcehgiibeaa.Pure
