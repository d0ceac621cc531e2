/- Proved here: the plain law of ChainChecks. -/
import Derived.Test.YtbiijcehgiibeaaKCChecksPureE
import Derived.Test.YtbiijcehgiibeaaKCChecksQf16
namespace Go.Proofs.Ytbiijcehgiibeaa.Pure
open Go.RowKit Go.Proofs.Ytbiijcehgiibeaa.Q Go.Proofs.YtbiijcehgiibeaaW.PrintWords
theorem ChainChecks (ps : List (List Int)) (ls : List S60) (h : ps.length ≤ 9223372036854775807 ∧ ∀ x ∈ ps, x.length ≤ 9223372036854775807 ∧ ∀ y ∈ x, (Lit.int .u8 y).wf = true) (_ : ls.length ≤ 9223372036854775807) :
    ∃ k, reevelaw03_ChainChecks.f k ps ls = some true := by
  obtain ⟨m, hm⟩ := exists_max ps
  refine ⟨ps.length + m + 10, ?_⟩
  unfold reevelaw03_ChainChecks.f
  rw [awake03, ccheck (rows_of h) (by omega), rcheck (rows_of h) hm (by omega)]
  simp
end Go.Proofs.Ytbiijcehgiibeaa.Pure
