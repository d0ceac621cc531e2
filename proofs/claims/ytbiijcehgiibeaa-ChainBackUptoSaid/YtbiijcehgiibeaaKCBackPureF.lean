/- Proved here: what Lent and Kept come to. -/
import Derived.Test.YtbiijcehgiibeaaKCBackPureD
import Derived.Test.YtbiijcehgiibeaaKCBackPureE
import Derived.Test.YtbiijcehgiibeaaKCBackQg5
namespace Go.Proofs.Ytbiijcehgiibeaa.Pure
open Go.RowKit Go.Proofs.Ytbiijcehgiibeaa.Q Go.Proofs.YtbiijcehgiibeaaW.PrintWords
theorem kept {l : List Int} {k : Nat} (h : l.length ≤ 140737488351232) (hk : l.length < k) : reevelaw02_Kept.f k l l = some true := by
  unfold reevelaw02_Kept.f
  rw [if_pos rfl, if_pos h, same_ok (by omega) hk]
  simp
end Go.Proofs.Ytbiijcehgiibeaa.Pure
