/- Proved here: the small case that each statement of layer 4 begins with comes out right. · Proved here: the plain law of PolicyReads. -/
import Derived.Test.YtbiijcehgiibeaaKPReadsJQg10
import Derived.Test.YtbiijcehgiibeaaKPReadsJPureE
import Derived.Test.YtbiijcehgiibeaaKPReadsJFloat
import Derived.Test.YtbiijcehgiibeaaKPReadsQf22
namespace Go.Proofs.Ytbiijcehgiibeaa.Pure
open Go.Proofs.Ytbiijcehgiibeaa.Q
theorem awake04 : reevelaw04_awake.f = some true := rfl
end Go.Proofs.Ytbiijcehgiibeaa.Pure
namespace Go.Proofs.Ytbiijcehgiibeaa.Pure
open Go.RowKit Go.Proofs.Ytbiijcehgiibeaa.Q Go.Proofs.YtbiijcehgiibeaaW.PrintWords
theorem PolicyReads (l : List Int) (y : l.length * 1 ≤ 140737488351232) (hw : ∀ x ∈ l, (Lit.int .u8 x).wf = true) : ∃ k, reevelaw04_PolicyReads.f k l = some true := by
  refine ⟨l.length + 10, ?_⟩
  have hb := bytes_of hw
  unfold reevelaw04_PolicyReads.f
  rw [awake04, lent (by omega)]
  simp only [Option.bind_some]
  rw [kept (by omega) (by omega)]
  unfold reeveref04_Read.f policy_Read.f Pol.readO
  rw [if_pos hb, if_pos (by omega)]
  simp
end Go.Proofs.Ytbiijcehgiibeaa.Pure
