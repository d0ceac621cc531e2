/- Proved here: the plain law of ChainGoes. -/
import Derived.Test.YtbiijcehgiibeaaKCGoesPureF
import Derived.Test.YtbiijcehgiibeaaKCGoesQf14
namespace Go.Proofs.Ytbiijcehgiibeaa.Pure
open Go.RowKit Go.Proofs.Ytbiijcehgiibeaa.Q Go.Proofs.YtbiijcehgiibeaaW.PrintWords
theorem ChainGoes (a0 a1 a2 a3 : Int) (l : List Int) (_ : (Lit.int .i64 a0).wf = true) (_ : (Lit.int .i64 a1).wf = true) (_ : (Lit.int .i64 a2).wf = true) (_ : (Lit.int .i64 a3).wf = true) (y : l.length * 1 ≤ 140737488351232) (hw : ∀ x ∈ l, (Lit.int .u8 x).wf = true) : ∃ k, reevelaw03_ChainGoes.f k a0 a1 a2 a3 l = some true := by
  refine ⟨l.length + 10, ?_⟩
  have hb := bytes_of hw
  have hc := cnext (⟨a0, a1, ⟨a2, a3⟩⟩ : S60) hb (by omega)
  have hr := rnext (⟨a0, a1, ⟨a2, a3⟩⟩ : S60) (k := l.length + 10) hb (by omega) (by omega)
  unfold reevelaw03_ChainGoes.f
  rw [awake03, hr, lent (by omega)]
  simp only [Option.bind_some]
  rw [hc, kept (by omega) (by omega), show chain_First.f = some (0, 0, 1, 2) from rfl, show reeveref03_First.f = some (0, 0, 1, 2) from rfl]
  simp
end Go.Proofs.Ytbiijcehgiibeaa.Pure
