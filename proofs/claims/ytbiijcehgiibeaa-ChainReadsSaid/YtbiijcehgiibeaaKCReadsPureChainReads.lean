/- Proved here: the plain law of ChainReads. -/
import Derived.Test.YtbiijcehgiibeaaKCReadsPureCio
import Derived.Test.YtbiijcehgiibeaaKCReadsPureOwn
import Derived.Test.YtbiijcehgiibeaaKCReadsPureF
import Derived.Test.YtbiijcehgiibeaaKCReadsQf19
namespace Go.Proofs.Ytbiijcehgiibeaa.Pure
open Go.RowKit Go.Proofs.Ytbiijcehgiibeaa.Q Go.Proofs.YtbiijcehgiibeaaW.PrintWords
theorem ChainReads (a0 a1 a2 a3 : Int) (l : List Int) (at_ : Int) (_ : (Lit.int .i64 a0).wf = true) (_ : (Lit.int .i64 a1).wf = true) (_ : (Lit.int .i64 a2).wf = true) (_ : (Lit.int .i64 a3).wf = true) (y : l.length * 1 ≤ 140737488351232) (hw : ∀ x ∈ l, (Lit.int .u8 x).wf = true) (_ : (Lit.int .i64 at_).wf = true) : ∃ k, reevelaw03_ChainReads.f k a0 a1 a2 a3 l at_ = some true := by
  refine ⟨(l.length + 190) + 10, ?_⟩
  have hb := bytes_of hw
  have hc := cbytes (⟨a0, a1, ⟨a2, a3⟩⟩ : S60) (k := l.length + 190 + 10) (by omega)
  have hr := rbytes (⟨a0, a1, ⟨a2, a3⟩⟩ : S60) (k := l.length + 190 + 10) (by omega)
  have hn := lwr_len (⟨a0, a1, ⟨a2, a3⟩⟩ : S60)
  unfold reevelaw03_ChainReads.f
  rw [awake03, hr, hc, rread3 hb (by omega) at_ (by omega), lent (by omega)]
  simp only [Option.bind_some]
  rw [cread hb (by omega) at_ (by omega), kept (by omega) (by omega)]
  simp only [Option.bind_some]
  rw [same_ok (by omega) (by omega), owned (by omega) (by omega) (by omega)]
  simp
end Go.Proofs.Ytbiijcehgiibeaa.Pure
