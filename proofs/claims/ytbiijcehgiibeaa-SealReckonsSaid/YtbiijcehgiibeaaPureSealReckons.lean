/- Proved here: the program's Times, Power and Join answer as the document's: the plain statement of SealReckons, over the printed functions. Conditions: its hypotheses. -/
import Derived.Test.YtbiijcehgiibeaaPureC
import Derived.Test.YtbiijcehgiibeaaQf13
namespace Go.Proofs.Ytbiijcehgiibeaa.Pure
open Go.RowKit Go.Proofs.Ytbiijcehgiibeaa.Q Go.Proofs.YtbiijcehgiibeaaW.PrintWords
set_option linter.unusedVariables false
set_option linter.unusedSimpArgs false

theorem SealReckons (a0_0 a0_1 a1_0 a1_1 a2 : Int) (w0 : (Lit.int .i64 a0_0).wf = true) (w1 : (Lit.int .i64 a0_1).wf = true) (w2 : (Lit.int .i64 a1_0).wf = true) (w3 : (Lit.int .i64 a1_1).wf = true) (w4 : (Lit.int .i64 a2).wf = true) :
    ∃ k, reevelaw02_SealReckons.f k a0_0 a0_1 a1_0 a1_1 a2 = some true := by
  refine ⟨a2.toNat + 1 + 1, ?_⟩
  obtain ⟨h1, h2⟩ := i64_of w4
  unfold reevelaw02_SealReckons.f
  rw [awake02, rtimes, rpower _ _ _ _ h2 (by omega), rjoin _ _ _ _ _ _ h2 (by omega)]
  obtain ⟨x, hx⟩ : ∃ x, seal_Times.f a0_0 a0_1 a1_0 a1_1 = some x := by
    unfold seal_Times.f; split
    · split
      · exact ⟨_, rfl⟩
      · exact ⟨_, rfl⟩
    · exact ⟨_, rfl⟩
  obtain ⟨y, hy⟩ : ∃ y, seal_Power.f a0_0 a0_1 a2 = some y := by
    unfold seal_Power.f; split
    · split
      · exact ⟨_, rfl⟩
      · exact ⟨_, rfl⟩
    · exact ⟨_, rfl⟩
  obtain ⟨z, hz⟩ : ∃ z, seal_Join.f a0_0 a0_1 a1_0 a1_1 a2 = some z := by
    unfold seal_Join.f; split
    · split
      · split
        · exact ⟨_, rfl⟩
        · exact ⟨_, rfl⟩
      · exact ⟨_, rfl⟩
    · exact ⟨_, rfl⟩
  rw [hx, hy, hz]
  simp

end Go.Proofs.Ytbiijcehgiibeaa.Pure
