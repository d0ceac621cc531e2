/- Proved here: the plain law of SealReads. -/
import Derived.Test.YtbiijcehgiibeaaKSReadsPureG
import Derived.Test.YtbiijcehgiibeaaKSReadsQf5
namespace Go.Proofs.Ytbiijcehgiibeaa.Pure
open Go.RowKit Go.Proofs.Ytbiijcehgiibeaa.Q Go.Proofs.YtbiijcehgiibeaaW.PrintWords
theorem both_bytes (a b : Int) (k : Nat) : ∃ t n, seal_Bytes.f a b = some (t, n) ∧ reeveref02_Bytes.f a b = some (t, n) ∧ t.length ≤ 6 ∧ reevelaw02_Owned.f (k + 40) t t = some true := by
  by_cases h : M.right a b = true
  · exact ⟨_, _, bytes6 (x := (a, b)) h, rbytes6 (x := (a, b)) h, by simp [M.wr6], owned6 k _ _ _ _ _ _ _ _ _ _ _ _⟩
  · have h' : M.right a b = false := by simpa using h
    exact ⟨_, _, bytes6_no h', rbytes6_no h', by simp, owned0 k⟩
theorem SealReads (a0 a1 : Int) (l : List Int) (a2 : Int) (_ : (Lit.int .i64 a0).wf = true) (_ : (Lit.int .i64 a1).wf = true) (y : l.length * 1 ≤ 140737488351232) (hw : ∀ x ∈ l, (Lit.int .u8 x).wf = true) (w2 : (Lit.int .i64 a2).wf = true) : ∃ k, reevelaw02_SealReads.f k a0 a1 l a2 = some true := by
  refine ⟨l.length + 40, ?_⟩
  have hb := bytes_of hw
  obtain ⟨i1, i2⟩ := i64_of w2
  obtain ⟨t, n, h1, h2, h3, h4⟩ := both_bytes a0 a1 l.length
  unfold reevelaw02_SealReads.f
  rw [awake02, h1, h2]
  simp only [Option.bind_some]
  rw [show l.length + 40 = (l.length + 39) + 1 from rfl, rread6 _ hb (by omega) i1 i2, lent (by omega)]
  simp only [Option.bind_some]
  rw [read6 _ hb (by omega) i1 i2, kept (by omega) (by omega), same_ok (a := t) (b := t) (by omega) (by omega), show (l.length + 39) + 1 = l.length + 40 from rfl, h4]
  simp
end Go.Proofs.Ytbiijcehgiibeaa.Pure
