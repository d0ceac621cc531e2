/- Proved here: the plain law of SealAdds. -/
import Derived.Test.YtbiijcehgiibeaaKSAddsPureF
import Derived.Test.YtbiijcehgiibeaaKSAddsQf3
namespace Go.Proofs.Ytbiijcehgiibeaa.Pure
open Go.RowKit Go.Proofs.Ytbiijcehgiibeaa.Q Go.Proofs.YtbiijcehgiibeaaW.PrintWords
theorem radd_eq (a b : Int) {l : List Int} {k : Nat} (hb : M.bytes l = true) (hm : (l.length : Int) ≤ 9223372036854775807) (hk : l.length < k) : reeveref02_Add.f k a b l = seal_Add.f a b l := by
  by_cases h : M.right a b = true
  · rw [add_ok h hb hm, radd (z := (a, b)) h hb hm hk]
  · have h' : M.right a b = false := by simpa using h
    rw [radd_no h']
    unfold seal_Add.f
    rw [h', if_neg (by decide)]
theorem seal_add_ex (a b : Int) {l : List Int} (hb : M.bytes l = true) (hm : (l.length : Int) ≤ 9223372036854775807) : ∃ t, seal_Add.f a b l = some t := by
  by_cases h : M.right a b = true
  · exact ⟨_, add_ok h hb hm⟩
  · refine ⟨(0, 0, 20), ?_⟩
    unfold seal_Add.f
    rw [if_neg h]
theorem SealAdds (a0 a1 : Int) (l : List Int) (_ : (Lit.int .i64 a0).wf = true) (_ : (Lit.int .i64 a1).wf = true) (y : l.length * 1 ≤ 140737488351232) (hw : ∀ x ∈ l, (Lit.int .u8 x).wf = true) : ∃ k, reevelaw02_SealAdds.f k a0 a1 l = some true := by
  refine ⟨l.length + 1, ?_⟩
  have hb := bytes_of hw
  obtain ⟨t, ht⟩ := seal_add_ex a0 a1 hb (by omega)
  unfold reevelaw02_SealAdds.f
  rw [awake02, radd_eq a0 a1 hb (by omega) (by omega), lent (by omega)]
  simp only [Option.bind_some]
  rw [ht, kept (by omega) (by omega), rright, sright, start_ok, show reeveref02_Start.f = some (1, 2) from rfl]
  simp
end Go.Proofs.Ytbiijcehgiibeaa.Pure
