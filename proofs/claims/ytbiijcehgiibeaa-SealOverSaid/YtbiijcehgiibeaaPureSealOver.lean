/- Proved here: inverses, and powers of powers: the plain statement of SealOver, over the printed function. Conditions: its hypotheses. -/
import Derived.Test.YtbiijcehgiibeaaPureB
import Derived.Test.YtbiijcehgiibeaaQf12
namespace Go.Proofs.Ytbiijcehgiibeaa.Pure
open Go.RowKit Go.Proofs.Ytbiijcehgiibeaa.Q Go.Proofs.YtbiijcehgiibeaaW.PrintWords
set_option linter.unusedVariables false
set_option linter.unusedSimpArgs false

theorem SealOver (a0_0 a0_1 a1 a2 : Int) (w0 : (Lit.int .i64 a0_0).wf = true) (w1 : (Lit.int .i64 a0_1).wf = true) (w2 : (Lit.int .i64 a1).wf = true) (w3 : (Lit.int .i64 a2).wf = true) :
    reevelaw02_SealOver.f a0_0 a0_1 a1 a2 = some true := by
  unfold reevelaw02_SealOver.f
  rw [awake02, of, fold, fold]
  simp only [Option.bind_some]
  have hr := of_right a0_0 a0_1
  obtain ⟨x, hx⟩ : ∃ x : Int × Int, x = (a0_0 % 16777199, a0_1 % 16777199) := ⟨_, rfl⟩
  have h1 : a0_0 % 16777199 = x.1 := by rw [hx]
  have h2 : a0_1 % 16777199 = x.2 := by rw [hx]
  rw [h1, h2] at hr ⊢
  clear h1 h2 hx
  have hn : 0 ≤ a1 % 16777199 ∧ a1 % 16777199 < 16777199 := by omega
  have hm : 0 ≤ a2 % 16777199 ∧ a2 % 16777199 < 16777199 := by omega
  generalize a1 % 16777199 = n at hn ⊢
  generalize a2 % 16777199 = m at hm ⊢
  obtain ⟨hn0, hn1⟩ := hn
  obtain ⟨hm0, hm1⟩ := hm
  have hnm0 : 0 ≤ n * m := Int.mul_nonneg hn0 hm0
  have hnm1 : n * m ≤ 16777199 * 16777199 := Int.mul_le_mul (by omega) (by omega) hm0 (by omega)
  have hw : wrap64 (n * m) = n * m := by unfold wrap64; omega
  obtain ⟨q, hq⟩ : ∃ q : Int, q = 281474406285599 := ⟨_, rfl⟩
  rw [hw, ← hq, power_ok hr (by omega) (by omega), power_ok hr hn0 (by omega), power_ok hr hnm0 (by omega)]
  simp only [Option.bind_some]
  rw [times_ok hr (M.pow_right _ _), power_ok (M.pow_right _ _) hm0 (by omega)]
  simp only [Option.bind_some, if_true]
  have e1 : M.pow (M.pow x n.toNat) m.toNat = M.pow x (n * m).toNat := by
    rw [M.pow_pow]
    congr 1
    obtain ⟨a, rfl⟩ := Int.eq_ofNat_of_zero_le hn0
    obtain ⟨b, rfl⟩ := Int.eq_ofNat_of_zero_le hm0
    rw [← Int.natCast_mul, Int.toNat_natCast, Int.toNat_natCast, Int.toNat_natCast]
  rw [if_pos (eq_pair e1)]
  by_cases hz : x = (0, 0)
  · rw [hz]
    rfl
  · have e2 : M.mul x (M.pow x q.toNat) = (1, 0) := by
      have h := M.pow_order hr hz (n := q.toNat + 1) (by omega)
      rw [M.pow, M.mul_comm] at h
      exact h
    rw [e2]
    simp

end Go.Proofs.Ytbiijcehgiibeaa.Pure
