/- Proved here: what the document's answers of layer 2 (Right, Mul, Raise, Times, Power, Join) come to. -/
import Derived.Test.YtbiijcehgiibeaaPureB
import Derived.Test.YtbiijcehgiibeaaQg3
import Derived.Test.YtbiijcehgiibeaaQf49
namespace Go.Proofs.Ytbiijcehgiibeaa.Pure
open Go.RowKit Go.Proofs.Ytbiijcehgiibeaa.Q Go.Proofs.YtbiijcehgiibeaaW.PrintWords
set_option linter.unusedVariables false
set_option linter.unusedSimpArgs false

theorem rright (a b : Int) : reeveref02_Right.f a b = some (M.right a b) := by
  unfold reeveref02_Right.f M.right
  by_cases h1 : 0 ≤ a
  · rw [if_pos h1]
    by_cases h2 : a < 16777199
    · rw [if_pos h2]
      by_cases h3 : 0 ≤ b
      · rw [if_pos h3]; congr 1; simp [h1, h2, h3]
      · rw [if_neg h3]; congr 1; simp [h3]
    · rw [if_neg h2]; congr 1; simp [h2]
  · rw [if_neg h1]; congr 1; simp [h1]

theorem rrest (n : Int) : reeveref02_rest.f n = some (n % 16777199) := fold_mod n

theorem small {a b : Int} (h1 : 0 ≤ a) (h2 : a < 16777199) (h3 : 0 ≤ b) (h4 : b < 16777199) : 0 ≤ a * b ∧ a * b ≤ 281474372731204 := by
  have := Int.mul_nonneg h1 h3
  have h5 : a * b ≤ 16777198 * 16777198 := Int.mul_le_mul (by omega) (by omega) h3 (by omega)
  omega

theorem w64 {n : Int} (h1 : -9223372036854775808 ≤ n) (h2 : n ≤ 9223372036854775807) : wrap64 n = n := by unfold wrap64; omega

theorem rmul {x y : Int × Int} (hx : M.right x.1 x.2 = true) (hy : M.right y.1 y.2 = true) : reeveref02_Mul.f x.1 x.2 y.1 y.2 = some (M.mul x y) := by
  obtain ⟨a1, a2, a3, a4⟩ := M.right_iff.1 hx
  obtain ⟨b1, b2, b3, b4⟩ := M.right_iff.1 hy
  have e1 := small a1 a2 b1 b2
  have e2 := small a3 a4 b3 b4
  have e3 := small a1 a2 b3 b4
  have e4 := small a3 a4 b1 b2
  unfold reeveref02_Mul.f M.mul
  rw [w64 (n := x.1 * y.1) (by omega) (by omega), w64 (n := x.2 * y.2) (by omega) (by omega), w64 (n := x.1 * y.2) (by omega) (by omega), w64 (n := x.2 * y.1) (by omega) (by omega), w64 (n := x.1 * y.1 - x.2 * y.2) (by omega) (by omega), w64 (n := x.1 * y.2 + x.2 * y.1) (by omega) (by omega), rrest, rrest]
  rfl

theorem rplus {x y : Int × Int} (hx : M.right x.1 x.2 = true) (hy : M.right y.1 y.2 = true) : reeveref02_Plus.f x.1 x.2 y.1 y.2 = some (M.plus x y) := by
  obtain ⟨a1, a2, a3, a4⟩ := M.right_iff.1 hx
  obtain ⟨b1, b2, b3, b4⟩ := M.right_iff.1 hy
  unfold reeveref02_Plus.f M.plus
  rw [w64 (n := x.1 + y.1) (by omega) (by omega), w64 (n := x.2 + y.2) (by omega) (by omega), rrest, rrest]
  rfl

theorem rless {x y : Int × Int} (hx : M.right x.1 x.2 = true) (hy : M.right y.1 y.2 = true) : reeveref02_Less.f x.1 x.2 y.1 y.2 = some (M.minus x y) := by
  obtain ⟨a1, a2, a3, a4⟩ := M.right_iff.1 hx
  obtain ⟨b1, b2, b3, b4⟩ := M.right_iff.1 hy
  unfold reeveref02_Less.f M.minus
  rw [w64 (n := x.1 - y.1) (by omega) (by omega), w64 (n := x.2 - y.2) (by omega) (by omega), rrest, rrest]
  rfl

theorem rraise0 : ∀ (k : Nat) (n : Int) (z o : Int × Int), 0 ≤ n → n ≤ 9223372036854775807 → n.toNat < k → M.right z.1 z.2 = true → M.right o.1 o.2 = true →
    reeveref02_Raise.l0 k n z.1 z.2 o.1 o.2 = some (M.mul o (M.pow z n.toNat)) := by
  intro k
  induction k with
  | zero => intro n z o _ _ h; omega
  | succ k ih =>
    intro n z o h0 hm hk hz ho
    simp only [reeveref02_Raise.l0]
    by_cases hn : n > 0
    · rw [if_pos hn]
      have e1 : n.tmod 2 = n % 2 := Int.tmod_eq_emod_of_nonneg h0
      have e2 : wrap64 (n.tdiv 2) = n / 2 := by rw [Int.tdiv_eq_ediv_of_nonneg h0]; exact w64 (by omega) (by omega)
      have e3 : (n / 2).toNat = n.toNat / 2 := by omega
      rw [e1, e2]
      by_cases h1 : n % 2 = 1
      · rw [if_pos h1, rmul ho hz, rmul hz hz]
        simp only [Option.bind_some]
        rw [ih (n / 2) (M.mul z z) (M.mul o z) (by omega) (by omega) (by omega) (M.mul_right _ _) (M.mul_right _ _), e3, M.pow_half_odd _ _ _ (by omega)]
      · rw [if_neg h1, rmul hz hz]
        simp only [Option.bind_some]
        rw [ih (n / 2) (M.mul z z) o (by omega) (by omega) (by omega) (M.mul_right _ _) ho, e3, M.pow_half_even _ _ _ (by omega)]
    · rw [if_neg hn]
      have : n = 0 := by omega
      subst this
      congr 1
      exact (M.mul_one o ho).symm

theorem rraise {k : Nat} {n : Int} {z : Int × Int} (h0 : 0 ≤ n) (hm : n ≤ 9223372036854775807) (hk : n.toNat < k) (hz : M.right z.1 z.2 = true) : reeveref02_Raise.f k z.1 z.2 n = some (M.pow z n.toNat) := by
  unfold reeveref02_Raise.f
  rw [rraise0 k n z (1, 0) h0 hm hk hz (by decide), M.one_mul _ (M.pow_right _ _)]

theorem rtimes (a b c d : Int) : reeveref02_Times.f a b c d = seal_Times.f a b c d := by
  unfold reeveref02_Times.f seal_Times.f
  rw [rright, rright]
  simp only [Option.bind_some]
  by_cases h1 : M.right a b = true
  · rw [if_pos h1, if_pos h1]
    by_cases h2 : M.right c d = true
    · rw [if_pos h2, if_pos h2, rmul (x := (a, b)) (y := (c, d)) h1 h2]
      rfl
    · rw [if_neg h2, if_neg h2]
  · rw [if_neg h1, if_neg h1]

theorem rpower (a b n : Int) (k : Nat) (hm : n ≤ 9223372036854775807) (hk : n.toNat < k) : reeveref02_Power.f k a b n = seal_Power.f a b n := by
  unfold reeveref02_Power.f seal_Power.f
  rw [rright]
  simp only [Option.bind_some]
  by_cases h1 : M.right a b = true
  · rw [if_pos h1, if_pos h1]
    by_cases h2 : n < 0
    · rw [if_pos h2, if_pos h2]
    · rw [if_neg h2, if_neg h2, if_pos hm, rraise (z := (a, b)) (by omega) hm hk h1]
      rfl
  · rw [if_neg h1, if_neg h1]

theorem rjoin (a b c d n : Int) (k : Nat) (hm : n ≤ 9223372036854775807) (hk : n.toNat < k) : reeveref02_Join.f (k + 1) a b c d n = seal_Join.f a b c d n := by
  unfold reeveref02_Join.f seal_Join.f
  rw [rright, rright]
  simp only [Option.bind_some, reeveref02_Join.j0]
  by_cases h1 : M.right a b = true
  · rw [if_pos h1, if_pos h1]
    by_cases h2 : M.right c d = true
    · rw [h2, if_neg (by decide), if_pos rfl]
      by_cases h3 : n < 0
      · rw [if_pos h3, if_pos h3]
      · rw [if_neg h3, if_neg h3, if_pos hm, rraise (z := (69069, 362437)) (by omega) hm hk (by decide)]
        simp only [Option.bind_some]
        have hw := M.pow_right (69069, 362437) n.toNat
        rw [rmul (x := (a, b)) h1 hw]
        simp only [Option.bind_some]
        rw [show reeveref02_Start.f = some (1, 2) from rfl]
        simp only [Option.bind_some]
        rw [rmul (x := (1, 2)) (by decide) hw]
        simp only [Option.bind_some]
        rw [rless (x := (c, d)) h2 (M.mul_right _ _)]
        simp only [Option.bind_some]
        rw [rplus (M.mul_right _ _) (by rw [M.right_iff]; unfold M.minus; simp only; omega)]
        simp only [Option.bind_some]
        rw [M.join_ref]
    · rw [if_neg h2, if_pos (by simpa using h2)]
  · rw [if_neg h1, if_neg h1, if_pos trivial]

end Go.Proofs.Ytbiijcehgiibeaa.Pure
