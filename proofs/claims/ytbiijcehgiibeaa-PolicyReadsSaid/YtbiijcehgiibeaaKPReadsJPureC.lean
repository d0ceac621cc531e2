/- Proved here: what the document's answers of layer 2 (Right, Mul, Raise, Times, Power, Join) come to. · A text that a program of this session wrote (wip/qprint.py, over the kit's printer): Lean functions with the same answers as Go functions of the program, and proofs that the calls come to these answers; where a function is named in wip/ext, its definition and proof were written by hand. -/
import Derived.Test.YtbiijcehgiibeaaKPReadsJFloat
import Derived.Test.YtbiijcehgiibeaaKPReadsQg3
namespace Go.Proofs.Ytbiijcehgiibeaa.Pure
open Go.RowKit Go.Proofs.Ytbiijcehgiibeaa.Q Go.Proofs.YtbiijcehgiibeaaW.PrintWords
set_option linter.unusedVariables false
set_option linter.unusedSimpArgs false
theorem rright (a b : Int) : reeveref02_Right.f a b = some (M.right a b) := by
  unfold reeveref02_Right.f M.right
  by_cases h1 : 0 ≤ a
  · rw [if_pos h1]
    by_cases h2 : a < 16777199
    · rw [if_pos h2]
      by_cases h3 : 0 ≤ b
      · rw [if_pos h3]; congr 1; simp [h1, h2, h3]
      · rw [if_neg h3]; congr 1; simp [h3]
    · rw [if_neg h2]; congr 1; simp [h2]
  · rw [if_neg h1]; congr 1; simp [h1]
theorem rrest (n : Int) : reeveref02_rest.f n = some (n % 16777199) := fold_mod n
theorem small {a b : Int} (h1 : 0 ≤ a) (h2 : a < 16777199) (h3 : 0 ≤ b) (h4 : b < 16777199) : 0 ≤ a * b ∧ a * b ≤ 281474372731204 := by
  have := Int.mul_nonneg h1 h3
  have h5 : a * b ≤ 16777198 * 16777198 := Int.mul_le_mul (by omega) (by omega) h3 (by omega)
  omega
theorem w64 {n : Int} (h1 : -9223372036854775808 ≤ n) (h2 : n ≤ 9223372036854775807) : wrap64 n = n := by unfold wrap64; omega
theorem rmul {x y : Int × Int} (hx : M.right x.1 x.2 = true) (hy : M.right y.1 y.2 = true) : reeveref02_Mul.f x.1 x.2 y.1 y.2 = some (M.mul x y) := by
  obtain ⟨a1, a2, a3, a4⟩ := M.right_iff.1 hx
  obtain ⟨b1, b2, b3, b4⟩ := M.right_iff.1 hy
  have e1 := small a1 a2 b1 b2
  have e2 := small a3 a4 b3 b4
  have e3 := small a1 a2 b3 b4
  have e4 := small a3 a4 b1 b2
  unfold reeveref02_Mul.f M.mul
  rw [w64 (n := x.1 * y.1) (by omega) (by omega), w64 (n := x.2 * y.2) (by omega) (by omega), w64 (n := x.1 * y.2) (by omega) (by omega), w64 (n := x.2 * y.1) (by omega) (by omega), w64 (n := x.1 * y.1 - x.2 * y.2) (by omega) (by omega), w64 (n := x.1 * y.2 + x.2 * y.1) (by omega) (by omega), rrest, rrest]
  rfl
end Go.Proofs.Ytbiijcehgiibeaa.Pure
namespace Go.Proofs.Ytbiijcehgiibeaa.Q
open Go.RowKit Go.Proofs.YtbiijcehgiibeaaW.PrintWords Go.Proofs.YtbiijcehgiibeaaW.PrintLast Go.Proofs.YtbiijcehgiibeaaW.PrintMore
attribute [local go_sem] max2_int min2_int max_two min_two max_three min_three max_four min_four   -- for this text's walks alone
set_option linter.unusedVariables false
set_option linter.unusedSimpArgs false
theorem eqA60 (d : Nat) (w : World) (x0 y0 : Int) (x1 y1 : Int) (x2 y2 : Int) (x3 y3 : Int) :
    (Op.equalIn (d + 3) 60 (.agg #[.int .i64 x0, .int .i64 x1, .int .i64 x2, .int .i64 x3]) (.agg #[.int .i64 y0, .int .i64 y1, .int .i64 y2, .int .i64 y3])).run Try.prog w = .ok (x0 == y0 && (x1 == y1 && ((x2 == y2 && (x3 == y3))))) w := by
  refine eqA_of Try.underlying60 (by kernel_rfl) ?_
  refine eqf_cons (by rfl) (by go_simp; rfl) (by go_simp; rfl) (by go_simp) ?_
  refine eqf_cons (by rfl) (by go_simp; rfl) (by go_simp; rfl) (by go_simp) ?_
  exact eqf_last (by rfl) (by go_simp) (by go_simp) (eqA23 (d + 0) w _ _ _ _)
end Go.Proofs.Ytbiijcehgiibeaa.Q
