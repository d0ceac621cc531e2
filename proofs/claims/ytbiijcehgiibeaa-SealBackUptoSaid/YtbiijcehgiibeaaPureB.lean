/- Proved here: what seal.Join, seal.Times, seal.Power come to where their seals are right. -/
import Derived.Test.YtbiijcehgiibeaaPureA
import Derived.Test.YtbiijcehgiibeaaQg2
import Derived.Test.YtbiijcehgiibeaaField
namespace Go.Proofs.Ytbiijcehgiibeaa.Pure
open Go.RowKit Go.Proofs.Ytbiijcehgiibeaa.Q Go.Proofs.YtbiijcehgiibeaaW.PrintWords
set_option linter.unusedVariables false
set_option linter.unusedSimpArgs false

theorem join_ok {x y : Int × Int} {n : Int} (hx : M.right x.1 x.2 = true) (hy : M.right y.1 y.2 = true) (h0 : 0 ≤ n) (h1 : n ≤ 9223372036854775807) : seal_Join.f x.1 x.2 y.1 y.2 n = some ((M.join x y n.toNat).1, (M.join x y n.toNat).2, 0) := by
  unfold seal_Join.f
  rw [if_pos hx, if_pos hy, if_neg (by omega), if_pos h1]

theorem times_ok {x y : Int × Int} (hx : M.right x.1 x.2 = true) (hy : M.right y.1 y.2 = true) : seal_Times.f x.1 x.2 y.1 y.2 = some ((M.mul x y).1, (M.mul x y).2, 0) := by
  unfold seal_Times.f
  rw [if_pos hx, if_pos hy]

theorem power_ok {x : Int × Int} {n : Int} (hx : M.right x.1 x.2 = true) (h0 : 0 ≤ n) (h1 : n ≤ 9223372036854775807) : seal_Power.f x.1 x.2 n = some ((M.pow x n.toNat).1, (M.pow x n.toNat).2, 0) := by
  unfold seal_Power.f
  rw [if_pos hx, if_neg (by omega), if_pos h1]

theorem addp_ok {x : Int × Int} {l : List Int} (h : M.right x.1 x.2 = true) (hb : M.bytes l = true) (hl : (l.length : Int) ≤ 9223372036854775807) : seal_Add.f x.1 x.2 l = some ((M.add x l).1, (M.add x l).2, 0) := add_ok h hb hl

theorem start_ok : seal_Start.f = some (1, 2) := rfl

theorem bytes_append {a b : List Int} (ha : M.bytes a = true) (hb : M.bytes b = true) : M.bytes (a ++ b) = true := by
  unfold M.bytes at *
  rw [List.all_append, ha, hb]
  rfl

theorem eq_pair {x y : Int × Int} (h : x = y) : (x.1 == y.1 && (x.2 == y.2)) = true := by subst h; simp

end Go.Proofs.Ytbiijcehgiibeaa.Pure
