/- A text that a program of this session wrote (wip/qprint.py, over the kit's printer): Lean functions with the same answers as Go functions of the program, and proofs that the calls come to these answers; where a function is named in wip/ext, its definition and proof were written by hand. -/
import Derived.Test.YtbiijcehgiibeaaQ0
namespace Go.Proofs.Ytbiijcehgiibeaa.Q
open Go.RowKit Go.Proofs.YtbiijcehgiibeaaW.PrintWords Go.Proofs.YtbiijcehgiibeaaW.PrintLast Go.Proofs.YtbiijcehgiibeaaW.PrintMore
attribute [local go_sem] max2_int min2_int max_two min_two max_three min_three max_four min_four   -- for this text's walks alone
set_option linter.unusedVariables false
set_option linter.unusedSimpArgs false

/-! ### seal_Add: function 27 -/
def seal_Add.f (a0_0 : Int) (a0_1 : Int) (l1 : List Int) : Option (Int × Int × Int) := if M.right a0_0 a0_1 = true then if M.bytes l1 = true then if (l1.length : Int) ≤ 9223372036854775807 then some ((M.add (a0_0, a0_1) l1).1, (M.add (a0_0, a0_1) l1).2, (0 : Int)) else none else none else some (0, 0, 20)
theorem seal_Add.calls (a0_0 : Int) (a0_1 : Int) (A1 : Option Addr) (c1 : Nat) (l1 : List Int) (r1 : Int) (r2 : Int) (r3 : Int) (w : World) (hr1 : Kd.C (Kd.int .u8) w A1 l1.length l1) (hc1 : l1.length ≤ c1) (h : seal_Add.f a0_0 a0_1 l1 = some (r1, r2, r3)) :
    Calls Try.prog 27 #[.agg #[.int .i64 a0_0, .int .i64 a0_1], .slice A1 l1.length c1] w fun e w' => e = .returned (.tuple #[.agg #[.int .i64 r1, .int .i64 r2], .int .i64 r3]) ∧ Below w.heap.size w w' := by
  exact S.add_ext a0_0 a0_1 A1 c1 l1 r1 r2 r3 w hr1 hc1 h

end Go.Proofs.Ytbiijcehgiibeaa.Q
