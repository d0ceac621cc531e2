/- A text that a program of this session wrote (wip/qprint.py, over the kit's printer): Lean functions with the same answers as Go functions of the program, and proofs that the calls come to these answers; where a function is named in wip/ext, its definition and proof were written by hand. -/
import Derived.Test.YtbiijcehgiibeaaQ0
namespace Go.Proofs.Ytbiijcehgiibeaa.Q
open Go.RowKit Go.Proofs.YtbiijcehgiibeaaW.PrintWords Go.Proofs.YtbiijcehgiibeaaW.PrintLast Go.Proofs.YtbiijcehgiibeaaW.PrintMore
attribute [local go_sem] max2_int min2_int max_two min_two max_three min_three max_four min_four   -- for this text's walks alone
set_option linter.unusedVariables false
set_option linter.unusedSimpArgs false

/-! ### seal_Start: function 31 -/
def seal_Start.f : Option (Int × Int) := some (1, 2)
theorem seal_Start.calls  (r1 : Int) (r2 : Int) (w : World) (h : seal_Start.f  = some (r1, r2)) :
    Calls Try.prog 31 #[] w fun e w' => e = .returned (.agg #[.int .i64 r1, .int .i64 r2]) ∧ Below w.heap.size w w' := by
  obtain ⟨rfl, rfl⟩ : 1 = r1 ∧ 2 = r2 := by simpa [seal_Start.f] using h
  exact S.start_calls w

end Go.Proofs.Ytbiijcehgiibeaa.Q
