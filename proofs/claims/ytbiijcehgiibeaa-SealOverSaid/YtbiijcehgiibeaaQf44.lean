/- A text that a program of this session wrote (wip/qprint.py, over the kit's printer): Lean functions with the same answers as Go functions of the program, and proofs that the calls come to these answers; where a function is named in wip/ext, its definition and proof were written by hand. -/
import Derived.Test.YtbiijcehgiibeaaQ0
namespace Go.Proofs.Ytbiijcehgiibeaa.Q
open Go.RowKit Go.Proofs.YtbiijcehgiibeaaW.PrintWords Go.Proofs.YtbiijcehgiibeaaW.PrintLast Go.Proofs.YtbiijcehgiibeaaW.PrintMore
attribute [local go_sem] max2_int min2_int max_two min_two max_three min_three max_four min_four   -- for this text's walks alone
set_option linter.unusedVariables false
set_option linter.unusedSimpArgs false

/-! ### reevelaw02_Fold: function 44 -/
def reevelaw02_Fold.f (a0 : Int) : Option (Int) := if (Int.tmod a0 16777199) < 0 then (some (wrap64 ((Int.tmod a0 16777199) + 16777199))) else (some (Int.tmod a0 16777199))
set_option maxHeartbeats 8000000 in
set_option maxRecDepth 100000 in
theorem reevelaw02_Fold.calls (a0 : Int) (r : Int) (w : World) (h : reevelaw02_Fold.f a0 = some r) :
    Calls Try.prog 44 #[.int .i64 a0] w fun e w' => e = .returned (.int .i64 r) ∧ Drawn0 w w' := by
  have H : (if (Int.tmod a0 16777199) < 0 then (some (wrap64 ((Int.tmod a0 16777199) + 16777199))) else (some (Int.tmod a0 16777199))) = some r := h
  clear h
  by_cases c2 : (Int.tmod a0 16777199) < 0
  · rw [if_pos c2] at H
    have c2b0 : decide ((Int.tmod a0 16777199) < 0) = true := decide_eq_true c2
    clear c2
    obtain rfl := Option.some.inj H
    go_enter Try.func44, Try.ntmps44
    go_wp2
    go_ret
    exact ⟨by first | rfl | (simp; done) | (simp [*]; done), by repeat (first | exact Drawn0.refl _ | apply Drawn0.step)⟩
  · rw [if_neg c2] at H
    have c2b0 : decide ((Int.tmod a0 16777199) < 0) = false := decide_eq_false c2
    clear c2
    obtain rfl := Option.some.inj H
    go_enter Try.func44, Try.ntmps44
    go_wp2
    go_ret
    exact ⟨by first | rfl | (simp; done) | (simp [*]; done), by repeat (first | exact Drawn0.refl _ | apply Drawn0.step)⟩

end Go.Proofs.Ytbiijcehgiibeaa.Q
