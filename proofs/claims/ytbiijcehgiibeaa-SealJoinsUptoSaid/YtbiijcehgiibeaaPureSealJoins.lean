/- Proved here: joined seals are seals of joined bytes: the plain statement of SealJoins, over the printed function. Conditions: its hypotheses. -/
import Derived.Test.YtbiijcehgiibeaaPureB
import Derived.Test.YtbiijcehgiibeaaQf7
namespace Go.Proofs.Ytbiijcehgiibeaa.Pure
open Go.RowKit Go.Proofs.Ytbiijcehgiibeaa.Q Go.Proofs.YtbiijcehgiibeaaW.PrintWords
set_option linter.unusedVariables false
set_option linter.unusedSimpArgs false

theorem SealJoins (l0 l1 : List Int) (a2_0 a2_1 : Int) (y0 : l0.length * 1 ≤ 140737488351232) (hw0 : ∀ x ∈ l0, (Lit.int .u8 x).wf = true) (u0 : l0.length ≤ 1048576) (y1 : l1.length * 1 ≤ 140737488351232) (hw1 : ∀ x ∈ l1, (Lit.int .u8 x).wf = true) (u1 : l1.length ≤ 1048576) (w0 : (Lit.int .i64 a2_0).wf = true) (w1 : (Lit.int .i64 a2_1).wf = true) :
    reevelaw02_SealJoins.f l0 l1 a2_0 a2_1 = some true := by
  have b0 := bytes_of hw0
  have b1 := bytes_of hw1
  have ba := bytes_append b0 b1
  have s : M.right ((1, 2) : Int × Int).1 ((1, 2) : Int × Int).2 = true := by decide
  have hx := M.add_right l0 (1, 2) s
  have hy := M.add_right l1 (1, 2) s
  have hr := of_right a2_0 a2_1
  have hk := M.add_right l0 (a2_0 % 16777199, a2_1 % 16777199) hr
  unfold reevelaw02_SealJoins.f
  rw [awake02, start_ok, of]
  simp only [Option.bind_some, List.nil_append]
  rw [if_pos (by simp only [List.length_nil]; omega), if_pos (by omega)]
  rw [addp_ok (x := (1, 2)) s b0 (by omega), addp_ok (x := (1, 2)) s b1 (by omega), addp_ok (x := (1, 2)) s ba (by rw [List.length_append]; omega)]
  simp only [Option.bind_some]
  rw [join_ok hx hy (by omega) (by omega)]
  simp only [Option.bind_some]
  rw [addp_ok (x := (a2_0 % 16777199, a2_1 % 16777199)) hr b0 (by omega)]
  simp only [Option.bind_some]
  rw [addp_ok hk b1 (by omega), addp_ok (x := (a2_0 % 16777199, a2_1 % 16777199)) hr ba (by rw [List.length_append]; omega)]
  simp only [Option.bind_some, if_true]
  have j1 : M.join (M.add (1, 2) l0) (M.add (1, 2) l1) ((l1.length : Int)).toNat = M.add (1, 2) (l0 ++ l1) := by rw [Int.toNat_natCast, M.join_add _ hx, M.add_append]
  rw [j1, ← M.add_append]
  simp

end Go.Proofs.Ytbiijcehgiibeaa.Pure
