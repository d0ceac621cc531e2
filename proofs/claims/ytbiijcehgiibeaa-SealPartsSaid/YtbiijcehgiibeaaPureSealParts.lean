/- Proved here: three parts joined in either order: the plain statement of SealParts, over the printed function. Conditions: its hypotheses. -/
import Derived.Test.YtbiijcehgiibeaaPureB
import Derived.Test.YtbiijcehgiibeaaQf9
namespace Go.Proofs.Ytbiijcehgiibeaa.Pure
open Go.RowKit Go.Proofs.Ytbiijcehgiibeaa.Q Go.Proofs.YtbiijcehgiibeaaW.PrintWords
set_option linter.unusedVariables false
set_option linter.unusedSimpArgs false

theorem SealParts (l0 l1 l2 : List Int) (y0 : l0.length * 1 ≤ 140737488351232) (hw0 : ∀ x ∈ l0, (Lit.int .u8 x).wf = true) (y1 : l1.length * 1 ≤ 140737488351232) (hw1 : ∀ x ∈ l1, (Lit.int .u8 x).wf = true) (y2 : l2.length * 1 ≤ 140737488351232) (hw2 : ∀ x ∈ l2, (Lit.int .u8 x).wf = true) :
    reevelaw02_SealParts.f l0 l1 l2 = some true := by
  have b0 := bytes_of hw0
  have b1 := bytes_of hw1
  have b2 := bytes_of hw2
  have s : M.right ((1, 2) : Int × Int).1 ((1, 2) : Int × Int).2 = true := by decide
  have hx := M.add_right l0 (1, 2) s
  have hy := M.add_right l1 (1, 2) s
  have hz := M.add_right l2 (1, 2) s
  have e : wrap64 ((l1.length : Int) + (l2.length : Int)) = ((l1.length + l2.length : Nat) : Int) := by unfold wrap64; omega
  unfold reevelaw02_SealParts.f
  rw [awake02, start_ok]
  simp only [Option.bind_some]
  rw [addp_ok (x := (1, 2)) s b0 (by omega), addp_ok (x := (1, 2)) s b1 (by omega), addp_ok (x := (1, 2)) s b2 (by omega)]
  simp only [Option.bind_some]
  rw [join_ok hx hy (by omega) (by omega), join_ok hy hz (by omega) (by omega)]
  simp only [Option.bind_some]
  rw [e, join_ok (M.join_right _ _ _) hz (by omega) (by omega), join_ok hx (M.join_right _ _ _) (by omega) (by omega)]
  simp only [Option.bind_some]
  rw [join_ok (y := (1, 2)) hx s (by omega) (by omega)]
  simp only [Option.bind_some, if_true]
  have j1 : M.join (M.add (1, 2) l0) (M.add (1, 2) l1) ((l1.length : Int)).toNat = M.add (1, 2) (l0 ++ l1) := by rw [Int.toNat_natCast, M.join_add _ hx, M.add_append]
  have j2 : M.join (M.add (1, 2) l1) (M.add (1, 2) l2) ((l2.length : Int)).toNat = M.add (1, 2) (l1 ++ l2) := by rw [Int.toNat_natCast, M.join_add _ hy, M.add_append]
  have j3 : M.join (M.add (1, 2) (l0 ++ l1)) (M.add (1, 2) l2) ((l2.length : Int)).toNat = M.add (1, 2) (l0 ++ l1 ++ l2) := by rw [Int.toNat_natCast, M.join_add _ (M.add_right _ _ s), M.add_append (1, 2) (l0 ++ l1)]
  have j4 : M.join (M.add (1, 2) l0) (M.add (1, 2) (l1 ++ l2)) (((l1.length + l2.length : Nat) : Int)).toNat = M.add (1, 2) (l0 ++ l1 ++ l2) := by
    rw [Int.toNat_natCast, ← List.length_append, M.join_add _ hx, List.append_assoc, M.add_append (1, 2) l0]
  have j5 : M.join (M.add (1, 2) l0) (1, 2) (0 : Int).toNat = M.add (1, 2) l0 := M.join_zero hx
  rw [j1, j2, j3, j4, j5]
  simp

end Go.Proofs.Ytbiijcehgiibeaa.Pure
