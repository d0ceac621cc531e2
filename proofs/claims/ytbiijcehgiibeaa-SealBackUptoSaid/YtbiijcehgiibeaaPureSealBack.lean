/- Proved here: a seal's six bytes are read as the seal, and six bytes that are read are the seal's: the plain statement of SealBack, over the printed function. Conditions: its hypotheses. -/
import Derived.Test.YtbiijcehgiibeaaPureD
import Derived.Test.YtbiijcehgiibeaaQf6
namespace Go.Proofs.Ytbiijcehgiibeaa.Pure
open Go.RowKit Go.Proofs.Ytbiijcehgiibeaa.Q Go.Proofs.YtbiijcehgiibeaaW.PrintWords
set_option linter.unusedVariables false
set_option linter.unusedSimpArgs false

theorem rd6_zero (l : List Int) : M.rd6 l 0 = if (l.length : Int) < 6 then (0, 0, 0, 10) else if M.right (M.six l 0).1 (M.six l 0).2 = true then ((M.six l 0).1, (M.six l 0).2, 6, 0) else (0, 0, 0, 20) := by
  unfold M.rd6
  rw [if_neg (show ¬ ((0 : Int) < 0 ∨ 0 > (l.length : Int)) by omega), Int.sub_zero]
  rfl

theorem back0 {l : List Int} (hb : M.bytes l = true) (hl : (l.length : Int) ≤ 140737488351232) (b : Bool) (hf : b = false) : reevelaw02_SealBack.j0 8 l b = some true := by
  subst hf
  simp only [reevelaw02_SealBack.j0]
  rw [if_neg (by decide), read6 6 hb (by omega) (by decide) (by decide), rd6_zero]
  by_cases c : (l.length : Int) < 6
  · rw [if_pos c]
    rfl
  · rw [if_neg c]
    by_cases r : M.right (M.six l 0).1 (M.six l 0).2 = true
    · rw [if_pos r]
      simp only [Option.bind_some, if_true]
      rw [bytes6 r]
      simp only [Option.bind_some, if_true]
      rw [if_pos (by omega), same_ok (by rw [M.wr6_length]; decide) (by rw [M.wr6_length]; decide)]
      simp only [Option.bind_some]
      rw [show M.wr6 (M.six l 0) = l.take 6 from M.wr6_six hb 0 (by omega)]
      simp
    · rw [if_neg r]
      rfl

theorem SealBack (a0_0 a0_1 : Int) (l1 l2 : List Int) (w0 : (Lit.int .i64 a0_0).wf = true) (w1 : (Lit.int .i64 a0_1).wf = true) (y1 : l1.length * 1 ≤ 140737488351232) (hw1 : ∀ x ∈ l1, (Lit.int .u8 x).wf = true) (u1 : l1.length ≤ 1048576) (y2 : l2.length * 1 ≤ 140737488351232) (hw2 : ∀ x ∈ l2, (Lit.int .u8 x).wf = true) (u2 : l2.length ≤ 1048576) :
    ∃ k, reevelaw02_SealBack.f k a0_0 a0_1 l1 l2 = some true := by
  refine ⟨8, ?_⟩
  have b1 := bytes_of hw1
  have b2 := bytes_of hw2
  have hr := of_right a0_0 a0_1
  unfold reevelaw02_SealBack.f
  rw [awake02, of]
  simp only [Option.bind_some, List.nil_append]
  rw [bytes6 (x := (a0_0 % 16777199, a0_1 % 16777199)) hr]
  simp only [Option.bind_some]
  rw [if_pos (by simp only [List.length_nil]; omega), if_pos (by rw [M.wr6_length]; omega), if_pos (by rw [List.length_append, M.wr6_length]; omega)]
  rw [read6 7 (bytes_append (bytes_append b1 (M.wr6_bytes _)) b2) (by simp only [List.length_append, M.wr6_length]; omega) (by omega) (by omega), List.append_assoc, M.rd6_wr6 (x := (a0_0 % 16777199, a0_1 % 16777199)) hr]
  simp only [Option.bind_some, if_true]
  rw [if_neg (by simp), if_pos (by rw [w64b (by omega) (by omega)])]
  exact back0 b2 (by omega) _ (by rw [M.wr6_length]; rfl)

end Go.Proofs.Ytbiijcehgiibeaa.Pure
