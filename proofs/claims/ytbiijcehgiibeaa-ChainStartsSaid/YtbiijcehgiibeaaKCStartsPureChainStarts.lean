/- Proved here: the plain law of ChainStarts. -/
import Derived.Test.YtbiijcehgiibeaaKCStartsPureE
import Derived.Test.YtbiijcehgiibeaaKCStartsQf18
namespace Go.Proofs.Ytbiijcehgiibeaa.Pure
open Go.RowKit Go.Proofs.Ytbiijcehgiibeaa.Q Go.Proofs.YtbiijcehgiibeaaW.PrintWords
theorem starts {ps : List (List Int)} {ls : List S60} {k : Nat} (h : k ≤ good first ps ls) : check (ps.take k) (ls.take k) = -1 := by
  have h1 := good_le ps ls first
  unfold check tell
  rw [good_take ps ls first k h, if_pos]
  simp only [List.length_take]
  omega
theorem ChainStarts (ps : List (List Int)) (ls : List S60) (n : Int) (h : ps.length ≤ 9223372036854775807 ∧ ∀ x ∈ ps, x.length ≤ 9223372036854775807 ∧ ∀ y ∈ x, (Lit.int .u8 y).wf = true) (_ : ls.length ≤ 9223372036854775807) (_ : (Lit.int .i64 n).wf = true) :
    ∃ k, reevelaw03_ChainStarts.f k ps ls n = some true := by
  have hr := rows_of h
  have hg := good_le ps ls first
  refine ⟨ps.length + 14, ?_⟩
  unfold reevelaw03_ChainStarts.f
  rw [show ps.length + 14 = (ps.length + 4) + 10 from rfl, awake03, ccheck hr (by omega)]
  simp only [Option.bind_some, if_true]
  have ht : check ps ls = -1 ∧ good first ps ls = ps.length ∨ check ps ls = (good first ps ls : Int) := by
    unfold check tell
    by_cases c : good first ps ls = ps.length ∧ ls.length ≤ ps.length
    · rw [if_pos c]; exact .inl ⟨rfl, c.1⟩
    · rw [if_neg c]; exact .inr rfl
  have j2 : ∀ (k : Nat) (x : Int), ps.length < k → 0 ≤ x → x ≤ good first ps ls → reevelaw03_ChainStarts.j2 (k + 1) ps ls n x (decide (n < x)) = some true ∨ n < 0 := by
    intro k x hk h0 hx
    by_cases hn : 0 ≤ n
    · left
      simp only [reevelaw03_ChainStarts.j2]
      by_cases c : n < x
      · rw [decide_eq_true c, if_pos rfl, if_neg (by omega), if_pos (by omega), if_pos (by omega), if_pos (by omega), ccheck (rows_take hr _) (by rw [List.length_take]; omega), starts (by omega)]
        rfl
      · rw [decide_eq_false c, if_neg (by decide), if_neg (by omega), if_pos (by omega), if_pos (by omega), if_pos (by omega), ccheck (rows_take hr _) (by rw [List.length_take]; omega), starts (by omega)]
        rfl
    · right; omega
  have j2' : ∀ (k : Nat) (x : Int), ps.length < k → 0 ≤ x → x ≤ good first ps ls → reevelaw03_ChainStarts.j2 (k + 1) ps ls n x false = some true := by
    intro k x hk h0 hx
    simp only [reevelaw03_ChainStarts.j2]
    rw [if_neg (by decide), if_neg (by omega), if_pos (by omega), if_pos (by omega), if_pos (by omega), ccheck (rows_take hr _) (by rw [List.length_take]; omega), starts (by omega)]
    rfl
  have j1 : ∀ (k : Nat) (x : Int), ps.length < k → 0 ≤ x → x ≤ good first ps ls → reevelaw03_ChainStarts.j1 (k + 2) ps ls n x = some true := by
    intro k x hk h0 hx
    simp only [reevelaw03_ChainStarts.j1]
    by_cases c : n ≥ 0
    · rw [if_pos c]
      rcases j2 k x hk h0 hx with e | e
      · exact e
      · omega
    · rw [if_neg c]
      exact j2' k x hk h0 hx
  rw [if_neg (by omega)]
  rw [show ps.length + 4 + 10 = (ps.length + 11) + 2 + 1 by omega]
  simp only [reevelaw03_ChainStarts.j0]
  rw [if_neg (by simp only [decide_eq_true_eq]; omega)]
  rcases ht with ⟨e1, e2⟩ | e1
  · rw [e1, if_neg (by decide)]
    exact j1 _ _ (by omega) (by omega) (by omega)
  · rw [e1, if_pos (by omega)]
    exact j1 _ _ (by omega) (by omega) (by omega)
end Go.Proofs.Ytbiijcehgiibeaa.Pure
