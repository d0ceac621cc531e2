/- Proved here, in whole numbers: six bytes read at any place where a seal's bytes stand; and the way back. -/
import Derived.Test.YtbiijcehgiibeaaKCBackSix
namespace Go.Proofs.Ytbiijcehgiibeaa.M
theorem rd6_at {l : List Int} {x : Int × Int} (h : right x.1 x.2 = true) {a : Nat} {post : List Int} (hl : l.drop a = wr6 x ++ post) : rd6 l (a : Int) = (x.1, x.2, (a : Int) + 6, 0) := by
  have hlen := congrArg List.length hl
  simp only [List.length_drop, List.length_append, wr6_length] at hlen
  have h1 : (l.take a).length = a := by rw [List.length_take]; omega
  have h2 : l = l.take a ++ (wr6 x ++ post) := by rw [← hl, List.take_append_drop]
  have := rd6_wr6 h (l.take a) post
  rw [h1, ← h2] at this
  exact this
theorem at_rd6 {l : List Int} (hb : bytes l = true) {a p q nx : Int} (h : rd6 l a = (p, q, nx, 0)) : 0 ≤ a ∧ nx = a + 6 ∧ nx ≤ l.length ∧ right p q = true ∧ ∃ post, l.drop a.toNat = wr6 (p, q) ++ post := by
  unfold rd6 at h
  by_cases c1 : a < 0 ∨ a > (l.length : Int)
  · rw [if_pos c1] at h; cases h
  rw [if_neg c1] at h
  by_cases c2 : (l.length : Int) - a < 6
  · rw [if_pos c2] at h; cases h
  rw [if_neg c2] at h
  by_cases c3 : right (six l a.toNat).1 (six l a.toNat).2 = true
  · rw [if_pos c3] at h
    injection h with h1 h
    injection h with h2 h
    injection h with h3 h
    subst h1
    subst h2
    refine ⟨by omega, by omega, by omega, c3, (l.drop a.toNat).drop 6, ?_⟩
    rw [show ((six l a.toNat).1, (six l a.toNat).2) = six l a.toNat from rfl, wr6_six hb _ (by omega), List.take_append_drop]
  · rw [if_neg c3] at h; cases h
end Go.Proofs.Ytbiijcehgiibeaa.M
