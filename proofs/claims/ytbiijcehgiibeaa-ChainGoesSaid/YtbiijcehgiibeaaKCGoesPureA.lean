/- Proved here: what the small printed functions of reevelaw02 come to (the wake, Fold, Of), and seal.Add where its seal is right. -/
import Derived.Test.YtbiijcehgiibeaaKCGoesQ0
import Derived.Test.YtbiijcehgiibeaaKCGoesQe23
import Derived.Test.YtbiijcehgiibeaaKCGoesQg2
import Derived.Test.YtbiijcehgiibeaaKCGoesRing
namespace Go.Proofs.Ytbiijcehgiibeaa.Pure
open Go.RowKit Go.Proofs.Ytbiijcehgiibeaa.Q Go.Proofs.YtbiijcehgiibeaaW.PrintWords
theorem tmod_P (n : Int) : n.tmod 16777199 = if 0 ≤ n then n % 16777199 else -((-n) % 16777199) := by
  split
  · exact Int.tmod_eq_emod_of_nonneg ‹_›
  · have := Int.neg_tmod (a := -n) (b := 16777199)
    rw [Int.neg_neg] at this
    rw [this, Int.tmod_eq_emod_of_nonneg (by omega)]
theorem fold_mod (n : Int) : (if (n.tmod 16777199) < 0 then some (wrap64 ((n.tmod 16777199) + 16777199)) else some (n.tmod 16777199)) = some (n % 16777199) := by
  rw [tmod_P]
  by_cases h : 0 ≤ n
  · rw [if_pos h, if_neg (by omega)]
  · rw [if_neg h]
    by_cases h2 : -(-n % 16777199) < 0
    · rw [if_pos h2]
      have : wrap64 (-(-n % 16777199) + 16777199) = n % 16777199 := by unfold wrap64; omega
      rw [this]
    · rw [if_neg h2]
      congr 1
      omega
theorem bytes_of {l : List Int} (h : ∀ x ∈ l, (Lit.int .u8 x).wf = true) : M.bytes l = true := by
  unfold M.bytes
  rw [List.all_eq_true]
  intro x hx
  have := h x hx
  simp only [Lit.wf, Bool.and_eq_true, decide_eq_true_eq] at this
  have h1 : (0 : Int) ≤ x := this.1
  have h2 : x ≤ 255 := this.2
  exact decide_eq_true (by omega)
theorem add_ok {a b : Int} {l : List Int} (h : M.right a b = true) (hb : M.bytes l = true) (hl : (l.length : Int) ≤ 9223372036854775807) : seal_Add.f a b l = some ((M.add (a, b) l).1, (M.add (a, b) l).2, 0) := by
  unfold seal_Add.f
  rw [if_pos h, if_pos hb, if_pos hl]
end Go.Proofs.Ytbiijcehgiibeaa.Pure
