/- Proved here: what seal.Read, seal.Bytes and Same come to. -/
import Derived.Test.YtbiijcehgiibeaaKCGoesPureA
import Derived.Test.YtbiijcehgiibeaaKCGoesQg2
import Derived.Test.YtbiijcehgiibeaaKCGoesField
import Derived.Test.YtbiijcehgiibeaaKCGoesQ0
import Derived.Test.YtbiijcehgiibeaaKCGoesQg5
import Derived.Test.YtbiijcehgiibeaaKCGoesMath
namespace Go.Proofs.Ytbiijcehgiibeaa.Pure
open Go.RowKit Go.Proofs.Ytbiijcehgiibeaa.Q Go.Proofs.YtbiijcehgiibeaaW.PrintWords
set_option linter.unusedVariables false
set_option linter.unusedSimpArgs false
theorem w64b {n : Int} (h1 : -9223372036854775808 ≤ n) (h2 : n ≤ 9223372036854775807) : wrap64 n = n := by unfold wrap64; omega
theorem same0 : ∀ (k : Nat) (a b : List Int) (i : Nat), a.length = b.length → (a.length : Int) ≤ 9223372036854775806 → i ≤ a.length → a.length - i < k → reevelaw02_Same.l0 k a b (i : Int) = some (decide (a.drop i = b.drop i)) := by
  intro k
  induction k with
  | zero => intro a b i _ _ _ h; omega
  | succ k ih =>
    intro a b i hab hm hi hk
    simp only [reevelaw02_Same.l0]
    by_cases h : i < a.length
    · rw [if_pos (by omega), if_pos (by omega), if_pos (by omega)]
      have ea : a.drop i = a.getD i 0 :: a.drop (i + 1) := by
        rw [List.getD_eq_getElem?_getD, List.getElem?_eq_getElem h, List.drop_eq_getElem_cons h]; rfl
      have eb : b.drop i = b.getD i 0 :: b.drop (i + 1) := by
        rw [List.getD_eq_getElem?_getD, List.getElem?_eq_getElem (by omega), List.drop_eq_getElem_cons (by omega)]; rfl
      have ra : rd a (i : Int) = a.getD i 0 := by unfold rd; rw [Int.toNat_natCast]
      have rb : rd b (i : Int) = b.getD i 0 := by unfold rd; rw [Int.toNat_natCast]
      rw [ra, rb]
      by_cases c : a.getD i 0 = b.getD i 0
      · rw [if_pos c, w64b (n := (i : Int) + 1) (by omega) (by omega), show ((i : Int) + 1) = ((i + 1 : Nat) : Int) by omega, ih a b (i + 1) hab hm (by omega) (by omega)]
        congr 1
        rw [ea, eb, c]
        simp
      · rw [if_neg c]
        congr 1
        symm
        rw [decide_eq_false_iff_not, ea, eb]
        intro e
        exact c (List.cons.inj e).1
    · rw [if_neg (by omega), List.drop_of_length_le (by omega), List.drop_of_length_le (by omega)]
      simp
theorem same_ok {a b : List Int} {k : Nat} (hm : (a.length : Int) ≤ 9223372036854775806) (hk : a.length < k) : reevelaw02_Same.f k a b = some (decide (a = b)) := by
  unfold reevelaw02_Same.f
  by_cases h : a.length = b.length
  · rw [if_pos (by omega)]
    have := same0 k a b 0 h hm (by omega) (by omega)
    simpa using this
  · rw [if_neg (by omega)]
    congr 1
    have : a ≠ b := fun e => h (by rw [e])
    simp [this]
end Go.Proofs.Ytbiijcehgiibeaa.Pure
