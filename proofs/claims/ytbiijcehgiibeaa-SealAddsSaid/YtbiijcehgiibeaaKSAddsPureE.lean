/- Proved here: what chain.Next, chain.Check, links, long and the document's answers of layer 3 come to. -/
import Derived.Test.YtbiijcehgiibeaaKSAddsPureC
import Derived.Test.YtbiijcehgiibeaaKSAddsQ0
import Derived.Test.YtbiijcehgiibeaaKSAddsQe60
import Derived.Test.YtbiijcehgiibeaaKSAddsQg2
import Derived.Test.YtbiijcehgiibeaaKSAddsQg3
namespace Go.Proofs.Ytbiijcehgiibeaa.Pure
open Go.RowKit Go.Proofs.Ytbiijcehgiibeaa.Q Go.Proofs.YtbiijcehgiibeaaW.PrintWords
set_option linter.unusedVariables false
set_option linter.unusedSimpArgs false
def may (x : S60) : Bool := decide (0 ≤ x.f0 ∧ x.f0 ≤ 10000 ∧ 0 ≤ x.f1 ∧ x.f1 ≤ 4194304) && M.right x.f2.f0 x.f2.f1
def next (x : S60) (b : List Int) : S60 × Int :=
  if may x = true then if (b.length : Int) > 4194304 then (z60, 2) else if x.f0 = 10000 then (z60, 3) else (⟨x.f0 + 1, b.length, ⟨(M.add (x.f2.f0, x.f2.f1) b).1, (M.add (x.f2.f0, x.f2.f1) b).2⟩⟩, 0) else (z60, 30)
theorem radd0 : ∀ (k : Nat) (l : List Int) (i : Nat) (z : Int × Int), M.bytes l = true → M.right z.1 z.2 = true → (l.length : Int) ≤ 9223372036854775807 → i ≤ l.length → l.length - i < k →
    reeveref02_Add.l0 k l (i : Int) z.1 z.2 69069 362437 = some ((M.add z (l.drop i)).1, (M.add z (l.drop i)).2, 0) := by
  intro k
  induction k with
  | zero => intro l i z _ _ _ _ h; omega
  | succ k ih =>
    intro l i z hb hz hm hi hk
    simp only [reeveref02_Add.l0]
    by_cases h : i < l.length
    · have ea : l.drop i = l.getD i 0 :: l.drop (i + 1) := by
        rw [List.getD_eq_getElem?_getD, List.getElem?_eq_getElem h, List.drop_eq_getElem_cons h]; rfl
      have ra : rd l (i : Int) = l.getD i 0 := by unfold rd; rw [Int.toNat_natCast]
      have hc := M.bytes_getD hb i
      have hmr := M.right_iff.1 (M.mul_right z (69069, 362437))
      rw [if_pos (by omega), rmul (x := z) (y := (69069, 362437)) hz (by decide)]
      simp only [Option.bind_some]
      rw [if_pos (by omega), ra, w64 (n := l.getD i 0) (by omega) (by omega), w64 (n := (M.mul z (69069, 362437)).1 + l.getD i 0) (by omega) (by omega), w64 (n := (M.mul z (69069, 362437)).1 + l.getD i 0 + 1) (by omega) (by omega), rrest]
      simp only [Option.bind_some]
      rw [w64 (n := (i : Int) + 1) (by omega) (by omega), show ((i : Int) + 1) = ((i + 1 : Nat) : Int) by omega]
      have es : (((M.mul z (69069, 362437)).1 + l.getD i 0 + 1) % 16777199, (M.mul z (69069, 362437)).2) = M.step z (l.getD i 0) := by
        unfold M.mul M.step
        simp only
        generalize z.1 * 69069 - z.2 * 362437 = A
        congr 1
        omega
      have := ih l (i + 1) (M.step z (l.getD i 0)) hb (M.step_right _ _) hm (by omega) (by omega)
      rw [← es] at this
      rw [this, es, ea]
      rfl
    · rw [if_neg (by omega), List.drop_of_length_le (by omega)]
      rfl
theorem radd {k : Nat} {z : Int × Int} {l : List Int} (hz : M.right z.1 z.2 = true) (hb : M.bytes l = true) (hm : (l.length : Int) ≤ 9223372036854775807) (hk : l.length < k) :
    reeveref02_Add.f k z.1 z.2 l = some ((M.add z l).1, (M.add z l).2, 0) := by
  unfold reeveref02_Add.f
  rw [rright, hz]
  have := radd0 k l 0 z hb hz hm (by omega) (by omega)
  simpa using this
theorem radd_no {k : Nat} {a b : Int} {l : List Int} (hz : M.right a b = false) : reeveref02_Add.f k a b l = some (0, 0, 20) := by
  unfold reeveref02_Add.f
  rw [rright, hz]
  rfl
def first : S60 := ⟨0, 0, ⟨1, 2⟩⟩
def rows (ps : List (List Int)) : Prop := ps.length ≤ 9223372036854775807 ∧ ∀ x ∈ ps, x.length ≤ 9223372036854775807 ∧ M.bytes x = true
def mk : S60 → List (List Int) → Option (List S60)
  | _, [] => some []
  | x, b :: ps => if (next x b).2 = 0 then (mk (next x b).1 ps).map ((next x b).1 :: ·) else none
end Go.Proofs.Ytbiijcehgiibeaa.Pure
