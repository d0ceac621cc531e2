/- Proved here: what chain.Next, chain.Check, links, long and the document's answers of layer 3 come to. -/
import Derived.Test.YtbiijcehgiibeaaKCGoesPureC
import Derived.Test.YtbiijcehgiibeaaKCGoesQ0
import Derived.Test.YtbiijcehgiibeaaKCGoesQe60
import Derived.Test.YtbiijcehgiibeaaKCGoesQg7
import Derived.Test.YtbiijcehgiibeaaKCGoesQg8
import Derived.Test.YtbiijcehgiibeaaKCGoesQg9
namespace Go.Proofs.Ytbiijcehgiibeaa.Pure
open Go.RowKit Go.Proofs.Ytbiijcehgiibeaa.Q Go.Proofs.YtbiijcehgiibeaaW.PrintWords
set_option linter.unusedVariables false
set_option linter.unusedSimpArgs false
theorem awake03 (k : Nat) : reevelaw03_awake.f (k + 10) = some true := by kernel_rfl
def may (x : S60) : Bool := decide (0 ≤ x.f0 ∧ x.f0 ≤ 10000 ∧ 0 ≤ x.f1 ∧ x.f1 ≤ 4194304) && M.right x.f2.f0 x.f2.f1
def next (x : S60) (b : List Int) : S60 × Int :=
  if may x = true then if (b.length : Int) > 4194304 then (z60, 2) else if x.f0 = 10000 then (z60, 3) else (⟨x.f0 + 1, b.length, ⟨(M.add (x.f2.f0, x.f2.f1) b).1, (M.add (x.f2.f0, x.f2.f1) b).2⟩⟩, 0) else (z60, 30)
theorem may_iff {x : S60} : may x = true ↔ (0 ≤ x.f0 ∧ x.f0 ≤ 10000 ∧ 0 ≤ x.f1 ∧ x.f1 ≤ 4194304) ∧ M.right x.f2.f0 x.f2.f1 = true := by
  unfold may
  rw [Bool.and_eq_true, decide_eq_true_iff]
theorem cmay (x : S60) : chain_may.f x.f0 x.f1 x.f2.f0 x.f2.f1 = some (may x) := by
  unfold chain_may.f may
  rw [show seal_Right.f x.f2.f0 x.f2.f1 = some (M.right x.f2.f0 x.f2.f1) from rright _ _]
  simp only [Option.bind_some]
  by_cases h1 : x.f0 ≥ 0
  · rw [if_pos h1]
    by_cases h2 : x.f0 ≤ 10000
    · rw [if_pos h2]
      by_cases h3 : x.f1 ≥ 0
      · rw [if_pos h3]
        by_cases h4 : x.f1 ≤ 4194304
        · rw [if_pos h4, decide_eq_true (show 0 ≤ x.f0 ∧ x.f0 ≤ 10000 ∧ 0 ≤ x.f1 ∧ x.f1 ≤ 4194304 by omega), Bool.true_and]
        · rw [if_neg h4, decide_eq_false (by omega), Bool.false_and]
      · rw [if_neg h3, decide_eq_false (by omega), Bool.false_and]
    · rw [if_neg h2, decide_eq_false (by omega), Bool.false_and]
  · rw [if_neg h1, decide_eq_false (by omega), Bool.false_and]
theorem rmay (x : S60) : reeveref03_May.f x.f0 x.f1 x.f2.f0 x.f2.f1 = some (may x) := by
  rw [← cmay]
  unfold reeveref03_May.f chain_may.f
  rw [rright, show seal_Right.f x.f2.f0 x.f2.f1 = some (M.right x.f2.f0 x.f2.f1) from rright _ _]
  simp only [Option.bind_some]
  cases M.right x.f2.f0 x.f2.f1 with
  | true =>
    rw [if_pos rfl]
    by_cases h4 : x.f1 ≤ 4194304
    · rw [if_pos h4, decide_eq_true h4]
    · rw [if_neg h4, decide_eq_false h4]
  | false =>
    rw [if_neg (by decide)]
    simp
theorem cnext (x : S60) {b : List Int} (hb : M.bytes b = true) (hl : (b.length : Int) ≤ 9223372036854775807) :
    chain_Next.f x.f0 x.f1 x.f2.f0 x.f2.f1 b = some ((next x b).1.f0, (next x b).1.f1, (next x b).1.f2.f0, (next x b).1.f2.f1, (next x b).2) := by
  unfold chain_Next.f next
  rw [cmay]
  simp only [Option.bind_some]
  by_cases h : may x = true
  · have h' := may_iff.1 h
    rw [if_pos h, if_pos h]
    by_cases h1 : (b.length : Int) > 4194304
    · rw [if_pos h1, if_pos h1]; rfl
    · rw [if_neg h1, if_neg h1]
      by_cases h2 : x.f0 = 10000
      · rw [if_pos h2, if_pos h2]; rfl
      · rw [if_neg h2, if_neg h2, add_ok h'.2 hb hl, w64 (n := x.f0 + 1) (by omega) (by omega)]
        rfl
  · rw [if_neg h, if_neg h]; rfl
theorem radd0 : ∀ (k : Nat) (l : List Int) (i : Nat) (z : Int × Int), M.bytes l = true → M.right z.1 z.2 = true → (l.length : Int) ≤ 9223372036854775807 → i ≤ l.length → l.length - i < k →
    reeveref02_Add.l0 k l (i : Int) z.1 z.2 69069 362437 = some ((M.add z (l.drop i)).1, (M.add z (l.drop i)).2, 0) := by
  intro k
  induction k with
  | zero => intro l i z _ _ _ _ h; omega
  | succ k ih =>
    intro l i z hb hz hm hi hk
    simp only [reeveref02_Add.l0]
    by_cases h : i < l.length
    · have ea : l.drop i = l.getD i 0 :: l.drop (i + 1) := by
        rw [List.getD_eq_getElem?_getD, List.getElem?_eq_getElem h, List.drop_eq_getElem_cons h]; rfl
      have ra : rd l (i : Int) = l.getD i 0 := by unfold rd; rw [Int.toNat_natCast]
      have hc := M.bytes_getD hb i
      have hmr := M.right_iff.1 (M.mul_right z (69069, 362437))
      rw [if_pos (by omega), rmul (x := z) (y := (69069, 362437)) hz (by decide)]
      simp only [Option.bind_some]
      rw [if_pos (by omega), ra, w64 (n := l.getD i 0) (by omega) (by omega), w64 (n := (M.mul z (69069, 362437)).1 + l.getD i 0) (by omega) (by omega), w64 (n := (M.mul z (69069, 362437)).1 + l.getD i 0 + 1) (by omega) (by omega), rrest]
      simp only [Option.bind_some]
      rw [w64 (n := (i : Int) + 1) (by omega) (by omega), show ((i : Int) + 1) = ((i + 1 : Nat) : Int) by omega]
      have es : (((M.mul z (69069, 362437)).1 + l.getD i 0 + 1) % 16777199, (M.mul z (69069, 362437)).2) = M.step z (l.getD i 0) := by
        unfold M.mul M.step
        simp only
        generalize z.1 * 69069 - z.2 * 362437 = A
        congr 1
        omega
      have := ih l (i + 1) (M.step z (l.getD i 0)) hb (M.step_right _ _) hm (by omega) (by omega)
      rw [← es] at this
      rw [this, es, ea]
      rfl
    · rw [if_neg (by omega), List.drop_of_length_le (by omega)]
      rfl
theorem radd {k : Nat} {z : Int × Int} {l : List Int} (hz : M.right z.1 z.2 = true) (hb : M.bytes l = true) (hm : (l.length : Int) ≤ 9223372036854775807) (hk : l.length < k) :
    reeveref02_Add.f k z.1 z.2 l = some ((M.add z l).1, (M.add z l).2, 0) := by
  unfold reeveref02_Add.f
  rw [rright, hz]
  have := radd0 k l 0 z hb hz hm (by omega) (by omega)
  simpa using this
theorem rnext (x : S60) {b : List Int} {k : Nat} (hb : M.bytes b = true) (hl : (b.length : Int) ≤ 9223372036854775807) (hk : b.length < k) :
    reeveref03_Next.f k x.f0 x.f1 x.f2.f0 x.f2.f1 b = some ((next x b).1.f0, (next x b).1.f1, (next x b).1.f2.f0, (next x b).1.f2.f1, (next x b).2) := by
  unfold reeveref03_Next.f next
  rw [rmay]
  simp only [Option.bind_some]
  by_cases h : may x = true
  · have h' := may_iff.1 h
    rw [if_pos h, if_pos h]
    by_cases h1 : (b.length : Int) > 4194304
    · rw [if_pos h1, if_pos h1]; rfl
    · rw [if_neg h1, if_neg h1]
      by_cases h2 : x.f0 = 10000
      · rw [if_pos h2, if_pos h2]; rfl
      · rw [if_neg h2, if_neg h2, radd (z := (x.f2.f0, x.f2.f1)) h'.2 hb hl hk, w64 (n := x.f0 + 1) (by omega) (by omega)]
        rfl
  · rw [if_neg h, if_neg h]; rfl
def first : S60 := ⟨0, 0, ⟨1, 2⟩⟩
def rows (ps : List (List Int)) : Prop := ps.length ≤ 9223372036854775807 ∧ ∀ x ∈ ps, x.length ≤ 9223372036854775807 ∧ M.bytes x = true
def mk : S60 → List (List Int) → Option (List S60)
  | _, [] => some []
  | x, b :: ps => if (next x b).2 = 0 then (mk (next x b).1 ps).map ((next x b).1 :: ·) else none
end Go.Proofs.Ytbiijcehgiibeaa.Pure
