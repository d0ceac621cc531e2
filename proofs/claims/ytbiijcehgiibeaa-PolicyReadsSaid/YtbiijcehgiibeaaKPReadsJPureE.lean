/- Proved here: what chain.Next, chain.Check, links, long and the document's answers of layer 3 come to. · Proved here: what Lent and Kept come to. · Proved here: what the document's Read and Bytes of layer 2, and Owned, come to. -/
import Derived.Test.YtbiijcehgiibeaaKPReadsJPureC
import Derived.Test.YtbiijcehgiibeaaKPReadsJFloat
import Derived.Test.YtbiijcehgiibeaaKPReadsJSix
import Derived.Test.YtbiijcehgiibeaaKPReadsQf37
import Derived.LoopN
import Derived.Test.YtbiijcehgiibeaaKPReadsQg3
import Derived.Test.YtbiijcehgiibeaaKPReadsQf36
namespace Go.Proofs.Ytbiijcehgiibeaa.Pure
open Go.RowKit Go.Proofs.Ytbiijcehgiibeaa.Q Go.Proofs.YtbiijcehgiibeaaW.PrintWords
set_option linter.unusedVariables false
set_option linter.unusedSimpArgs false
def may (x : S60) : Bool := decide (0 ≤ x.f0 ∧ x.f0 ≤ 10000 ∧ 0 ≤ x.f1 ∧ x.f1 ≤ 4194304) && M.right x.f2.f0 x.f2.f1
def next (x : S60) (b : List Int) : S60 × Int :=
  if may x = true then if (b.length : Int) > 4194304 then (z60, 2) else if x.f0 = 10000 then (z60, 3) else (⟨x.f0 + 1, b.length, ⟨(M.add (x.f2.f0, x.f2.f1) b).1, (M.add (x.f2.f0, x.f2.f1) b).2⟩⟩, 0) else (z60, 30)
theorem radd0 : ∀ (k : Nat) (l : List Int) (i : Nat) (z : Int × Int), M.bytes l = true → M.right z.1 z.2 = true → (l.length : Int) ≤ 9223372036854775807 → i ≤ l.length → l.length - i < k →
    reeveref02_Add.l0 k l (i : Int) z.1 z.2 69069 362437 = some ((M.add z (l.drop i)).1, (M.add z (l.drop i)).2, 0) := by
  intro k
  induction k with
  | zero => intro l i z _ _ _ _ h; omega
  | succ k ih =>
    intro l i z hb hz hm hi hk
    simp only [reeveref02_Add.l0]
    by_cases h : i < l.length
    · have ea : l.drop i = l.getD i 0 :: l.drop (i + 1) := by
        rw [List.getD_eq_getElem?_getD, List.getElem?_eq_getElem h, List.drop_eq_getElem_cons h]; rfl
      have ra : rd l (i : Int) = l.getD i 0 := by unfold rd; rw [Int.toNat_natCast]
      have hc := M.bytes_getD hb i
      have hmr := M.right_iff.1 (M.mul_right z (69069, 362437))
      rw [if_pos (by omega), rmul (x := z) (y := (69069, 362437)) hz (by decide)]
      simp only [Option.bind_some]
      rw [if_pos (by omega), ra, w64 (n := l.getD i 0) (by omega) (by omega), w64 (n := (M.mul z (69069, 362437)).1 + l.getD i 0) (by omega) (by omega), w64 (n := (M.mul z (69069, 362437)).1 + l.getD i 0 + 1) (by omega) (by omega), rrest]
      simp only [Option.bind_some]
      rw [w64 (n := (i : Int) + 1) (by omega) (by omega), show ((i : Int) + 1) = ((i + 1 : Nat) : Int) by omega]
      have es : (((M.mul z (69069, 362437)).1 + l.getD i 0 + 1) % 16777199, (M.mul z (69069, 362437)).2) = M.step z (l.getD i 0) := by
        unfold M.mul M.step
        simp only
        generalize z.1 * 69069 - z.2 * 362437 = A
        congr 1
        omega
      have := ih l (i + 1) (M.step z (l.getD i 0)) hb (M.step_right _ _) hm (by omega) (by omega)
      rw [← es] at this
      rw [this, es, ea]
      rfl
    · rw [if_neg (by omega), List.drop_of_length_le (by omega)]
      rfl
theorem radd {k : Nat} {z : Int × Int} {l : List Int} (hz : M.right z.1 z.2 = true) (hb : M.bytes l = true) (hm : (l.length : Int) ≤ 9223372036854775807) (hk : l.length < k) :
    reeveref02_Add.f k z.1 z.2 l = some ((M.add z l).1, (M.add z l).2, 0) := by
  unfold reeveref02_Add.f
  rw [rright, hz]
  have := radd0 k l 0 z hb hz hm (by omega) (by omega)
  simpa using this
def first : S60 := ⟨0, 0, ⟨1, 2⟩⟩
def rows (ps : List (List Int)) : Prop := ps.length ≤ 9223372036854775807 ∧ ∀ x ∈ ps, x.length ≤ 9223372036854775807 ∧ M.bytes x = true
def mk : S60 → List (List Int) → Option (List S60)
  | _, [] => some []
  | x, b :: ps => if (next x b).2 = 0 then (mk (next x b).1 ps).map ((next x b).1 :: ·) else none
end Go.Proofs.Ytbiijcehgiibeaa.Pure
namespace Go.Proofs.Ytbiijcehgiibeaa.Pure
open Go.RowKit Go.Proofs.Ytbiijcehgiibeaa.Q Go.Proofs.YtbiijcehgiibeaaW.PrintWords
theorem lent {l : List Int} (h : l.length ≤ 140737488351232) : reevelaw02_Lent.f l = some l := by
  unfold reevelaw02_Lent.f
  rw [if_pos h]
theorem kept {l : List Int} {k : Nat} (h : l.length ≤ 140737488351232) (hk : l.length < k) : reevelaw02_Kept.f k l l = some true := by
  unfold reevelaw02_Kept.f
  rw [if_pos rfl, if_pos h, same_ok (by omega) hk]
  simp
end Go.Proofs.Ytbiijcehgiibeaa.Pure
namespace Go.Proofs.Ytbiijcehgiibeaa.Pure
open Go.RowKit Go.Proofs.Ytbiijcehgiibeaa.Q Go.Proofs.YtbiijcehgiibeaaW.PrintWords
set_option linter.unusedVariables false
set_option linter.unusedSimpArgs false
theorem rthree {a b c : Int} (h0 : 0 ≤ a) (h1 : a < 256) (h2 : 0 ≤ b) (h3 : b < 256) (h4 : 0 ≤ c) (h5 : c < 256) :
    wrap64 ((wrap64 ((wrap64 a) + (wrap64 (256 * (wrap64 b))))) + (wrap64 (65536 * (wrap64 c)))) = a + 256 * b + 65536 * c := by
  rw [w64b (n := a) (by omega) (by omega), w64b (n := b) (by omega) (by omega), w64b (n := c) (by omega) (by omega), w64b (n := 256 * b) (by omega) (by omega), w64b (n := 65536 * c) (by omega) (by omega), w64b (n := a + 256 * b) (by omega) (by omega), w64b (n := a + 256 * b + 65536 * c) (by omega) (by omega)]
theorem rread6 {l : List Int} {i : Int} (k : Nat) (hl : M.bytes l = true) (hn : (l.length : Int) ≤ 4611686018427387904) (h1 : -9223372036854775808 ≤ i) (h2 : i ≤ 9223372036854775807) : reeveref02_Read.f (k + 1) l i = some (M.rd6 l i) := by
  unfold reeveref02_Read.f M.rd6
  simp only [reeveref02_Read.j0]
  by_cases c1 : i < 0
  · rw [if_pos c1, if_pos trivial, if_pos (.inl c1)]
  · rw [if_neg c1]
    by_cases c2 : i > (l.length : Int)
    · rw [if_pos (by simpa using c2), if_pos (.inr c2)]
    · rw [if_neg (by simpa using c2), w64b (n := (l.length : Int) - i) (by omega) (by omega), if_neg (show ¬ (i < 0 ∨ i > (l.length : Int)) by omega)]
      by_cases c3 : (l.length : Int) - i < 6
      · rw [if_pos c3, if_pos c3]
      · rw [if_neg c3, if_neg c3, w64b (n := i + 6) (by omega) (by omega), if_pos (by omega), if_pos (by omega), if_pos (by omega)]
        obtain ⟨m, rfl⟩ := Int.eq_ofNat_of_zero_le (show 0 ≤ i by omega)
        rw [show ((m : Int) + 6).toNat = m + 6 by omega, Int.toNat_natCast]
        have hlen : ((l.take (m + 6)).drop m).length = 6 := by simp; omega
        rw [hlen]
        rw [if_pos (by decide), if_pos (by decide), if_pos (by decide), if_pos (by decide), if_pos (by decide), if_pos (by decide)]
        have r0 : rd ((l.take (m + 6)).drop m) 0 = l.getD m 0 := rd_cut 0 (by decide)
        have r1 : rd ((l.take (m + 6)).drop m) 1 = l.getD (m + 1) 0 := rd_cut 1 (by decide)
        have r2 : rd ((l.take (m + 6)).drop m) 2 = l.getD (m + 2) 0 := rd_cut 2 (by decide)
        have r3 : rd ((l.take (m + 6)).drop m) 3 = l.getD (m + 3) 0 := rd_cut 3 (by decide)
        have r4 : rd ((l.take (m + 6)).drop m) 4 = l.getD (m + 4) 0 := rd_cut 4 (by decide)
        have r5 : rd ((l.take (m + 6)).drop m) 5 = l.getD (m + 5) 0 := rd_cut 5 (by decide)
        have b := fun j => M.bytes_getD hl j
        rw [r0, r1, r2, r3, r4, r5, rthree (b _).1 (b _).2 (b _).1 (b _).2 (b _).1 (b _).2, rthree (b _).1 (b _).2 (b _).1 (b _).2 (b _).1 (b _).2, rright]
        simp only [Option.bind_some]
        rw [show (l.getD m 0 + 256 * l.getD (m + 1) 0 + 65536 * l.getD (m + 2) 0) = (M.six l m).1 from rfl, show (l.getD (m + 3) 0 + 256 * l.getD (m + 4) 0 + 65536 * l.getD (m + 5) 0) = (M.six l m).2 from rfl]
        by_cases c4 : M.right (M.six l m).1 (M.six l m).2 = true
        · rw [if_pos c4, if_pos c4]
        · rw [if_neg c4, if_neg c4]
end Go.Proofs.Ytbiijcehgiibeaa.Pure
