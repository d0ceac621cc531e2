/- Proved here: what the document's Read and Bytes of layer 2, and Owned, come to. -/
import Derived.Test.YtbiijcehgiibeaaKCReadsPureF
import Derived.Test.YtbiijcehgiibeaaKCReadsQf36
import Derived.Test.YtbiijcehgiibeaaKCReadsQf39
namespace Go.Proofs.Ytbiijcehgiibeaa.Pure
open Go.RowKit Go.Proofs.Ytbiijcehgiibeaa.Q Go.Proofs.YtbiijcehgiibeaaW.PrintWords
set_option linter.unusedVariables false
set_option linter.unusedSimpArgs false
theorem rthree {a b c : Int} (h0 : 0 ≤ a) (h1 : a < 256) (h2 : 0 ≤ b) (h3 : b < 256) (h4 : 0 ≤ c) (h5 : c < 256) :
    wrap64 ((wrap64 ((wrap64 a) + (wrap64 (256 * (wrap64 b))))) + (wrap64 (65536 * (wrap64 c)))) = a + 256 * b + 65536 * c := by
  rw [w64b (n := a) (by omega) (by omega), w64b (n := b) (by omega) (by omega), w64b (n := c) (by omega) (by omega), w64b (n := 256 * b) (by omega) (by omega), w64b (n := 65536 * c) (by omega) (by omega), w64b (n := a + 256 * b) (by omega) (by omega), w64b (n := a + 256 * b + 65536 * c) (by omega) (by omega)]
theorem rread6 {l : List Int} {i : Int} (k : Nat) (hl : M.bytes l = true) (hn : (l.length : Int) ≤ 4611686018427387904) (h1 : -9223372036854775808 ≤ i) (h2 : i ≤ 9223372036854775807) : reeveref02_Read.f (k + 1) l i = some (M.rd6 l i) := by
  unfold reeveref02_Read.f M.rd6
  simp only [reeveref02_Read.j0]
  by_cases c1 : i < 0
  · rw [if_pos c1, if_pos trivial, if_pos (.inl c1)]
  · rw [if_neg c1]
    by_cases c2 : i > (l.length : Int)
    · rw [if_pos (by simpa using c2), if_pos (.inr c2)]
    · rw [if_neg (by simpa using c2), w64b (n := (l.length : Int) - i) (by omega) (by omega), if_neg (show ¬ (i < 0 ∨ i > (l.length : Int)) by omega)]
      by_cases c3 : (l.length : Int) - i < 6
      · rw [if_pos c3, if_pos c3]
      · rw [if_neg c3, if_neg c3, w64b (n := i + 6) (by omega) (by omega), if_pos (by omega), if_pos (by omega), if_pos (by omega)]
        obtain ⟨m, rfl⟩ := Int.eq_ofNat_of_zero_le (show 0 ≤ i by omega)
        rw [show ((m : Int) + 6).toNat = m + 6 by omega, Int.toNat_natCast]
        have hlen : ((l.take (m + 6)).drop m).length = 6 := by simp; omega
        rw [hlen]
        rw [if_pos (by decide), if_pos (by decide), if_pos (by decide), if_pos (by decide), if_pos (by decide), if_pos (by decide)]
        have r0 : rd ((l.take (m + 6)).drop m) 0 = l.getD m 0 := rd_cut 0 (by decide)
        have r1 : rd ((l.take (m + 6)).drop m) 1 = l.getD (m + 1) 0 := rd_cut 1 (by decide)
        have r2 : rd ((l.take (m + 6)).drop m) 2 = l.getD (m + 2) 0 := rd_cut 2 (by decide)
        have r3 : rd ((l.take (m + 6)).drop m) 3 = l.getD (m + 3) 0 := rd_cut 3 (by decide)
        have r4 : rd ((l.take (m + 6)).drop m) 4 = l.getD (m + 4) 0 := rd_cut 4 (by decide)
        have r5 : rd ((l.take (m + 6)).drop m) 5 = l.getD (m + 5) 0 := rd_cut 5 (by decide)
        have b := fun j => M.bytes_getD hl j
        rw [r0, r1, r2, r3, r4, r5, rthree (b _).1 (b _).2 (b _).1 (b _).2 (b _).1 (b _).2, rthree (b _).1 (b _).2 (b _).1 (b _).2 (b _).1 (b _).2, rright]
        simp only [Option.bind_some]
        rw [show (l.getD m 0 + 256 * l.getD (m + 1) 0 + 65536 * l.getD (m + 2) 0) = (M.six l m).1 from rfl, show (l.getD (m + 3) 0 + 256 * l.getD (m + 4) 0 + 65536 * l.getD (m + 5) 0) = (M.six l m).2 from rfl]
        by_cases c4 : M.right (M.six l m).1 (M.six l m).2 = true
        · rw [if_pos c4, if_pos c4]
        · rw [if_neg c4, if_neg c4]
theorem rbyte {a : Int} (h0 : 0 ≤ a) (h1 : a < 16777199) : (Int.tmod a 256) % 256 = a % 256 ∧ (Int.tmod (wrap64 (Int.tdiv a 256)) 256) % 256 = a / 256 % 256 ∧ (wrap64 (Int.tdiv a 65536)) % 256 = a / 65536 % 256 := by
  rw [Int.tdiv_eq_ediv_of_nonneg h0, Int.tdiv_eq_ediv_of_nonneg h0, Int.tmod_eq_emod_of_nonneg h0, w64b (n := a / 256) (by omega) (by omega), w64b (n := a / 65536) (by omega) (by omega), Int.tmod_eq_emod_of_nonneg (by omega)]
  omega
theorem rbytes6 {x : Int × Int} (h : M.right x.1 x.2 = true) : reeveref02_Bytes.f x.1 x.2 = some (M.wr6 x, 0) := by
  obtain ⟨a1, a2, a3, a4⟩ := M.right_iff.1 h
  unfold reeveref02_Bytes.f M.wr6
  rw [rright, h]
  simp only [Option.bind_some]
  rw [if_pos trivial, (rbyte a1 a2).1, (rbyte a1 a2).2.1, (rbyte a1 a2).2.2, (rbyte a3 a4).1, (rbyte a3 a4).2.1, (rbyte a3 a4).2.2]
end Go.Proofs.Ytbiijcehgiibeaa.Pure
