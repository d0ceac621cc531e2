/- Proved here: what seal.Read, seal.Bytes and Same come to. -/
import Derived.Test.YtbiijcehgiibeaaKCBackPureB
import Derived.Test.YtbiijcehgiibeaaKCBackQf37
import Derived.Test.YtbiijcehgiibeaaKCBackQg5
import Derived.Test.YtbiijcehgiibeaaKCBackSix
namespace Go.Proofs.Ytbiijcehgiibeaa.Pure
open Go.RowKit Go.Proofs.Ytbiijcehgiibeaa.Q Go.Proofs.YtbiijcehgiibeaaW.PrintWords
set_option linter.unusedVariables false
set_option linter.unusedSimpArgs false
theorem or_comm (k : IntKind) (x y : Int) : Go.bits .or k x y = Go.bits .or k y x := by
  simp only [Go.bits, BitVec.or_comm]
theorem or_sum (i : Nat) {x y : Int} (h0 : 0 ≤ x) (h1 : x < 2 ^ i) (h2 : 0 ≤ y) (h3 : y < 2 ^ 62) (hi : i ≤ 62) (h4 : y % 2 ^ i = 0) : Go.bits .or .i64 x y = x + y := by
  rw [or_comm, Int.add_comm]
  have hp : (2 : Int) ^ i ≤ 2 ^ 62 := by exact_mod_cast Nat.pow_le_pow_right (n := 2) (by decide) hi
  exact Go.bits_join .i64 62 (by decide) (fun n a b => by rw [Go.IntKind.wrap_i64]; omega) i y x h2 h4 h3 h0 h1 (by omega)
theorem w64b {n : Int} (h1 : -9223372036854775808 ≤ n) (h2 : n ≤ 9223372036854775807) : wrap64 n = n := by unfold wrap64; omega
theorem three {a b c : Int} (h0 : 0 ≤ a) (h1 : a < 256) (h2 : 0 ≤ b) (h3 : b < 256) (h4 : 0 ≤ c) (h5 : c < 256) :
    Go.bits .or .i64 (Go.bits .or .i64 (wrap64 a) (wrap64 ((wrap64 b) * 256))) (wrap64 ((wrap64 c) * 65536)) = a + 256 * b + 65536 * c := by
  rw [w64b (n := a) (by omega) (by omega), w64b (n := b) (by omega) (by omega), w64b (n := c) (by omega) (by omega), w64b (n := b * 256) (by omega) (by omega), w64b (n := c * 65536) (by omega) (by omega)]
  rw [or_sum 8 h0 (by omega) (by omega) (by omega) (by decide) (by omega), or_sum 16 (by omega) (by omega) (by omega) (by omega) (by decide) (by omega)]
  omega
theorem sright (a b : Int) : seal_Right.f a b = some (M.right a b) := by
  unfold seal_Right.f M.right
  by_cases h1 : 0 ≤ a
  · rw [if_pos h1]
    by_cases h2 : a < 16777199
    · rw [if_pos h2]
      by_cases h3 : 0 ≤ b
      · rw [if_pos h3]; congr 1; simp [h1, h2, h3]
      · rw [if_neg h3]; congr 1; simp [h3]
    · rw [if_neg h2]; congr 1; simp [h2]
  · rw [if_neg h1]; congr 1; simp [h1]
theorem rd_cut {l : List Int} {i : Nat} (j : Nat) (hj : j < 6) : rd ((l.take (i + 6)).drop i) (j : Int) = l.getD (i + j) 0 := by
  unfold rd
  rw [Int.toNat_natCast, List.getD_eq_getElem?_getD, List.getD_eq_getElem?_getD, List.getElem?_drop, List.getElem?_take_of_lt (by omega)]
theorem read6 {l : List Int} {i : Int} (k : Nat) (hl : M.bytes l = true) (hn : (l.length : Int) ≤ 4611686018427387904) (h1 : -9223372036854775808 ≤ i) (h2 : i ≤ 9223372036854775807) : seal_Read.f (k + 1) l i = some (M.rd6 l i) := by
  unfold seal_Read.f M.rd6
  simp only [seal_Read.j0]
  by_cases c1 : i < 0
  · rw [if_pos c1, if_pos trivial, if_pos (.inl c1)]
  · rw [if_neg c1]
    by_cases c2 : i > (l.length : Int)
    · rw [if_pos (by simpa using c2), if_pos (.inr c2)]
    · rw [if_neg (by simpa using c2), w64b (n := (l.length : Int) - i) (by omega) (by omega), if_neg (show ¬ (i < 0 ∨ i > (l.length : Int)) by omega)]
      by_cases c3 : (l.length : Int) - i < 6
      · rw [if_pos c3, if_pos c3]
      · rw [if_neg c3, if_neg c3, w64b (n := i + 6) (by omega) (by omega), if_pos (by omega), if_pos (by omega), if_pos (by omega)]
        obtain ⟨m, rfl⟩ := Int.eq_ofNat_of_zero_le (show 0 ≤ i by omega)
        rw [show ((m : Int) + 6).toNat = m + 6 by omega, Int.toNat_natCast]
        have hlen : ((l.take (m + 6)).drop m).length = 6 := by simp; omega
        rw [hlen]
        rw [if_pos (by decide), if_pos (by decide), if_pos (by decide), if_pos (by decide), if_pos (by decide), if_pos (by decide)]
        have r0 : rd ((l.take (m + 6)).drop m) 0 = l.getD m 0 := rd_cut 0 (by decide)
        have r1 : rd ((l.take (m + 6)).drop m) 1 = l.getD (m + 1) 0 := rd_cut 1 (by decide)
        have r2 : rd ((l.take (m + 6)).drop m) 2 = l.getD (m + 2) 0 := rd_cut 2 (by decide)
        have r3 : rd ((l.take (m + 6)).drop m) 3 = l.getD (m + 3) 0 := rd_cut 3 (by decide)
        have r4 : rd ((l.take (m + 6)).drop m) 4 = l.getD (m + 4) 0 := rd_cut 4 (by decide)
        have r5 : rd ((l.take (m + 6)).drop m) 5 = l.getD (m + 5) 0 := rd_cut 5 (by decide)
        have b := fun j => M.bytes_getD hl j
        rw [r0, r1, r2, r3, r4, r5, three (b _).1 (b _).2 (b _).1 (b _).2 (b _).1 (b _).2, three (b _).1 (b _).2 (b _).1 (b _).2 (b _).1 (b _).2, sright]
        simp only [Option.bind_some]
        rw [show (l.getD m 0 + 256 * l.getD (m + 1) 0 + 65536 * l.getD (m + 2) 0) = (M.six l m).1 from rfl, show (l.getD (m + 3) 0 + 256 * l.getD (m + 4) 0 + 65536 * l.getD (m + 5) 0) = (M.six l m).2 from rfl]
        by_cases c4 : M.right (M.six l m).1 (M.six l m).2 = true
        · rw [if_pos c4, if_pos c4]
        · rw [if_neg c4, if_neg c4]
theorem bytes6 {x : Int × Int} (h : M.right x.1 x.2 = true) : seal_Bytes.f x.1 x.2 = some (M.wr6 x, 0) := by
  unfold seal_Bytes.f
  rw [sright, h]
  rfl
theorem same0 : ∀ (k : Nat) (a b : List Int) (i : Nat), a.length = b.length → (a.length : Int) ≤ 9223372036854775806 → i ≤ a.length → a.length - i < k → reevelaw02_Same.l0 k a b (i : Int) = some (decide (a.drop i = b.drop i)) := by
  intro k
  induction k with
  | zero => intro a b i _ _ _ h; omega
  | succ k ih =>
    intro a b i hab hm hi hk
    simp only [reevelaw02_Same.l0]
    by_cases h : i < a.length
    · rw [if_pos (by omega), if_pos (by omega), if_pos (by omega)]
      have ea : a.drop i = a.getD i 0 :: a.drop (i + 1) := by
        rw [List.getD_eq_getElem?_getD, List.getElem?_eq_getElem h, List.drop_eq_getElem_cons h]; rfl
      have eb : b.drop i = b.getD i 0 :: b.drop (i + 1) := by
        rw [List.getD_eq_getElem?_getD, List.getElem?_eq_getElem (by omega), List.drop_eq_getElem_cons (by omega)]; rfl
      have ra : rd a (i : Int) = a.getD i 0 := by unfold rd; rw [Int.toNat_natCast]
      have rb : rd b (i : Int) = b.getD i 0 := by unfold rd; rw [Int.toNat_natCast]
      rw [ra, rb]
      by_cases c : a.getD i 0 = b.getD i 0
      · rw [if_pos c, w64b (n := (i : Int) + 1) (by omega) (by omega), show ((i : Int) + 1) = ((i + 1 : Nat) : Int) by omega, ih a b (i + 1) hab hm (by omega) (by omega)]
        congr 1
        rw [ea, eb, c]
        simp
      · rw [if_neg c]
        congr 1
        symm
        rw [decide_eq_false_iff_not, ea, eb]
        intro e
        exact c (List.cons.inj e).1
    · rw [if_neg (by omega), List.drop_of_length_le (by omega), List.drop_of_length_le (by omega)]
      simp
theorem same_ok {a b : List Int} {k : Nat} (hm : (a.length : Int) ≤ 9223372036854775806) (hk : a.length < k) : reevelaw02_Same.f k a b = some (decide (a = b)) := by
  unfold reevelaw02_Same.f
  by_cases h : a.length = b.length
  · rw [if_pos (by omega)]
    have := same0 k a b 0 h hm (by omega) (by omega)
    simpa using this
  · rw [if_neg (by omega)]
    congr 1
    have : a ≠ b := fun e => h (by rw [e])
    simp [this]
end Go.Proofs.Ytbiijcehgiibeaa.Pure
