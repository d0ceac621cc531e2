/- Proved here, in whole numbers: adding bytes to a seal is injective in the seal and in each byte; it is linear in the seal; joined seals are seals of joined bytes. No program in sight. · Proved here: what the small printed functions of reevelaw02 come to (the wake, Fold, Of), and seal.Add where its seal is right. · Proved here: 16777199 is a prime; the pairs modulo it are a field; each pair but zero to the power P P - 1 is 1. No program in sight. · Proved here, in whole numbers: a seal's six bytes and what is read of six bytes: one the way back of the other. No program in sight. · Proved here: what seal.Read, seal.Bytes and Same come to. · Proved here: what bits.Number and bits.Read and the document's answers of layer 1 come to: one plain function each. · Proved here, in whole numbers: a number's bytes are read as the number, whatever stands around; and what is read is written as what was read. · Proved here: what the document's answers of layer 2 (Right, Mul, Raise, Times, Power, Join) come to. · Proved here: what chain.Next, chain.Check, links, long and the document's answers of layer 3 come to. · Proved here: what Lent and Kept come to. · Proved here: what the document's Read and Bytes of layer 2, and Owned, come to. · Proved here: what chain.Bytes, chain.Read and the document's answers come to: one plain function each; and Owned. · Proved here: Owned answers true for any two rows of its own that are not too long. · Proved here: the plain law of ChainReads. · Proved here: an argument that is a struct of whole numbers is an aggregate of whole numbers that fit. No program in sight. -/
import Derived.Test.YtbiijcehgiibeaaKCReadsJFloat
import Derived.Test.YtbiijcehgiibeaaKCReadsJQg1
import Derived.Test.YtbiijcehgiibeaaKCReadsQf37
import Derived.Test.YtbiijcehgiibeaaKCReadsQg6
import Derived.Test.YtbiijcehgiibeaaKCReadsQg3
import Derived.Test.YtbiijcehgiibeaaKCReadsQg7
import Derived.Test.YtbiijcehgiibeaaKCReadsQg8
import Derived.Test.YtbiijcehgiibeaaKCReadsQg9
import Derived.Test.YtbiijcehgiibeaaKCReadsQf36
import Derived.Test.YtbiijcehgiibeaaKCReadsQf39
import Derived.Test.YtbiijcehgiibeaaKCReadsQf19
import Derived.WalkKit
import Derived.ProofKit
import Derived.OpenShut
namespace Go.Proofs.Ytbiijcehgiibeaa.M
def plus (x y : Int × Int) : Int × Int := ((x.1 + y.1) % 16777199, (x.2 + y.2) % 16777199)
end Go.Proofs.Ytbiijcehgiibeaa.M
namespace Go.Proofs.Ytbiijcehgiibeaa.Pure
open Go.RowKit Go.Proofs.Ytbiijcehgiibeaa.Q Go.Proofs.YtbiijcehgiibeaaW.PrintWords
theorem tmod_P (n : Int) : n.tmod 16777199 = if 0 ≤ n then n % 16777199 else -((-n) % 16777199) := by
  split
  · exact Int.tmod_eq_emod_of_nonneg ‹_›
  · have := Int.neg_tmod (a := -n) (b := 16777199)
    rw [Int.neg_neg] at this
    rw [this, Int.tmod_eq_emod_of_nonneg (by omega)]
theorem bytes_of {l : List Int} (h : ∀ x ∈ l, (Lit.int .u8 x).wf = true) : M.bytes l = true := by
  unfold M.bytes
  rw [List.all_eq_true]
  intro x hx
  have := h x hx
  simp only [Lit.wf, Bool.and_eq_true, decide_eq_true_eq] at this
  have h1 : (0 : Int) ≤ x := this.1
  have h2 : x ≤ 255 := this.2
  exact decide_eq_true (by omega)
end Go.Proofs.Ytbiijcehgiibeaa.Pure
namespace Go.Proofs.Ytbiijcehgiibeaa.M
def sum : Nat → (Nat → Int × Int) → Int × Int
  | 0, _ => (0, 0)
  | n + 1, f => plus (sum n f) (f n)
theorem zero_mul (x : Int × Int) : mul (0, 0) x = (0, 0) := by unfold mul; refine Prod.ext ?_ ?_ <;> simp only <;> omega
end Go.Proofs.Ytbiijcehgiibeaa.M
namespace Go.Proofs.Ytbiijcehgiibeaa.M
def six (l : List Int) (i : Nat) : Int × Int := (l.getD i 0 + 256 * l.getD (i + 1) 0 + 65536 * l.getD (i + 2) 0, l.getD (i + 3) 0 + 256 * l.getD (i + 4) 0 + 65536 * l.getD (i + 5) 0)
def wr6 (x : Int × Int) : List Int := [x.1 % 256, x.1 / 256 % 256, x.1 / 65536 % 256, x.2 % 256, x.2 / 256 % 256, x.2 / 65536 % 256]
def rd6 (l : List Int) (i : Int) : Int × Int × Int × Int :=
  if i < 0 ∨ i > (l.length : Int) then (0, 0, 0, 1) else if (l.length : Int) - i < 6 then (0, 0, 0, 10) else
    if right (six l i.toNat).1 (six l i.toNat).2 = true then ((six l i.toNat).1, (six l i.toNat).2, i + 6, 0) else (0, 0, 0, 20)
theorem wr6_length (x : Int × Int) : (wr6 x).length = 6 := rfl
end Go.Proofs.Ytbiijcehgiibeaa.M
namespace Go.Proofs.Ytbiijcehgiibeaa.Pure
open Go.RowKit Go.Proofs.Ytbiijcehgiibeaa.Q Go.Proofs.YtbiijcehgiibeaaW.PrintWords
set_option linter.unusedVariables false
set_option linter.unusedSimpArgs false
theorem or_comm (k : IntKind) (x y : Int) : Go.bits .or k x y = Go.bits .or k y x := by
  simp only [Go.bits, BitVec.or_comm]
theorem or_sum (i : Nat) {x y : Int} (h0 : 0 ≤ x) (h1 : x < 2 ^ i) (h2 : 0 ≤ y) (h3 : y < 2 ^ 62) (hi : i ≤ 62) (h4 : y % 2 ^ i = 0) : Go.bits .or .i64 x y = x + y := by
  rw [or_comm, Int.add_comm]
  have hp : (2 : Int) ^ i ≤ 2 ^ 62 := by exact_mod_cast Nat.pow_le_pow_right (n := 2) (by decide) hi
  exact Go.bits_join .i64 62 (by decide) (fun n a b => by rw [Go.IntKind.wrap_i64]; omega) i y x h2 h4 h3 h0 h1 (by omega)
theorem w64b {n : Int} (h1 : -9223372036854775808 ≤ n) (h2 : n ≤ 9223372036854775807) : wrap64 n = n := by unfold wrap64; omega
theorem three {a b c : Int} (h0 : 0 ≤ a) (h1 : a < 256) (h2 : 0 ≤ b) (h3 : b < 256) (h4 : 0 ≤ c) (h5 : c < 256) :
    Go.bits .or .i64 (Go.bits .or .i64 (wrap64 a) (wrap64 ((wrap64 b) * 256))) (wrap64 ((wrap64 c) * 65536)) = a + 256 * b + 65536 * c := by
  rw [w64b (n := a) (by omega) (by omega), w64b (n := b) (by omega) (by omega), w64b (n := c) (by omega) (by omega), w64b (n := b * 256) (by omega) (by omega), w64b (n := c * 65536) (by omega) (by omega)]
  rw [or_sum 8 h0 (by omega) (by omega) (by omega) (by decide) (by omega), or_sum 16 (by omega) (by omega) (by omega) (by omega) (by decide) (by omega)]
  omega
theorem sright (a b : Int) : seal_Right.f a b = some (M.right a b) := by
  unfold seal_Right.f M.right
  by_cases h1 : 0 ≤ a
  · rw [if_pos h1]
    by_cases h2 : a < 16777199
    · rw [if_pos h2]
      by_cases h3 : 0 ≤ b
      · rw [if_pos h3]; congr 1; simp [h1, h2, h3]
      · rw [if_neg h3]; congr 1; simp [h3]
    · rw [if_neg h2]; congr 1; simp [h2]
  · rw [if_neg h1]; congr 1; simp [h1]
theorem rd_cut {l : List Int} {i : Nat} (j : Nat) (hj : j < 6) : rd ((l.take (i + 6)).drop i) (j : Int) = l.getD (i + j) 0 := by
  unfold rd
  rw [Int.toNat_natCast, List.getD_eq_getElem?_getD, List.getD_eq_getElem?_getD, List.getElem?_drop, List.getElem?_take_of_lt (by omega)]
theorem read6 {l : List Int} {i : Int} (k : Nat) (hl : M.bytes l = true) (hn : (l.length : Int) ≤ 4611686018427387904) (h1 : -9223372036854775808 ≤ i) (h2 : i ≤ 9223372036854775807) : seal_Read.f (k + 1) l i = some (M.rd6 l i) := by
  unfold seal_Read.f M.rd6
  simp only [seal_Read.j0]
  by_cases c1 : i < 0
  · rw [if_pos c1, if_pos trivial, if_pos (.inl c1)]
  · rw [if_neg c1]
    by_cases c2 : i > (l.length : Int)
    · rw [if_pos (by simpa using c2), if_pos (.inr c2)]
    · rw [if_neg (by simpa using c2), w64b (n := (l.length : Int) - i) (by omega) (by omega), if_neg (show ¬ (i < 0 ∨ i > (l.length : Int)) by omega)]
      by_cases c3 : (l.length : Int) - i < 6
      · rw [if_pos c3, if_pos c3]
      · rw [if_neg c3, if_neg c3, w64b (n := i + 6) (by omega) (by omega), if_pos (by omega), if_pos (by omega), if_pos (by omega)]
        obtain ⟨m, rfl⟩ := Int.eq_ofNat_of_zero_le (show 0 ≤ i by omega)
        rw [show ((m : Int) + 6).toNat = m + 6 by omega, Int.toNat_natCast]
        have hlen : ((l.take (m + 6)).drop m).length = 6 := by simp; omega
        rw [hlen]
        rw [if_pos (by decide), if_pos (by decide), if_pos (by decide), if_pos (by decide), if_pos (by decide), if_pos (by decide)]
        have r0 : rd ((l.take (m + 6)).drop m) 0 = l.getD m 0 := rd_cut 0 (by decide)
        have r1 : rd ((l.take (m + 6)).drop m) 1 = l.getD (m + 1) 0 := rd_cut 1 (by decide)
        have r2 : rd ((l.take (m + 6)).drop m) 2 = l.getD (m + 2) 0 := rd_cut 2 (by decide)
        have r3 : rd ((l.take (m + 6)).drop m) 3 = l.getD (m + 3) 0 := rd_cut 3 (by decide)
        have r4 : rd ((l.take (m + 6)).drop m) 4 = l.getD (m + 4) 0 := rd_cut 4 (by decide)
        have r5 : rd ((l.take (m + 6)).drop m) 5 = l.getD (m + 5) 0 := rd_cut 5 (by decide)
        have b := fun j => M.bytes_getD hl j
        rw [r0, r1, r2, r3, r4, r5, three (b _).1 (b _).2 (b _).1 (b _).2 (b _).1 (b _).2, three (b _).1 (b _).2 (b _).1 (b _).2 (b _).1 (b _).2, sright]
        simp only [Option.bind_some]
        rw [show (l.getD m 0 + 256 * l.getD (m + 1) 0 + 65536 * l.getD (m + 2) 0) = (M.six l m).1 from rfl, show (l.getD (m + 3) 0 + 256 * l.getD (m + 4) 0 + 65536 * l.getD (m + 5) 0) = (M.six l m).2 from rfl]
        by_cases c4 : M.right (M.six l m).1 (M.six l m).2 = true
        · rw [if_pos c4, if_pos c4]
        · rw [if_neg c4, if_neg c4]
theorem bytes6 {x : Int × Int} (h : M.right x.1 x.2 = true) : seal_Bytes.f x.1 x.2 = some (M.wr6 x, 0) := by
  unfold seal_Bytes.f
  rw [sright, h]
  rfl
theorem same0 : ∀ (k : Nat) (a b : List Int) (i : Nat), a.length = b.length → (a.length : Int) ≤ 9223372036854775806 → i ≤ a.length → a.length - i < k → reevelaw02_Same.l0 k a b (i : Int) = some (decide (a.drop i = b.drop i)) := by
  intro k
  induction k with
  | zero => intro a b i _ _ _ h; omega
  | succ k ih =>
    intro a b i hab hm hi hk
    simp only [reevelaw02_Same.l0]
    by_cases h : i < a.length
    · rw [if_pos (by omega), if_pos (by omega), if_pos (by omega)]
      have ea : a.drop i = a.getD i 0 :: a.drop (i + 1) := by
        rw [List.getD_eq_getElem?_getD, List.getElem?_eq_getElem h, List.drop_eq_getElem_cons h]; rfl
      have eb : b.drop i = b.getD i 0 :: b.drop (i + 1) := by
        rw [List.getD_eq_getElem?_getD, List.getElem?_eq_getElem (by omega), List.drop_eq_getElem_cons (by omega)]; rfl
      have ra : rd a (i : Int) = a.getD i 0 := by unfold rd; rw [Int.toNat_natCast]
      have rb : rd b (i : Int) = b.getD i 0 := by unfold rd; rw [Int.toNat_natCast]
      rw [ra, rb]
      by_cases c : a.getD i 0 = b.getD i 0
      · rw [if_pos c, w64b (n := (i : Int) + 1) (by omega) (by omega), show ((i : Int) + 1) = ((i + 1 : Nat) : Int) by omega, ih a b (i + 1) hab hm (by omega) (by omega)]
        congr 1
        rw [ea, eb, c]
        simp
      · rw [if_neg c]
        congr 1
        symm
        rw [decide_eq_false_iff_not, ea, eb]
        intro e
        exact c (List.cons.inj e).1
    · rw [if_neg (by omega), List.drop_of_length_le (by omega), List.drop_of_length_le (by omega)]
      simp
theorem same_ok {a b : List Int} {k : Nat} (hm : (a.length : Int) ≤ 9223372036854775806) (hk : a.length < k) : reevelaw02_Same.f k a b = some (decide (a = b)) := by
  unfold reevelaw02_Same.f
  by_cases h : a.length = b.length
  · rw [if_pos (by omega)]
    have := same0 k a b 0 h hm (by omega) (by omega)
    simpa using this
  · rw [if_neg (by omega)]
    congr 1
    have : a ≠ b := fun e => h (by rw [e])
    simp [this]
end Go.Proofs.Ytbiijcehgiibeaa.Pure
namespace Go.Proofs.Ytbiijcehgiibeaa.Pure
open Go.RowKit Go.Proofs.Ytbiijcehgiibeaa.Q Go.Proofs.YtbiijcehgiibeaaW.PrintWords
set_option linter.unusedVariables false
set_option linter.unusedSimpArgs false
def wr : Nat → Int → List Int
  | 0, n => [n]
  | d + 1, n => if n ≥ 128 then (n % 128 + 128) :: wr d (n / 128) else [n]
def number (n : Int) : List Int × Int := if 0 ≤ n ∧ n ≤ 4611686018427387903 then (wr 8 n, 0) else ([], 1)
theorem or128 : ∀ x : Fin 128, Go.bits .or .u8 (x.val : Int) 128 = (x.val : Int) + 128 := by decide +kernel
theorem or128' {x : Int} (h0 : 0 ≤ x) (h1 : x < 128) : Go.bits .or .u8 x 128 = x + 128 := by
  obtain ⟨m, rfl⟩ := Int.eq_ofNat_of_zero_le h0
  exact or128 ⟨m, by omega⟩
theorem num0 : ∀ (d k : Nat) (n : Int) (acc : List Int), 0 ≤ n → n < 128 ^ (d + 1) → d < k → acc.length + d < 1000 → bits_Number.l0 k n acc = some (acc ++ wr d n, 0) := by
  intro d
  induction d with
  | zero =>
    intro k n acc h0 h1 hk ha
    obtain ⟨k, rfl⟩ : ∃ j, k = j + 1 := ⟨k - 1, by omega⟩
    have h1' : n < 128 := by simpa using h1
    simp only [bits_Number.l0]
    rw [if_neg (by omega), if_pos (by omega), show n % 256 = n by omega]
    rfl
  | succ d ih =>
    intro k n acc h0 h1 hk ha
    obtain ⟨k, rfl⟩ : ∃ j, k = j + 1 := ⟨k - 1, by omega⟩
    simp only [bits_Number.l0]
    unfold wr
    by_cases c : n ≥ 128
    · rw [if_pos c, if_pos c, if_pos (by omega), Int.tmod_eq_emod_of_nonneg h0, show n % 128 % 256 = n % 128 by omega, or128' (by omega) (by omega), ih k (n / 128) _ (by omega) (by
        rw [Int.pow_succ] at h1
        omega) (by omega) (by simp; omega)]
      simp
    · rw [if_neg c, if_neg c, if_pos (by omega), show n % 256 = n by omega]
theorem rnum0 : ∀ (d k : Nat) (n : Int) (acc : List Int), 0 ≤ n → n ≤ 9223372036854775807 → n < 128 ^ (d + 1) → d < k → acc.length + d < 1000 → reeveref01_Number.l0 k n acc = some (acc ++ wr d n, 0) := by
  intro d
  induction d with
  | zero =>
    intro k n acc h0 hm h1 hk ha
    obtain ⟨k, rfl⟩ : ∃ j, k = j + 1 := ⟨k - 1, by omega⟩
    have h1' : n < 128 := by simpa using h1
    simp only [reeveref01_Number.l0]
    rw [if_neg (by omega), if_pos (by omega), show n % 256 = n by omega]
    rfl
  | succ d ih =>
    intro k n acc h0 hm h1 hk ha
    obtain ⟨k, rfl⟩ : ∃ j, k = j + 1 := ⟨k - 1, by omega⟩
    simp only [reeveref01_Number.l0]
    unfold wr
    by_cases c : n ≥ 128
    · rw [if_pos c, if_pos c, if_pos (by omega), Int.tmod_eq_emod_of_nonneg h0, Int.tdiv_eq_ediv_of_nonneg h0, w64b (n := n / 128) (by omega) (by omega), w64b (n := 128 + n % 128) (by omega) (by omega), show (128 + n % 128) % 256 = n % 128 + 128 by omega, ih k (n / 128) _ (by omega) (by omega) (by
        rw [Int.pow_succ] at h1
        omega) (by omega) (by simp; omega)]
      simp
    · rw [if_neg c, if_neg c, if_pos (by omega), show n % 256 = n by omega]
theorem bnumber (n : Int) {k : Nat} (hk : 9 < k) : bits_Number.f k n = some (number n) := by
  unfold bits_Number.f bits_may.f number
  by_cases h0 : n ≥ 0
  · rw [if_pos h0]
    simp only [Option.bind_some]
    by_cases h1 : n ≤ 4611686018427387903
    · rw [if_pos (by simpa using h1), if_pos ⟨h0, h1⟩]
      have := num0 8 k n [] h0 (by omega) (by omega) (by simp)
      simpa using this
    · rw [if_neg (by simpa using h1), if_neg (fun e => h1 e.2)]
  · rw [if_neg h0, if_neg (fun e => h0 e.1)]
    rfl
theorem rnumber (n : Int) {k : Nat} (hk : 10 < k) : reeveref01_Number.f k n = some (number n) := by
  obtain ⟨k, rfl⟩ : ∃ j, k = j + 1 := ⟨k - 1, by omega⟩
  unfold reeveref01_Number.f number
  simp only [reeveref01_Number.j0]
  by_cases h0 : n < 0
  · rw [if_pos h0, if_pos trivial, if_neg (fun e => by omega)]
  · rw [if_neg h0]
    by_cases h1 : n ≤ 4611686018427387903
    · rw [if_neg (by simpa using h1), if_pos ⟨by omega, h1⟩]
      have := rnum0 8 k n [] (by omega) (by omega) (by omega) (by omega) (by simp)
      simpa using this
    · rw [if_pos (by simp; omega), if_neg (fun e => h1 e.2)]
def rd9 (l : List Int) (a : Nat) : Nat → Nat → Int → Int × Int × Int
  | 0, _, _ => (0, 0, 11)
  | d + 1, i, n => if a + i = l.length then (0, 0, 10) else if l.getD (a + i) 0 = 0 ∧ 0 < i then (0, 0, 11) else if i = 8 ∧ 64 ≤ l.getD (a + i) 0 then (0, 0, 11) else
      if l.getD (a + i) 0 < 128 then (n + l.getD (a + i) 0 % 128 * 128 ^ i, (a : Int) + i + 1, 0) else rd9 l a d (i + 1) (n + l.getD (a + i) 0 % 128 * 128 ^ i)
def readn (l : List Int) (a : Int) : Int × Int × Int := if a < 0 ∨ a > (l.length : Int) then (0, 0, 1) else rd9 l a.toNat 9 0 0
theorem or_sum64 (s : Nat) {x y : Int} (h0 : 0 ≤ x) (h1 : x < 2 ^ s) (h2 : 0 ≤ y) (h3 : y < 2 ^ 63) (hs : s ≤ 63) (h4 : y % 2 ^ s = 0) : Go.bits .or .u64 x y = x + y := by
  rw [or_comm, Int.add_comm]
  have hp : (2 : Int) ^ s ≤ 2 ^ 63 := by exact_mod_cast Nat.pow_le_pow_right (n := 2) (by decide) hs
  exact Go.bits_join .u64 63 (by decide) (fun n a b => by rw [Go.IntKind.wrap_u64]; omega) s y x h2 h4 h3 h0 h1 (by omega)
theorem dig {n c : Int} {s : Nat} (hs : s ≤ 56) (hn0 : 0 ≤ n) (hn : n < 2 ^ s) (hc0 : 0 ≤ c) (hc : c < 128) : Go.bits .or .u64 n (shl .u64 (IntKind.u64.wrap c) (s : Int)) = n + c * 2 ^ s := by
  have hp : (2 : Int) ^ s ≤ 2 ^ 56 := by exact_mod_cast Nat.pow_le_pow_right (n := 2) (by decide) hs
  have hp0 : (0 : Int) < 2 ^ s := Int.pow_pos (by decide)
  have h1 : c * 2 ^ s ≤ 127 * 2 ^ 56 := Int.mul_le_mul (by omega) hp (by omega) (by omega)
  have h2 : 0 ≤ c * 2 ^ s := Int.mul_nonneg hc0 (by omega)
  have e : shl .u64 (IntKind.u64.wrap c) (s : Int) = c * 2 ^ s := by
    unfold shl
    rw [Go.IntKind.wrap_u64, Go.IntKind.wrap_u64, Int.toNat_natCast, show min s IntKind.u64.bits = s from by show min s 64 = s; omega, show c % 18446744073709551616 = c by omega]
    omega
  rw [e]
  exact or_sum64 s hn0 hn h2 (by omega) (by omega) (Int.mul_emod_left _ _)
theorem pow7 (i : Nat) : (128 : Int) ^ i = 2 ^ (7 * i) := by rw [Int.pow_mul]; rfl
theorem bread0 {l : List Int} (hl : M.bytes l = true) (hn : (l.length : Int) ≤ 4611686018427387904) (a : Nat) : ∀ (d i k : Nat) (n : Int), d + i = 9 → 0 < d → a + i ≤ l.length → 0 ≤ n → n < 128 ^ i → 3 * d < k → bits_Read.l0 k l (a : Int) n (i : Int) = some (rd9 l a d i n) := by
  intro d
  induction d with
  | zero => intro i k n _ h; omega
  | succ d ih =>
    intro i k n hd _ hi h0 h1 hk
    obtain ⟨k, rfl⟩ : ∃ j, k = j + 3 := ⟨k - 3, by omega⟩
    simp only [bits_Read.l0, rd9]
    rw [w64b (n := (a : Int) + i) (by omega) (by omega)]
    by_cases c0 : a + i = l.length
    · rw [if_pos (by omega), if_pos c0]
    · have hb := M.bytes_getD hl (a + i)
      have er : rd l ((a : Int) + i) = l.getD (a + i) 0 := by unfold rd; rw [show ((a : Int) + i).toNat = a + i by omega]
      rw [if_neg (by omega), if_neg c0, if_pos (by omega), if_pos (by omega), er, w64b (n := 7 * (i : Int)) (by omega) (by omega), if_pos (by omega), w64b (n := (i : Int) + 1) (by omega) (by omega)]
      generalize l.getD (a + i) 0 = c at hb
      rw [Int.tmod_eq_emod_of_nonneg hb.1, show (7 : Int) * (i : Int) = ((7 * i : Nat) : Int) by omega, dig (s := 7 * i) (by omega) h0 (by rw [← pow7]; exact h1) (by omega) (by omega), ← pow7]
      have hp0 : (0 : Int) < 128 ^ i := Int.pow_pos (by decide)
      have hm0 : 0 ≤ c % 128 * 128 ^ i := Int.mul_nonneg (by omega) (by omega)
      have hm1 : c % 128 * 128 ^ i ≤ 127 * 128 ^ i := Int.mul_le_mul_of_nonneg_right (by omega) (by omega)
      have hs : n + c % 128 * 128 ^ i < 128 ^ (i + 1) := by rw [Int.pow_succ]; omega
      by_cases c1 : c = 0 ∧ 0 < i
      · rw [if_pos c1.1, if_pos c1]
        simp only [bits_Read.j2, bits_Read.j3]
        rw [decide_eq_true (by omega), if_pos rfl, if_pos rfl]
      · have hx : ∀ (B : Bool), (if c = 0 then bits_Read.j2 (k + 2) l (a : Int) (n + c % 128 * 128 ^ i) ((i : Int) + 1) c (decide ((i : Int) + 1 > 1)) else bits_Read.j2 (k + 2) l (a : Int) (n + c % 128 * 128 ^ i) ((i : Int) + 1) c false) = bits_Read.j2 (k + 2) l (a : Int) (n + c % 128 * 128 ^ i) ((i : Int) + 1) c false := by
          intro _
          by_cases c2 : c = 0
          · rw [if_pos c2, decide_eq_false (by omega)]
          · rw [if_neg c2]
        rw [hx true, if_neg c1]
        simp only [bits_Read.j2, bits_Read.j3]
        rw [if_neg (by decide)]
        have nx : bits_Read.l0 k l (a : Int) (n + c % 128 * 128 ^ i) ((i : Int) + 1) = some (rd9 l a d (i + 1) (n + c % 128 * 128 ^ i)) ∨ i = 8 := by
          by_cases c8 : i = 8
          · exact .inr c8
          · exact .inl (by
              rw [show (i : Int) + 1 = ((i + 1 : Nat) : Int) by omega]
              exact ih (i + 1) k _ (by omega) (by omega) (by omega) (by omega) hs (by omega))
        by_cases c8 : i = 8
        · subst c8
          have e8 : (128 : Int) ^ 8 = 72057594037927936 := by decide
          rw [e8] at h1 hm0 hm1 ⊢
          rw [if_pos (by omega)]
          by_cases c3 : 64 ≤ c
          · rw [if_pos (show 8 = 8 ∧ 64 ≤ c from ⟨rfl, c3⟩)]
            by_cases c4 : c ≥ 128
            · rw [if_pos c4, if_pos trivial]
            · rw [if_neg c4, decide_eq_true (by omega), if_pos rfl]
          · rw [if_neg (show ¬ (8 = 8 ∧ 64 ≤ c) from fun e => c3 e.2), if_neg (by omega), decide_eq_false (by omega), if_neg (by decide), if_pos (by omega), if_pos (by omega), w64b (n := n + c % 128 * 72057594037927936) (by omega) (by omega), w64b (n := (a : Int) + (((8 : Nat) : Int) + 1)) (by omega) (by omega), Int.add_assoc]
        · rw [if_neg (by omega), if_neg (by decide), if_neg (show ¬ (i = 8 ∧ 64 ≤ c) from fun e => c8 e.1)]
          by_cases c5 : c < 128
          · have hpi : (128 : Int) ^ (i + 1) ≤ 128 ^ 8 := by exact_mod_cast Nat.pow_le_pow_right (n := 128) (by decide) (by omega)
            rw [if_pos c5, if_pos c5, w64b (n := n + c % 128 * 128 ^ i) (by omega) (by omega), w64b (n := (a : Int) + ((i : Int) + 1)) (by omega) (by omega), Int.add_assoc]
          · rw [if_neg c5, if_neg c5]
            rcases nx with e | e
            · exact e
            · omega
theorem bread {l : List Int} (hl : M.bytes l = true) (hn : (l.length : Int) ≤ 4611686018427387904) (a : Int) {k : Nat} (hk : 30 < k) : bits_Read.f k l a = some (readn l a) := by
  obtain ⟨k, rfl⟩ : ∃ j, k = j + 1 := ⟨k - 1, by omega⟩
  unfold bits_Read.f readn
  simp only [bits_Read.j0]
  by_cases c1 : a < 0
  · rw [if_pos c1, if_pos trivial, if_pos (.inl c1)]
  · rw [if_neg c1]
    by_cases c2 : a > (l.length : Int)
    · rw [if_pos (by simpa using c2), if_pos (.inr c2)]
    · rw [if_neg (by simpa using c2), if_neg (show ¬ (a < 0 ∨ a > (l.length : Int)) by omega)]
      obtain ⟨m, rfl⟩ := Int.eq_ofNat_of_zero_le (show 0 ≤ a by omega)
      have := bread0 hl hn m 9 0 k 0 rfl (by decide) (by omega) (by decide) (by decide) (by omega)
      simpa using this
theorem rread0 {l : List Int} (hl : M.bytes l = true) (hn : (l.length : Int) ≤ 4611686018427387904) (a : Nat) : ∀ (d i k : Nat) (n : Int), d + i = 9 → a + i ≤ l.length → 0 ≤ n → n < 128 ^ i → 3 * d < k → reeveref01_Read.l0 k l (a : Int) n (128 ^ i) (i : Int) = some (rd9 l a d i n) := by
  intro d
  induction d with
  | zero =>
    intro i k n hd hi h0 h1 hk
    obtain ⟨k, rfl⟩ : ∃ j, k = j + 1 := ⟨k - 1, by omega⟩
    simp only [reeveref01_Read.l0, rd9]
    rw [if_neg (by omega)]
  | succ d ih =>
    intro i k n hd hi h0 h1 hk
    obtain ⟨k, rfl⟩ : ∃ j, k = j + 3 := ⟨k - 3, by omega⟩
    simp only [reeveref01_Read.l0, rd9]
    rw [if_pos (by omega), w64b (n := (l.length : Int) - a) (by omega) (by omega)]
    by_cases c0 : a + i = l.length
    · rw [if_pos (by omega), if_pos c0]
    · have hb := M.bytes_getD hl (a + i)
      have er : rd l ((a : Int) + i) = l.getD (a + i) 0 := by unfold rd; rw [show ((a : Int) + i).toNat = a + i by omega]
      rw [if_neg (by omega), if_neg c0, w64b (n := (a : Int) + i) (by omega) (by omega), if_pos (by omega), if_pos (by omega), er]
      generalize l.getD (a + i) 0 = c at hb
      rw [w64b (n := c) (by omega) (by omega)]
      have hp0 : (0 : Int) < 128 ^ i := Int.pow_pos (by decide)
      have hp1 : (128 : Int) ^ i ≤ 128 ^ 8 := by exact_mod_cast Nat.pow_le_pow_right (n := 128) (by decide) (by omega)
      have e8 : (128 : Int) ^ 8 = 72057594037927936 := by decide
      have hm0 : 0 ≤ c % 128 * 128 ^ i := Int.mul_nonneg (by omega) (by omega)
      have hm1 : c % 128 * 128 ^ i ≤ 127 * 128 ^ i := Int.mul_le_mul_of_nonneg_right (by omega) (by omega)
      have hs : n + c % 128 * 128 ^ i < 128 ^ (i + 1) := by rw [Int.pow_succ]; omega
      by_cases c1 : c = 0 ∧ 0 < i
      · rw [if_pos c1.1, if_pos c1]
        simp only [reeveref01_Read.j2]
        rw [decide_eq_true (by omega), if_pos rfl]
      · have hx : (if c = 0 then reeveref01_Read.j2 (k + 2) l (a : Int) n (128 ^ i) (i : Int) c (decide ((i : Int) > 0)) else reeveref01_Read.j2 (k + 2) l (a : Int) n (128 ^ i) (i : Int) c false) = reeveref01_Read.j2 (k + 2) l (a : Int) n (128 ^ i) (i : Int) c false := by
          by_cases c2 : c = 0
          · rw [if_pos c2, decide_eq_false (by omega)]
          · rw [if_neg c2]
        rw [hx, if_neg c1]
        have hj : ∀ B : Bool, (B = true ↔ i = 8 ∧ 64 ≤ c) → reeveref01_Read.j3 (k + 1) l (a : Int) n (128 ^ i) (i : Int) c B = some (if i = 8 ∧ 64 ≤ c then (0, 0, 11) else if c < 128 then (n + c % 128 * 128 ^ i, (a : Int) + i + 1, 0) else rd9 l a d (i + 1) (n + c % 128 * 128 ^ i)) := by
          intro B hB
          simp only [reeveref01_Read.j3]
          by_cases cb : B = true
          · rw [if_pos cb, if_pos (hB.1 cb)]
          · rw [if_neg cb, if_neg (fun e => cb (hB.2 e)), Int.tmod_eq_emod_of_nonneg hb.1, w64b (n := c % 128 * 128 ^ i) (by omega) (by omega), w64b (n := n + c % 128 * 128 ^ i) (by omega) (by omega), w64b (n := (a : Int) + i) (by omega) (by omega), w64b (n := (a : Int) + i + 1) (by omega) (by omega)]
            by_cases c5 : c < 128
            · rw [if_pos c5, if_pos c5]
            · have h8 : ¬ (i = 8 ∧ 64 ≤ c) := fun e => cb (hB.2 e)
              have hp2 : (128 : Int) ^ i ≤ 128 ^ 7 := by exact_mod_cast Nat.pow_le_pow_right (n := 128) (by decide) (by omega)
              have e7 : (128 : Int) ^ 7 = 562949953421312 := by decide
              rw [if_neg c5, if_neg c5, w64b (n := 128 * 128 ^ i) (by omega) (by omega), w64b (n := (i : Int) + 1) (by omega) (by omega), show (128 : Int) * 128 ^ i = 128 ^ (i + 1) by rw [Int.pow_succ]; omega, show (i : Int) + 1 = ((i + 1 : Nat) : Int) by omega]
              exact ih (i + 1) k _ (by omega) (by omega) (by omega) hs (by omega)
        simp only [reeveref01_Read.j2]
        rw [if_neg (by decide)]
        by_cases c8 : i = 8
        · rw [if_pos (by omega)]
          exact hj _ (by simp; omega)
        · rw [if_neg (by omega)]
          exact hj _ (by simp; omega)
theorem rread {l : List Int} (hl : M.bytes l = true) (hn : (l.length : Int) ≤ 4611686018427387904) (a : Int) {k : Nat} (hk : 30 < k) : reeveref01_Read.f k l a = some (readn l a) := by
  obtain ⟨k, rfl⟩ : ∃ j, k = j + 1 := ⟨k - 1, by omega⟩
  unfold reeveref01_Read.f readn
  simp only [reeveref01_Read.j0]
  by_cases c1 : a < 0
  · rw [if_pos c1, if_pos trivial, if_pos (.inl c1)]
  · rw [if_neg c1]
    by_cases c2 : a > (l.length : Int)
    · rw [if_pos (by simpa using c2), if_pos (.inr c2)]
    · rw [if_neg (by simpa using c2), if_neg (show ¬ (a < 0 ∨ a > (l.length : Int)) by omega)]
      obtain ⟨m, rfl⟩ := Int.eq_ofNat_of_zero_le (show 0 ≤ a by omega)
      have := rread0 hl hn m 9 0 k 0 rfl (by omega) (by decide) (by decide) (by omega)
      simpa using this
end Go.Proofs.Ytbiijcehgiibeaa.Pure
namespace Go.Proofs.Ytbiijcehgiibeaa.Pure
theorem wr_len (d : Nat) : ∀ n : Int, 1 ≤ (wr d n).length ∧ (wr d n).length ≤ d + 1 := by
  induction d with
  | zero => intro n; simp [wr]
  | succ d ih =>
    intro n
    unfold wr
    split
    · have := ih (n / 128)
      simp only [List.length_cons]
      omega
    · simp
theorem wr_rd9 (l : List Int) (hb : M.bytes l = true) (a : Nat) : ∀ (d i : Nat) (acc n nx : Int), d + i = 8 → a + i ≤ l.length → rd9 l a (d + 1) i acc = (n, nx, 0) →
    ∃ m : Int, n = acc + m * 128 ^ i ∧ 0 ≤ m ∧ (0 < m ∨ i = 0) ∧ m < 64 * 128 ^ d ∧ nx = (a : Int) + i + (wr d m).length ∧ ∃ post, l.drop (a + i) = wr d m ++ post := by
  intro d
  induction d with
  | zero =>
    intro i acc n nx hd hle h
    have hby := M.bytes_getD hb (a + i)
    unfold rd9 at h
    by_cases c1 : a + i = l.length
    · rw [if_pos c1] at h; cases h
    rw [if_neg c1] at h
    by_cases c2 : l.getD (a + i) 0 = 0 ∧ 0 < i
    · rw [if_pos c2] at h; cases h
    rw [if_neg c2] at h
    by_cases c3 : i = 8 ∧ 64 ≤ l.getD (a + i) 0
    · rw [if_pos c3] at h; cases h
    rw [if_neg c3, if_pos (by omega)] at h
    have hlt : a + i < l.length := by omega
    injection h with h1 h2
    injection h2 with h2 h3
    refine ⟨l.getD (a + i) 0, ?_, hby.1, by omega, by rw [Int.pow_zero]; omega, ?_, l.drop (a + i + 1), ?_⟩
    · rw [← h1, show l.getD (a + i) 0 % 128 = l.getD (a + i) 0 by omega]
    · rw [← h2]; rfl
    · rw [List.drop_eq_getElem_cons hlt, List.getD_eq_getElem?_getD, List.getElem?_eq_getElem hlt]; rfl
  | succ d ih =>
    intro i acc n nx hd hle h
    have hby := M.bytes_getD hb (a + i)
    have hp2 : (128 : Int) ^ (d + 1) = 128 ^ d * 128 := Int.pow_succ ..
    have hp3 : (1 : Int) ≤ 128 ^ d := Int.pow_pos (by decide)
    unfold rd9 at h
    by_cases c1 : a + i = l.length
    · rw [if_pos c1] at h; cases h
    rw [if_neg c1] at h
    by_cases c2 : l.getD (a + i) 0 = 0 ∧ 0 < i
    · rw [if_pos c2] at h; cases h
    rw [if_neg c2, if_neg (by omega)] at h
    have hlt : a + i < l.length := by omega
    have hdr : l.drop (a + i) = l.getD (a + i) 0 :: l.drop (a + i + 1) := by
      rw [List.drop_eq_getElem_cons hlt, List.getD_eq_getElem?_getD, List.getElem?_eq_getElem hlt]; rfl
    generalize l.getD (a + i) 0 = c at *
    by_cases c3 : c < 128
    · rw [if_pos c3] at h
      injection h with h1 h2
      injection h2 with h2 h3
      refine ⟨c, ?_, hby.1, by omega, by omega, ?_, l.drop (a + i + 1), ?_⟩
      · rw [← h1, show c % 128 = c by omega]
      · rw [← h2]; unfold wr; rw [if_neg (by omega)]; rfl
      · unfold wr; rw [if_neg (by omega)]; exact hdr
    · rw [if_neg c3] at h
      obtain ⟨m, e1, e2, e3, e4, e5, post, e6⟩ := ih (i + 1) _ n nx (by omega) (by omega) h
      have hp : (128 : Int) ^ (i + 1) = 128 ^ i * 128 := Int.pow_succ ..
      have hw : wr (d + 1) (c % 128 + 128 * m) = c :: wr d m := by
        rw [wr, if_pos (by omega), show (c % 128 + 128 * m) % 128 + 128 = c by omega, show (c % 128 + 128 * m) / 128 = m by omega]
      refine ⟨c % 128 + 128 * m, ?_, by omega, by omega, by omega, ?_, post, ?_⟩
      · rw [e1, hp]
        generalize (128 : Int) ^ i = q
        generalize c % 128 = v
        grind
      · rw [e5, hw, List.length_cons]; omega
      · rw [hw, hdr, show a + i + 1 = a + (i + 1) by omega, e6]
        rfl
theorem wr_readn {l : List Int} (hb : M.bytes l = true) {a n nx : Int} (h : readn l a = (n, nx, 0)) :
    0 ≤ n ∧ n ≤ 4611686018427387903 ∧ 0 ≤ a ∧ nx = a + (wr 8 n).length ∧ nx ≤ l.length ∧ ∃ post, l.drop a.toNat = wr 8 n ++ post := by
  unfold readn at h
  by_cases c : a < 0 ∨ a > (l.length : Int)
  · rw [if_pos c] at h; cases h
  · rw [if_neg c] at h
    obtain ⟨m, e1, e2, e3, e4, e5, post, e6⟩ := wr_rd9 l hb a.toNat 8 0 0 n nx rfl (by omega) h
    obtain rfl : n = m := by rw [e1, Int.pow_zero]; omega
    have h3 := congrArg List.length e6
    simp only [List.length_drop, List.length_append, Nat.add_zero] at h3
    refine ⟨e2, by omega, by omega, by omega, by omega, post, by simpa using e6⟩
theorem readn_next {l : List Int} (hb : M.bytes l = true) {a : Int} (h : (readn l a).2.2 = 0) : 0 ≤ a ∧ a < (readn l a).2.1 ∧ (readn l a).2.1 ≤ l.length ∧ 0 ≤ (readn l a).1 ∧ (readn l a).1 ≤ 4611686018427387903 := by
  obtain ⟨e1, e2, e3, e4, e5, -⟩ := wr_readn hb (a := a) (n := (readn l a).1) (nx := (readn l a).2.1) (by rw [← h])
  have := (wr_len 8 (readn l a).1).1
  omega
end Go.Proofs.Ytbiijcehgiibeaa.Pure
namespace Go.Proofs.Ytbiijcehgiibeaa.Pure
open Go.RowKit Go.Proofs.Ytbiijcehgiibeaa.Q Go.Proofs.YtbiijcehgiibeaaW.PrintWords
set_option linter.unusedVariables false
set_option linter.unusedSimpArgs false
theorem rright (a b : Int) : reeveref02_Right.f a b = some (M.right a b) := by
  unfold reeveref02_Right.f M.right
  by_cases h1 : 0 ≤ a
  · rw [if_pos h1]
    by_cases h2 : a < 16777199
    · rw [if_pos h2]
      by_cases h3 : 0 ≤ b
      · rw [if_pos h3]; congr 1; simp [h1, h2, h3]
      · rw [if_neg h3]; congr 1; simp [h3]
    · rw [if_neg h2]; congr 1; simp [h2]
  · rw [if_neg h1]; congr 1; simp [h1]
end Go.Proofs.Ytbiijcehgiibeaa.Pure
namespace Go.Proofs.Ytbiijcehgiibeaa.Pure
open Go.RowKit Go.Proofs.Ytbiijcehgiibeaa.Q Go.Proofs.YtbiijcehgiibeaaW.PrintWords
set_option linter.unusedVariables false
set_option linter.unusedSimpArgs false
theorem awake03 (k : Nat) : reevelaw03_awake.f (k + 10) = some true := by kernel_rfl
def may (x : S60) : Bool := decide (0 ≤ x.f0 ∧ x.f0 ≤ 10000 ∧ 0 ≤ x.f1 ∧ x.f1 ≤ 4194304) && M.right x.f2.f0 x.f2.f1
def next (x : S60) (b : List Int) : S60 × Int :=
  if may x = true then if (b.length : Int) > 4194304 then (z60, 2) else if x.f0 = 10000 then (z60, 3) else (⟨x.f0 + 1, b.length, ⟨(M.add (x.f2.f0, x.f2.f1) b).1, (M.add (x.f2.f0, x.f2.f1) b).2⟩⟩, 0) else (z60, 30)
theorem may_iff {x : S60} : may x = true ↔ (0 ≤ x.f0 ∧ x.f0 ≤ 10000 ∧ 0 ≤ x.f1 ∧ x.f1 ≤ 4194304) ∧ M.right x.f2.f0 x.f2.f1 = true := by
  unfold may
  rw [Bool.and_eq_true, decide_eq_true_iff]
theorem cmay (x : S60) : chain_may.f x.f0 x.f1 x.f2.f0 x.f2.f1 = some (may x) := by
  unfold chain_may.f may
  rw [show seal_Right.f x.f2.f0 x.f2.f1 = some (M.right x.f2.f0 x.f2.f1) from rright _ _]
  simp only [Option.bind_some]
  by_cases h1 : x.f0 ≥ 0
  · rw [if_pos h1]
    by_cases h2 : x.f0 ≤ 10000
    · rw [if_pos h2]
      by_cases h3 : x.f1 ≥ 0
      · rw [if_pos h3]
        by_cases h4 : x.f1 ≤ 4194304
        · rw [if_pos h4, decide_eq_true (show 0 ≤ x.f0 ∧ x.f0 ≤ 10000 ∧ 0 ≤ x.f1 ∧ x.f1 ≤ 4194304 by omega), Bool.true_and]
        · rw [if_neg h4, decide_eq_false (by omega), Bool.false_and]
      · rw [if_neg h3, decide_eq_false (by omega), Bool.false_and]
    · rw [if_neg h2, decide_eq_false (by omega), Bool.false_and]
  · rw [if_neg h1, decide_eq_false (by omega), Bool.false_and]
theorem rmay (x : S60) : reeveref03_May.f x.f0 x.f1 x.f2.f0 x.f2.f1 = some (may x) := by
  rw [← cmay]
  unfold reeveref03_May.f chain_may.f
  rw [rright, show seal_Right.f x.f2.f0 x.f2.f1 = some (M.right x.f2.f0 x.f2.f1) from rright _ _]
  simp only [Option.bind_some]
  cases M.right x.f2.f0 x.f2.f1 with
  | true =>
    rw [if_pos rfl]
    by_cases h4 : x.f1 ≤ 4194304
    · rw [if_pos h4, decide_eq_true h4]
    · rw [if_neg h4, decide_eq_false h4]
  | false =>
    rw [if_neg (by decide)]
    simp
def first : S60 := ⟨0, 0, ⟨1, 2⟩⟩
def rows (ps : List (List Int)) : Prop := ps.length ≤ 9223372036854775807 ∧ ∀ x ∈ ps, x.length ≤ 9223372036854775807 ∧ M.bytes x = true
def mk : S60 → List (List Int) → Option (List S60)
  | _, [] => some []
  | x, b :: ps => if (next x b).2 = 0 then (mk (next x b).1 ps).map ((next x b).1 :: ·) else none
end Go.Proofs.Ytbiijcehgiibeaa.Pure
namespace Go.Proofs.Ytbiijcehgiibeaa.Pure
open Go.RowKit Go.Proofs.Ytbiijcehgiibeaa.Q Go.Proofs.YtbiijcehgiibeaaW.PrintWords
theorem lent {l : List Int} (h : l.length ≤ 140737488351232) : reevelaw02_Lent.f l = some l := by
  unfold reevelaw02_Lent.f
  rw [if_pos h]
theorem kept {l : List Int} {k : Nat} (h : l.length ≤ 140737488351232) (hk : l.length < k) : reevelaw02_Kept.f k l l = some true := by
  unfold reevelaw02_Kept.f
  rw [if_pos rfl, if_pos h, same_ok (by omega) hk]
  simp
end Go.Proofs.Ytbiijcehgiibeaa.Pure
namespace Go.Proofs.Ytbiijcehgiibeaa.Pure
open Go.RowKit Go.Proofs.Ytbiijcehgiibeaa.Q Go.Proofs.YtbiijcehgiibeaaW.PrintWords
set_option linter.unusedVariables false
set_option linter.unusedSimpArgs false
theorem rthree {a b c : Int} (h0 : 0 ≤ a) (h1 : a < 256) (h2 : 0 ≤ b) (h3 : b < 256) (h4 : 0 ≤ c) (h5 : c < 256) :
    wrap64 ((wrap64 ((wrap64 a) + (wrap64 (256 * (wrap64 b))))) + (wrap64 (65536 * (wrap64 c)))) = a + 256 * b + 65536 * c := by
  rw [w64b (n := a) (by omega) (by omega), w64b (n := b) (by omega) (by omega), w64b (n := c) (by omega) (by omega), w64b (n := 256 * b) (by omega) (by omega), w64b (n := 65536 * c) (by omega) (by omega), w64b (n := a + 256 * b) (by omega) (by omega), w64b (n := a + 256 * b + 65536 * c) (by omega) (by omega)]
theorem rread6 {l : List Int} {i : Int} (k : Nat) (hl : M.bytes l = true) (hn : (l.length : Int) ≤ 4611686018427387904) (h1 : -9223372036854775808 ≤ i) (h2 : i ≤ 9223372036854775807) : reeveref02_Read.f (k + 1) l i = some (M.rd6 l i) := by
  unfold reeveref02_Read.f M.rd6
  simp only [reeveref02_Read.j0]
  by_cases c1 : i < 0
  · rw [if_pos c1, if_pos trivial, if_pos (.inl c1)]
  · rw [if_neg c1]
    by_cases c2 : i > (l.length : Int)
    · rw [if_pos (by simpa using c2), if_pos (.inr c2)]
    · rw [if_neg (by simpa using c2), w64b (n := (l.length : Int) - i) (by omega) (by omega), if_neg (show ¬ (i < 0 ∨ i > (l.length : Int)) by omega)]
      by_cases c3 : (l.length : Int) - i < 6
      · rw [if_pos c3, if_pos c3]
      · rw [if_neg c3, if_neg c3, w64b (n := i + 6) (by omega) (by omega), if_pos (by omega), if_pos (by omega), if_pos (by omega)]
        obtain ⟨m, rfl⟩ := Int.eq_ofNat_of_zero_le (show 0 ≤ i by omega)
        rw [show ((m : Int) + 6).toNat = m + 6 by omega, Int.toNat_natCast]
        have hlen : ((l.take (m + 6)).drop m).length = 6 := by simp; omega
        rw [hlen]
        rw [if_pos (by decide), if_pos (by decide), if_pos (by decide), if_pos (by decide), if_pos (by decide), if_pos (by decide)]
        have r0 : rd ((l.take (m + 6)).drop m) 0 = l.getD m 0 := rd_cut 0 (by decide)
        have r1 : rd ((l.take (m + 6)).drop m) 1 = l.getD (m + 1) 0 := rd_cut 1 (by decide)
        have r2 : rd ((l.take (m + 6)).drop m) 2 = l.getD (m + 2) 0 := rd_cut 2 (by decide)
        have r3 : rd ((l.take (m + 6)).drop m) 3 = l.getD (m + 3) 0 := rd_cut 3 (by decide)
        have r4 : rd ((l.take (m + 6)).drop m) 4 = l.getD (m + 4) 0 := rd_cut 4 (by decide)
        have r5 : rd ((l.take (m + 6)).drop m) 5 = l.getD (m + 5) 0 := rd_cut 5 (by decide)
        have b := fun j => M.bytes_getD hl j
        rw [r0, r1, r2, r3, r4, r5, rthree (b _).1 (b _).2 (b _).1 (b _).2 (b _).1 (b _).2, rthree (b _).1 (b _).2 (b _).1 (b _).2 (b _).1 (b _).2, rright]
        simp only [Option.bind_some]
        rw [show (l.getD m 0 + 256 * l.getD (m + 1) 0 + 65536 * l.getD (m + 2) 0) = (M.six l m).1 from rfl, show (l.getD (m + 3) 0 + 256 * l.getD (m + 4) 0 + 65536 * l.getD (m + 5) 0) = (M.six l m).2 from rfl]
        by_cases c4 : M.right (M.six l m).1 (M.six l m).2 = true
        · rw [if_pos c4, if_pos c4]
        · rw [if_neg c4, if_neg c4]
theorem rbyte {a : Int} (h0 : 0 ≤ a) (h1 : a < 16777199) : (Int.tmod a 256) % 256 = a % 256 ∧ (Int.tmod (wrap64 (Int.tdiv a 256)) 256) % 256 = a / 256 % 256 ∧ (wrap64 (Int.tdiv a 65536)) % 256 = a / 65536 % 256 := by
  rw [Int.tdiv_eq_ediv_of_nonneg h0, Int.tdiv_eq_ediv_of_nonneg h0, Int.tmod_eq_emod_of_nonneg h0, w64b (n := a / 256) (by omega) (by omega), w64b (n := a / 65536) (by omega) (by omega), Int.tmod_eq_emod_of_nonneg (by omega)]
  omega
theorem rbytes6 {x : Int × Int} (h : M.right x.1 x.2 = true) : reeveref02_Bytes.f x.1 x.2 = some (M.wr6 x, 0) := by
  obtain ⟨a1, a2, a3, a4⟩ := M.right_iff.1 h
  unfold reeveref02_Bytes.f M.wr6
  rw [rright, h]
  simp only [Option.bind_some]
  rw [if_pos trivial, (rbyte a1 a2).1, (rbyte a1 a2).2.1, (rbyte a1 a2).2.2, (rbyte a3 a4).1, (rbyte a3 a4).2.1, (rbyte a3 a4).2.2]
end Go.Proofs.Ytbiijcehgiibeaa.Pure
namespace Go.Proofs.Ytbiijcehgiibeaa.Pure
open Go.RowKit Go.Proofs.Ytbiijcehgiibeaa.Q Go.Proofs.YtbiijcehgiibeaaW.PrintWords
set_option linter.unusedVariables false
set_option linter.unusedSimpArgs false
def lwr (x : S60) : List Int × Int := if may x = true then (wr 8 x.f0 ++ wr 8 x.f1 ++ M.wr6 (x.f2.f0, x.f2.f1), 0) else ([], 30)
def lrd (l : List Int) (a : Int) : S60 × Int × Int :=
  if (readn l a).2.2 = 0 then if 10000 < (readn l a).1 then (z60, 0, 30) else
    if (readn l (readn l a).2.1).2.2 = 0 then if 4194304 < (readn l (readn l a).2.1).1 then (z60, 0, 30) else
      if (M.rd6 l (readn l (readn l a).2.1).2.1).2.2.2 = 0 then
        (⟨(readn l a).1, (readn l (readn l a).2.1).1, ⟨(M.rd6 l (readn l (readn l a).2.1).2.1).1, (M.rd6 l (readn l (readn l a).2.1).2.1).2.1⟩⟩, (M.rd6 l (readn l (readn l a).2.1).2.1).2.2.1, 0)
      else (z60, 0, (M.rd6 l (readn l (readn l a).2.1).2.1).2.2.2)
    else (z60, 0, (readn l (readn l a).2.1).2.2)
  else (z60, 0, (readn l a).2.2)
theorem number_may {n : Int} (h0 : 0 ≤ n) (h1 : n ≤ 4611686018427387903) : number n = (wr 8 n, 0) := by unfold number; rw [if_pos ⟨h0, h1⟩]
theorem lwr_len (x : S60) : (lwr x).1.length ≤ 24 := by
  unfold lwr
  split
  · have := wr_len 8 x.f0
    have := wr_len 8 x.f1
    simp only [List.length_append, M.wr6_length]
    omega
  · simp
theorem cbytes (x : S60) {k : Nat} (hk : 9 < k) : chain_Bytes.f k x.f0 x.f1 x.f2.f0 x.f2.f1 = some (lwr x) := by
  unfold chain_Bytes.f lwr
  rw [cmay]
  simp only [Option.bind_some]
  by_cases h : may x = true
  · obtain ⟨⟨h0, h1, h2, h3⟩, h4⟩ := may_iff.1 h
    have w0 := wr_len 8 x.f0
    have w1 := wr_len 8 x.f1
    rw [if_pos h, if_pos h, bnumber _ hk, bnumber _ hk, number_may h0 (by omega), number_may h2 (by omega), bytes6 (x := (x.f2.f0, x.f2.f1)) h4]
    simp only [Option.bind_some]
    rw [if_pos (by omega), if_pos (by rw [List.length_append, M.wr6_length]; omega)]
  · rw [if_neg h, if_neg h]
theorem rbytes (x : S60) {k : Nat} (hk : 10 < k) : reeveref03_Bytes.f k x.f0 x.f1 x.f2.f0 x.f2.f1 = some (lwr x) := by
  unfold reeveref03_Bytes.f lwr
  rw [rmay]
  simp only [Option.bind_some]
  by_cases h : may x = true
  · obtain ⟨⟨h0, h1, h2, h3⟩, h4⟩ := may_iff.1 h
    have w0 := wr_len 8 x.f0
    have w1 := wr_len 8 x.f1
    rw [if_pos h, if_pos h, rnumber _ hk, rnumber _ hk, number_may h0 (by omega), number_may h2 (by omega), rbytes6 (x := (x.f2.f0, x.f2.f1)) h4]
    simp only [Option.bind_some]
    rw [if_pos (by omega), if_pos (by rw [List.length_append, M.wr6_length]; omega)]
  · rw [if_neg h, if_neg h]
theorem cread {l : List Int} (hb : M.bytes l = true) (hn : (l.length : Int) ≤ 4611686018427387904) (a : Int) {k : Nat} (hk : 31 < k) :
    chain_Read.f k l a = some ((lrd l a).1.f0, (lrd l a).1.f1, (lrd l a).1.f2.f0, (lrd l a).1.f2.f1, (lrd l a).2.1, (lrd l a).2.2) := by
  obtain ⟨k, rfl⟩ : ∃ j, k = j + 1 := ⟨k - 1, by omega⟩
  unfold chain_Read.f H.lread lrd
  rw [bread hb hn a (by omega)]
  simp only [Option.bind_some]
  by_cases c1 : (readn l a).2.2 = 0
  · have n1 := readn_next hb c1
    rw [if_pos c1, if_pos c1]
    by_cases c2 : 10000 < (readn l a).1
    · rw [if_pos c2, if_pos c2]
      rfl
    · rw [if_neg c2, if_neg c2, bread hb hn _ (by omega)]
      simp only [Option.bind_some]
      by_cases c3 : (readn l (readn l a).2.1).2.2 = 0
      · have n2 := readn_next hb c3
        rw [if_pos c3, if_pos c3]
        by_cases c4 : 4194304 < (readn l (readn l a).2.1).1
        · rw [if_pos c4, if_pos c4]
          rfl
        · rw [if_neg c4, if_neg c4, read6 k hb hn (by omega) (by omega)]
          simp only [Option.bind_some]
          by_cases c5 : (M.rd6 l (readn l (readn l a).2.1).2.1).2.2.2 = 0
          · rw [if_pos c5, if_pos c5]
          · rw [if_neg c5, if_neg c5]
            rfl
      · rw [if_neg c3, if_neg c3]
        rfl
  · rw [if_neg c1, if_neg c1]
    rfl
theorem rread3 {l : List Int} (hb : M.bytes l = true) (hn : (l.length : Int) ≤ 4611686018427387904) (a : Int) {k : Nat} (hk : 31 < k) :
    reeveref03_Read.f k l a = some ((lrd l a).1.f0, (lrd l a).1.f1, (lrd l a).1.f2.f0, (lrd l a).1.f2.f1, (lrd l a).2.1, (lrd l a).2.2) := by
  obtain ⟨k, rfl⟩ : ∃ j, k = j + 1 := ⟨k - 1, by omega⟩
  unfold reeveref03_Read.f lrd
  rw [rread hb hn a (by omega)]
  simp only [Option.bind_some]
  by_cases c1 : (readn l a).2.2 = 0
  · have n1 := readn_next hb c1
    rw [if_pos c1, if_pos c1]
    by_cases c2 : 10000 < (readn l a).1
    · rw [if_pos c2, if_pos (show (readn l a).1 > 10000 from c2)]
      rfl
    · rw [if_neg c2, if_neg (show ¬ (readn l a).1 > 10000 from c2), rread hb hn _ (by omega)]
      simp only [Option.bind_some]
      by_cases c3 : (readn l (readn l a).2.1).2.2 = 0
      · have n2 := readn_next hb c3
        rw [if_pos c3, if_pos c3]
        by_cases c4 : 4194304 < (readn l (readn l a).2.1).1
        · rw [if_pos c4, if_pos (show (readn l (readn l a).2.1).1 > 4194304 from c4)]
          rfl
        · rw [if_neg c4, if_neg (show ¬ (readn l (readn l a).2.1).1 > 4194304 from c4), rread6 k hb hn (by omega) (by omega)]
          simp only [Option.bind_some]
          by_cases c5 : (M.rd6 l (readn l (readn l a).2.1).2.1).2.2.2 = 0
          · rw [if_pos c5, if_pos c5]
          · rw [if_neg c5, if_neg c5]
            rfl
      · rw [if_neg c3, if_neg c3]
        rfl
  · rw [if_neg c1, if_neg c1]
    rfl
end Go.Proofs.Ytbiijcehgiibeaa.Pure
namespace Go.Proofs.Ytbiijcehgiibeaa.Pure
open Go.RowKit Go.Proofs.Ytbiijcehgiibeaa.Q Go.Proofs.YtbiijcehgiibeaaW.PrintWords
set_option linter.unusedVariables false
set_option linter.unusedSimpArgs false
def fullOf (v : Int) (l : List Int) (i : Nat) : Prop := ∀ j, j < i → l.getD j 0 = v
theorem fullOf_set {v : Int} {l : List Int} {i : Nat} (hi : i < l.length) (h : fullOf v l i) : fullOf v (l.set i v) (i + 1) := by
  intro j hj
  rw [List.getD_eq_getElem?_getD, List.getElem?_set]
  by_cases e : i = j
  · subst e
    simp [hi]
  · rw [if_neg e, ← List.getD_eq_getElem?_getD]
    exact h j (by omega)
theorem fullOf_append {v : Int} {l : List Int} (h : fullOf v l l.length) : fullOf v (l ++ [v, v]) (l ++ [v, v]).length := by
  intro j hj
  simp only [List.length_append, List.length_cons, List.length_nil] at hj
  rw [List.getD_eq_getElem?_getD]
  by_cases c : j < l.length
  · rw [List.getElem?_append_left c, ← List.getD_eq_getElem?_getD]
    exact h j c
  · rw [List.getElem?_append_right (by omega)]
    obtain e | e : j - l.length = 0 ∨ j - l.length = 1 := by omega
    all_goals rw [e]; rfl
theorem own3 : ∀ (d k : Nat) (b : List Int) (i : Nat), b.length ≤ 1000 → fullOf 2 b b.length → d + i = b.length → d < k → reevelaw02_Owned.l3 k b (i : Int) = some true := by
  intro d
  induction d with
  | zero =>
    intro k b i hl hf hd hk
    obtain ⟨k, rfl⟩ : ∃ j, k = j + 1 := ⟨k - 1, by omega⟩
    simp only [reevelaw02_Owned.l3]
    rw [if_neg (by omega)]
  | succ d ih =>
    intro k b i hl hf hd hk
    obtain ⟨k, rfl⟩ : ∃ j, k = j + 1 := ⟨k - 1, by omega⟩
    simp only [reevelaw02_Owned.l3]
    rw [if_pos (by omega), if_pos (by omega), if_pos (by unfold rd; rw [Int.toNat_natCast]; exact hf i (by omega)), w64b (by omega) (by omega)]
    exact ih k b (i + 1) hl hf (by omega) (by omega)
theorem own2 : ∀ (d k : Nat) (a b : List Int) (i : Nat), a.length ≤ 1000 → b.length ≤ 1000 → fullOf 1 a a.length → fullOf 2 b b.length → d + i = a.length → d + b.length + 1 < k → reevelaw02_Owned.l2 k a b (i : Int) = some true := by
  intro d
  induction d with
  | zero =>
    intro k a b i hl hm hf hg hd hk
    obtain ⟨k, rfl⟩ : ∃ j, k = j + 1 := ⟨k - 1, by omega⟩
    simp only [reevelaw02_Owned.l2]
    rw [if_neg (by omega)]
    exact own3 b.length k b 0 hm hg (by omega) (by omega)
  | succ d ih =>
    intro k a b i hl hm hf hg hd hk
    obtain ⟨k, rfl⟩ : ∃ j, k = j + 1 := ⟨k - 1, by omega⟩
    simp only [reevelaw02_Owned.l2]
    rw [if_pos (by omega), if_pos (by omega), if_pos (by unfold rd; rw [Int.toNat_natCast]; exact hf i (by omega)), w64b (by omega) (by omega)]
    exact ih k a b (i + 1) hl hm hf hg (by omega) (by omega)
theorem own1 : ∀ (d k : Nat) (a b : List Int) (i : Nat), a.length ≤ 900 → b.length ≤ 900 → fullOf 1 a a.length → fullOf 2 b i → d + i = b.length → d + a.length + b.length + 8 < k → reevelaw02_Owned.l1 k a b (i : Int) = some true := by
  intro d
  induction d with
  | zero =>
    intro k a b i hl hm hf hg hd hk
    obtain ⟨k, rfl⟩ : ∃ j, k = j + 1 := ⟨k - 1, by omega⟩
    simp only [reevelaw02_Owned.l1]
    rw [if_neg (by omega)]
    simp only [Option.bind_some]
    rw [if_pos (by simp; omega), if_pos (by simp; omega)]
    refine own2 (a ++ [1, 1]).length k _ _ 0 (by simp; omega) (by simp; omega) (fullOf_append hf) (fullOf_append ?_) (by omega) (by simp; omega)
    rw [show b.length = i by omega]
    exact hg
  | succ d ih =>
    intro k a b i hl hm hf hg hd hk
    obtain ⟨k, rfl⟩ : ∃ j, k = j + 1 := ⟨k - 1, by omega⟩
    simp only [reevelaw02_Owned.l1]
    rw [if_pos (by omega), if_pos (by omega), w64b (by omega) (by omega), Int.toNat_natCast]
    exact ih k a (b.set i 2) (i + 1) hl (by simpa using hm) hf (fullOf_set (by omega) hg) (by simp; omega) (by simp; omega)
theorem own0 : ∀ (d k : Nat) (a b : List Int) (i : Nat), a.length ≤ 900 → b.length ≤ 900 → fullOf 1 a i → d + i = a.length → d + a.length + 2 * b.length + 10 < k → reevelaw02_Owned.l0 k a b (i : Int) = some true := by
  intro d
  induction d with
  | zero =>
    intro k a b i hl hm hf hd hk
    obtain ⟨k, rfl⟩ : ∃ j, k = j + 1 := ⟨k - 1, by omega⟩
    simp only [reevelaw02_Owned.l0]
    rw [if_neg (by omega)]
    refine own1 b.length k a b 0 hl hm ?_ (fun j hj => absurd hj (by omega)) (by omega) (by omega)
    rw [show a.length = i by omega]
    exact hf
  | succ d ih =>
    intro k a b i hl hm hf hd hk
    obtain ⟨k, rfl⟩ : ∃ j, k = j + 1 := ⟨k - 1, by omega⟩
    simp only [reevelaw02_Owned.l0]
    rw [if_pos (by omega), if_pos (by omega), w64b (by omega) (by omega), Int.toNat_natCast]
    exact ih k (a.set i 1) b (i + 1) (by simpa using hl) hm (fullOf_set (by omega) hf) (by simp; omega) (by simp; omega)
theorem owned {a b : List Int} {k : Nat} (ha : a.length ≤ 900) (hb : b.length ≤ 900) (hk : 2 * a.length + 2 * b.length + 10 < k) : reevelaw02_Owned.f k a b = some true := by
  unfold reevelaw02_Owned.f
  exact own0 a.length k a b 0 ha hb (fun j hj => absurd hj (by omega)) (by omega) (by omega)
end Go.Proofs.Ytbiijcehgiibeaa.Pure
namespace Go.Proofs.Ytbiijcehgiibeaa.Pure
open Go.RowKit Go.Proofs.Ytbiijcehgiibeaa.Q Go.Proofs.YtbiijcehgiibeaaW.PrintWords
theorem ChainReads (a0 a1 a2 a3 : Int) (l : List Int) (at_ : Int) (_ : (Lit.int .i64 a0).wf = true) (_ : (Lit.int .i64 a1).wf = true) (_ : (Lit.int .i64 a2).wf = true) (_ : (Lit.int .i64 a3).wf = true) (y : l.length * 1 ≤ 140737488351232) (hw : ∀ x ∈ l, (Lit.int .u8 x).wf = true) (_ : (Lit.int .i64 at_).wf = true) : ∃ k, reevelaw03_ChainReads.f k a0 a1 a2 a3 l at_ = some true := by
  refine ⟨(l.length + 190) + 10, ?_⟩
  have hb := bytes_of hw
  have hc := cbytes (⟨a0, a1, ⟨a2, a3⟩⟩ : S60) (k := l.length + 190 + 10) (by omega)
  have hr := rbytes (⟨a0, a1, ⟨a2, a3⟩⟩ : S60) (k := l.length + 190 + 10) (by omega)
  have hn := lwr_len (⟨a0, a1, ⟨a2, a3⟩⟩ : S60)
  unfold reevelaw03_ChainReads.f
  rw [awake03, hr, hc, rread3 hb (by omega) at_ (by omega), lent (by omega)]
  simp only [Option.bind_some]
  rw [cread hb (by omega) at_ (by omega), kept (by omega) (by omega)]
  simp only [Option.bind_some]
  rw [same_ok (by omega) (by omega), owned (by omega) (by omega) (by omega)]
  simp
end Go.Proofs.Ytbiijcehgiibeaa.Pure
namespace Go.Proofs.Ytbiijcehgiibeaa.O
open Go.ChangeShapes Go.WideShapes Go.ChangeAt Go.RowKit
theorem agg_ints {P : Program} {w : World} {r : Reach} {b : Nat} {t e : TypeId} {v : Value} {n : Nat} {fs : Array Field} (hs : P.underlying t = some (.struct fs)) (hC : P.cellsOf t = n)
    (ht : P.cellTypes P.depth t = some (List.replicate n e)) (he : P.underlying e = some (.int .i64)) (hv : Value.okWide P w r b t v) :
    ∃ cs : Array Value, v = .agg cs ∧ cs.size = n ∧ ∀ i, i < n → ∃ x, cs[i]? = some (.int .i64 x) ∧ (Lit.int .i64 x).wf = true := by
  unfold Value.okWide at hv
  rw [hs] at hv
  obtain ⟨cs, rfl, hsz, hr⟩ := hv
  rw [hC] at hsz
  refine ⟨cs, rfl, hsz, fun i hi => ?_⟩
  obtain ⟨ts, h1, _, h2⟩ := hr
  rw [ht] at h1
  cases h1
  obtain ⟨u, h3, h4⟩ := h2 i (cs[i]'(by omega)) (Array.getElem?_eq_getElem (by omega))
  have hu : u = e := by
    have := List.mem_of_getElem? h3
    exact (List.mem_replicate.1 this).2
  subst hu
  generalize hc : cs[i]'(by omega) = c at h4
  unfold Cell.okWide Cell.ok at h4
  rw [he] at h4
  cases c <;> simp only at h4 <;> try exact h4.elim
  rename_i k x
  obtain ⟨rfl, hk⟩ := h4
  refine ⟨x, by rw [Array.getElem?_eq_getElem (by omega), hc], ?_⟩
  unfold IntKind.has at hk
  have h9 : x ≤ 9223372036854775807 := hk.2
  simp [Lit.wf, hk.1, h9]
theorem arr4 {cs : Array Value} {x0 x1 x2 x3 : Value} (hsz : cs.size = 4) (h0 : cs[0]? = some x0) (h1 : cs[1]? = some x1) (h2 : cs[2]? = some x2) (h3 : cs[3]? = some x3) : cs = #[x0, x1, x2, x3] := by
  obtain ⟨l⟩ := cs
  match l, hsz with
  | [a, b, c, d], _ => simp_all
theorem agg4 {P : Program} {w : World} {r : Reach} {b : Nat} {t e : TypeId} {v : Value} {fs : Array Field} (hs : P.underlying t = some (.struct fs)) (hC : P.cellsOf t = 4)
    (ht : P.cellTypes P.depth t = some [e, e, e, e]) (he : P.underlying e = some (.int .i64)) (hv : Value.okWide P w r b t v) :
    ∃ x0 x1 x2 x3 : Int, v = .agg #[.int .i64 x0, .int .i64 x1, .int .i64 x2, .int .i64 x3] ∧ (Lit.int .i64 x0).wf = true ∧ (Lit.int .i64 x1).wf = true ∧ (Lit.int .i64 x2).wf = true ∧ (Lit.int .i64 x3).wf = true := by
  obtain ⟨cs, rfl, hsz, h⟩ := agg_ints hs hC ht he hv
  obtain ⟨x0, e0, w0⟩ := h 0 (by omega)
  obtain ⟨x1, e1, w1⟩ := h 1 (by omega)
  obtain ⟨x2, e2, w2⟩ := h 2 (by omega)
  obtain ⟨x3, e3, w3⟩ := h 3 (by omega)
  exact ⟨x0, x1, x2, x3, by rw [arr4 hsz e0 e1 e2 e3], w0, w1, w2, w3⟩
end Go.Proofs.Ytbiijcehgiibeaa.O
