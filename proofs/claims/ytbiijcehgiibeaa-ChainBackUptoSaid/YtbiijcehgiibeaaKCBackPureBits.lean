/- Proved here: what bits.Number and bits.Read and the document's answers of layer 1 come to: one plain function each. -/
import Derived.Test.YtbiijcehgiibeaaKCBackPureD
import Derived.Test.YtbiijcehgiibeaaKCBackQg1
import Derived.Test.YtbiijcehgiibeaaKCBackQ0
namespace Go.Proofs.Ytbiijcehgiibeaa.Pure
open Go.RowKit Go.Proofs.Ytbiijcehgiibeaa.Q Go.Proofs.YtbiijcehgiibeaaW.PrintWords
set_option linter.unusedVariables false
set_option linter.unusedSimpArgs false
def wr : Nat → Int → List Int
  | 0, n => [n]
  | d + 1, n => if n ≥ 128 then (n % 128 + 128) :: wr d (n / 128) else [n]
def number (n : Int) : List Int × Int := if 0 ≤ n ∧ n ≤ 4611686018427387903 then (wr 8 n, 0) else ([], 1)
theorem or128 : ∀ x : Fin 128, Go.bits .or .u8 (x.val : Int) 128 = (x.val : Int) + 128 := by decide +kernel
theorem or128' {x : Int} (h0 : 0 ≤ x) (h1 : x < 128) : Go.bits .or .u8 x 128 = x + 128 := by
  obtain ⟨m, rfl⟩ := Int.eq_ofNat_of_zero_le h0
  exact or128 ⟨m, by omega⟩
theorem num0 : ∀ (d k : Nat) (n : Int) (acc : List Int), 0 ≤ n → n < 128 ^ (d + 1) → d < k → acc.length + d < 1000 → bits_Number.l0 k n acc = some (acc ++ wr d n, 0) := by
  intro d
  induction d with
  | zero =>
    intro k n acc h0 h1 hk ha
    obtain ⟨k, rfl⟩ : ∃ j, k = j + 1 := ⟨k - 1, by omega⟩
    have h1' : n < 128 := by simpa using h1
    simp only [bits_Number.l0]
    rw [if_neg (by omega), if_pos (by omega), show n % 256 = n by omega]
    rfl
  | succ d ih =>
    intro k n acc h0 h1 hk ha
    obtain ⟨k, rfl⟩ : ∃ j, k = j + 1 := ⟨k - 1, by omega⟩
    simp only [bits_Number.l0]
    unfold wr
    by_cases c : n ≥ 128
    · rw [if_pos c, if_pos c, if_pos (by omega), Int.tmod_eq_emod_of_nonneg h0, show n % 128 % 256 = n % 128 by omega, or128' (by omega) (by omega), ih k (n / 128) _ (by omega) (by
        rw [Int.pow_succ] at h1
        omega) (by omega) (by simp; omega)]
      simp
    · rw [if_neg c, if_neg c, if_pos (by omega), show n % 256 = n by omega]
theorem bnumber (n : Int) {k : Nat} (hk : 9 < k) : bits_Number.f k n = some (number n) := by
  unfold bits_Number.f bits_may.f number
  by_cases h0 : n ≥ 0
  · rw [if_pos h0]
    simp only [Option.bind_some]
    by_cases h1 : n ≤ 4611686018427387903
    · rw [if_pos (by simpa using h1), if_pos ⟨h0, h1⟩]
      have := num0 8 k n [] h0 (by omega) (by omega) (by simp)
      simpa using this
    · rw [if_neg (by simpa using h1), if_neg (fun e => h1 e.2)]
  · rw [if_neg h0, if_neg (fun e => h0 e.1)]
    rfl
def rd9 (l : List Int) (a : Nat) : Nat → Nat → Int → Int × Int × Int
  | 0, _, _ => (0, 0, 11)
  | d + 1, i, n => if a + i = l.length then (0, 0, 10) else if l.getD (a + i) 0 = 0 ∧ 0 < i then (0, 0, 11) else if i = 8 ∧ 64 ≤ l.getD (a + i) 0 then (0, 0, 11) else
      if l.getD (a + i) 0 < 128 then (n + l.getD (a + i) 0 % 128 * 128 ^ i, (a : Int) + i + 1, 0) else rd9 l a d (i + 1) (n + l.getD (a + i) 0 % 128 * 128 ^ i)
def readn (l : List Int) (a : Int) : Int × Int × Int := if a < 0 ∨ a > (l.length : Int) then (0, 0, 1) else rd9 l a.toNat 9 0 0
theorem or_sum64 (s : Nat) {x y : Int} (h0 : 0 ≤ x) (h1 : x < 2 ^ s) (h2 : 0 ≤ y) (h3 : y < 2 ^ 63) (hs : s ≤ 63) (h4 : y % 2 ^ s = 0) : Go.bits .or .u64 x y = x + y := by
  rw [or_comm, Int.add_comm]
  have hp : (2 : Int) ^ s ≤ 2 ^ 63 := by exact_mod_cast Nat.pow_le_pow_right (n := 2) (by decide) hs
  exact Go.bits_join .u64 63 (by decide) (fun n a b => by rw [Go.IntKind.wrap_u64]; omega) s y x h2 h4 h3 h0 h1 (by omega)
theorem dig {n c : Int} {s : Nat} (hs : s ≤ 56) (hn0 : 0 ≤ n) (hn : n < 2 ^ s) (hc0 : 0 ≤ c) (hc : c < 128) : Go.bits .or .u64 n (shl .u64 (IntKind.u64.wrap c) (s : Int)) = n + c * 2 ^ s := by
  have hp : (2 : Int) ^ s ≤ 2 ^ 56 := by exact_mod_cast Nat.pow_le_pow_right (n := 2) (by decide) hs
  have hp0 : (0 : Int) < 2 ^ s := Int.pow_pos (by decide)
  have h1 : c * 2 ^ s ≤ 127 * 2 ^ 56 := Int.mul_le_mul (by omega) hp (by omega) (by omega)
  have h2 : 0 ≤ c * 2 ^ s := Int.mul_nonneg hc0 (by omega)
  have e : shl .u64 (IntKind.u64.wrap c) (s : Int) = c * 2 ^ s := by
    unfold shl
    rw [Go.IntKind.wrap_u64, Go.IntKind.wrap_u64, Int.toNat_natCast, show min s IntKind.u64.bits = s from by show min s 64 = s; omega, show c % 18446744073709551616 = c by omega]
    omega
  rw [e]
  exact or_sum64 s hn0 hn h2 (by omega) (by omega) (Int.mul_emod_left _ _)
theorem pow7 (i : Nat) : (128 : Int) ^ i = 2 ^ (7 * i) := by rw [Int.pow_mul]; rfl
theorem bread0 {l : List Int} (hl : M.bytes l = true) (hn : (l.length : Int) ≤ 4611686018427387904) (a : Nat) : ∀ (d i k : Nat) (n : Int), d + i = 9 → 0 < d → a + i ≤ l.length → 0 ≤ n → n < 128 ^ i → 3 * d < k → bits_Read.l0 k l (a : Int) n (i : Int) = some (rd9 l a d i n) := by
  intro d
  induction d with
  | zero => intro i k n _ h; omega
  | succ d ih =>
    intro i k n hd _ hi h0 h1 hk
    obtain ⟨k, rfl⟩ : ∃ j, k = j + 3 := ⟨k - 3, by omega⟩
    simp only [bits_Read.l0, rd9]
    rw [w64b (n := (a : Int) + i) (by omega) (by omega)]
    by_cases c0 : a + i = l.length
    · rw [if_pos (by omega), if_pos c0]
    · have hb := M.bytes_getD hl (a + i)
      have er : rd l ((a : Int) + i) = l.getD (a + i) 0 := by unfold rd; rw [show ((a : Int) + i).toNat = a + i by omega]
      rw [if_neg (by omega), if_neg c0, if_pos (by omega), if_pos (by omega), er, w64b (n := 7 * (i : Int)) (by omega) (by omega), if_pos (by omega), w64b (n := (i : Int) + 1) (by omega) (by omega)]
      generalize l.getD (a + i) 0 = c at hb
      rw [Int.tmod_eq_emod_of_nonneg hb.1, show (7 : Int) * (i : Int) = ((7 * i : Nat) : Int) by omega, dig (s := 7 * i) (by omega) h0 (by rw [← pow7]; exact h1) (by omega) (by omega), ← pow7]
      have hp0 : (0 : Int) < 128 ^ i := Int.pow_pos (by decide)
      have hm0 : 0 ≤ c % 128 * 128 ^ i := Int.mul_nonneg (by omega) (by omega)
      have hm1 : c % 128 * 128 ^ i ≤ 127 * 128 ^ i := Int.mul_le_mul_of_nonneg_right (by omega) (by omega)
      have hs : n + c % 128 * 128 ^ i < 128 ^ (i + 1) := by rw [Int.pow_succ]; omega
      by_cases c1 : c = 0 ∧ 0 < i
      · rw [if_pos c1.1, if_pos c1]
        simp only [bits_Read.j2, bits_Read.j3]
        rw [decide_eq_true (by omega), if_pos rfl, if_pos rfl]
      · have hx : ∀ (B : Bool), (if c = 0 then bits_Read.j2 (k + 2) l (a : Int) (n + c % 128 * 128 ^ i) ((i : Int) + 1) c (decide ((i : Int) + 1 > 1)) else bits_Read.j2 (k + 2) l (a : Int) (n + c % 128 * 128 ^ i) ((i : Int) + 1) c false) = bits_Read.j2 (k + 2) l (a : Int) (n + c % 128 * 128 ^ i) ((i : Int) + 1) c false := by
          intro _
          by_cases c2 : c = 0
          · rw [if_pos c2, decide_eq_false (by omega)]
          · rw [if_neg c2]
        rw [hx true, if_neg c1]
        simp only [bits_Read.j2, bits_Read.j3]
        rw [if_neg (by decide)]
        have nx : bits_Read.l0 k l (a : Int) (n + c % 128 * 128 ^ i) ((i : Int) + 1) = some (rd9 l a d (i + 1) (n + c % 128 * 128 ^ i)) ∨ i = 8 := by
          by_cases c8 : i = 8
          · exact .inr c8
          · exact .inl (by
              rw [show (i : Int) + 1 = ((i + 1 : Nat) : Int) by omega]
              exact ih (i + 1) k _ (by omega) (by omega) (by omega) (by omega) hs (by omega))
        by_cases c8 : i = 8
        · subst c8
          have e8 : (128 : Int) ^ 8 = 72057594037927936 := by decide
          rw [e8] at h1 hm0 hm1 ⊢
          rw [if_pos (by omega)]
          by_cases c3 : 64 ≤ c
          · rw [if_pos (show 8 = 8 ∧ 64 ≤ c from ⟨rfl, c3⟩)]
            by_cases c4 : c ≥ 128
            · rw [if_pos c4, if_pos trivial]
            · rw [if_neg c4, decide_eq_true (by omega), if_pos rfl]
          · rw [if_neg (show ¬ (8 = 8 ∧ 64 ≤ c) from fun e => c3 e.2), if_neg (by omega), decide_eq_false (by omega), if_neg (by decide), if_pos (by omega), if_pos (by omega), w64b (n := n + c % 128 * 72057594037927936) (by omega) (by omega), w64b (n := (a : Int) + (((8 : Nat) : Int) + 1)) (by omega) (by omega), Int.add_assoc]
        · rw [if_neg (by omega), if_neg (by decide), if_neg (show ¬ (i = 8 ∧ 64 ≤ c) from fun e => c8 e.1)]
          by_cases c5 : c < 128
          · have hpi : (128 : Int) ^ (i + 1) ≤ 128 ^ 8 := by exact_mod_cast Nat.pow_le_pow_right (n := 128) (by decide) (by omega)
            rw [if_pos c5, if_pos c5, w64b (n := n + c % 128 * 128 ^ i) (by omega) (by omega), w64b (n := (a : Int) + ((i : Int) + 1)) (by omega) (by omega), Int.add_assoc]
          · rw [if_neg c5, if_neg c5]
            rcases nx with e | e
            · exact e
            · omega
theorem bread {l : List Int} (hl : M.bytes l = true) (hn : (l.length : Int) ≤ 4611686018427387904) (a : Int) {k : Nat} (hk : 30 < k) : bits_Read.f k l a = some (readn l a) := by
  obtain ⟨k, rfl⟩ : ∃ j, k = j + 1 := ⟨k - 1, by omega⟩
  unfold bits_Read.f readn
  simp only [bits_Read.j0]
  by_cases c1 : a < 0
  · rw [if_pos c1, if_pos trivial, if_pos (.inl c1)]
  · rw [if_neg c1]
    by_cases c2 : a > (l.length : Int)
    · rw [if_pos (by simpa using c2), if_pos (.inr c2)]
    · rw [if_neg (by simpa using c2), if_neg (show ¬ (a < 0 ∨ a > (l.length : Int)) by omega)]
      obtain ⟨m, rfl⟩ := Int.eq_ofNat_of_zero_le (show 0 ≤ a by omega)
      have := bread0 hl hn m 9 0 k 0 rfl (by decide) (by omega) (by decide) (by decide) (by omega)
      simpa using this
end Go.Proofs.Ytbiijcehgiibeaa.Pure
