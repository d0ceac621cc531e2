/- Proved here, in whole numbers: a number's bytes are read as the number, whatever stands around; and what is read is written as what was read. -/
import Derived.Test.YtbiijcehgiibeaaKCBackPureBits
namespace Go.Proofs.Ytbiijcehgiibeaa.Pure
theorem wr_len (d : Nat) : ∀ n : Int, 1 ≤ (wr d n).length ∧ (wr d n).length ≤ d + 1 := by
  induction d with
  | zero => intro n; simp [wr]
  | succ d ih =>
    intro n
    unfold wr
    split
    · have := ih (n / 128)
      simp only [List.length_cons]
      omega
    · simp
theorem wr_bytes (d : Nat) : ∀ n : Int, 0 ≤ n → n < 128 ^ (d + 1) → M.bytes (wr d n) = true := by
  induction d with
  | zero =>
    intro n h0 h1
    have : n < 128 := by simpa using h1
    simp [wr, M.bytes]
    omega
  | succ d ih =>
    intro n h0 h1
    unfold wr
    rw [Int.pow_succ] at h1
    split
    · have := ih (n / 128) (by omega) (by omega)
      unfold M.bytes at this ⊢
      rw [List.all_cons, this, Bool.and_true]
      exact decide_eq_true (by omega)
    · simp [M.bytes]
      omega
theorem getD_drop (l : List Int) (i : Nat) {c : Int} {r : List Int} (h : l.drop i = c :: r) : i < l.length ∧ l.getD i 0 = c ∧ l.drop (i + 1) = r := by
  have hi : i < l.length := by
    refine Nat.lt_of_not_le fun hn => ?_
    rw [List.drop_eq_nil_of_le hn] at h
    cases h
  rw [List.drop_eq_getElem_cons hi] at h
  obtain ⟨h1, h2⟩ := List.cons.inj h
  exact ⟨hi, by rw [List.getD_eq_getElem?_getD, List.getElem?_eq_getElem hi]; exact h1, h2⟩
theorem rd9_wr (l : List Int) (a : Nat) : ∀ (d i : Nat) (m acc : Int) (post : List Int), d + i = 8 → l.drop (a + i) = wr d m ++ post → 0 ≤ m → m < 64 * 128 ^ d → (0 < m ∨ i = 0) →
    rd9 l a (d + 1) i acc = (acc + m * 128 ^ i, (a : Int) + i + (wr d m).length, 0) := by
  intro d
  induction d with
  | zero =>
    intro i m acc post hd hl h0 h1 h2
    obtain ⟨e1, e2, -⟩ := getD_drop l (a + i) (show l.drop (a + i) = m :: post from hl)
    have h1' : m < 64 := by simpa using h1
    unfold rd9
    rw [if_neg (by omega), e2, if_neg (by omega), if_neg (by omega), if_pos (by omega), show m % 128 = m by omega]
    rfl
  | succ d ih =>
    intro i m acc post hd hl h0 h1 h2
    rw [Int.pow_succ] at h1
    unfold wr at hl ⊢
    by_cases c : m ≥ 128
    · rw [if_pos c] at hl ⊢
      obtain ⟨e1, e2, e3⟩ := getD_drop l (a + i) (show l.drop (a + i) = (m % 128 + 128) :: (wr d (m / 128) ++ post) from hl)
      unfold rd9
      rw [if_neg (by omega), e2, if_neg (by omega), if_neg (by omega), if_neg (by omega), ih (i + 1) (m / 128) _ post (by omega) (by rw [← e3, Nat.add_assoc]) (by omega) (by omega) (by omega)]
      have hp : (128 : Int) ^ (i + 1) = 128 ^ i * 128 := Int.pow_succ ..
      have hm : m = m % 128 + 128 * (m / 128) := by omega
      refine Prod.ext ?_ (Prod.ext ?_ rfl)
      · show acc + (m % 128 + 128) % 128 * 128 ^ i + m / 128 * 128 ^ (i + 1) = acc + m * 128 ^ i
        rw [show (m % 128 + 128) % 128 = m % 128 by omega, hp]
        generalize (128 : Int) ^ i = q
        generalize m / 128 = u at *
        generalize m % 128 = v at *
        subst hm
        grind
      · show (a : Int) + ((i + 1 : Nat) : Int) + _ = (a : Int) + i + _
        simp only [List.length_cons]
        omega
    · rw [if_neg c] at hl ⊢
      obtain ⟨e1, e2, -⟩ := getD_drop l (a + i) (show l.drop (a + i) = m :: post from hl)
      unfold rd9
      rw [if_neg (by omega), e2, if_neg (by omega), if_neg (by omega), if_pos (by omega), show m % 128 = m by omega]
      rfl
theorem wr_rd9 (l : List Int) (hb : M.bytes l = true) (a : Nat) : ∀ (d i : Nat) (acc n nx : Int), d + i = 8 → a + i ≤ l.length → rd9 l a (d + 1) i acc = (n, nx, 0) →
    ∃ m : Int, n = acc + m * 128 ^ i ∧ 0 ≤ m ∧ (0 < m ∨ i = 0) ∧ m < 64 * 128 ^ d ∧ nx = (a : Int) + i + (wr d m).length ∧ ∃ post, l.drop (a + i) = wr d m ++ post := by
  intro d
  induction d with
  | zero =>
    intro i acc n nx hd hle h
    have hby := M.bytes_getD hb (a + i)
    unfold rd9 at h
    by_cases c1 : a + i = l.length
    · rw [if_pos c1] at h; cases h
    rw [if_neg c1] at h
    by_cases c2 : l.getD (a + i) 0 = 0 ∧ 0 < i
    · rw [if_pos c2] at h; cases h
    rw [if_neg c2] at h
    by_cases c3 : i = 8 ∧ 64 ≤ l.getD (a + i) 0
    · rw [if_pos c3] at h; cases h
    rw [if_neg c3, if_pos (by omega)] at h
    have hlt : a + i < l.length := by omega
    injection h with h1 h2
    injection h2 with h2 h3
    refine ⟨l.getD (a + i) 0, ?_, hby.1, by omega, by rw [Int.pow_zero]; omega, ?_, l.drop (a + i + 1), ?_⟩
    · rw [← h1, show l.getD (a + i) 0 % 128 = l.getD (a + i) 0 by omega]
    · rw [← h2]; rfl
    · rw [List.drop_eq_getElem_cons hlt, List.getD_eq_getElem?_getD, List.getElem?_eq_getElem hlt]; rfl
  | succ d ih =>
    intro i acc n nx hd hle h
    have hby := M.bytes_getD hb (a + i)
    have hp2 : (128 : Int) ^ (d + 1) = 128 ^ d * 128 := Int.pow_succ ..
    have hp3 : (1 : Int) ≤ 128 ^ d := Int.pow_pos (by decide)
    unfold rd9 at h
    by_cases c1 : a + i = l.length
    · rw [if_pos c1] at h; cases h
    rw [if_neg c1] at h
    by_cases c2 : l.getD (a + i) 0 = 0 ∧ 0 < i
    · rw [if_pos c2] at h; cases h
    rw [if_neg c2, if_neg (by omega)] at h
    have hlt : a + i < l.length := by omega
    have hdr : l.drop (a + i) = l.getD (a + i) 0 :: l.drop (a + i + 1) := by
      rw [List.drop_eq_getElem_cons hlt, List.getD_eq_getElem?_getD, List.getElem?_eq_getElem hlt]; rfl
    generalize l.getD (a + i) 0 = c at *
    by_cases c3 : c < 128
    · rw [if_pos c3] at h
      injection h with h1 h2
      injection h2 with h2 h3
      refine ⟨c, ?_, hby.1, by omega, by omega, ?_, l.drop (a + i + 1), ?_⟩
      · rw [← h1, show c % 128 = c by omega]
      · rw [← h2]; unfold wr; rw [if_neg (by omega)]; rfl
      · unfold wr; rw [if_neg (by omega)]; exact hdr
    · rw [if_neg c3] at h
      obtain ⟨m, e1, e2, e3, e4, e5, post, e6⟩ := ih (i + 1) _ n nx (by omega) (by omega) h
      have hp : (128 : Int) ^ (i + 1) = 128 ^ i * 128 := Int.pow_succ ..
      have hw : wr (d + 1) (c % 128 + 128 * m) = c :: wr d m := by
        rw [wr, if_pos (by omega), show (c % 128 + 128 * m) % 128 + 128 = c by omega, show (c % 128 + 128 * m) / 128 = m by omega]
      refine ⟨c % 128 + 128 * m, ?_, by omega, by omega, by omega, ?_, post, ?_⟩
      · rw [e1, hp]
        generalize (128 : Int) ^ i = q
        generalize c % 128 = v
        grind
      · rw [e5, hw, List.length_cons]; omega
      · rw [hw, hdr, show a + i + 1 = a + (i + 1) by omega, e6]
        rfl
theorem readn_wr (l : List Int) (a : Nat) (n : Int) (post : List Int) (h0 : 0 ≤ n) (h1 : n ≤ 4611686018427387903) (hl : l.drop a = wr 8 n ++ post) : readn l a = (n, (a : Int) + (wr 8 n).length, 0) := by
  have hlen : a < l.length := by
    refine Nat.lt_of_not_le fun hn => ?_
    rw [List.drop_eq_nil_of_le hn] at hl
    have := (wr_len 8 n).1
    have h2 := congrArg List.length hl
    simp at h2
    omega
  unfold readn
  rw [if_neg (by omega), Int.toNat_natCast, rd9_wr l a 8 0 n 0 post rfl (by simpa using hl) h0 (by omega) (.inr rfl)]
  refine Prod.ext ?_ (Prod.ext ?_ rfl)
  · show (0 : Int) + n * 128 ^ 0 = n
    omega
  · show (a : Int) + ((0 : Nat) : Int) + ((wr 8 n).length : Int) = (a : Int) + ((wr 8 n).length : Int)
    omega
theorem wr_readn {l : List Int} (hb : M.bytes l = true) {a n nx : Int} (h : readn l a = (n, nx, 0)) :
    0 ≤ n ∧ n ≤ 4611686018427387903 ∧ 0 ≤ a ∧ nx = a + (wr 8 n).length ∧ nx ≤ l.length ∧ ∃ post, l.drop a.toNat = wr 8 n ++ post := by
  unfold readn at h
  by_cases c : a < 0 ∨ a > (l.length : Int)
  · rw [if_pos c] at h; cases h
  · rw [if_neg c] at h
    obtain ⟨m, e1, e2, e3, e4, e5, post, e6⟩ := wr_rd9 l hb a.toNat 8 0 0 n nx rfl (by omega) h
    obtain rfl : n = m := by rw [e1, Int.pow_zero]; omega
    have h3 := congrArg List.length e6
    simp only [List.length_drop, List.length_append, Nat.add_zero] at h3
    refine ⟨e2, by omega, by omega, by omega, by omega, post, by simpa using e6⟩
theorem readn_next {l : List Int} (hb : M.bytes l = true) {a : Int} (h : (readn l a).2.2 = 0) : 0 ≤ a ∧ a < (readn l a).2.1 ∧ (readn l a).2.1 ≤ l.length ∧ 0 ≤ (readn l a).1 ∧ (readn l a).1 ≤ 4611686018427387903 := by
  obtain ⟨e1, e2, e3, e4, e5, -⟩ := wr_readn hb (a := a) (n := (readn l a).1) (nx := (readn l a).2.1) (by rw [← h])
  have := (wr_len 8 (readn l a).1).1
  omega
end Go.Proofs.Ytbiijcehgiibeaa.Pure
