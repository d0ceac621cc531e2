/- Proved here: words of the format double that stand for whole numbers below 2^53, what '+', '-', '*' of them, 'float64(n)' and 'int(x)' give. Condition: the exact result is below 2^53 in size. -/
import Derived.Laws.FloatArith
import Derived.Laws.ComplexArith
namespace Go.Proofs.Ytbiijcehgiibeaa.M
open Ieee
def FI (b : Nat) (n : Int) : Prop := ∃ (s : Bool) (m q : Nat), FloatKind.f64.decode b = .number s m (-(q : Int)) ∧ signed s m 0 = n * (2 ^ q : Nat)
theorem signed_abs {s : Bool} {m q : Nat} {n : Int} (h : signed s m 0 = n * (2 ^ q : Nat)) : m = n.natAbs * 2 ^ q := by
  have h2 := congrArg Int.natAbs h
  rw [Int.natAbs_mul] at h2
  unfold signed at h2
  cases s <;> simpa using h2
theorem signed_mk {s : Bool} {k q : Nat} : signed s (k * 2 ^ q) 0 = signed s k 0 * (2 ^ q : Nat) := by
  unfold signed
  cases s <;> simp [Int.neg_mul]
theorem sig_n {s : Bool} {m q : Nat} {n : Int} (h : signed s m 0 = n * (2 ^ q : Nat)) : signed s n.natAbs 0 = n := by
  have hm := signed_abs h
  have hp : 0 < 2 ^ q := Nat.two_pow_pos q
  rw [hm, signed_mk] at h
  exact Int.eq_of_mul_eq_mul_right (by omega) h
theorem log2_mul (k q : Nat) (hk : k ≠ 0) : (k * 2 ^ q).log2 = k.log2 + q := by
  rw [Nat.log2_eq_iff (by have := Nat.two_pow_pos q; exact Nat.mul_ne_zero hk (by omega))]
  have h1 := Nat.log2_self_le hk
  have h2 := Nat.lt_log2_self (n := k)
  constructor
  · rw [Nat.pow_add]; exact Nat.mul_le_mul_right _ h1
  · rw [show k.log2 + q + 1 = k.log2 + 1 + q by omega, Nat.pow_add (m := k.log2 + 1)]
    exact Nat.mul_lt_mul_of_pos_right h2 (Nat.two_pow_pos q)
theorem cut_exact (way : Toward) (neg : Bool) (n drop : Nat) (h : n = n / 2 ^ drop * 2 ^ drop) (hd : n = 0 ∨ drop ≤ n.log2 + 2) : way.cut neg n drop = n / 2 ^ drop := by
  unfold Toward.cut
  rcases hd with rfl | hd
  · cases way <;> simp
  · have hg : 1 <<< min drop (n.log2 + 2) = 2 ^ drop := by rw [Nat.min_eq_left hd, Nat.one_shiftLeft]
    have hp : 0 < 2 ^ drop := Nat.two_pow_pos drop
    have hr : n % 2 ^ drop = 0 := by rw [h]; exact Nat.mul_mod_left _ _
    simp only [hg, hr]
    cases way <;> simp <;> omega
theorem write_int {s : Bool} {m q : Nat} {n : Int} (h : signed s m 0 = n * (2 ^ q : Nat)) (hn : n.natAbs < 2 ^ 53) : FI (FloatKind.f64.encode (.number s m (-(q : Int)))) n := by
  have hm := signed_abs h
  have hs := sig_n h
  generalize n.natAbs = k at hm hs hn
  subst hs
  clear h
  by_cases hk : k = 0
  · subst hk
    refine ⟨s, 0, 1074, ?_, by unfold signed; cases s <;> simp only [Nat.zero_shiftLeft] <;> omega⟩
    rw [Nat.zero_mul] at hm
    subst hm
    have hw : FloatKind.f64.encode (.number s 0 (-(q : Int))) = Ieee.double.word s 0 := by
      show Ieee.double.nearest s 0 (-(q : Int)) = _
      unfold Format.nearest
      rw [if_pos rfl]
    rw [hw]
    cases s <;> decide +kernel
  · have hl := log2_mul k q hk
    rw [← hm] at hl
    have he : k.log2 < 53 := (Nat.log2_lt hk).2 hn
    have hm0 : m ≠ 0 := by rw [hm]; exact Nat.mul_ne_zero hk (by have := Nat.two_pow_pos q; omega)
    have h1 := Nat.log2_self_le hk
    have h2 := Nat.lt_log2_self (n := k)
    refine ⟨s, k * 2 ^ (52 - k.log2), 52 - k.log2, ?_, signed_mk⟩
    have hkept : 2 ^ 52 ≤ k * 2 ^ (52 - k.log2) ∧ k * 2 ^ (52 - k.log2) < 2 ^ 53 := by
      constructor
      · calc 2 ^ 52 = 2 ^ k.log2 * 2 ^ (52 - k.log2) := by rw [← Nat.pow_add]; congr 1; omega
          _ ≤ _ := Nat.mul_le_mul_right _ h1
      · calc k * 2 ^ (52 - k.log2) < 2 ^ (k.log2 + 1) * 2 ^ (52 - k.log2) := Nat.mul_lt_mul_of_pos_right h2 (Nat.two_pow_pos _)
          _ = 2 ^ 53 := by rw [← Nat.pow_add]; congr 1; omega
    have hw : FloatKind.f64.encode (.number s m (-(q : Int))) = Ieee.double.word s ((k.log2 + 1022) * 2 ^ 52 + k * 2 ^ (52 - k.log2)) := by
      show Ieee.double.nearest s m (-(q : Int)) = _
      unfold Format.nearest
      rw [if_neg hm0]
      have hlast : max (-(q : Int) + m.log2 - (Ieee.double.fractionBits : Nat)) Ieee.double.leastPlace = (k.log2 : Int) - 52 := by
        rw [hl]
        show max (-(q : Int) + ((k.log2 + q : Nat) : Int) - (52 : Nat)) (-1074) = _
        omega
      simp only [hlast]
      have hk2 : Toward.even.cut s (m <<< (-(q : Int) - ((k.log2 : Int) - 52)).toNat) ((k.log2 : Int) - 52 - -(q : Int)).toNat = k * 2 ^ (52 - k.log2) := by
        rw [Nat.shiftLeft_eq, hm]
        by_cases hq : q + k.log2 ≤ 52
        · rw [show ((k.log2 : Int) - 52 - -(q : Int)).toNat = 0 by omega, show (-(q : Int) - ((k.log2 : Int) - 52)).toNat = 52 - k.log2 - q by omega, Nat.mul_assoc, ← Nat.pow_add, show q + (52 - k.log2 - q) = 52 - k.log2 by omega]
          rw [cut_exact _ _ _ _ (by simp) (.inr (by omega))]
          simp
        · rw [show (-(q : Int) - ((k.log2 : Int) - 52)).toNat = 0 by omega, show ((k.log2 : Int) - 52 - -(q : Int)).toNat = q + k.log2 - 52 by omega, Nat.pow_zero, Nat.mul_one]
          have hsplit : k * 2 ^ q = k * 2 ^ (52 - k.log2) * 2 ^ (q + k.log2 - 52) := by rw [Nat.mul_assoc, ← Nat.pow_add]; congr 2; omega
          have hdiv : k * 2 ^ q / 2 ^ (q + k.log2 - 52) = k * 2 ^ (52 - k.log2) := by rw [hsplit]; exact Nat.mul_div_cancel _ (Nat.two_pow_pos _)
          rw [cut_exact _ _ _ _ (by rw [hdiv]; exact hsplit) (.inr (by rw [← hm, hl]; omega)), hdiv]
      rw [hk2, show (((k.log2 : Int) - 52) - Ieee.double.leastPlace).toNat = k.log2 + 1022 by show ((k.log2 : Int) - 52 - (-1074)).toNat = _; omega]
      show Ieee.double.word s (min ((k.log2 + 1022) * 2 ^ 52 + _) (2047 * 2 ^ 52)) = _
      rw [Nat.min_eq_left]
      omega
    rw [hw]
    show Ieee.double.read _ = _
    generalize k * 2 ^ (52 - k.log2) = g at *
    generalize k.log2 = e at *
    have hr : (e + 1022) * 2 ^ 52 + g < 2 ^ 63 := by omega
    have hrung : (if s then 2 ^ 63 + ((e + 1022) * 2 ^ 52 + g) else (e + 1022) * 2 ^ 52 + g) % 2 ^ 63 = (e + 1022) * 2 ^ 52 + g := by
      cases s <;> simp <;> omega
    have hneg : ((if s then 2 ^ 63 + ((e + 1022) * 2 ^ 52 + g) else (e + 1022) * 2 ^ 52 + g) / 2 ^ 63 % 2 == 1) = s := by
      cases s
      · have : ((e + 1022) * 2 ^ 52 + g) / 2 ^ 63 = 0 := Nat.div_eq_of_lt hr
        simp [this]
      · have : (2 ^ 63 + ((e + 1022) * 2 ^ 52 + g)) / 2 ^ 63 = 1 := by omega
        simp [this]
    unfold Format.read
    show (let neg := ((if s then 2 ^ 63 + ((e + 1022) * 2 ^ 52 + g) else (e + 1022) * 2 ^ 52 + g) / 2 ^ 63 % 2 == 1); let rung := (if s then 2 ^ 63 + ((e + 1022) * 2 ^ 52 + g) else (e + 1022) * 2 ^ 52 + g) % 2 ^ 63; if rung < 2 ^ 52 then Datum.number neg rung (-1074) else if rung < 2047 * 2 ^ 52 then .number neg (2 ^ 52 + rung % 2 ^ 52) (-1074 + (rung / 2 ^ 52 - 1 : Nat)) else if rung = 2047 * 2 ^ 52 then .infinity neg else .nan neg (rung - 2047 * 2 ^ 52)) = _
    simp only [hrung, hneg]
    rw [if_neg (by omega), if_pos (by omega)]
    have hdiv : ((e + 1022) * 2 ^ 52 + g) / 2 ^ 52 = e + 1023 := by omega
    rw [hdiv, show 2 ^ 52 + ((e + 1022) * 2 ^ 52 + g) % 2 ^ 52 = g by omega, show (-1074 + ((e + 1023 - 1 : Nat) : Int)) = -((52 - e : Nat) : Int) by omega]
def fl (n : Int) : Nat := floatOfInt .f64 n
theorem fl_int (n : Int) (hn : n.natAbs < 2 ^ 53) : FI (fl n) n := by
  have h : signed (decide (n < 0)) n.natAbs 0 = n * (2 ^ 0 : Nat) := by
    unfold signed
    by_cases h : n < 0 <;> simp [h] <;> omega
  have h2 := write_int h hn
  have e : FloatKind.f64.encode (.number (decide (n < 0)) n.natAbs (-((0 : Nat) : Int))) = fl n := by
    rw [show (-((0 : Nat) : Int)) = 0 from rfl]
    unfold fl floatOfInt FloatKind.nearest
    rfl
  rw [e] at h2
  exact h2
theorem sum_int {s t : Bool} {m i q r : Nat} {a b : Int} (ha : signed s m 0 = a * (2 ^ q : Nat)) (hb : signed t i 0 = b * (2 ^ r : Nat)) (hn : (a + b).natAbs < 2 ^ 53) :
    ∃ d, (Datum.number s m (-(q : Int))).sum (Datum.number t i (-(r : Int))) = some d ∧ FI (FloatKind.f64.encode d) (a + b) := by
  unfold Datum.sum
  have hbase : min (-(q : Int)) (-(r : Int)) = -((max q r : Nat) : Int) := by omega
  simp only [hbase]
  refine ⟨_, rfl, write_int ?_ hn⟩
  have e1 : signed s m (-(q : Int) - -((max q r : Nat) : Int)).toNat = a * (2 ^ (max q r) : Nat) := by
    rw [show (-(q : Int) - -((max q r : Nat) : Int)).toNat = max q r - q by omega]
    have : signed s m (max q r - q) = signed s m 0 * (2 ^ (max q r - q) : Nat) := by unfold signed; cases s <;> simp [Nat.shiftLeft_eq, Int.neg_mul]
    rw [this, ha, Int.mul_assoc, ← Int.natCast_mul, ← Nat.pow_add, show q + (max q r - q) = max q r by omega]
  have e2 : signed t i (-(r : Int) - -((max q r : Nat) : Int)).toNat = b * (2 ^ (max q r) : Nat) := by
    rw [show (-(r : Int) - -((max q r : Nat) : Int)).toNat = max q r - r by omega]
    have : signed t i (max q r - r) = signed t i 0 * (2 ^ (max q r - r) : Nat) := by unfold signed; cases t <;> simp [Nat.shiftLeft_eq, Int.neg_mul]
    rw [this, hb, Int.mul_assoc, ← Int.natCast_mul, ← Nat.pow_add, show r + (max q r - r) = max q r by omega]
  rw [e1, e2, ← Int.add_mul]
  generalize (a + b) * ((2 ^ max q r : Nat) : Int) = x
  unfold signed
  by_cases hx : x = 0
  · subst hx; simp
  · rw [if_neg hx]
    by_cases h : x < 0 <;> simp [h] <;> omega
theorem opp_int {s : Bool} {m q : Nat} {a : Int} (ha : signed s m 0 = a * (2 ^ q : Nat)) : signed (!s) m 0 = (-a) * (2 ^ q : Nat) := by
  rw [Int.neg_mul, ← ha]
  unfold signed
  cases s <;> simp
theorem add_int {x y : Nat} {a b : Int} (hx : FI x a) (hy : FI y b) (hn : (a + b).natAbs < 2 ^ 53) : ∃ r, floatBits .add .f64 x y = some r ∧ FI r (a + b) := by
  obtain ⟨s, m, q, h1, h2⟩ := hx
  obtain ⟨t, i, r, h3, h4⟩ := hy
  obtain ⟨d, h5, h6⟩ := sum_int h2 h4 hn
  refine ⟨_, ?_, h6⟩
  show (((FloatKind.f64.decode x).sum (FloatKind.f64.decode y)).map Ieee.double.write) = _
  rw [h1, h3, h5]
  rfl
theorem sub_int {x y : Nat} {a b : Int} (hx : FI x a) (hy : FI y b) (hn : (a - b).natAbs < 2 ^ 53) : ∃ r, floatBits .sub .f64 x y = some r ∧ FI r (a - b) := by
  obtain ⟨s, m, q, h1, h2⟩ := hx
  obtain ⟨t, i, r, h3, h4⟩ := hy
  rw [Int.sub_eq_add_neg] at hn ⊢
  obtain ⟨d, h5, h6⟩ := sum_int h2 (opp_int h4) hn
  refine ⟨_, ?_, h6⟩
  show (((FloatKind.f64.decode x).sum (FloatKind.f64.decode y).opposite).map Ieee.double.write) = _
  rw [h1, h3]
  show (((Datum.number s m (-(q : Int))).sum (Datum.number (!t) i (-(r : Int)))).map Ieee.double.write) = _
  rw [h5]
  rfl
theorem mul_int {x y : Nat} {a b : Int} (hx : FI x a) (hy : FI y b) (hn : (a * b).natAbs < 2 ^ 53) : ∃ r, floatBits .mul .f64 x y = some r ∧ FI r (a * b) := by
  obtain ⟨s, m, q, h1, h2⟩ := hx
  obtain ⟨t, i, r, h3, h4⟩ := hy
  have h : signed (s ^^ t) (m * i) 0 = a * b * (2 ^ (q + r) : Nat) := by
    have e : signed (s ^^ t) (m * i) 0 = signed s m 0 * signed t i 0 := by unfold signed; cases s <;> cases t <;> simp [Int.neg_mul, Int.mul_neg]
    rw [e, h2, h4, Nat.pow_add, Int.natCast_mul]
    grind
  refine ⟨_, ?_, write_int h hn⟩
  show (((FloatKind.f64.decode x).product (FloatKind.f64.decode y)).map Ieee.double.write) = _
  rw [h1, h3]
  show some (Ieee.double.write (.number (s ^^ t) (m * i) (-(q : Int) + -(r : Int)))) = _
  rw [show (-(q : Int) + -(r : Int)) = -((q + r : Nat) : Int) by omega]
  rfl
theorem to_int {x : Nat} {a : Int} (hx : FI x a) (hn : a.natAbs < 2 ^ 53) : floatToIntVal .f64 x .i64 = some a := by
  obtain ⟨s, m, q, h1, h2⟩ := hx
  unfold floatToIntVal
  have h : (FloatKind.f64.decode x).toInt .zero = some a := by
    rw [h1]
    have hm := signed_abs h2
    have hs := sig_n h2
    show some (signed s (Toward.zero.cut s (m <<< (-(q : Int)).toNat) (-(-(q : Int))).toNat) 0) = _
    rw [show (-(q : Int)).toNat = 0 by omega, show (-(-(q : Int))).toNat = q by omega, Nat.shiftLeft_zero]
    have hp : 0 < 2 ^ q := Nat.two_pow_pos q
    have hd : m / 2 ^ q = a.natAbs := by rw [hm]; exact Nat.mul_div_cancel _ hp
    rw [cut_exact _ _ _ _ (by rw [hd]; exact hm), hd, hs]
    by_cases h0 : a.natAbs = 0
    · left; rw [hm, h0, Nat.zero_mul]
    · right
      rw [hm, log2_mul _ _ h0]
      omega
  rw [h]
  show (if (-9223372036854775808 : Int) ≤ a ∧ a ≤ 9223372036854775807 then some a else none) = some a
  rw [if_pos (by omega)]
theorem cmul_int {x y z u : Nat} {a b c d : Int} (hx : FI x a) (hy : FI y b) (hz : FI z c) (hu : FI u d) (h1 : (a * c).natAbs < 2 ^ 52) (h2 : (b * d).natAbs < 2 ^ 52) (h3 : (a * d).natAbs < 2 ^ 52) (h4 : (b * c).natAbs < 2 ^ 52) :
    ∃ re im, cMulBits x y z u = some (re, im) ∧ FI re (a * c - b * d) ∧ FI im (a * d + b * c) := by
  obtain ⟨ac, e1, f1⟩ := mul_int hx hz (by omega)
  obtain ⟨bd, e2, f2⟩ := mul_int hy hu (by omega)
  obtain ⟨re, e3, f3⟩ := sub_int f1 f2 (by omega)
  obtain ⟨ad, e4, f4⟩ := mul_int hx hu (by omega)
  obtain ⟨bc, e5, f5⟩ := mul_int hy hz (by omega)
  obtain ⟨im, e6, f6⟩ := add_int f4 f5 (by omega)
  refine ⟨re, im, ?_, f3, f6⟩
  unfold cMulBits
  simp only [e1, e2, e3, e4, e5, e6, Option.bind_some]
theorem cadd_int {x y z u : Nat} {a b c d : Int} (hx : FI x a) (hy : FI y b) (hz : FI z c) (hu : FI u d) (h1 : (a + c).natAbs < 2 ^ 53) (h2 : (b + d).natAbs < 2 ^ 53) :
    ∃ re im, cSumBits .add .f64 x y z u = some (re, im) ∧ FI re (a + c) ∧ FI im (b + d) := by
  obtain ⟨re, e1, f1⟩ := add_int hx hz h1
  obtain ⟨im, e2, f2⟩ := add_int hy hu h2
  exact ⟨re, im, by unfold cSumBits; simp only [e1, e2, Option.bind_some], f1, f2⟩
theorem fi_one : FI 4607182418800017408 1 := ⟨false, 2 ^ 52, 52, by decide +kernel, by decide +kernel⟩
theorem fi_two : FI 4611686018427387904 2 := ⟨false, 2 ^ 52, 51, by decide +kernel, by decide +kernel⟩
theorem fi_zero : FI 0 0 := ⟨false, 0, 1074, by decide +kernel, by decide +kernel⟩
theorem fi_wre : FI 4679482798749253632 69069 := ⟨false, 69069 * 2 ^ 36, 36, by decide +kernel, by decide +kernel⟩
theorem fi_wim : FI 4689970232712757248 362437 := ⟨false, 362437 * 2 ^ 34, 34, by decide +kernel, by decide +kernel⟩
end Go.Proofs.Ytbiijcehgiibeaa.M
