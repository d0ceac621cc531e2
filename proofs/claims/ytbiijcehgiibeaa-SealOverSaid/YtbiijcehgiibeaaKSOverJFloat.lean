/- Proved here: words of the format double that stand for whole numbers below 2^53, what '+', '-', '*' of them, 'float64(n)' and 'int(x)' give. Condition: the exact result is below 2^53 in size. · Definitions, in whole numbers, of what the program's functions answer: seals (pairs modulo the prime), sums over bytes, powers, numbers as bytes. No program in sight. · Proved here: what the inner functions of the package seal answer, over words that stand for whole numbers. -/
import Derived.Laws.FloatArith
import Derived.Laws.ComplexArith
import Derived.Test.YtbiijcehgiibeaaProg
import Derived.Test.YtbiijcehgiibeaaKSOverWWords
import Derived.WalkKit
import Derived.WalkSpells
import Derived.WalkLawsBesides
import Derived.Lib.Hide
namespace Go.Proofs.Ytbiijcehgiibeaa.M
open Ieee
def FI (b : Nat) (n : Int) : Prop := ∃ (s : Bool) (m q : Nat), FloatKind.f64.decode b = .number s m (-(q : Int)) ∧ signed s m 0 = n * (2 ^ q : Nat)
theorem signed_abs {s : Bool} {m q : Nat} {n : Int} (h : signed s m 0 = n * (2 ^ q : Nat)) : m = n.natAbs * 2 ^ q := by
  have h2 := congrArg Int.natAbs h
  rw [Int.natAbs_mul] at h2
  unfold signed at h2
  cases s <;> simpa using h2
theorem signed_mk {s : Bool} {k q : Nat} : signed s (k * 2 ^ q) 0 = signed s k 0 * (2 ^ q : Nat) := by
  unfold signed
  cases s <;> simp [Int.neg_mul]
theorem sig_n {s : Bool} {m q : Nat} {n : Int} (h : signed s m 0 = n * (2 ^ q : Nat)) : signed s n.natAbs 0 = n := by
  have hm := signed_abs h
  have hp : 0 < 2 ^ q := Nat.two_pow_pos q
  rw [hm, signed_mk] at h
  exact Int.eq_of_mul_eq_mul_right (by omega) h
theorem log2_mul (k q : Nat) (hk : k ≠ 0) : (k * 2 ^ q).log2 = k.log2 + q := by
  rw [Nat.log2_eq_iff (by have := Nat.two_pow_pos q; exact Nat.mul_ne_zero hk (by omega))]
  have h1 := Nat.log2_self_le hk
  have h2 := Nat.lt_log2_self (n := k)
  constructor
  · rw [Nat.pow_add]; exact Nat.mul_le_mul_right _ h1
  · rw [show k.log2 + q + 1 = k.log2 + 1 + q by omega, Nat.pow_add (m := k.log2 + 1)]
    exact Nat.mul_lt_mul_of_pos_right h2 (Nat.two_pow_pos q)
theorem cut_exact (way : Toward) (neg : Bool) (n drop : Nat) (h : n = n / 2 ^ drop * 2 ^ drop) (hd : n = 0 ∨ drop ≤ n.log2 + 2) : way.cut neg n drop = n / 2 ^ drop := by
  unfold Toward.cut
  rcases hd with rfl | hd
  · cases way <;> simp
  · have hg : 1 <<< min drop (n.log2 + 2) = 2 ^ drop := by rw [Nat.min_eq_left hd, Nat.one_shiftLeft]
    have hp : 0 < 2 ^ drop := Nat.two_pow_pos drop
    have hr : n % 2 ^ drop = 0 := by rw [h]; exact Nat.mul_mod_left _ _
    simp only [hg, hr]
    cases way <;> simp <;> omega
theorem write_int {s : Bool} {m q : Nat} {n : Int} (h : signed s m 0 = n * (2 ^ q : Nat)) (hn : n.natAbs < 2 ^ 53) : FI (FloatKind.f64.encode (.number s m (-(q : Int)))) n := by
  have hm := signed_abs h
  have hs := sig_n h
  generalize n.natAbs = k at hm hs hn
  subst hs
  clear h
  by_cases hk : k = 0
  · subst hk
    refine ⟨s, 0, 1074, ?_, by unfold signed; cases s <;> simp only [Nat.zero_shiftLeft] <;> omega⟩
    rw [Nat.zero_mul] at hm
    subst hm
    have hw : FloatKind.f64.encode (.number s 0 (-(q : Int))) = Ieee.double.word s 0 := by
      show Ieee.double.nearest s 0 (-(q : Int)) = _
      unfold Format.nearest
      rw [if_pos rfl]
    rw [hw]
    cases s <;> decide +kernel
  · have hl := log2_mul k q hk
    rw [← hm] at hl
    have he : k.log2 < 53 := (Nat.log2_lt hk).2 hn
    have hm0 : m ≠ 0 := by rw [hm]; exact Nat.mul_ne_zero hk (by have := Nat.two_pow_pos q; omega)
    have h1 := Nat.log2_self_le hk
    have h2 := Nat.lt_log2_self (n := k)
    refine ⟨s, k * 2 ^ (52 - k.log2), 52 - k.log2, ?_, signed_mk⟩
    have hkept : 2 ^ 52 ≤ k * 2 ^ (52 - k.log2) ∧ k * 2 ^ (52 - k.log2) < 2 ^ 53 := by
      constructor
      · calc 2 ^ 52 = 2 ^ k.log2 * 2 ^ (52 - k.log2) := by rw [← Nat.pow_add]; congr 1; omega
          _ ≤ _ := Nat.mul_le_mul_right _ h1
      · calc k * 2 ^ (52 - k.log2) < 2 ^ (k.log2 + 1) * 2 ^ (52 - k.log2) := Nat.mul_lt_mul_of_pos_right h2 (Nat.two_pow_pos _)
          _ = 2 ^ 53 := by rw [← Nat.pow_add]; congr 1; omega
    have hw : FloatKind.f64.encode (.number s m (-(q : Int))) = Ieee.double.word s ((k.log2 + 1022) * 2 ^ 52 + k * 2 ^ (52 - k.log2)) := by
      show Ieee.double.nearest s m (-(q : Int)) = _
      unfold Format.nearest
      rw [if_neg hm0]
      have hlast : max (-(q : Int) + m.log2 - (Ieee.double.fractionBits : Nat)) Ieee.double.leastPlace = (k.log2 : Int) - 52 := by
        rw [hl]
        show max (-(q : Int) + ((k.log2 + q : Nat) : Int) - (52 : Nat)) (-1074) = _
        omega
      simp only [hlast]
      have hk2 : Toward.even.cut s (m <<< (-(q : Int) - ((k.log2 : Int) - 52)).toNat) ((k.log2 : Int) - 52 - -(q : Int)).toNat = k * 2 ^ (52 - k.log2) := by
        rw [Nat.shiftLeft_eq, hm]
        by_cases hq : q + k.log2 ≤ 52
        · rw [show ((k.log2 : Int) - 52 - -(q : Int)).toNat = 0 by omega, show (-(q : Int) - ((k.log2 : Int) - 52)).toNat = 52 - k.log2 - q by omega, Nat.mul_assoc, ← Nat.pow_add, show q + (52 - k.log2 - q) = 52 - k.log2 by omega]
          rw [cut_exact _ _ _ _ (by simp) (.inr (by omega))]
          simp
        · rw [show (-(q : Int) - ((k.log2 : Int) - 52)).toNat = 0 by omega, show ((k.log2 : Int) - 52 - -(q : Int)).toNat = q + k.log2 - 52 by omega, Nat.pow_zero, Nat.mul_one]
          have hsplit : k * 2 ^ q = k * 2 ^ (52 - k.log2) * 2 ^ (q + k.log2 - 52) := by rw [Nat.mul_assoc, ← Nat.pow_add]; congr 2; omega
          have hdiv : k * 2 ^ q / 2 ^ (q + k.log2 - 52) = k * 2 ^ (52 - k.log2) := by rw [hsplit]; exact Nat.mul_div_cancel _ (Nat.two_pow_pos _)
          rw [cut_exact _ _ _ _ (by rw [hdiv]; exact hsplit) (.inr (by rw [← hm, hl]; omega)), hdiv]
      rw [hk2, show (((k.log2 : Int) - 52) - Ieee.double.leastPlace).toNat = k.log2 + 1022 by show ((k.log2 : Int) - 52 - (-1074)).toNat = _; omega]
      show Ieee.double.word s (min ((k.log2 + 1022) * 2 ^ 52 + _) (2047 * 2 ^ 52)) = _
      rw [Nat.min_eq_left]
      omega
    rw [hw]
    show Ieee.double.read _ = _
    generalize k * 2 ^ (52 - k.log2) = g at *
    generalize k.log2 = e at *
    have hr : (e + 1022) * 2 ^ 52 + g < 2 ^ 63 := by omega
    have hrung : (if s then 2 ^ 63 + ((e + 1022) * 2 ^ 52 + g) else (e + 1022) * 2 ^ 52 + g) % 2 ^ 63 = (e + 1022) * 2 ^ 52 + g := by
      cases s <;> simp <;> omega
    have hneg : ((if s then 2 ^ 63 + ((e + 1022) * 2 ^ 52 + g) else (e + 1022) * 2 ^ 52 + g) / 2 ^ 63 % 2 == 1) = s := by
      cases s
      · have : ((e + 1022) * 2 ^ 52 + g) / 2 ^ 63 = 0 := Nat.div_eq_of_lt hr
        simp [this]
      · have : (2 ^ 63 + ((e + 1022) * 2 ^ 52 + g)) / 2 ^ 63 = 1 := by omega
        simp [this]
    unfold Format.read
    show (let neg := ((if s then 2 ^ 63 + ((e + 1022) * 2 ^ 52 + g) else (e + 1022) * 2 ^ 52 + g) / 2 ^ 63 % 2 == 1); let rung := (if s then 2 ^ 63 + ((e + 1022) * 2 ^ 52 + g) else (e + 1022) * 2 ^ 52 + g) % 2 ^ 63; if rung < 2 ^ 52 then Datum.number neg rung (-1074) else if rung < 2047 * 2 ^ 52 then .number neg (2 ^ 52 + rung % 2 ^ 52) (-1074 + (rung / 2 ^ 52 - 1 : Nat)) else if rung = 2047 * 2 ^ 52 then .infinity neg else .nan neg (rung - 2047 * 2 ^ 52)) = _
    simp only [hrung, hneg]
    rw [if_neg (by omega), if_pos (by omega)]
    have hdiv : ((e + 1022) * 2 ^ 52 + g) / 2 ^ 52 = e + 1023 := by omega
    rw [hdiv, show 2 ^ 52 + ((e + 1022) * 2 ^ 52 + g) % 2 ^ 52 = g by omega, show (-1074 + ((e + 1023 - 1 : Nat) : Int)) = -((52 - e : Nat) : Int) by omega]
def fl (n : Int) : Nat := floatOfInt .f64 n
theorem fl_int (n : Int) (hn : n.natAbs < 2 ^ 53) : FI (fl n) n := by
  have h : signed (decide (n < 0)) n.natAbs 0 = n * (2 ^ 0 : Nat) := by
    unfold signed
    by_cases h : n < 0 <;> simp [h] <;> omega
  have h2 := write_int h hn
  have e : FloatKind.f64.encode (.number (decide (n < 0)) n.natAbs (-((0 : Nat) : Int))) = fl n := by
    rw [show (-((0 : Nat) : Int)) = 0 from rfl]
    unfold fl floatOfInt FloatKind.nearest
    rfl
  rw [e] at h2
  exact h2
theorem sum_int {s t : Bool} {m i q r : Nat} {a b : Int} (ha : signed s m 0 = a * (2 ^ q : Nat)) (hb : signed t i 0 = b * (2 ^ r : Nat)) (hn : (a + b).natAbs < 2 ^ 53) :
    ∃ d, (Datum.number s m (-(q : Int))).sum (Datum.number t i (-(r : Int))) = some d ∧ FI (FloatKind.f64.encode d) (a + b) := by
  unfold Datum.sum
  have hbase : min (-(q : Int)) (-(r : Int)) = -((max q r : Nat) : Int) := by omega
  simp only [hbase]
  refine ⟨_, rfl, write_int ?_ hn⟩
  have e1 : signed s m (-(q : Int) - -((max q r : Nat) : Int)).toNat = a * (2 ^ (max q r) : Nat) := by
    rw [show (-(q : Int) - -((max q r : Nat) : Int)).toNat = max q r - q by omega]
    have : signed s m (max q r - q) = signed s m 0 * (2 ^ (max q r - q) : Nat) := by unfold signed; cases s <;> simp [Nat.shiftLeft_eq, Int.neg_mul]
    rw [this, ha, Int.mul_assoc, ← Int.natCast_mul, ← Nat.pow_add, show q + (max q r - q) = max q r by omega]
  have e2 : signed t i (-(r : Int) - -((max q r : Nat) : Int)).toNat = b * (2 ^ (max q r) : Nat) := by
    rw [show (-(r : Int) - -((max q r : Nat) : Int)).toNat = max q r - r by omega]
    have : signed t i (max q r - r) = signed t i 0 * (2 ^ (max q r - r) : Nat) := by unfold signed; cases t <;> simp [Nat.shiftLeft_eq, Int.neg_mul]
    rw [this, hb, Int.mul_assoc, ← Int.natCast_mul, ← Nat.pow_add, show r + (max q r - r) = max q r by omega]
  rw [e1, e2, ← Int.add_mul]
  generalize (a + b) * ((2 ^ max q r : Nat) : Int) = x
  unfold signed
  by_cases hx : x = 0
  · subst hx; simp
  · rw [if_neg hx]
    by_cases h : x < 0 <;> simp [h] <;> omega
theorem opp_int {s : Bool} {m q : Nat} {a : Int} (ha : signed s m 0 = a * (2 ^ q : Nat)) : signed (!s) m 0 = (-a) * (2 ^ q : Nat) := by
  rw [Int.neg_mul, ← ha]
  unfold signed
  cases s <;> simp
theorem add_int {x y : Nat} {a b : Int} (hx : FI x a) (hy : FI y b) (hn : (a + b).natAbs < 2 ^ 53) : ∃ r, floatBits .add .f64 x y = some r ∧ FI r (a + b) := by
  obtain ⟨s, m, q, h1, h2⟩ := hx
  obtain ⟨t, i, r, h3, h4⟩ := hy
  obtain ⟨d, h5, h6⟩ := sum_int h2 h4 hn
  refine ⟨_, ?_, h6⟩
  show (((FloatKind.f64.decode x).sum (FloatKind.f64.decode y)).map Ieee.double.write) = _
  rw [h1, h3, h5]
  rfl
theorem sub_int {x y : Nat} {a b : Int} (hx : FI x a) (hy : FI y b) (hn : (a - b).natAbs < 2 ^ 53) : ∃ r, floatBits .sub .f64 x y = some r ∧ FI r (a - b) := by
  obtain ⟨s, m, q, h1, h2⟩ := hx
  obtain ⟨t, i, r, h3, h4⟩ := hy
  rw [Int.sub_eq_add_neg] at hn ⊢
  obtain ⟨d, h5, h6⟩ := sum_int h2 (opp_int h4) hn
  refine ⟨_, ?_, h6⟩
  show (((FloatKind.f64.decode x).sum (FloatKind.f64.decode y).opposite).map Ieee.double.write) = _
  rw [h1, h3]
  show (((Datum.number s m (-(q : Int))).sum (Datum.number (!t) i (-(r : Int)))).map Ieee.double.write) = _
  rw [h5]
  rfl
theorem mul_int {x y : Nat} {a b : Int} (hx : FI x a) (hy : FI y b) (hn : (a * b).natAbs < 2 ^ 53) : ∃ r, floatBits .mul .f64 x y = some r ∧ FI r (a * b) := by
  obtain ⟨s, m, q, h1, h2⟩ := hx
  obtain ⟨t, i, r, h3, h4⟩ := hy
  have h : signed (s ^^ t) (m * i) 0 = a * b * (2 ^ (q + r) : Nat) := by
    have e : signed (s ^^ t) (m * i) 0 = signed s m 0 * signed t i 0 := by unfold signed; cases s <;> cases t <;> simp [Int.neg_mul, Int.mul_neg]
    rw [e, h2, h4, Nat.pow_add, Int.natCast_mul]
    grind
  refine ⟨_, ?_, write_int h hn⟩
  show (((FloatKind.f64.decode x).product (FloatKind.f64.decode y)).map Ieee.double.write) = _
  rw [h1, h3]
  show some (Ieee.double.write (.number (s ^^ t) (m * i) (-(q : Int) + -(r : Int)))) = _
  rw [show (-(q : Int) + -(r : Int)) = -((q + r : Nat) : Int) by omega]
  rfl
theorem to_int {x : Nat} {a : Int} (hx : FI x a) (hn : a.natAbs < 2 ^ 53) : floatToIntVal .f64 x .i64 = some a := by
  obtain ⟨s, m, q, h1, h2⟩ := hx
  unfold floatToIntVal
  have h : (FloatKind.f64.decode x).toInt .zero = some a := by
    rw [h1]
    have hm := signed_abs h2
    have hs := sig_n h2
    show some (signed s (Toward.zero.cut s (m <<< (-(q : Int)).toNat) (-(-(q : Int))).toNat) 0) = _
    rw [show (-(q : Int)).toNat = 0 by omega, show (-(-(q : Int))).toNat = q by omega, Nat.shiftLeft_zero]
    have hp : 0 < 2 ^ q := Nat.two_pow_pos q
    have hd : m / 2 ^ q = a.natAbs := by rw [hm]; exact Nat.mul_div_cancel _ hp
    rw [cut_exact _ _ _ _ (by rw [hd]; exact hm), hd, hs]
    by_cases h0 : a.natAbs = 0
    · left; rw [hm, h0, Nat.zero_mul]
    · right
      rw [hm, log2_mul _ _ h0]
      omega
  rw [h]
  show (if (-9223372036854775808 : Int) ≤ a ∧ a ≤ 9223372036854775807 then some a else none) = some a
  rw [if_pos (by omega)]
theorem cmul_int {x y z u : Nat} {a b c d : Int} (hx : FI x a) (hy : FI y b) (hz : FI z c) (hu : FI u d) (h1 : (a * c).natAbs < 2 ^ 52) (h2 : (b * d).natAbs < 2 ^ 52) (h3 : (a * d).natAbs < 2 ^ 52) (h4 : (b * c).natAbs < 2 ^ 52) :
    ∃ re im, cMulBits x y z u = some (re, im) ∧ FI re (a * c - b * d) ∧ FI im (a * d + b * c) := by
  obtain ⟨ac, e1, f1⟩ := mul_int hx hz (by omega)
  obtain ⟨bd, e2, f2⟩ := mul_int hy hu (by omega)
  obtain ⟨re, e3, f3⟩ := sub_int f1 f2 (by omega)
  obtain ⟨ad, e4, f4⟩ := mul_int hx hu (by omega)
  obtain ⟨bc, e5, f5⟩ := mul_int hy hz (by omega)
  obtain ⟨im, e6, f6⟩ := add_int f4 f5 (by omega)
  refine ⟨re, im, ?_, f3, f6⟩
  unfold cMulBits
  simp only [e1, e2, e3, e4, e5, e6, Option.bind_some]
theorem cadd_int {x y z u : Nat} {a b c d : Int} (hx : FI x a) (hy : FI y b) (hz : FI z c) (hu : FI u d) (h1 : (a + c).natAbs < 2 ^ 53) (h2 : (b + d).natAbs < 2 ^ 53) :
    ∃ re im, cSumBits .add .f64 x y z u = some (re, im) ∧ FI re (a + c) ∧ FI im (b + d) := by
  obtain ⟨re, e1, f1⟩ := add_int hx hz h1
  obtain ⟨im, e2, f2⟩ := add_int hy hu h2
  exact ⟨re, im, by unfold cSumBits; simp only [e1, e2, Option.bind_some], f1, f2⟩
theorem fi_one : FI 4607182418800017408 1 := ⟨false, 2 ^ 52, 52, by decide +kernel, by decide +kernel⟩
theorem fi_two : FI 4611686018427387904 2 := ⟨false, 2 ^ 52, 51, by decide +kernel, by decide +kernel⟩
theorem fi_zero : FI 0 0 := ⟨false, 0, 1074, by decide +kernel, by decide +kernel⟩
theorem fi_wre : FI 4679482798749253632 69069 := ⟨false, 69069 * 2 ^ 36, 36, by decide +kernel, by decide +kernel⟩
theorem fi_wim : FI 4689970232712757248 362437 := ⟨false, 362437 * 2 ^ 34, 34, by decide +kernel, by decide +kernel⟩
end Go.Proofs.Ytbiijcehgiibeaa.M
namespace Go.Proofs.Ytbiijcehgiibeaa.M
def right (a b : Int) : Bool := decide (0 ≤ a ∧ a < 16777199 ∧ 0 ≤ b ∧ b < 16777199)
def mul (x y : Int × Int) : Int × Int := ((x.1 * y.1 - x.2 * y.2) % 16777199, (x.1 * y.2 + x.2 * y.1) % 16777199)
def step (x : Int × Int) (c : Int) : Int × Int := ((x.1 * 69069 - x.2 * 362437 + (c + 1)) % 16777199, (x.1 * 362437 + x.2 * 69069) % 16777199)
def add (x : Int × Int) (l : List Int) : Int × Int := l.foldl step x
def bytes (l : List Int) : Bool := l.all fun c => decide (0 ≤ c ∧ c < 256)
def pow (x : Int × Int) : Nat → Int × Int
  | 0 => (1, 0)
  | n + 1 => mul (pow x n) x
theorem right_iff {a b : Int} : right a b = true ↔ 0 ≤ a ∧ a < 16777199 ∧ 0 ≤ b ∧ b < 16777199 := by unfold right; exact decide_eq_true_iff
theorem mul_right (x y : Int × Int) : right (mul x y).1 (mul x y).2 = true := by rw [right_iff]; unfold mul; omega
theorem step_right (x : Int × Int) (c : Int) : right (step x c).1 (step x c).2 = true := by rw [right_iff]; unfold step; omega
theorem add_right (l : List Int) : ∀ (x : Int × Int), right x.1 x.2 = true → right (add x l).1 (add x l).2 = true := by
  induction l with
  | nil => exact fun x h => h
  | cons c l ih => exact fun x _ => ih (step x c) (step_right x c)
theorem pow_right (x : Int × Int) : ∀ n, right (pow x n).1 (pow x n).2 = true
  | 0 => by rw [right_iff]; unfold pow; omega
  | n + 1 => mul_right _ _
theorem bytes_mem {l : List Int} (h : bytes l = true) (c : Int) (hc : c ∈ l) : 0 ≤ c ∧ c < 256 := by
  unfold bytes at h
  rw [List.all_eq_true] at h
  exact of_decide_eq_true (h c hc)
theorem bytes_getD {l : List Int} (h : bytes l = true) (i : Nat) : 0 ≤ l.getD i 0 ∧ l.getD i 0 < 256 := by
  by_cases hi : i < l.length
  · have := bytes_mem h _ (List.getElem_mem hi)
    rw [List.getD_eq_getElem?_getD, List.getElem?_eq_getElem hi]
    exact this
  · rw [List.getD_eq_getElem?_getD, List.getElem?_eq_none (by omega)]
    exact ⟨Int.le_refl _, by decide⟩
theorem add_take (x : Int × Int) (l : List Int) (i : Nat) (h : i < l.length) : add x (l.take (i + 1)) = step (add x (l.take i)) (l.getD i 0) := by
  unfold add
  rw [List.take_succ_eq_append_getElem h, List.foldl_append, List.getD_eq_getElem?_getD, List.getElem?_eq_getElem h]
  rfl
theorem emod_congr {a b : Int} (h : ∃ k, a - b = 16777199 * k) : a % 16777199 = b % 16777199 := by
  obtain ⟨k, hk⟩ := h
  omega
theorem emod_ex (a : Int) : ∃ k, a % 16777199 = a - 16777199 * k := ⟨a / 16777199, by omega⟩
theorem mul_assoc (x y z : Int × Int) : mul (mul x y) z = mul x (mul y z) := by
  unfold mul
  obtain ⟨a, ha⟩ := emod_ex (x.1 * y.1 - x.2 * y.2)
  obtain ⟨b, hb⟩ := emod_ex (x.1 * y.2 + x.2 * y.1)
  obtain ⟨c, hc⟩ := emod_ex (y.1 * z.1 - y.2 * z.2)
  obtain ⟨d, hd⟩ := emod_ex (y.1 * z.2 + y.2 * z.1)
  simp only [ha, hb, hc, hd]
  refine Prod.ext (emod_congr ⟨x.1 * c - x.2 * d - (a * z.1 - b * z.2), ?_⟩) (emod_congr ⟨x.1 * d + x.2 * c - (a * z.2 + b * z.1), ?_⟩) <;> grind
theorem mul_comm (x y : Int × Int) : mul x y = mul y x := by
  unfold mul
  refine Prod.ext (congrArg (· % 16777199) ?_) (congrArg (· % 16777199) ?_) <;> grind
theorem mul_one (x : Int × Int) (h : right x.1 x.2 = true) : mul x (1, 0) = x := by
  obtain ⟨h1, h2, h3, h4⟩ := right_iff.1 h
  unfold mul
  refine Prod.ext ?_ ?_ <;> omega
theorem one_right : right ((1, 0) : Int × Int).1 ((1, 0) : Int × Int).2 = true := by decide
theorem one_mul (x : Int × Int) (h : right x.1 x.2 = true) : mul (1, 0) x = x := by rw [mul_comm, mul_one x h]
theorem pow_add (x : Int × Int) (m n : Nat) : pow x (m + n) = mul (pow x m) (pow x n) := by
  induction n with
  | zero => exact (mul_one _ (pow_right x m)).symm
  | succ n ih => rw [← Nat.add_assoc, pow, ih, mul_assoc]; rfl
theorem pow_two (x : Int × Int) (n : Nat) : pow (mul x x) n = pow x (2 * n) := by
  induction n with
  | zero => rfl
  | succ n ih => rw [pow, ih, show 2 * (n + 1) = 2 * n + 1 + 1 by omega, pow, pow, mul_assoc]
theorem pow_half_odd (o x : Int × Int) (n : Nat) (h : n % 2 = 1) : mul (mul o x) (pow (mul x x) (n / 2)) = mul o (pow x n) := by
  rw [pow_two, mul_assoc]
  have e : n = 2 * (n / 2) + 1 := by omega
  generalize n / 2 = k at e
  subst e
  rw [pow, mul_comm x]
theorem pow_half_even (o x : Int × Int) (n : Nat) (h : n % 2 = 0) : mul o (pow (mul x x) (n / 2)) = mul o (pow x n) := by
  rw [pow_two, show 2 * (n / 2) = n by omega]
end Go.Proofs.Ytbiijcehgiibeaa.M
namespace Go.Proofs.Ytbiijcehgiibeaa.S
open Go.RowKit
theorem w_calls (w : World) : Calls Try.prog 71 #[] w fun e w' => e = .returned (.complex .f64 4679482798749253632 4689970232712757248) ∧ w = w' := by
  go_enter Try.func71, Try.ntmps71
  go_wp2
  go_ret
  exact ⟨rfl, rfl⟩
theorem bcell {W w1 : World} (hb : Below W.heap.size W w1) : (∀ b o, b < W.heap.size → w1.cell? ⟨b, o, none⟩ = W.cell? ⟨b, o, none⟩) ∧ (∀ b o, b < W.heap.size → w1.frozen? ⟨b, o, none⟩ = W.frozen? ⟨b, o, none⟩) :=
  ⟨fun b o h => hb.cell (p := ⟨b, o, none⟩) h, fun b o h => hb.frozen (p := ⟨b, o, none⟩) h⟩
theorem tmod_P (n : Int) : n.tmod 16777199 = if 0 ≤ n then n % 16777199 else -((-n) % 16777199) := by
  split
  · exact Int.tmod_eq_emod_of_nonneg ‹_›
  · rename_i h
    have := Int.neg_tmod (a := -n) (b := 16777199)
    rw [Int.neg_neg] at this
    rw [this, Int.tmod_eq_emod_of_nonneg (by omega)]
theorem part_num (n : Int) : (wrap64 (n.tmod 16777199 + 16777199)).tmod 16777199 = n % 16777199 := by
  rw [tmod_P n]
  have h : ∀ m : Int, 0 ≤ m → m < 2 * 16777199 → (wrap64 m).tmod 16777199 = m % 16777199 := by
    intro m h1 h2
    have : wrap64 m = m := by unfold wrap64; omega
    rw [this, tmod_P, if_pos h1]
  split
  · rw [h _ (by omega) (by omega)]; omega
  · rw [h _ (by omega) (by omega)]; omega
set_option maxHeartbeats 400000 in
theorem part_calls (x : Nat) (n : Int) (hx : M.FI x n) (hn : n.natAbs < 2 ^ 53) (w : World) : Calls Try.prog 85 #[.float .f64 x] w fun e w' => e = .returned (.int .i64 (n % 16777199)) ∧ w = w' := by
  have hc := fun (w : World) => run_convert_float_int (P := Try.prog) w 88 3 .f64 .i64 x n (by kernel_rfl) (by kernel_rfl) (M.to_int hx hn)
  have h1 : -9007199254740992 < n ∧ n < 9007199254740992 := by omega
  clear hn hx
  go_enter Try.func85, Try.ntmps85
  go_wp2
  go_ret
  rw [part_num]
  exact ⟨rfl, rfl⟩
set_option maxHeartbeats 400000 in
theorem number_calls (a b : Int) (w : World) : Calls Try.prog 69 #[.agg #[.int .i64 a, .int .i64 b]] w fun e w' => e = .returned (.complex .f64 (M.fl a) (M.fl b)) ∧ Below w.heap.size w w' := by
  go_enter Try.func69, Try.ntmps69
  go_wp2
  go_ret
  exact ⟨rfl, (Below.refl _ _).alloc (Nat.le_refl _) _⟩
set_option maxHeartbeats 400000 in
theorem seal_calls (x y : Nat) (a b : Int) (hx : M.FI x a) (hy : M.FI y b) (ha : a.natAbs < 2 ^ 53) (hb : b.natAbs < 2 ^ 53) (w : World) :
    Calls Try.prog 70 #[.complex .f64 x y] w fun e w' => e = .returned (.agg #[.int .i64 (a % 16777199), .int .i64 (b % 16777199)]) ∧ Below w.heap.size w w' := by
  have c1 := fun w => part_calls x a hx ha w
  have c2 := fun w => part_calls y b hy hb w
  clear hx hy ha hb
  go_enter Try.func70, Try.ntmps70
  go_wp2_with (first | ((with_reducible refine (c1 _).mono ?_); rintro e w' ⟨rfl, rfl⟩) | ((with_reducible refine (c2 _).mono ?_); rintro e w' ⟨rfl, rfl⟩))
  exact bodyPost_ret (v := .agg #[.int .i64 (a % 16777199), .int .i64 (b % 16777199)]) (by simp [results, Try.results70, go_sem]) rfl ⟨rfl, (Below.refl _ _).alloc (Nat.le_refl _) _⟩
set_option maxHeartbeats 400000 in
theorem start_calls (w : World) : Calls Try.prog 31 #[] w fun e w' => e = .returned (.agg #[.int .i64 1, .int .i64 2]) ∧ Below w.heap.size w w' := by
  have c1 := fun w => seal_calls 4607182418800017408 4611686018427387904 1 2 M.fi_one M.fi_two (by decide) (by decide) w
  rw [show (1 : Int) % 16777199 = 1 from rfl, show (2 : Int) % 16777199 = 2 from rfl] at c1
  go_enter Try.func31, Try.ntmps31
  go_wp2_with (((with_reducible refine (c1 _).mono ?_); rintro e w1 ⟨rfl, hb⟩; obtain ⟨hc, hf⟩ := bcell hb))
  exact bodyPost_ret (v := .agg #[.int .i64 1, .int .i64 2]) (by simp [results, Try.results31, go_sem, hc]) rfl ⟨rfl, ((((Below.refl _ _).alloc (Nat.le_refl _) _).trans (hb.mono (by simp))).setCell (Nat.le_refl _) _).setCell (Nat.le_refl _) _⟩
set_option maxHeartbeats 400000 in
theorem right_yes (a b : Int) (h : M.right a b = true) (w : World) : Calls Try.prog 30 #[.agg #[.int .i64 a, .int .i64 b]] w fun e w' => e = .returned (.bool true) ∧ Below w.heap.size w w' := by
  obtain ⟨h1, h2, h3, h4⟩ := M.right_iff.1 h
  clear h
  go_enter Try.func30, Try.ntmps30
  go_wp2
  go_ret
  exact ⟨rfl, (Below.refl _ _).alloc (Nat.le_refl _) _⟩
set_option maxHeartbeats 400000 in
theorem right_no (a b : Int) (h : M.right a b = false) (w : World) : Calls Try.prog 30 #[.agg #[.int .i64 a, .int .i64 b]] w fun e w' => e = .returned (.bool false) ∧ Below w.heap.size w w' := by
  have h5 : ¬ (0 ≤ a ∧ a < 16777199 ∧ 0 ≤ b ∧ b < 16777199) := by unfold M.right at h; exact of_decide_eq_false h
  clear h
  by_cases h1 : 0 ≤ a
  · by_cases h2 : a < 16777199
    · by_cases h3 : 0 ≤ b
      · have h4 : ¬ b < 16777199 := fun h => h5 ⟨h1, h2, h3, h⟩
        clear h5
        go_enter Try.func30, Try.ntmps30
        go_wp2
        go_ret
        exact ⟨rfl, (Below.refl _ _).alloc (Nat.le_refl _) _⟩
      · clear h5
        go_enter Try.func30, Try.ntmps30
        go_wp2
        go_ret
        exact ⟨rfl, (Below.refl _ _).alloc (Nat.le_refl _) _⟩
    · clear h5
      go_enter Try.func30, Try.ntmps30
      go_wp2
      go_ret
      exact ⟨rfl, (Below.refl _ _).alloc (Nat.le_refl _) _⟩
  · clear h5
    go_enter Try.func30, Try.ntmps30
    go_wp2
    go_ret
    exact ⟨rfl, (Below.refl _ _).alloc (Nat.le_refl _) _⟩
def CI (v : Value) (x : Int × Int) : Prop := ∃ p q, v = .complex .f64 p q ∧ M.FI p x.1 ∧ M.FI q x.2
theorem small {a b : Int} (h1 : 0 ≤ a) (h2 : a < 16777199) (h3 : 0 ≤ b) (h4 : b < 16777199) : 0 ≤ a * b ∧ a * b ≤ 281474372731204 := by
  have := Int.mul_nonneg h1 h3
  have h5 : a * b ≤ 16777198 * 16777198 := Int.mul_le_mul (by omega) (by omega) h3 (by omega)
  omega
theorem cmul_run {v u : Value} {x y : Int × Int} (hv : CI v x) (hu : CI u y) (hx : M.right x.1 x.2 = true) (hy : M.right y.1 y.2 = true) :
    ∃ p q, (∀ w t, (binOp .mul t v u).run Try.prog w = .ok (.complex .f64 p q) w) ∧ M.FI p (x.1 * y.1 - x.2 * y.2) ∧ M.FI q (x.1 * y.2 + x.2 * y.1) := by
  obtain ⟨p, q, rfl, h1, h2⟩ := hv
  obtain ⟨r, s, rfl, h3, h4⟩ := hu
  obtain ⟨a1, a2, a3, a4⟩ := M.right_iff.1 hx
  obtain ⟨b1, b2, b3, b4⟩ := M.right_iff.1 hy
  have e1 := small a1 a2 b1 b2
  have e2 := small a3 a4 b3 b4
  have e3 := small a1 a2 b3 b4
  have e4 := small a3 a4 b1 b2
  obtain ⟨re, im, e, f1, f2⟩ := M.cmul_int h1 h2 h3 h4 (by omega) (by omega) (by omega) (by omega)
  exact ⟨re, im, fun w t => run_complex_mul w t _ _ _ _ _ _ e, f1, f2⟩
theorem bounds {x y : Int × Int} (hx : M.right x.1 x.2 = true) (hy : M.right y.1 y.2 = true) : (x.1 * y.1 - x.2 * y.2).natAbs < 2 ^ 53 ∧ (x.1 * y.2 + x.2 * y.1).natAbs < 2 ^ 53 := by
  obtain ⟨a1, a2, a3, a4⟩ := M.right_iff.1 hx
  obtain ⟨b1, b2, b3, b4⟩ := M.right_iff.1 hy
  have e1 := small a1 a2 b1 b2
  have e2 := small a3 a4 b3 b4
  have e3 := small a1 a2 b3 b4
  have e4 := small a3 a4 b1 b2
  omega
theorem number_fi (x : Int × Int) (hx : M.right x.1 x.2 = true) : CI (.complex .f64 (M.fl x.1) (M.fl x.2)) x := by
  obtain ⟨a1, a2, a3, a4⟩ := M.right_iff.1 hx
  exact ⟨_, _, rfl, M.fl_int _ (by omega), M.fl_int _ (by omega)⟩
theorem fl_pair (a b : Int) : CI (.complex .f64 (M.fl (a % 16777199)) (M.fl (b % 16777199))) (a % 16777199, b % 16777199) := number_fi (a % 16777199, b % 16777199) (by rw [M.right_iff]; simp only; omega)
set_option maxHeartbeats 1000000 in
theorem power_calls (v : Value) (x : Int × Int) (n : Int) (hv : CI v x) (hx : M.right x.1 x.2 = true) (h0 : 0 ≤ n) (hn : n ≤ 9223372036854775807) (w : World) :
    Calls Try.prog 72 #[v, .int .i64 n] w fun e w' => ∃ u, e = .returned u ∧ CI u (M.pow x n.toNat) ∧ Below w.heap.size w w' := by
  have Hv := Lib.hid hv
  have Hx := Lib.hid hx
  clear hv hx
  go_enter Try.func72, Try.ntmps72
  go_wp2
  go_loopg [0, 1, 5] (n.toNat + 1) (fun kq v0 v1 v5 w' => ∃ (z o : Int × Int) (m : Int), v1 = .int .i64 m ∧ Hid (0 ≤ m ∧ m ≤ n ∧ m.toNat < kq) ∧ Hid (CI v0 z ∧ CI v5 o ∧ M.right z.1 z.2 = true ∧ M.right o.1 o.2 = true ∧ M.mul o (M.pow z m.toNat) = M.pow x n.toNat) ∧ Hid (Below w.heap.size w w'))
  case atStart => exact ⟨x, (1, 0), n, rfl, ⟨h0, Int.le_refl _, Nat.lt_succ_self _⟩, ⟨Hv.out, ⟨_, _, rfl, M.fi_one, M.fi_zero⟩, Hx.out, M.one_right, M.one_mul _ (M.pow_right _ _)⟩, Below.refl _ _⟩
  case round =>
    obtain ⟨z, o, m, rfl, hm, hz, hB⟩ := hrel
    obtain ⟨m0, m1, m2⟩ := hm.out
    clear hm
    obtain ⟨k1, rfl⟩ : ∃ k1, gk = k1 + 1 := ⟨gk - 1, by omega⟩
    clear Hv Hx
    obtain ⟨hu0, hu5, hzr, hor, heq⟩ := hz.out
    obtain ⟨p, q, hr1, hp, hq⟩ := cmul_run hu5 hu0 hor hzr
    obtain ⟨p2, q2, hr2, hp2, hq2⟩ := cmul_run hu0 hu0 hzr hzr
    have b1 := bounds hor hzr
    have b2 := bounds hzr hzr
    have c1 := fun w => seal_calls p q _ _ hp hq b1.1 b1.2 w
    have c2 := fun w => seal_calls p2 q2 _ _ hp2 hq2 b2.1 b2.2 w
    have Heq := Lib.hid heq
    have Hzr := Lib.hid hzr
    have Hor := Lib.hid hor
    clear hz hu0 hzr hor heq hp hq hp2 hq2 b1 b2
    by_cases hpos : 0 < m
    · have Hu5 := Lib.hid hu5
      clear hu5
      by_cases hodd : m % 2 = 1
      · have hb : (m % 2 == 1) = true := by simp [hodd]
        have Hodd := Lib.hid hodd
        clear hodd
        go_wp2_with (first | ((with_reducible refine (c1 _).mono ?_); rintro e w1 ⟨rfl, hb1⟩; replace hB := Lib.hid (hB.out.trans (hb1.mono hB.out.size)); clear hb1) | ((with_reducible refine (c2 _).mono ?_); rintro e w1 ⟨rfl, hb1⟩; replace hB := Lib.hid (hB.out.trans (hb1.mono hB.out.size)); clear hb1) | ((with_reducible refine (number_calls _ _ _).mono ?_); rintro e w1 ⟨rfl, hb1⟩; replace hB := Lib.hid (hB.out.trans (hb1.mono hB.out.size)); clear hb1))
        go_roundg k1
        case measure => omega
        case rel =>
          refine ⟨M.mul z z, M.mul o z, m / 2, rfl, ⟨by omega, by omega, by omega⟩, ⟨fl_pair _ _, fl_pair _ _, M.mul_right _ _, M.mul_right _ _, ?_⟩, hB⟩
          rw [show (m / 2).toNat = m.toNat / 2 by omega, M.pow_half_odd _ _ _ (by have := Hodd.out; omega), Heq.out]
      · have hb : (m % 2 == 1) = false := by simp [hodd]
        have Hodd := Lib.hid hodd
        clear hodd
        go_wp2_with (first | ((with_reducible refine (c1 _).mono ?_); rintro e w1 ⟨rfl, hb1⟩; replace hB := Lib.hid (hB.out.trans (hb1.mono hB.out.size)); clear hb1) | ((with_reducible refine (c2 _).mono ?_); rintro e w1 ⟨rfl, hb1⟩; replace hB := Lib.hid (hB.out.trans (hb1.mono hB.out.size)); clear hb1) | ((with_reducible refine (number_calls _ _ _).mono ?_); rintro e w1 ⟨rfl, hb1⟩; replace hB := Lib.hid (hB.out.trans (hb1.mono hB.out.size)); clear hb1))
        go_roundg k1
        case measure => omega
        case rel =>
          refine ⟨M.mul z z, o, m / 2, rfl, ⟨by omega, by omega, by omega⟩, ⟨fl_pair _ _, Hu5.out, M.mul_right _ _, Hor.out, ?_⟩, hB⟩
          rw [show (m / 2).toNat = m.toNat / 2 by omega, M.pow_half_even _ _ _ (by have := Hodd.out; omega), Heq.out]
    · go_wp2
      go_ret
      refine ⟨_, rfl, ?_, hB.out⟩
      obtain rfl : m = 0 := by omega
      rw [← Heq.out]
      rw [show M.mul o (M.pow z (0 : Int).toNat) = o from M.mul_one _ Hor.out]
      exact hu5
end Go.Proofs.Ytbiijcehgiibeaa.S
