/- Proved here: words of the format double that stand for whole numbers below 2^53, what '+', '-', '*' of them, 'float64(n)' and 'int(x)' give. Condition: the exact result is below 2^53 in size. · Definitions, in whole numbers, of what the program's functions answer: seals (pairs modulo the prime), sums over bytes, powers, numbers as bytes. No program in sight. · Proved here: what the inner functions of the package seal answer, over words that stand for whole numbers. · Proved here: what seal.Power, seal.Times, seal.Join and seal.Add answer: the pairs of the text Math. Conditions: the guards in each statement's hypothesis. (Pieces by wip/sealgen.py, this session's own.) · A text that a program of this session wrote (wip/qprint.py, over the kit's printer): Lean functions with the same answers as Go functions of the program, and proofs that the calls come to these answers; where a function is named in wip/ext, its definition and proof were written by hand. -/
import Derived.Laws.FloatArith
import Derived.Laws.ComplexArith
import Derived.Test.YtbiijcehgiibeaaProg
import Derived.Test.YtbiijcehgiibeaaKSTellsWWords
import Derived.WalkKit
import Derived.WalkSpells
import Derived.WalkLawsBesides
import Derived.Lib.Hide
import Derived.Test.YtbiijcehgiibeaaKSTellsWLast
import Derived.Test.YtbiijcehgiibeaaKSTellsWMore
import Derived.Deep.LoopGhost
import Derived.Below
import Derived.Deep.Draws
import Derived.Deep.AppendLies
import Derived.Maps.AppendAt
import Derived.OwnWalk
import Derived.Laws.BytesArg
import Derived.Laws.MakeOwn
import Derived.Laws.OwnMore
import Derived.Deep.OwnRows
import Derived.Tactics
import Derived.Lib.ConvBytes
import Derived.Laws.Slices
import Derived.KernelRfl
import Derived.RowKit3
import Derived.Deep.QuietTactic
import Derived.BigQuiet
import Derived.WideLaws
import Derived.Deep.DeepCutAuto
import Derived.Deep.CutBlock
import Derived.Deep.RegionHeld3
import Derived.Laws.Rows
import Derived.Lib.AppendStr
import Derived.ArgAppend
import Derived.Laws.IdiomCopy
import Derived.OrdersHeld
import Derived.Laws.BitsLemmas
import Derived.RowKit
import Derived.Test.YtbiijcehgiibeaaKSTellsWApart
import Derived.Test.YtbiijcehgiibeaaKSTellsWFoot
import Derived.Test.YtbiijcehgiibeaaKSTellsWKept
import Derived.Test.YtbiijcehgiibeaaKSTellsWShare
import Derived.Test.YtbiijcehgiibeaaKSTellsWN
import Derived.Test.YtbiijcehgiibeaaKSTellsWAt
import Derived.Test.YtbiijcehgiibeaaKSTellsWEqStruct
import Derived.Test.YtbiijcehgiibeaaKSTellsWRepsOne
import Derived.Test.YtbiijcehgiibeaaKSTellsWGuard
namespace Go.Proofs.Ytbiijcehgiibeaa.M
open Ieee
def FI (b : Nat) (n : Int) : Prop := ∃ (s : Bool) (m q : Nat), FloatKind.f64.decode b = .number s m (-(q : Int)) ∧ signed s m 0 = n * (2 ^ q : Nat)
theorem signed_abs {s : Bool} {m q : Nat} {n : Int} (h : signed s m 0 = n * (2 ^ q : Nat)) : m = n.natAbs * 2 ^ q := by
  have h2 := congrArg Int.natAbs h
  rw [Int.natAbs_mul] at h2
  unfold signed at h2
  cases s <;> simpa using h2
theorem signed_mk {s : Bool} {k q : Nat} : signed s (k * 2 ^ q) 0 = signed s k 0 * (2 ^ q : Nat) := by
  unfold signed
  cases s <;> simp [Int.neg_mul]
theorem sig_n {s : Bool} {m q : Nat} {n : Int} (h : signed s m 0 = n * (2 ^ q : Nat)) : signed s n.natAbs 0 = n := by
  have hm := signed_abs h
  have hp : 0 < 2 ^ q := Nat.two_pow_pos q
  rw [hm, signed_mk] at h
  exact Int.eq_of_mul_eq_mul_right (by omega) h
theorem log2_mul (k q : Nat) (hk : k ≠ 0) : (k * 2 ^ q).log2 = k.log2 + q := by
  rw [Nat.log2_eq_iff (by have := Nat.two_pow_pos q; exact Nat.mul_ne_zero hk (by omega))]
  have h1 := Nat.log2_self_le hk
  have h2 := Nat.lt_log2_self (n := k)
  constructor
  · rw [Nat.pow_add]; exact Nat.mul_le_mul_right _ h1
  · rw [show k.log2 + q + 1 = k.log2 + 1 + q by omega, Nat.pow_add (m := k.log2 + 1)]
    exact Nat.mul_lt_mul_of_pos_right h2 (Nat.two_pow_pos q)
theorem cut_exact (way : Toward) (neg : Bool) (n drop : Nat) (h : n = n / 2 ^ drop * 2 ^ drop) (hd : n = 0 ∨ drop ≤ n.log2 + 2) : way.cut neg n drop = n / 2 ^ drop := by
  unfold Toward.cut
  rcases hd with rfl | hd
  · cases way <;> simp
  · have hg : 1 <<< min drop (n.log2 + 2) = 2 ^ drop := by rw [Nat.min_eq_left hd, Nat.one_shiftLeft]
    have hp : 0 < 2 ^ drop := Nat.two_pow_pos drop
    have hr : n % 2 ^ drop = 0 := by rw [h]; exact Nat.mul_mod_left _ _
    simp only [hg, hr]
    cases way <;> simp <;> omega
theorem write_int {s : Bool} {m q : Nat} {n : Int} (h : signed s m 0 = n * (2 ^ q : Nat)) (hn : n.natAbs < 2 ^ 53) : FI (FloatKind.f64.encode (.number s m (-(q : Int)))) n := by
  have hm := signed_abs h
  have hs := sig_n h
  generalize n.natAbs = k at hm hs hn
  subst hs
  clear h
  by_cases hk : k = 0
  · subst hk
    refine ⟨s, 0, 1074, ?_, by unfold signed; cases s <;> simp only [Nat.zero_shiftLeft] <;> omega⟩
    rw [Nat.zero_mul] at hm
    subst hm
    have hw : FloatKind.f64.encode (.number s 0 (-(q : Int))) = Ieee.double.word s 0 := by
      show Ieee.double.nearest s 0 (-(q : Int)) = _
      unfold Format.nearest
      rw [if_pos rfl]
    rw [hw]
    cases s <;> decide +kernel
  · have hl := log2_mul k q hk
    rw [← hm] at hl
    have he : k.log2 < 53 := (Nat.log2_lt hk).2 hn
    have hm0 : m ≠ 0 := by rw [hm]; exact Nat.mul_ne_zero hk (by have := Nat.two_pow_pos q; omega)
    have h1 := Nat.log2_self_le hk
    have h2 := Nat.lt_log2_self (n := k)
    refine ⟨s, k * 2 ^ (52 - k.log2), 52 - k.log2, ?_, signed_mk⟩
    have hkept : 2 ^ 52 ≤ k * 2 ^ (52 - k.log2) ∧ k * 2 ^ (52 - k.log2) < 2 ^ 53 := by
      constructor
      · calc 2 ^ 52 = 2 ^ k.log2 * 2 ^ (52 - k.log2) := by rw [← Nat.pow_add]; congr 1; omega
          _ ≤ _ := Nat.mul_le_mul_right _ h1
      · calc k * 2 ^ (52 - k.log2) < 2 ^ (k.log2 + 1) * 2 ^ (52 - k.log2) := Nat.mul_lt_mul_of_pos_right h2 (Nat.two_pow_pos _)
          _ = 2 ^ 53 := by rw [← Nat.pow_add]; congr 1; omega
    have hw : FloatKind.f64.encode (.number s m (-(q : Int))) = Ieee.double.word s ((k.log2 + 1022) * 2 ^ 52 + k * 2 ^ (52 - k.log2)) := by
      show Ieee.double.nearest s m (-(q : Int)) = _
      unfold Format.nearest
      rw [if_neg hm0]
      have hlast : max (-(q : Int) + m.log2 - (Ieee.double.fractionBits : Nat)) Ieee.double.leastPlace = (k.log2 : Int) - 52 := by
        rw [hl]
        show max (-(q : Int) + ((k.log2 + q : Nat) : Int) - (52 : Nat)) (-1074) = _
        omega
      simp only [hlast]
      have hk2 : Toward.even.cut s (m <<< (-(q : Int) - ((k.log2 : Int) - 52)).toNat) ((k.log2 : Int) - 52 - -(q : Int)).toNat = k * 2 ^ (52 - k.log2) := by
        rw [Nat.shiftLeft_eq, hm]
        by_cases hq : q + k.log2 ≤ 52
        · rw [show ((k.log2 : Int) - 52 - -(q : Int)).toNat = 0 by omega, show (-(q : Int) - ((k.log2 : Int) - 52)).toNat = 52 - k.log2 - q by omega, Nat.mul_assoc, ← Nat.pow_add, show q + (52 - k.log2 - q) = 52 - k.log2 by omega]
          rw [cut_exact _ _ _ _ (by simp) (.inr (by omega))]
          simp
        · rw [show (-(q : Int) - ((k.log2 : Int) - 52)).toNat = 0 by omega, show ((k.log2 : Int) - 52 - -(q : Int)).toNat = q + k.log2 - 52 by omega, Nat.pow_zero, Nat.mul_one]
          have hsplit : k * 2 ^ q = k * 2 ^ (52 - k.log2) * 2 ^ (q + k.log2 - 52) := by rw [Nat.mul_assoc, ← Nat.pow_add]; congr 2; omega
          have hdiv : k * 2 ^ q / 2 ^ (q + k.log2 - 52) = k * 2 ^ (52 - k.log2) := by rw [hsplit]; exact Nat.mul_div_cancel _ (Nat.two_pow_pos _)
          rw [cut_exact _ _ _ _ (by rw [hdiv]; exact hsplit) (.inr (by rw [← hm, hl]; omega)), hdiv]
      rw [hk2, show (((k.log2 : Int) - 52) - Ieee.double.leastPlace).toNat = k.log2 + 1022 by show ((k.log2 : Int) - 52 - (-1074)).toNat = _; omega]
      show Ieee.double.word s (min ((k.log2 + 1022) * 2 ^ 52 + _) (2047 * 2 ^ 52)) = _
      rw [Nat.min_eq_left]
      omega
    rw [hw]
    show Ieee.double.read _ = _
    generalize k * 2 ^ (52 - k.log2) = g at *
    generalize k.log2 = e at *
    have hr : (e + 1022) * 2 ^ 52 + g < 2 ^ 63 := by omega
    have hrung : (if s then 2 ^ 63 + ((e + 1022) * 2 ^ 52 + g) else (e + 1022) * 2 ^ 52 + g) % 2 ^ 63 = (e + 1022) * 2 ^ 52 + g := by
      cases s <;> simp <;> omega
    have hneg : ((if s then 2 ^ 63 + ((e + 1022) * 2 ^ 52 + g) else (e + 1022) * 2 ^ 52 + g) / 2 ^ 63 % 2 == 1) = s := by
      cases s
      · have : ((e + 1022) * 2 ^ 52 + g) / 2 ^ 63 = 0 := Nat.div_eq_of_lt hr
        simp [this]
      · have : (2 ^ 63 + ((e + 1022) * 2 ^ 52 + g)) / 2 ^ 63 = 1 := by omega
        simp [this]
    unfold Format.read
    show (let neg := ((if s then 2 ^ 63 + ((e + 1022) * 2 ^ 52 + g) else (e + 1022) * 2 ^ 52 + g) / 2 ^ 63 % 2 == 1); let rung := (if s then 2 ^ 63 + ((e + 1022) * 2 ^ 52 + g) else (e + 1022) * 2 ^ 52 + g) % 2 ^ 63; if rung < 2 ^ 52 then Datum.number neg rung (-1074) else if rung < 2047 * 2 ^ 52 then .number neg (2 ^ 52 + rung % 2 ^ 52) (-1074 + (rung / 2 ^ 52 - 1 : Nat)) else if rung = 2047 * 2 ^ 52 then .infinity neg else .nan neg (rung - 2047 * 2 ^ 52)) = _
    simp only [hrung, hneg]
    rw [if_neg (by omega), if_pos (by omega)]
    have hdiv : ((e + 1022) * 2 ^ 52 + g) / 2 ^ 52 = e + 1023 := by omega
    rw [hdiv, show 2 ^ 52 + ((e + 1022) * 2 ^ 52 + g) % 2 ^ 52 = g by omega, show (-1074 + ((e + 1023 - 1 : Nat) : Int)) = -((52 - e : Nat) : Int) by omega]
def fl (n : Int) : Nat := floatOfInt .f64 n
theorem fl_int (n : Int) (hn : n.natAbs < 2 ^ 53) : FI (fl n) n := by
  have h : signed (decide (n < 0)) n.natAbs 0 = n * (2 ^ 0 : Nat) := by
    unfold signed
    by_cases h : n < 0 <;> simp [h] <;> omega
  have h2 := write_int h hn
  have e : FloatKind.f64.encode (.number (decide (n < 0)) n.natAbs (-((0 : Nat) : Int))) = fl n := by
    rw [show (-((0 : Nat) : Int)) = 0 from rfl]
    unfold fl floatOfInt FloatKind.nearest
    rfl
  rw [e] at h2
  exact h2
theorem sum_int {s t : Bool} {m i q r : Nat} {a b : Int} (ha : signed s m 0 = a * (2 ^ q : Nat)) (hb : signed t i 0 = b * (2 ^ r : Nat)) (hn : (a + b).natAbs < 2 ^ 53) :
    ∃ d, (Datum.number s m (-(q : Int))).sum (Datum.number t i (-(r : Int))) = some d ∧ FI (FloatKind.f64.encode d) (a + b) := by
  unfold Datum.sum
  have hbase : min (-(q : Int)) (-(r : Int)) = -((max q r : Nat) : Int) := by omega
  simp only [hbase]
  refine ⟨_, rfl, write_int ?_ hn⟩
  have e1 : signed s m (-(q : Int) - -((max q r : Nat) : Int)).toNat = a * (2 ^ (max q r) : Nat) := by
    rw [show (-(q : Int) - -((max q r : Nat) : Int)).toNat = max q r - q by omega]
    have : signed s m (max q r - q) = signed s m 0 * (2 ^ (max q r - q) : Nat) := by unfold signed; cases s <;> simp [Nat.shiftLeft_eq, Int.neg_mul]
    rw [this, ha, Int.mul_assoc, ← Int.natCast_mul, ← Nat.pow_add, show q + (max q r - q) = max q r by omega]
  have e2 : signed t i (-(r : Int) - -((max q r : Nat) : Int)).toNat = b * (2 ^ (max q r) : Nat) := by
    rw [show (-(r : Int) - -((max q r : Nat) : Int)).toNat = max q r - r by omega]
    have : signed t i (max q r - r) = signed t i 0 * (2 ^ (max q r - r) : Nat) := by unfold signed; cases t <;> simp [Nat.shiftLeft_eq, Int.neg_mul]
    rw [this, hb, Int.mul_assoc, ← Int.natCast_mul, ← Nat.pow_add, show r + (max q r - r) = max q r by omega]
  rw [e1, e2, ← Int.add_mul]
  generalize (a + b) * ((2 ^ max q r : Nat) : Int) = x
  unfold signed
  by_cases hx : x = 0
  · subst hx; simp
  · rw [if_neg hx]
    by_cases h : x < 0 <;> simp [h] <;> omega
theorem opp_int {s : Bool} {m q : Nat} {a : Int} (ha : signed s m 0 = a * (2 ^ q : Nat)) : signed (!s) m 0 = (-a) * (2 ^ q : Nat) := by
  rw [Int.neg_mul, ← ha]
  unfold signed
  cases s <;> simp
theorem add_int {x y : Nat} {a b : Int} (hx : FI x a) (hy : FI y b) (hn : (a + b).natAbs < 2 ^ 53) : ∃ r, floatBits .add .f64 x y = some r ∧ FI r (a + b) := by
  obtain ⟨s, m, q, h1, h2⟩ := hx
  obtain ⟨t, i, r, h3, h4⟩ := hy
  obtain ⟨d, h5, h6⟩ := sum_int h2 h4 hn
  refine ⟨_, ?_, h6⟩
  show (((FloatKind.f64.decode x).sum (FloatKind.f64.decode y)).map Ieee.double.write) = _
  rw [h1, h3, h5]
  rfl
theorem sub_int {x y : Nat} {a b : Int} (hx : FI x a) (hy : FI y b) (hn : (a - b).natAbs < 2 ^ 53) : ∃ r, floatBits .sub .f64 x y = some r ∧ FI r (a - b) := by
  obtain ⟨s, m, q, h1, h2⟩ := hx
  obtain ⟨t, i, r, h3, h4⟩ := hy
  rw [Int.sub_eq_add_neg] at hn ⊢
  obtain ⟨d, h5, h6⟩ := sum_int h2 (opp_int h4) hn
  refine ⟨_, ?_, h6⟩
  show (((FloatKind.f64.decode x).sum (FloatKind.f64.decode y).opposite).map Ieee.double.write) = _
  rw [h1, h3]
  show (((Datum.number s m (-(q : Int))).sum (Datum.number (!t) i (-(r : Int)))).map Ieee.double.write) = _
  rw [h5]
  rfl
theorem mul_int {x y : Nat} {a b : Int} (hx : FI x a) (hy : FI y b) (hn : (a * b).natAbs < 2 ^ 53) : ∃ r, floatBits .mul .f64 x y = some r ∧ FI r (a * b) := by
  obtain ⟨s, m, q, h1, h2⟩ := hx
  obtain ⟨t, i, r, h3, h4⟩ := hy
  have h : signed (s ^^ t) (m * i) 0 = a * b * (2 ^ (q + r) : Nat) := by
    have e : signed (s ^^ t) (m * i) 0 = signed s m 0 * signed t i 0 := by unfold signed; cases s <;> cases t <;> simp [Int.neg_mul, Int.mul_neg]
    rw [e, h2, h4, Nat.pow_add, Int.natCast_mul]
    grind
  refine ⟨_, ?_, write_int h hn⟩
  show (((FloatKind.f64.decode x).product (FloatKind.f64.decode y)).map Ieee.double.write) = _
  rw [h1, h3]
  show some (Ieee.double.write (.number (s ^^ t) (m * i) (-(q : Int) + -(r : Int)))) = _
  rw [show (-(q : Int) + -(r : Int)) = -((q + r : Nat) : Int) by omega]
  rfl
theorem to_int {x : Nat} {a : Int} (hx : FI x a) (hn : a.natAbs < 2 ^ 53) : floatToIntVal .f64 x .i64 = some a := by
  obtain ⟨s, m, q, h1, h2⟩ := hx
  unfold floatToIntVal
  have h : (FloatKind.f64.decode x).toInt .zero = some a := by
    rw [h1]
    have hm := signed_abs h2
    have hs := sig_n h2
    show some (signed s (Toward.zero.cut s (m <<< (-(q : Int)).toNat) (-(-(q : Int))).toNat) 0) = _
    rw [show (-(q : Int)).toNat = 0 by omega, show (-(-(q : Int))).toNat = q by omega, Nat.shiftLeft_zero]
    have hp : 0 < 2 ^ q := Nat.two_pow_pos q
    have hd : m / 2 ^ q = a.natAbs := by rw [hm]; exact Nat.mul_div_cancel _ hp
    rw [cut_exact _ _ _ _ (by rw [hd]; exact hm), hd, hs]
    by_cases h0 : a.natAbs = 0
    · left; rw [hm, h0, Nat.zero_mul]
    · right
      rw [hm, log2_mul _ _ h0]
      omega
  rw [h]
  show (if (-9223372036854775808 : Int) ≤ a ∧ a ≤ 9223372036854775807 then some a else none) = some a
  rw [if_pos (by omega)]
theorem cmul_int {x y z u : Nat} {a b c d : Int} (hx : FI x a) (hy : FI y b) (hz : FI z c) (hu : FI u d) (h1 : (a * c).natAbs < 2 ^ 52) (h2 : (b * d).natAbs < 2 ^ 52) (h3 : (a * d).natAbs < 2 ^ 52) (h4 : (b * c).natAbs < 2 ^ 52) :
    ∃ re im, cMulBits x y z u = some (re, im) ∧ FI re (a * c - b * d) ∧ FI im (a * d + b * c) := by
  obtain ⟨ac, e1, f1⟩ := mul_int hx hz (by omega)
  obtain ⟨bd, e2, f2⟩ := mul_int hy hu (by omega)
  obtain ⟨re, e3, f3⟩ := sub_int f1 f2 (by omega)
  obtain ⟨ad, e4, f4⟩ := mul_int hx hu (by omega)
  obtain ⟨bc, e5, f5⟩ := mul_int hy hz (by omega)
  obtain ⟨im, e6, f6⟩ := add_int f4 f5 (by omega)
  refine ⟨re, im, ?_, f3, f6⟩
  unfold cMulBits
  simp only [e1, e2, e3, e4, e5, e6, Option.bind_some]
theorem cadd_int {x y z u : Nat} {a b c d : Int} (hx : FI x a) (hy : FI y b) (hz : FI z c) (hu : FI u d) (h1 : (a + c).natAbs < 2 ^ 53) (h2 : (b + d).natAbs < 2 ^ 53) :
    ∃ re im, cSumBits .add .f64 x y z u = some (re, im) ∧ FI re (a + c) ∧ FI im (b + d) := by
  obtain ⟨re, e1, f1⟩ := add_int hx hz h1
  obtain ⟨im, e2, f2⟩ := add_int hy hu h2
  exact ⟨re, im, by unfold cSumBits; simp only [e1, e2, Option.bind_some], f1, f2⟩
theorem fi_one : FI 4607182418800017408 1 := ⟨false, 2 ^ 52, 52, by decide +kernel, by decide +kernel⟩
theorem fi_two : FI 4611686018427387904 2 := ⟨false, 2 ^ 52, 51, by decide +kernel, by decide +kernel⟩
theorem fi_zero : FI 0 0 := ⟨false, 0, 1074, by decide +kernel, by decide +kernel⟩
theorem fi_wre : FI 4679482798749253632 69069 := ⟨false, 69069 * 2 ^ 36, 36, by decide +kernel, by decide +kernel⟩
theorem fi_wim : FI 4689970232712757248 362437 := ⟨false, 362437 * 2 ^ 34, 34, by decide +kernel, by decide +kernel⟩
end Go.Proofs.Ytbiijcehgiibeaa.M
namespace Go.Proofs.Ytbiijcehgiibeaa.M
def right (a b : Int) : Bool := decide (0 ≤ a ∧ a < 16777199 ∧ 0 ≤ b ∧ b < 16777199)
def mul (x y : Int × Int) : Int × Int := ((x.1 * y.1 - x.2 * y.2) % 16777199, (x.1 * y.2 + x.2 * y.1) % 16777199)
def step (x : Int × Int) (c : Int) : Int × Int := ((x.1 * 69069 - x.2 * 362437 + (c + 1)) % 16777199, (x.1 * 362437 + x.2 * 69069) % 16777199)
def add (x : Int × Int) (l : List Int) : Int × Int := l.foldl step x
def bytes (l : List Int) : Bool := l.all fun c => decide (0 ≤ c ∧ c < 256)
def pow (x : Int × Int) : Nat → Int × Int
  | 0 => (1, 0)
  | n + 1 => mul (pow x n) x
theorem right_iff {a b : Int} : right a b = true ↔ 0 ≤ a ∧ a < 16777199 ∧ 0 ≤ b ∧ b < 16777199 := by unfold right; exact decide_eq_true_iff
theorem mul_right (x y : Int × Int) : right (mul x y).1 (mul x y).2 = true := by rw [right_iff]; unfold mul; omega
theorem step_right (x : Int × Int) (c : Int) : right (step x c).1 (step x c).2 = true := by rw [right_iff]; unfold step; omega
theorem add_right (l : List Int) : ∀ (x : Int × Int), right x.1 x.2 = true → right (add x l).1 (add x l).2 = true := by
  induction l with
  | nil => exact fun x h => h
  | cons c l ih => exact fun x _ => ih (step x c) (step_right x c)
theorem pow_right (x : Int × Int) : ∀ n, right (pow x n).1 (pow x n).2 = true
  | 0 => by rw [right_iff]; unfold pow; omega
  | n + 1 => mul_right _ _
theorem bytes_mem {l : List Int} (h : bytes l = true) (c : Int) (hc : c ∈ l) : 0 ≤ c ∧ c < 256 := by
  unfold bytes at h
  rw [List.all_eq_true] at h
  exact of_decide_eq_true (h c hc)
theorem bytes_getD {l : List Int} (h : bytes l = true) (i : Nat) : 0 ≤ l.getD i 0 ∧ l.getD i 0 < 256 := by
  by_cases hi : i < l.length
  · have := bytes_mem h _ (List.getElem_mem hi)
    rw [List.getD_eq_getElem?_getD, List.getElem?_eq_getElem hi]
    exact this
  · rw [List.getD_eq_getElem?_getD, List.getElem?_eq_none (by omega)]
    exact ⟨Int.le_refl _, by decide⟩
theorem add_take (x : Int × Int) (l : List Int) (i : Nat) (h : i < l.length) : add x (l.take (i + 1)) = step (add x (l.take i)) (l.getD i 0) := by
  unfold add
  rw [List.take_succ_eq_append_getElem h, List.foldl_append, List.getD_eq_getElem?_getD, List.getElem?_eq_getElem h]
  rfl
theorem emod_congr {a b : Int} (h : ∃ k, a - b = 16777199 * k) : a % 16777199 = b % 16777199 := by
  obtain ⟨k, hk⟩ := h
  omega
theorem emod_ex (a : Int) : ∃ k, a % 16777199 = a - 16777199 * k := ⟨a / 16777199, by omega⟩
theorem mul_assoc (x y z : Int × Int) : mul (mul x y) z = mul x (mul y z) := by
  unfold mul
  obtain ⟨a, ha⟩ := emod_ex (x.1 * y.1 - x.2 * y.2)
  obtain ⟨b, hb⟩ := emod_ex (x.1 * y.2 + x.2 * y.1)
  obtain ⟨c, hc⟩ := emod_ex (y.1 * z.1 - y.2 * z.2)
  obtain ⟨d, hd⟩ := emod_ex (y.1 * z.2 + y.2 * z.1)
  simp only [ha, hb, hc, hd]
  refine Prod.ext (emod_congr ⟨x.1 * c - x.2 * d - (a * z.1 - b * z.2), ?_⟩) (emod_congr ⟨x.1 * d + x.2 * c - (a * z.2 + b * z.1), ?_⟩) <;> grind
theorem mul_comm (x y : Int × Int) : mul x y = mul y x := by
  unfold mul
  refine Prod.ext (congrArg (· % 16777199) ?_) (congrArg (· % 16777199) ?_) <;> grind
theorem mul_one (x : Int × Int) (h : right x.1 x.2 = true) : mul x (1, 0) = x := by
  obtain ⟨h1, h2, h3, h4⟩ := right_iff.1 h
  unfold mul
  refine Prod.ext ?_ ?_ <;> omega
theorem one_mul (x : Int × Int) (h : right x.1 x.2 = true) : mul (1, 0) x = x := by rw [mul_comm, mul_one x h]
theorem pow_add (x : Int × Int) (m n : Nat) : pow x (m + n) = mul (pow x m) (pow x n) := by
  induction n with
  | zero => exact (mul_one _ (pow_right x m)).symm
  | succ n ih => rw [← Nat.add_assoc, pow, ih, mul_assoc]; rfl
end Go.Proofs.Ytbiijcehgiibeaa.M
namespace Go.Proofs.Ytbiijcehgiibeaa.S
open Go.RowKit
theorem w_calls (w : World) : Calls Try.prog 71 #[] w fun e w' => e = .returned (.complex .f64 4679482798749253632 4689970232712757248) ∧ w = w' := by
  go_enter Try.func71, Try.ntmps71
  go_wp2
  go_ret
  exact ⟨rfl, rfl⟩
theorem bcell {W w1 : World} (hb : Below W.heap.size W w1) : (∀ b o, b < W.heap.size → w1.cell? ⟨b, o, none⟩ = W.cell? ⟨b, o, none⟩) ∧ (∀ b o, b < W.heap.size → w1.frozen? ⟨b, o, none⟩ = W.frozen? ⟨b, o, none⟩) :=
  ⟨fun b o h => hb.cell (p := ⟨b, o, none⟩) h, fun b o h => hb.frozen (p := ⟨b, o, none⟩) h⟩
theorem tmod_P (n : Int) : n.tmod 16777199 = if 0 ≤ n then n % 16777199 else -((-n) % 16777199) := by
  split
  · exact Int.tmod_eq_emod_of_nonneg ‹_›
  · rename_i h
    have := Int.neg_tmod (a := -n) (b := 16777199)
    rw [Int.neg_neg] at this
    rw [this, Int.tmod_eq_emod_of_nonneg (by omega)]
theorem part_num (n : Int) : (wrap64 (n.tmod 16777199 + 16777199)).tmod 16777199 = n % 16777199 := by
  rw [tmod_P n]
  have h : ∀ m : Int, 0 ≤ m → m < 2 * 16777199 → (wrap64 m).tmod 16777199 = m % 16777199 := by
    intro m h1 h2
    have : wrap64 m = m := by unfold wrap64; omega
    rw [this, tmod_P, if_pos h1]
  split
  · rw [h _ (by omega) (by omega)]; omega
  · rw [h _ (by omega) (by omega)]; omega
set_option maxHeartbeats 400000 in
theorem part_calls (x : Nat) (n : Int) (hx : M.FI x n) (hn : n.natAbs < 2 ^ 53) (w : World) : Calls Try.prog 85 #[.float .f64 x] w fun e w' => e = .returned (.int .i64 (n % 16777199)) ∧ w = w' := by
  have hc := fun (w : World) => run_convert_float_int (P := Try.prog) w 88 3 .f64 .i64 x n (by kernel_rfl) (by kernel_rfl) (M.to_int hx hn)
  have h1 : -9007199254740992 < n ∧ n < 9007199254740992 := by omega
  clear hn hx
  go_enter Try.func85, Try.ntmps85
  go_wp2
  go_ret
  rw [part_num]
  exact ⟨rfl, rfl⟩
set_option maxHeartbeats 400000 in
theorem number_calls (a b : Int) (w : World) : Calls Try.prog 69 #[.agg #[.int .i64 a, .int .i64 b]] w fun e w' => e = .returned (.complex .f64 (M.fl a) (M.fl b)) ∧ Below w.heap.size w w' := by
  go_enter Try.func69, Try.ntmps69
  go_wp2
  go_ret
  exact ⟨rfl, (Below.refl _ _).alloc (Nat.le_refl _) _⟩
set_option maxHeartbeats 400000 in
theorem seal_calls (x y : Nat) (a b : Int) (hx : M.FI x a) (hy : M.FI y b) (ha : a.natAbs < 2 ^ 53) (hb : b.natAbs < 2 ^ 53) (w : World) :
    Calls Try.prog 70 #[.complex .f64 x y] w fun e w' => e = .returned (.agg #[.int .i64 (a % 16777199), .int .i64 (b % 16777199)]) ∧ Below w.heap.size w w' := by
  have c1 := fun w => part_calls x a hx ha w
  have c2 := fun w => part_calls y b hy hb w
  clear hx hy ha hb
  go_enter Try.func70, Try.ntmps70
  go_wp2_with (first | ((with_reducible refine (c1 _).mono ?_); rintro e w' ⟨rfl, rfl⟩) | ((with_reducible refine (c2 _).mono ?_); rintro e w' ⟨rfl, rfl⟩))
  exact bodyPost_ret (v := .agg #[.int .i64 (a % 16777199), .int .i64 (b % 16777199)]) (by simp [results, Try.results70, go_sem]) rfl ⟨rfl, (Below.refl _ _).alloc (Nat.le_refl _) _⟩
set_option maxHeartbeats 400000 in
theorem start_calls (w : World) : Calls Try.prog 31 #[] w fun e w' => e = .returned (.agg #[.int .i64 1, .int .i64 2]) ∧ Below w.heap.size w w' := by
  have c1 := fun w => seal_calls 4607182418800017408 4611686018427387904 1 2 M.fi_one M.fi_two (by decide) (by decide) w
  rw [show (1 : Int) % 16777199 = 1 from rfl, show (2 : Int) % 16777199 = 2 from rfl] at c1
  go_enter Try.func31, Try.ntmps31
  go_wp2_with (((with_reducible refine (c1 _).mono ?_); rintro e w1 ⟨rfl, hb⟩; obtain ⟨hc, hf⟩ := bcell hb))
  exact bodyPost_ret (v := .agg #[.int .i64 1, .int .i64 2]) (by simp [results, Try.results31, go_sem, hc]) rfl ⟨rfl, ((((Below.refl _ _).alloc (Nat.le_refl _) _).trans (hb.mono (by simp))).setCell (Nat.le_refl _) _).setCell (Nat.le_refl _) _⟩
set_option maxHeartbeats 400000 in
theorem right_yes (a b : Int) (h : M.right a b = true) (w : World) : Calls Try.prog 30 #[.agg #[.int .i64 a, .int .i64 b]] w fun e w' => e = .returned (.bool true) ∧ Below w.heap.size w w' := by
  obtain ⟨h1, h2, h3, h4⟩ := M.right_iff.1 h
  clear h
  go_enter Try.func30, Try.ntmps30
  go_wp2
  go_ret
  exact ⟨rfl, (Below.refl _ _).alloc (Nat.le_refl _) _⟩
set_option maxHeartbeats 400000 in
theorem right_no (a b : Int) (h : M.right a b = false) (w : World) : Calls Try.prog 30 #[.agg #[.int .i64 a, .int .i64 b]] w fun e w' => e = .returned (.bool false) ∧ Below w.heap.size w w' := by
  have h5 : ¬ (0 ≤ a ∧ a < 16777199 ∧ 0 ≤ b ∧ b < 16777199) := by unfold M.right at h; exact of_decide_eq_false h
  clear h
  by_cases h1 : 0 ≤ a
  · by_cases h2 : a < 16777199
    · by_cases h3 : 0 ≤ b
      · have h4 : ¬ b < 16777199 := fun h => h5 ⟨h1, h2, h3, h⟩
        clear h5
        go_enter Try.func30, Try.ntmps30
        go_wp2
        go_ret
        exact ⟨rfl, (Below.refl _ _).alloc (Nat.le_refl _) _⟩
      · clear h5
        go_enter Try.func30, Try.ntmps30
        go_wp2
        go_ret
        exact ⟨rfl, (Below.refl _ _).alloc (Nat.le_refl _) _⟩
    · clear h5
      go_enter Try.func30, Try.ntmps30
      go_wp2
      go_ret
      exact ⟨rfl, (Below.refl _ _).alloc (Nat.le_refl _) _⟩
  · clear h5
    go_enter Try.func30, Try.ntmps30
    go_wp2
    go_ret
    exact ⟨rfl, (Below.refl _ _).alloc (Nat.le_refl _) _⟩
def CI (v : Value) (x : Int × Int) : Prop := ∃ p q, v = .complex .f64 p q ∧ M.FI p x.1 ∧ M.FI q x.2
theorem number_fi (x : Int × Int) (hx : M.right x.1 x.2 = true) : CI (.complex .f64 (M.fl x.1) (M.fl x.2)) x := by
  obtain ⟨a1, a2, a3, a4⟩ := M.right_iff.1 hx
  exact ⟨_, _, rfl, M.fl_int _ (by omega), M.fl_int _ (by omega)⟩
theorem fl_pair (a b : Int) : CI (.complex .f64 (M.fl (a % 16777199)) (M.fl (b % 16777199))) (a % 16777199, b % 16777199) := number_fi (a % 16777199, b % 16777199) (by rw [M.right_iff]; simp only; omega)
end Go.Proofs.Ytbiijcehgiibeaa.S
namespace Go.Proofs.Ytbiijcehgiibeaa.S
open Go.RowKit Go.Proofs.YtbiijcehgiibeaaW.PrintWords Go.Proofs.YtbiijcehgiibeaaW.PrintLast Go.Proofs.YtbiijcehgiibeaaW.PrintMore
set_option linter.unusedVariables false
set_option linter.unusedSimpArgs false
def t45.T : Bool × List (List Nat × List Nat) := (true, [([], []), ([0], [0]), ([], []), ([2, 1], [2]), ([1, 3], [1, 3]), ([4, 3], [4]), ([5, 5, 0, 1, 2, 3, 4, 5], [5]), ([6, 0, 1, 2, 3, 4, 5, 6], [])])
def t45.B : List Nat := [0, 1, 0, 7, 15, 31, 63, 127]
def t40.T : Bool × List (List Nat × List Nat) := (true, [([], []), ([0], [0]), ([1], []), ([2, 2], [2]), ([1, 3], [1, 3]), ([], []), ([4, 5], [4, 5]), ([], []), ([7, 3], [7]), ([6, 8], [6, 8]), ([9, 8], [9]), ([10, 10, 0, 1, 2, 3, 4, 5, 6, 7, 8, 9, 10], [10]), ([11, 0, 1, 2, 3, 4, 5, 6, 7, 8, 9, 10, 11], [])])
def t40.B : List Nat := [0, 1, 3, 7, 15, 0, 63, 0, 143, 511, 1023, 2047, 4095]
theorem add_run {v : Value} {x : Int × Int} {c : Int} (hv : CI v x) (hx : M.right x.1 x.2 = true) (h0 : 0 ≤ c) (h1 : c < 256) :
    ∃ r p q p2 q2, (∀ w t, (binOp .add t (.float .f64 (floatOfInt .f64 c)) (.float .f64 4607182418800017408)).run Try.prog w = .ok (.float .f64 r) w) ∧ (∀ w t, (binOp .mul t v (.complex .f64 4679482798749253632 4689970232712757248)).run Try.prog w = .ok (.complex .f64 p q) w) ∧
      (∀ w t, (binOp .add t (.complex .f64 p q) (.complex .f64 r 0)).run Try.prog w = .ok (.complex .f64 p2 q2) w) ∧ (∀ w, Calls Try.prog 70 #[.complex .f64 p2 q2] w fun e w' => e = .returned (.agg #[.int .i64 (M.step x c).1, .int .i64 (M.step x c).2]) ∧ Below w.heap.size w w') := by
  obtain ⟨p0, q0, rfl, f1, f2⟩ := hv
  obtain ⟨a1, a2, a3, a4⟩ := M.right_iff.1 hx
  obtain ⟨r, e1, g1⟩ := M.add_int (M.fl_int c (by omega)) M.fi_one (by omega)
  obtain ⟨p, q, e2, g2, g3⟩ := M.cmul_int f1 f2 M.fi_wre M.fi_wim (by omega) (by omega) (by omega) (by omega)
  obtain ⟨p2, q2, e3, g4, g5⟩ := M.cadd_int g2 g3 g1 M.fi_zero (by omega) (by omega)
  refine ⟨r, p, q, p2, q2, fun w t => run_float_arith w .add t .f64 _ _ _ e1, fun w t => run_complex_mul w t _ _ _ _ _ _ e2, fun w t => run_complex_sum w .add (.inl rfl) t _ _ _ _ _ _ _ e3, fun w => ?_⟩
  have := seal_calls p2 q2 _ _ g4 g5 (by omega) (by omega) w
  rw [Int.add_zero] at this
  exact this
theorem seal_right {v : Value} {x : Int × Int} (hv : CI v x) (hx : M.right x.1 x.2 = true) (w : World) : Calls Try.prog 70 #[v] w fun e w' => e = .returned (.agg #[.int .i64 x.1, .int .i64 x.2]) ∧ Below w.heap.size w w' := by
  obtain ⟨p, q, rfl, hp, hq⟩ := hv
  obtain ⟨a1, a2, a3, a4⟩ := M.right_iff.1 hx
  have := seal_calls p q _ _ hp hq (by omega) (by omega) w
  rw [show x.1 % 16777199 = x.1 by omega, show x.2 % 16777199 = x.2 by omega] at this
  exact this
set_option maxHeartbeats 4000000 in
set_option maxRecDepth 100000 in
theorem add_ext (a b : Int) (A : Option Addr) (cap : Nat) (l : List Int) (r1 r2 r3 : Int) (w : World) (hr : Kd.C (Kd.int .u8) w A l.length l) (hc : l.length ≤ cap) (h : (if M.right a b = true then if M.bytes l = true then if (l.length : Int) ≤ 9223372036854775807 then some ((M.add (a, b) l).1, (M.add (a, b) l).2, (0 : Int)) else none else none else some (0, 0, 20)) = some (r1, r2, r3)) :
    Calls Try.prog 27 #[.agg #[.int .i64 a, .int .i64 b], .slice A l.length cap] w fun e w' => e = .returned (.tuple #[.agg #[.int .i64 r1, .int .i64 r2], .int .i64 r3]) ∧ Below w.heap.size w w' := by
  have hu23 := Try.underlying23
  have HB := Lib.hid (Below.refl w.heap.size w)
  have HR := Lib.hid hr
  clear hr hc
  by_cases hy : M.right a b = true
  · rw [if_pos hy] at h
    have cr := fun w => right_yes a b hy w
    by_cases hby : M.bytes l = true
    · rw [if_pos hby] at h
      by_cases hlen : (l.length : Int) ≤ 9223372036854775807
      · rw [if_pos hlen] at h
        obtain ⟨rfl, rfl, rfl⟩ : (M.add (a, b) l).1 = r1 ∧ (M.add (a, b) l).2 = r2 ∧ 0 = r3 := by simpa using h
        generalize hz : M.add (a, b) l = zz
        obtain ⟨z1, z2⟩ := zz
        have Hzz := Lib.hid hz
        have Hy := Lib.hid hy
        have Hby := Lib.hid hby
        clear h hy hby hz
        simp only
        go_enter Try.func27, Try.ntmps27
        go_wp2_with (first | ((with_reducible refine gate_dst (N := 2) rfl ?_); refine box_event ?hg (N := 2) ?hd (cs := #[.int .i64 a, .int .i64 b]) (t := 23) ?hr ?_; (case hd => rfl); (case hg => rfl); (case hr => first | (go_simp; done) | (go_simp; rfl)); intro g1 hg w1 hbox hb; have Gg1 := Lib.hid ((by rw [hg]; exact below_size HB.out) : w.heap.size ≤ g1); have nB := Lib.hid (below_step HB.out hb); clear HB; have HB := nB; clear nB; have Kg1 := Lib.hid hbox; clear hb hbox hg) | ((with_reducible refine gate_dst (N := 4) rfl ?_); refine box_event ?hg (N := 4) ?hd (cs := #[.int .i64 0, .int .i64 0]) (t := 23) ?hr ?_; (case hd => rfl); (case hg => rfl); (case hr => first | (go_simp; done) | (go_simp; rfl)); intro g2 hg w2 hbox hb; have Gg2 := Lib.hid ((by rw [hg]; exact below_size HB.out) : w.heap.size ≤ g2); have Ng1_g2 : Hid (g1 ≠ g2) := Lib.hid (by rw [hg]; exact Nat.ne_of_lt (blk_lt (g := g1) (o := .cells #[.int .i64 a, .int .i64 b] 23 (0, 0)) Kg1.out)); have Ng2_g1 : Hid (g2 ≠ g1) := Lib.hid (by rw [hg]; exact Nat.ne_of_gt (blk_lt (g := g1) (o := .cells #[.int .i64 a, .int .i64 b] 23 (0, 0)) Kg1.out)); have ng1 := Lib.hid (blk_below (g := g1) (o := .cells #[.int .i64 a, .int .i64 b] 23 (0, 0)) Kg1.out hb); clear Kg1; have Kg1 := ng1; clear ng1; have nB := Lib.hid (below_step HB.out hb); clear HB; have HB := nB; clear nB; have Kg2 := Lib.hid hbox; clear hb hbox hg; have ka_g1_0 : w2.cell? ⟨g1, 0, none⟩ = some (.int .i64 a) := (blk_cell Kg1.out 0).trans rfl; have fa_g1_0 := blk_frozen Kg1.out 0; have ka_g1_1 : w2.cell? ⟨g1, 1, none⟩ = some (.int .i64 b) := (blk_cell Kg1.out 1).trans rfl; have fa_g1_1 := blk_frozen Kg1.out 1; have ka_g2_0 : w2.cell? ⟨g2, 0, none⟩ = some (.int .i64 0) := (blk_cell Kg2.out 0).trans rfl; have fa_g2_0 := blk_frozen Kg2.out 0; have ka_g2_1 : w2.cell? ⟨g2, 1, none⟩ = some (.int .i64 0) := (blk_cell Kg2.out 1).trans rfl; have fa_g2_1 := blk_frozen Kg2.out 1) | ((with_reducible refine (cr _).mono ?_); rintro e w3 ⟨rfl, hb⟩; have ng1 := Lib.hid (blk_below (g := g1) (o := .cells #[.int .i64 a, .int .i64 b] 23 (0, 0)) Kg1.out hb); clear Kg1; have Kg1 := ng1; clear ng1; have ng2 := Lib.hid (blk_below (g := g2) (o := .cells #[.int .i64 0, .int .i64 0] 23 (0, 0)) Kg2.out hb); clear Kg2; have Kg2 := ng2; clear ng2; have nB := Lib.hid (below_step HB.out hb); clear HB; have HB := nB; clear nB hb; have kb_g1_0 : w3.cell? ⟨g1, 0, none⟩ = some (.int .i64 a) := (blk_cell Kg1.out 0).trans rfl; have fb_g1_0 := blk_frozen Kg1.out 0; have kb_g1_1 : w3.cell? ⟨g1, 1, none⟩ = some (.int .i64 b) := (blk_cell Kg1.out 1).trans rfl; have fb_g1_1 := blk_frozen Kg1.out 1; have kb_g2_0 : w3.cell? ⟨g2, 0, none⟩ = some (.int .i64 0) := (blk_cell Kg2.out 0).trans rfl; have fb_g2_0 := blk_frozen Kg2.out 0; have kb_g2_1 : w3.cell? ⟨g2, 1, none⟩ = some (.int .i64 0) := (blk_cell Kg2.out 1).trans rfl; have fb_g2_1 := blk_frozen Kg2.out 1) | ((with_reducible refine (number_calls a b _).mono ?_); rintro e w4 ⟨rfl, hb⟩; have ng1 := Lib.hid (blk_below (g := g1) (o := .cells #[.int .i64 a, .int .i64 b] 23 (0, 0)) Kg1.out hb); clear Kg1; have Kg1 := ng1; clear ng1; have ng2 := Lib.hid (blk_below (g := g2) (o := .cells #[.int .i64 0, .int .i64 0] 23 (0, 0)) Kg2.out hb); clear Kg2; have Kg2 := ng2; clear ng2; have nB := Lib.hid (below_step HB.out hb); clear HB; have HB := nB; clear nB hb; have kc_g1_0 : w4.cell? ⟨g1, 0, none⟩ = some (.int .i64 a) := (blk_cell Kg1.out 0).trans rfl; have fc_g1_0 := blk_frozen Kg1.out 0; have kc_g1_1 : w4.cell? ⟨g1, 1, none⟩ = some (.int .i64 b) := (blk_cell Kg1.out 1).trans rfl; have fc_g1_1 := blk_frozen Kg1.out 1; have kc_g2_0 : w4.cell? ⟨g2, 0, none⟩ = some (.int .i64 0) := (blk_cell Kg2.out 0).trans rfl; have fc_g2_0 := blk_frozen Kg2.out 0; have kc_g2_1 : w4.cell? ⟨g2, 1, none⟩ = some (.int .i64 0) := (blk_cell Kg2.out 1).trans rfl; have fc_g2_1 := blk_frozen Kg2.out 1))
        go_loopg [6, 17] (l.length + 1) (fun kq v6 v17 w' => ∃ i : Int, v17 = .int .i64 i ∧ Hid (0 ≤ i ∧ i ≤ l.length ∧ l.length - i.toNat < kq) ∧ Hid (CI v6 (M.add (a, b) (l.take i.toNat))) ∧ Hid (w'.heap[g1]? = some (.cells #[.int .i64 a, .int .i64 b] 23 (0, 0))) ∧ Hid (w'.heap[g2]? = some (.cells #[.int .i64 0, .int .i64 0] 23 (0, 0))) ∧ Hid (Below w.heap.size w w'))
        case atStart => exact ⟨0, rfl, ⟨by omega, by omega, by omega⟩, number_fi (a, b) Hy.out, Kg1, Kg2, HB⟩
        case round =>
          clear HB Kg1 Kg2
          obtain ⟨i, rfl, hi, hci, Kg1, Kg2, HB⟩ := hrel
          obtain ⟨i0, i1, i2⟩ := hi.out
          clear hi
          obtain ⟨k1, rfl⟩ : ∃ k1, gk = k1 + 1 := ⟨gk - 1, by omega⟩
          have hzr := M.add_right (l.take i.toNat) (a, b) Hy.out
          by_cases hlt : i < (l.length : Int)
          · have hcb := M.bytes_getD Hby.out i.toNat
            obtain ⟨r, p, q, p2, q2, j1, j2, j3, cs⟩ := add_run hci.out hzr hcb.1 hcb.2
            obtain ⟨ad, hA, hx⟩ := Kd.at_int (Kd.C_below HR.out HB.out) i i0 hlt
            cases hA
            have hx' : wr.cell? (ad.add i.toNat) = some (.int .u8 (l.getD i.toNat 0)) := hx
            clear hx
            have hst := M.add_take (a, b) l i.toNat (by omega)
            generalize hcv : l.getD i.toNat 0 = cv at *
            generalize M.add (a, b) (l.take i.toNat) = z at *
            have hfp := fl_pair ((z.1 * 69069 - z.2 * 362437 + (cv + 1))) (z.1 * 362437 + z.2 * 69069)
            change CI (.complex .f64 (M.fl (M.step z cv).1) (M.fl (M.step z cv).2)) (M.step z cv) at hfp
            generalize M.step z cv = sz at *
            obtain ⟨y1, y2⟩ := sz
            simp only at hfp cs
            have Hfp := Lib.hid hfp
            have Hst := Lib.hid hst
            clear hst hcv hzr hci hcb hfp
            go_wp2_with (first | ((with_reducible refine (w_calls _).mono ?_); rintro e wx ⟨rfl, rfl⟩) | ((with_reducible refine (cs _).mono ?_); rintro e w5 ⟨rfl, hb⟩; have ng1 := Lib.hid (blk_below (g := g1) (o := .cells #[.int .i64 a, .int .i64 b] 23 (0, 0)) Kg1.out hb); clear Kg1; have Kg1 := ng1; clear ng1; have ng2 := Lib.hid (blk_below (g := g2) (o := .cells #[.int .i64 0, .int .i64 0] 23 (0, 0)) Kg2.out hb); clear Kg2; have Kg2 := ng2; clear ng2; have nB := Lib.hid (below_step HB.out hb); clear HB; have HB := nB; clear nB hb; have kd_g1_0 : w5.cell? ⟨g1, 0, none⟩ = some (.int .i64 a) := (blk_cell Kg1.out 0).trans rfl; have fd_g1_0 := blk_frozen Kg1.out 0; have kd_g1_1 : w5.cell? ⟨g1, 1, none⟩ = some (.int .i64 b) := (blk_cell Kg1.out 1).trans rfl; have fd_g1_1 := blk_frozen Kg1.out 1; have kd_g2_0 : w5.cell? ⟨g2, 0, none⟩ = some (.int .i64 0) := (blk_cell Kg2.out 0).trans rfl; have fd_g2_0 := blk_frozen Kg2.out 0; have kd_g2_1 : w5.cell? ⟨g2, 1, none⟩ = some (.int .i64 0) := (blk_cell Kg2.out 1).trans rfl; have fd_g2_1 := blk_frozen Kg2.out 1) | ((with_reducible refine (number_calls y1 y2 _).mono ?_); rintro e w6 ⟨rfl, hb⟩; have ng1 := Lib.hid (blk_below (g := g1) (o := .cells #[.int .i64 a, .int .i64 b] 23 (0, 0)) Kg1.out hb); clear Kg1; have Kg1 := ng1; clear ng1; have ng2 := Lib.hid (blk_below (g := g2) (o := .cells #[.int .i64 0, .int .i64 0] 23 (0, 0)) Kg2.out hb); clear Kg2; have Kg2 := ng2; clear ng2; have nB := Lib.hid (below_step HB.out hb); clear HB; have HB := nB; clear nB hb; have ke_g1_0 : w6.cell? ⟨g1, 0, none⟩ = some (.int .i64 a) := (blk_cell Kg1.out 0).trans rfl; have fe_g1_0 := blk_frozen Kg1.out 0; have ke_g1_1 : w6.cell? ⟨g1, 1, none⟩ = some (.int .i64 b) := (blk_cell Kg1.out 1).trans rfl; have fe_g1_1 := blk_frozen Kg1.out 1; have ke_g2_0 : w6.cell? ⟨g2, 0, none⟩ = some (.int .i64 0) := (blk_cell Kg2.out 0).trans rfl; have fe_g2_0 := blk_frozen Kg2.out 0; have ke_g2_1 : w6.cell? ⟨g2, 1, none⟩ = some (.int .i64 0) := (blk_cell Kg2.out 1).trans rfl; have fe_g2_1 := blk_frozen Kg2.out 1))
            go_roundg k1
            case measure => omega
            case rel =>
              exact ⟨i + 1, by go_num, ⟨by omega, by omega, by omega⟩, by rw [show (i + 1).toNat = i.toNat + 1 by omega, Hst.out]; exact Hfp, Kg1, Kg2, HB⟩
          · obtain rfl : i = (l.length : Int) := by omega
            rw [show ((l.length : Int)).toNat = l.length by omega, List.take_length] at hci hzr
            rw [Hzz.out] at hci hzr
            have Hz := Lib.hid hzr
            clear Hzz
            have cs := fun w => seal_right hci.out Hz.out w
            simp only at cs
            clear Hz hci hzr
            have hlt2 : decide (l.length < l.length) = false := by simp
            have kf_g2_0 : wr.cell? ⟨g2, 0, none⟩ = some (.int .i64 0) := (blk_cell Kg2.out 0).trans rfl
            have ff_g2_0 := blk_frozen Kg2.out 0
            have kf_g2_1 : wr.cell? ⟨g2, 1, none⟩ = some (.int .i64 0) := (blk_cell Kg2.out 1).trans rfl
            have ff_g2_1 := blk_frozen Kg2.out 1
            go_wp2_with (first | ((with_reducible refine (cs _).mono ?_); rintro e w7 ⟨rfl, hb⟩; have ng1 := Lib.hid (blk_below (g := g1) (o := .cells #[.int .i64 a, .int .i64 b] 23 (0, 0)) Kg1.out hb); clear Kg1; have Kg1 := ng1; clear ng1; have ng2 := Lib.hid (blk_below (g := g2) (o := .cells #[.int .i64 0, .int .i64 0] 23 (0, 0)) Kg2.out hb); clear Kg2; have Kg2 := ng2; clear ng2; have nB := Lib.hid (below_step HB.out hb); clear HB; have HB := nB; clear nB hb; have kg_g1_0 : w7.cell? ⟨g1, 0, none⟩ = some (.int .i64 a) := (blk_cell Kg1.out 0).trans rfl; have fg_g1_0 := blk_frozen Kg1.out 0; have kg_g1_1 : w7.cell? ⟨g1, 1, none⟩ = some (.int .i64 b) := (blk_cell Kg1.out 1).trans rfl; have fg_g1_1 := blk_frozen Kg1.out 1; have kg_g2_0 : w7.cell? ⟨g2, 0, none⟩ = some (.int .i64 0) := (blk_cell Kg2.out 0).trans rfl; have fg_g2_0 := blk_frozen Kg2.out 0; have kg_g2_1 : w7.cell? ⟨g2, 1, none⟩ = some (.int .i64 0) := (blk_cell Kg2.out 1).trans rfl; have fg_g2_1 := blk_frozen Kg2.out 1))
            refine bodyPost_ret (results_ct rfl _ _ g2 23 #[.int .i64 z1, .int .i64 z2] (0, 0) _ rfl (by refine blk_put (cs := #[.int .i64 z1, .int .i64 0]) ?_ 1 _ rfl; refine blk_put (cs := #[.int .i64 0, .int .i64 0]) ?_ 0 _ rfl; exact Kg2.out) Try.underlying23 rfl (by kernel_rfl)) rfl ?_
            exact ⟨rfl, by repeat (first | (with_reducible exact HB.out) | refine below_set ?_ Gg1.out | refine below_set ?_ Gg2.out)⟩
      · rw [if_neg hlen] at h
        exact absurd h (by simp)
    · rw [if_neg hby] at h
      exact absurd h (by simp)
  · have hr2 := Bool.eq_false_iff.2 hy
    rw [if_neg hy] at h
    have cr := fun w => right_no a b hr2 w
    obtain ⟨rfl, rfl, rfl⟩ : 0 = r1 ∧ 0 = r2 ∧ 20 = r3 := by simpa using h
    clear h hy hr2
    go_enter Try.func27, Try.ntmps27
    go_wp2_with (first | ((with_reducible refine gate_dst (N := 2) rfl ?_); refine box_event ?hg (N := 2) ?hd (cs := #[.int .i64 a, .int .i64 b]) (t := 23) ?hr ?_; (case hd => rfl); (case hg => rfl); (case hr => first | (go_simp; done) | (go_simp; rfl)); intro g1 hg w1 hbox hb; have Gg1 := Lib.hid ((by rw [hg]; exact below_size HB.out) : w.heap.size ≤ g1); have nB := Lib.hid (below_step HB.out hb); clear HB; have HB := nB; clear nB; have Kg1 := Lib.hid hbox; clear hb hbox hg) | ((with_reducible refine gate_dst (N := 4) rfl ?_); refine box_event ?hg (N := 4) ?hd (cs := #[.int .i64 0, .int .i64 0]) (t := 23) ?hr ?_; (case hd => rfl); (case hg => rfl); (case hr => first | (go_simp; done) | (go_simp; rfl)); intro g2 hg w2 hbox hb; have Gg2 := Lib.hid ((by rw [hg]; exact below_size HB.out) : w.heap.size ≤ g2); have Ng1_g2 : Hid (g1 ≠ g2) := Lib.hid (by rw [hg]; exact Nat.ne_of_lt (blk_lt (g := g1) (o := .cells #[.int .i64 a, .int .i64 b] 23 (0, 0)) Kg1.out)); have Ng2_g1 : Hid (g2 ≠ g1) := Lib.hid (by rw [hg]; exact Nat.ne_of_gt (blk_lt (g := g1) (o := .cells #[.int .i64 a, .int .i64 b] 23 (0, 0)) Kg1.out)); have ng1 := Lib.hid (blk_below (g := g1) (o := .cells #[.int .i64 a, .int .i64 b] 23 (0, 0)) Kg1.out hb); clear Kg1; have Kg1 := ng1; clear ng1; have nB := Lib.hid (below_step HB.out hb); clear HB; have HB := nB; clear nB; have Kg2 := Lib.hid hbox; clear hb hbox hg; have ka_g1_0 : w2.cell? ⟨g1, 0, none⟩ = some (.int .i64 a) := (blk_cell Kg1.out 0).trans rfl; have fa_g1_0 := blk_frozen Kg1.out 0; have ka_g1_1 : w2.cell? ⟨g1, 1, none⟩ = some (.int .i64 b) := (blk_cell Kg1.out 1).trans rfl; have fa_g1_1 := blk_frozen Kg1.out 1; have ka_g2_0 : w2.cell? ⟨g2, 0, none⟩ = some (.int .i64 0) := (blk_cell Kg2.out 0).trans rfl; have fa_g2_0 := blk_frozen Kg2.out 0; have ka_g2_1 : w2.cell? ⟨g2, 1, none⟩ = some (.int .i64 0) := (blk_cell Kg2.out 1).trans rfl; have fa_g2_1 := blk_frozen Kg2.out 1) | ((with_reducible refine (cr _).mono ?_); rintro e w3 ⟨rfl, hb⟩; have ng1 := Lib.hid (blk_below (g := g1) (o := .cells #[.int .i64 a, .int .i64 b] 23 (0, 0)) Kg1.out hb); clear Kg1; have Kg1 := ng1; clear ng1; have ng2 := Lib.hid (blk_below (g := g2) (o := .cells #[.int .i64 0, .int .i64 0] 23 (0, 0)) Kg2.out hb); clear Kg2; have Kg2 := ng2; clear ng2; have nB := Lib.hid (below_step HB.out hb); clear HB; have HB := nB; clear nB hb; have kb_g1_0 : w3.cell? ⟨g1, 0, none⟩ = some (.int .i64 a) := (blk_cell Kg1.out 0).trans rfl; have fb_g1_0 := blk_frozen Kg1.out 0; have kb_g1_1 : w3.cell? ⟨g1, 1, none⟩ = some (.int .i64 b) := (blk_cell Kg1.out 1).trans rfl; have fb_g1_1 := blk_frozen Kg1.out 1; have kb_g2_0 : w3.cell? ⟨g2, 0, none⟩ = some (.int .i64 0) := (blk_cell Kg2.out 0).trans rfl; have fb_g2_0 := blk_frozen Kg2.out 0; have kb_g2_1 : w3.cell? ⟨g2, 1, none⟩ = some (.int .i64 0) := (blk_cell Kg2.out 1).trans rfl; have fb_g2_1 := blk_frozen Kg2.out 1))
    refine bodyPost_ret (results_ct rfl _ _ g2 23 #[.int .i64 0, .int .i64 0] (0, 0) _ rfl (by refine blk_put (cs := #[.int .i64 0, .int .i64 0]) ?_ 1 _ rfl; refine blk_put (cs := #[.int .i64 0, .int .i64 0]) ?_ 0 _ rfl; exact Kg2.out) Try.underlying23 rfl (by kernel_rfl)) rfl ?_
    exact ⟨rfl, by repeat (first | (with_reducible exact HB.out) | refine below_set ?_ Gg1.out | refine below_set ?_ Gg2.out)⟩
end Go.Proofs.Ytbiijcehgiibeaa.S
namespace Go.Proofs.Ytbiijcehgiibeaa.Q
open Go.RowKit Go.Proofs.YtbiijcehgiibeaaW.PrintWords Go.Proofs.YtbiijcehgiibeaaW.PrintLast Go.Proofs.YtbiijcehgiibeaaW.PrintMore
attribute [local go_sem] max2_int min2_int max_two min_two max_three min_three max_four min_four   -- for this text's walks alone
set_option linter.unusedVariables false
set_option linter.unusedSimpArgs false
def errW : Option Int → Value
  | none => .nilIface
  | some c => .iface 0 (.int .i64 c)
theorem errW_none : errW none = .nilIface := rfl
theorem errW_some (c : Int) : errW (some c) = .iface 0 (.int .i64 c) := rfl
theorem info5 : (Try.prog.info? 5).map (fun i => (i.zero, i.size, i.bytes)) = some (some (.int .u8 0), 1, 1) := by kernel_rfl
end Go.Proofs.Ytbiijcehgiibeaa.Q
namespace Go.Proofs.Ytbiijcehgiibeaa.Q
open Go.RowKit Go.Proofs.YtbiijcehgiibeaaW.PrintWords Go.Proofs.YtbiijcehgiibeaaW.PrintLast Go.Proofs.YtbiijcehgiibeaaW.PrintMore
attribute [local go_sem] max2_int min2_int max_two min_two max_three min_three max_four min_four   -- for this text's walks alone
set_option linter.unusedVariables false
set_option linter.unusedSimpArgs false
theorem eqA23 (d : Nat) (w : World) (x0 y0 : Int) (x1 y1 : Int) :
    (Op.equalIn (d + 2) 23 (.agg #[.int .i64 x0, .int .i64 x1]) (.agg #[.int .i64 y0, .int .i64 y1])).run Try.prog w = .ok (x0 == y0 && (x1 == y1)) w := by
  refine eqA_of Try.underlying23 (by kernel_rfl) ?_
  refine eqf_cons (by rfl) (by go_simp; rfl) (by go_simp; rfl) (by go_simp) ?_
  exact eqf_last (by rfl) (by go_simp; rfl) (by go_simp; rfl) (by go_simp)
end Go.Proofs.Ytbiijcehgiibeaa.Q
namespace Go.Proofs.Ytbiijcehgiibeaa.Q
open Go.RowKit Go.Proofs.YtbiijcehgiibeaaW.PrintWords Go.Proofs.YtbiijcehgiibeaaW.PrintLast Go.Proofs.YtbiijcehgiibeaaW.PrintMore
attribute [local go_sem] max2_int min2_int max_two min_two max_three min_three max_four min_four   -- for this text's walks alone
set_option linter.unusedVariables false
set_option linter.unusedSimpArgs false
def seal_Right.f (a0_0 : Int) (a0_1 : Int) : Option (Bool) := if a0_0 ≥ 0 then (if a0_0 < 16777199 then (if a0_1 ≥ 0 then (some (decide (a0_1 < 16777199))) else (some false)) else (some false)) else (some false)
set_option maxHeartbeats 8000000 in
set_option maxRecDepth 100000 in
theorem seal_Right.calls (a0_0 : Int) (a0_1 : Int) (r : Bool) (w : World) (h : seal_Right.f a0_0 a0_1 = some r) :
    Calls Try.prog 30 #[.agg #[.int .i64 a0_0, .int .i64 a0_1]] w fun e w' => e = .returned (.bool r) ∧ Below w.heap.size w w' := by
  have hu23 := Try.underlying23
  have HB := Aside0.mk (Below.refl w.heap.size w)
  have H : (if a0_0 ≥ 0 then (if a0_0 < 16777199 then (if a0_1 ≥ 0 then (some (decide (a0_1 < 16777199))) else (some false)) else (some false)) else (some false)) = some r := h
  clear h
  by_cases c2 : a0_0 ≥ 0
  · rw [if_pos c2] at H
    have c2b0 : decide (0 ≤ a0_0) = true := decide_eq_true c2
    clear c2
    by_cases c3 : a0_0 < 16777199
    · rw [if_pos c3] at H
      have c3b0 : decide (a0_0 < 16777199) = true := decide_eq_true c3
      clear c3
      by_cases c4 : a0_1 ≥ 0
      · rw [if_pos c4] at H
        have c4b0 : decide (0 ≤ a0_1) = true := decide_eq_true c4
        clear c4
        obtain rfl := Option.some.inj H
        go_enter Try.func30, Try.ntmps30
        go_wp2_with (first | ((with_reducible refine gate_dst (N := 1) rfl ?_); refine box_event ?hg (N := 1) ?hd (cs := #[.int .i64 a0_0, .int .i64 a0_1]) (t := 23) ?hr ?_; (case hd => rfl); (case hg => rfl); (case hr => first | (go_simp; done) | (go_simp; rfl)); intro gb101 hg w5 hbox hb; have n0_ := Aside0.mk (below_step (by repeat (first | (with_reducible first | exact HB.out | apply below_alloc | apply pw_below_drewN | apply below_drew1) | exact HB.out)) hb); have n1_ := Aside0.mk (hbox); have n2_ := Aside0.mk ((by rw [hg]; exact (below_size (by repeat (first | (with_reducible first | exact HB.out | apply below_alloc | apply pw_below_drewN | apply below_drew1) | exact HB.out))) : w.heap.size ≤ gb101)); have n3_ := Aside0.mk ((by rw [hg]; exact (below_size (by repeat (first | (with_reducible first | exact HB.out | apply below_alloc | apply pw_below_drewN | apply below_drew1) | exact HB.out))) : w.heap.size ≤ gb101)); clear HB; have HB := n0_; have BK101 := n1_; have GW101 := n2_; have GE101 := n3_; clear n0_ n1_ n2_ n3_; clear hb hbox hg; have hcz6_0 : w5.cell? ⟨gb101, 0, none⟩ = some (.int .i64 a0_0) := (blk_cell BK101.out 0).trans rfl; have hcz6_1 : w5.cell? ⟨gb101, 1, none⟩ = some (.int .i64 a0_1) := (blk_cell BK101.out 1).trans rfl; have hfz6_0 := blk_frozen BK101.out 0; have hfz6_1 := blk_frozen BK101.out 1))
        go_ret
        exact ⟨by first | rfl | (simp [errW_none, errW_some] <;> rfl) | (simp [*, errW_none, errW_some] <;> rfl), by repeat (first | (with_reducible first | exact HB.out | apply below_alloc | apply pw_below_drewN | apply below_drew1 | refine below_set ?_ GE101.out) | exact HB.out)⟩
      · rw [if_neg c4] at H
        have c4b0 : decide (0 ≤ a0_1) = false := decide_eq_false c4
        clear c4
        obtain rfl := Option.some.inj H
        go_enter Try.func30, Try.ntmps30
        go_wp2_with (first | ((with_reducible refine gate_dst (N := 1) rfl ?_); refine box_event ?hg (N := 1) ?hd (cs := #[.int .i64 a0_0, .int .i64 a0_1]) (t := 23) ?hr ?_; (case hd => rfl); (case hg => rfl); (case hr => first | (go_simp; done) | (go_simp; rfl)); intro gb101 hg w7 hbox hb; have n0_ := Aside0.mk (below_step (by repeat (first | (with_reducible first | exact HB.out | apply below_alloc | apply pw_below_drewN | apply below_drew1) | exact HB.out)) hb); have n1_ := Aside0.mk (hbox); have n2_ := Aside0.mk ((by rw [hg]; exact (below_size (by repeat (first | (with_reducible first | exact HB.out | apply below_alloc | apply pw_below_drewN | apply below_drew1) | exact HB.out))) : w.heap.size ≤ gb101)); have n3_ := Aside0.mk ((by rw [hg]; exact (below_size (by repeat (first | (with_reducible first | exact HB.out | apply below_alloc | apply pw_below_drewN | apply below_drew1) | exact HB.out))) : w.heap.size ≤ gb101)); clear HB; have HB := n0_; have BK101 := n1_; have GW101 := n2_; have GE101 := n3_; clear n0_ n1_ n2_ n3_; clear hb hbox hg; have hcz8_0 : w7.cell? ⟨gb101, 0, none⟩ = some (.int .i64 a0_0) := (blk_cell BK101.out 0).trans rfl; have hcz8_1 : w7.cell? ⟨gb101, 1, none⟩ = some (.int .i64 a0_1) := (blk_cell BK101.out 1).trans rfl; have hfz8_0 := blk_frozen BK101.out 0; have hfz8_1 := blk_frozen BK101.out 1))
        go_ret
        exact ⟨by first | rfl | (simp [errW_none, errW_some] <;> rfl) | (simp [*, errW_none, errW_some] <;> rfl), by repeat (first | (with_reducible first | exact HB.out | apply below_alloc | apply pw_below_drewN | apply below_drew1 | refine below_set ?_ GE101.out) | exact HB.out)⟩
    · rw [if_neg c3] at H
      have c3b0 : decide (a0_0 < 16777199) = false := decide_eq_false c3
      clear c3
      obtain rfl := Option.some.inj H
      go_enter Try.func30, Try.ntmps30
      go_wp2_with (first | ((with_reducible refine gate_dst (N := 1) rfl ?_); refine box_event ?hg (N := 1) ?hd (cs := #[.int .i64 a0_0, .int .i64 a0_1]) (t := 23) ?hr ?_; (case hd => rfl); (case hg => rfl); (case hr => first | (go_simp; done) | (go_simp; rfl)); intro gb101 hg w9 hbox hb; have n0_ := Aside0.mk (below_step (by repeat (first | (with_reducible first | exact HB.out | apply below_alloc | apply pw_below_drewN | apply below_drew1) | exact HB.out)) hb); have n1_ := Aside0.mk (hbox); have n2_ := Aside0.mk ((by rw [hg]; exact (below_size (by repeat (first | (with_reducible first | exact HB.out | apply below_alloc | apply pw_below_drewN | apply below_drew1) | exact HB.out))) : w.heap.size ≤ gb101)); have n3_ := Aside0.mk ((by rw [hg]; exact (below_size (by repeat (first | (with_reducible first | exact HB.out | apply below_alloc | apply pw_below_drewN | apply below_drew1) | exact HB.out))) : w.heap.size ≤ gb101)); clear HB; have HB := n0_; have BK101 := n1_; have GW101 := n2_; have GE101 := n3_; clear n0_ n1_ n2_ n3_; clear hb hbox hg; have hcz10_0 : w9.cell? ⟨gb101, 0, none⟩ = some (.int .i64 a0_0) := (blk_cell BK101.out 0).trans rfl; have hcz10_1 : w9.cell? ⟨gb101, 1, none⟩ = some (.int .i64 a0_1) := (blk_cell BK101.out 1).trans rfl; have hfz10_0 := blk_frozen BK101.out 0; have hfz10_1 := blk_frozen BK101.out 1))
      go_ret
      exact ⟨by first | rfl | (simp [errW_none, errW_some] <;> rfl) | (simp [*, errW_none, errW_some] <;> rfl), by repeat (first | (with_reducible first | exact HB.out | apply below_alloc | apply pw_below_drewN | apply below_drew1 | refine below_set ?_ GE101.out) | exact HB.out)⟩
  · rw [if_neg c2] at H
    have c2b0 : decide (0 ≤ a0_0) = false := decide_eq_false c2
    clear c2
    obtain rfl := Option.some.inj H
    go_enter Try.func30, Try.ntmps30
    go_wp2_with (first | ((with_reducible refine gate_dst (N := 1) rfl ?_); refine box_event ?hg (N := 1) ?hd (cs := #[.int .i64 a0_0, .int .i64 a0_1]) (t := 23) ?hr ?_; (case hd => rfl); (case hg => rfl); (case hr => first | (go_simp; done) | (go_simp; rfl)); intro gb101 hg w11 hbox hb; have n0_ := Aside0.mk (below_step (by repeat (first | (with_reducible first | exact HB.out | apply below_alloc | apply pw_below_drewN | apply below_drew1) | exact HB.out)) hb); have n1_ := Aside0.mk (hbox); have n2_ := Aside0.mk ((by rw [hg]; exact (below_size (by repeat (first | (with_reducible first | exact HB.out | apply below_alloc | apply pw_below_drewN | apply below_drew1) | exact HB.out))) : w.heap.size ≤ gb101)); have n3_ := Aside0.mk ((by rw [hg]; exact (below_size (by repeat (first | (with_reducible first | exact HB.out | apply below_alloc | apply pw_below_drewN | apply below_drew1) | exact HB.out))) : w.heap.size ≤ gb101)); clear HB; have HB := n0_; have BK101 := n1_; have GW101 := n2_; have GE101 := n3_; clear n0_ n1_ n2_ n3_; clear hb hbox hg; have hcz12_0 : w11.cell? ⟨gb101, 0, none⟩ = some (.int .i64 a0_0) := (blk_cell BK101.out 0).trans rfl; have hcz12_1 : w11.cell? ⟨gb101, 1, none⟩ = some (.int .i64 a0_1) := (blk_cell BK101.out 1).trans rfl; have hfz12_0 := blk_frozen BK101.out 0; have hfz12_1 := blk_frozen BK101.out 1))
    go_ret
    exact ⟨by first | rfl | (simp [errW_none, errW_some] <;> rfl) | (simp [*, errW_none, errW_some] <;> rfl), by repeat (first | (with_reducible first | exact HB.out | apply below_alloc | apply pw_below_drewN | apply below_drew1 | refine below_set ?_ GE101.out) | exact HB.out)⟩
def seal_Add.f (a0_0 : Int) (a0_1 : Int) (l1 : List Int) : Option (Int × Int × Int) := if M.right a0_0 a0_1 = true then if M.bytes l1 = true then if (l1.length : Int) ≤ 9223372036854775807 then some ((M.add (a0_0, a0_1) l1).1, (M.add (a0_0, a0_1) l1).2, (0 : Int)) else none else none else some (0, 0, 20)
theorem seal_Add.calls (a0_0 : Int) (a0_1 : Int) (A1 : Option Addr) (c1 : Nat) (l1 : List Int) (r1 : Int) (r2 : Int) (r3 : Int) (w : World) (hr1 : Kd.C (Kd.int .u8) w A1 l1.length l1) (hc1 : l1.length ≤ c1) (h : seal_Add.f a0_0 a0_1 l1 = some (r1, r2, r3)) :
    Calls Try.prog 27 #[.agg #[.int .i64 a0_0, .int .i64 a0_1], .slice A1 l1.length c1] w fun e w' => e = .returned (.tuple #[.agg #[.int .i64 r1, .int .i64 r2], .int .i64 r3]) ∧ Below w.heap.size w w' := by
  exact S.add_ext a0_0 a0_1 A1 c1 l1 r1 r2 r3 w hr1 hc1 h
def seal_Start.f : Option (Int × Int) := some (1, 2)
theorem seal_Start.calls  (r1 : Int) (r2 : Int) (w : World) (h : seal_Start.f  = some (r1, r2)) :
    Calls Try.prog 31 #[] w fun e w' => e = .returned (.agg #[.int .i64 r1, .int .i64 r2]) ∧ Below w.heap.size w w' := by
  obtain ⟨rfl, rfl⟩ : 1 = r1 ∧ 2 = r2 := by simpa [seal_Start.f] using h
  exact S.start_calls w
def seal_Bytes.f (a0_0 : Int) (a0_1 : Int) : Option (List Int × Int) := (seal_Right.f a0_0 a0_1).bind fun t103 => (if t103 = true then (some ((([(a0_0) % 256, (a0_0 / 256) % 256, (a0_0 / 65536) % 256, (a0_1) % 256, (a0_1 / 256) % 256, (a0_1 / 65536) % 256] : List Int)), 0)) else (some (([] : List Int), 20)))
set_option maxHeartbeats 8000000 in
set_option maxRecDepth 100000 in
theorem seal_Bytes.calls (a0_0 : Int) (a0_1 : Int) (r1 : List Int) (r2 : Int) (w : World) (h : seal_Bytes.f a0_0 a0_1 = some (r1, r2)) :
    Calls Try.prog 35 #[.agg #[.int .i64 a0_0, .int .i64 a0_1]] w fun e w' => ∃ v0_ : Value, e = .returned (.tuple #[v0_, .int .i64 r2]) ∧ Kd.R (Kd.int .u8) 5 w' w.heap.size (fun _ => True) v0_ r1 ∧ Below w.heap.size w w' := by
  have hu23 := Try.underlying23
  have HB := Aside0.mk (Below.refl w.heap.size w)
  have H : ((seal_Right.f a0_0 a0_1).bind fun t103 => (if t103 = true then (some ((([(a0_0) % 256, (a0_0 / 256) % 256, (a0_0 / 65536) % 256, (a0_1) % 256, (a0_1 / 256) % 256, (a0_1 / 65536) % 256] : List Int)), 0)) else (some (([] : List Int), 20)))) = some (r1, r2) := h
  clear h
  replace H := Option.bind_eq_some_iff.mp H
  obtain ⟨t103, A20, H⟩ := H
  replace H : (if t103 = true then (some ((([(a0_0) % 256, (a0_0 / 256) % 256, (a0_0 / 65536) % 256, (a0_1) % 256, (a0_1 / 256) % 256, (a0_1 / 65536) % 256] : List Int)), 0)) else (some (([] : List Int), 20))) = some (r1, r2) := H
  have A2 := Aside0.mk A20
  clear A20
  by_cases c3 : t103 = true
  · subst c3
    have H1 : (some ((([(a0_0) % 256, (a0_0 / 256) % 256, (a0_0 / 65536) % 256, (a0_1) % 256, (a0_1 / 256) % 256, (a0_1 / 65536) % 256] : List Int)), 0)) = some (r1, r2) := by rw [if_pos rfl] at H; exact H
    clear H
    have H := H1
    clear H1
    obtain ⟨y104, hy104⟩ : ∃ y_ : List Int, y_ = (([(a0_0) % 256, (a0_0 / 256) % 256, (a0_0 / 65536) % 256, (a0_1) % 256, (a0_1 / 256) % 256, (a0_1 / 65536) % 256] : List Int)) := ⟨_, rfl⟩
    replace H : (some (y104, 0)) = some (r1, r2) := by first | (rw [hy104]; with_reducible exact H) | (have H2_ := (Option.bind_some _ _).symm.trans H; rw [hy104]; with_reducible exact H2_) | (have H2_ := (Option.bind_some _ _).symm.trans H; with_reducible exact H2_) | with_reducible exact H | (rw [hy104]; exact H) | exact H
    have Ny104 := Aside0.mk hy104
    clear hy104
    simp only [Option.some.injEq, Prod.mk.injEq] at H
    obtain ⟨rfl, rfl⟩ := H
    go_enter Try.func35, Try.ntmps35
    go_wp2_with (first | ((with_reducible refine gate_dst (N := 1) rfl ?_); refine box_event ?hg (N := 1) ?hd (cs := #[.int .i64 a0_0, .int .i64 a0_1]) (t := 23) ?hr ?_; (case hd => rfl); (case hg => rfl); (case hr => first | (go_simp; done) | (go_simp; rfl)); intro gb102 hg w4 hbox hb; have n0_ := Aside0.mk (below_step (by repeat (first | (with_reducible first | exact HB.out | apply below_alloc | apply pw_below_drewN | apply below_drew1) | exact HB.out)) hb); have n1_ := Aside0.mk (hbox); have n2_ := Aside0.mk ((by rw [hg]; exact (below_size (by repeat (first | (with_reducible first | exact HB.out | apply below_alloc | apply pw_below_drewN | apply below_drew1) | exact HB.out))) : w.heap.size ≤ gb102)); have n3_ := Aside0.mk ((by rw [hg]; exact (below_size (by repeat (first | (with_reducible first | exact HB.out | apply below_alloc | apply pw_below_drewN | apply below_drew1) | exact HB.out))) : w.heap.size ≤ gb102)); clear HB; have HB := n0_; have BK102 := n1_; have GW102 := n2_; have GE102 := n3_; clear n0_ n1_ n2_ n3_; clear hb hbox hg; have hcz5_0 : w4.cell? ⟨gb102, 0, none⟩ = some (.int .i64 a0_0) := (blk_cell BK102.out 0).trans rfl; have hcz5_1 : w4.cell? ⟨gb102, 1, none⟩ = some (.int .i64 a0_1) := (blk_cell BK102.out 1).trans rfl; have hfz5_0 := blk_frozen BK102.out 0; have hfz5_1 := blk_frozen BK102.out 1) | ((with_reducible refine gate_callee (f := 30) rfl ?_); refine goesL_ (some 5) rfl rfl Try.func30 (by kernel_rfl) rfl #[.agg #[.int .i64 a0_0, .int .i64 a0_1]] rfl (by (try simp only [List.map_toArray, List.map_cons, List.map_nil]); first | done | rfl | (simp only [List.length_drop, List.length_take]; rfl)) ?_; (with_reducible refine (seal_Right.calls a0_0 a0_1 true _ A2.out).mono ?_); rintro e w6 ⟨rfl, hb⟩; refine ⟨_, rfl, ?_⟩; have n0_ := Aside0.mk (blk_below (g := gb102) (o := .cells #[.int .i64 a0_0, .int .i64 a0_1] 23 (0, 0)) (by (with_reducible repeat (first | refine blk_drewN ?_ _ | refine blk_drew ?_ | refine blk_alloc ?_ _)); exact BK102.out) hb); have n1_ := Aside0.mk (below_step (by repeat (first | (with_reducible first | exact HB.out | apply below_alloc | apply pw_below_drewN | apply below_drew1 | refine below_set ?_ GE102.out) | exact HB.out)) hb); clear BK102; clear HB; have BK102 := n0_; have HB := n1_; clear n0_ n1_; (try clear hb); (try clear hb2); (try clear hk); (try clear hi); have hcz7_0 : w6.cell? ⟨gb102, 0, none⟩ = some (.int .i64 a0_0) := (blk_cell BK102.out 0).trans rfl; have hcz7_1 : w6.cell? ⟨gb102, 1, none⟩ = some (.int .i64 a0_1) := (blk_cell BK102.out 1).trans rfl; have hfz7_0 := blk_frozen BK102.out 0; have hfz7_1 := blk_frozen BK102.out 1) | ((with_reducible refine gate_dst (N := 29) rfl ?_); refine Kd.R_lit (Kd.int .u8) _ 5 ?hg (N := 29) ?hd (xs := ([(a0_0) % 256, (a0_0 / 256) % 256, (a0_0 / 65536) % 256, (a0_1) % 256, (a0_1 / 256) % 256, (a0_1 / 65536) % 256] : List Int)) (inner := [.int .u8 ((a0_0) % 256), .int .u8 ((a0_0 / 256) % 256), .int .u8 ((a0_0 / 65536) % 256), .int .u8 ((a0_1) % 256), .int .u8 ((a0_1 / 256) % 256), .int .u8 ((a0_1 / 65536) % 256)]) (ok := fun _ => True) (okp := fun _ => True) ?hr ?hp (fun _ hk => hk) trivial (Below.refl _ _) (Nat.le_refl _) (by simp) ?_; (case hd => rfl); (case hg => rfl); (case hr => first | (go_simp; done) | (go_simp; rfl)); (case hp => exact (Reps.one (show Kd.M (Kd.int .u8) _ _ _ ((a0_0) % 256) [.int .u8 ((a0_0) % 256)] from rfl) (Reps.one (show Kd.M (Kd.int .u8) _ _ _ ((a0_0 / 256) % 256) [.int .u8 ((a0_0 / 256) % 256)] from rfl) (Reps.one (show Kd.M (Kd.int .u8) _ _ _ ((a0_0 / 65536) % 256) [.int .u8 ((a0_0 / 65536) % 256)] from rfl) (Reps.one (show Kd.M (Kd.int .u8) _ _ _ ((a0_1) % 256) [.int .u8 ((a0_1) % 256)] from rfl) (Reps.one (show Kd.M (Kd.int .u8) _ _ _ ((a0_1 / 256) % 256) [.int .u8 ((a0_1 / 256) % 256)] from rfl) (Reps.one (show Kd.M (Kd.int .u8) _ _ _ ((a0_1 / 65536) % 256) [.int .u8 ((a0_1 / 65536) % 256)] from rfl) (Reps.none _ _)))))))); intro v105 w8 ho9 hb hg_ hnew_; clear hg_ hnew_; (first | rw [← Ny104.out] at ho9 | (simp only [Int.reduceToNat] at ho9; rw [← Ny104.out] at ho9)); have n0_ := Aside0.mk (Kd.R_lower ho9 (below_size (by repeat (first | (with_reducible first | exact HB.out | apply below_alloc | apply pw_below_drewN | apply below_drew1 | refine below_set ?_ GE102.out) | exact HB.out)))); have n1_ := Aside0.mk (blk_below (g := gb102) (o := .cells #[.int .i64 a0_0, .int .i64 a0_1] 23 (0, 0)) (by (with_reducible repeat (first | refine blk_drewN ?_ _ | refine blk_drew ?_ | refine blk_alloc ?_ _)); exact BK102.out) hb); have n2_ := Aside0.mk (below_step (by repeat (first | (with_reducible first | exact HB.out | apply below_alloc | apply pw_below_drewN | apply below_drew1 | refine below_set ?_ GE102.out) | exact HB.out)) hb); clear BK102; clear HB; have HO106 := n0_; have BK102 := n1_; have HB := n2_; clear n0_ n1_ n2_; clear hb ho9))
    go_ret2
    exact ⟨_, by first | rfl | (simp [errW_none, errW_some] <;> rfl) | (simp [*, errW_none, errW_some] <;> rfl), by (with_reducible repeat (first | apply Kd.R_alloc | apply Kd.R_drewN | apply Kd.R_drew)); exact HO106.out, by repeat (first | (with_reducible first | exact HB.out | apply below_alloc | apply pw_below_drewN | apply below_drew1 | refine below_set ?_ GE102.out) | exact HB.out)⟩
  · replace c3 := Bool.eq_false_iff.mpr c3
    subst c3
    have H1 : (some (([] : List Int), 20)) = some (r1, r2) := by rw [if_neg (show ¬ (false = true) by decide)] at H; exact H
    clear H
    have H := H1
    clear H1
    simp only [Option.some.injEq, Prod.mk.injEq] at H
    obtain ⟨rfl, rfl⟩ := H
    go_enter Try.func35, Try.ntmps35
    go_wp2_with (first | ((with_reducible refine gate_dst (N := 1) rfl ?_); refine box_event ?hg (N := 1) ?hd (cs := #[.int .i64 a0_0, .int .i64 a0_1]) (t := 23) ?hr ?_; (case hd => rfl); (case hg => rfl); (case hr => first | (go_simp; done) | (go_simp; rfl)); intro gb102 hg w10 hbox hb; have n0_ := Aside0.mk (below_step (by repeat (first | (with_reducible first | exact HB.out | apply below_alloc | apply pw_below_drewN | apply below_drew1) | exact HB.out)) hb); have n1_ := Aside0.mk (hbox); have n2_ := Aside0.mk ((by rw [hg]; exact (below_size (by repeat (first | (with_reducible first | exact HB.out | apply below_alloc | apply pw_below_drewN | apply below_drew1) | exact HB.out))) : w.heap.size ≤ gb102)); have n3_ := Aside0.mk ((by rw [hg]; exact (below_size (by repeat (first | (with_reducible first | exact HB.out | apply below_alloc | apply pw_below_drewN | apply below_drew1) | exact HB.out))) : w.heap.size ≤ gb102)); clear HB; have HB := n0_; have BK102 := n1_; have GW102 := n2_; have GE102 := n3_; clear n0_ n1_ n2_ n3_; clear hb hbox hg; have hcz11_0 : w10.cell? ⟨gb102, 0, none⟩ = some (.int .i64 a0_0) := (blk_cell BK102.out 0).trans rfl; have hcz11_1 : w10.cell? ⟨gb102, 1, none⟩ = some (.int .i64 a0_1) := (blk_cell BK102.out 1).trans rfl; have hfz11_0 := blk_frozen BK102.out 0; have hfz11_1 := blk_frozen BK102.out 1) | ((with_reducible refine gate_callee (f := 30) rfl ?_); refine goesL_ (some 5) rfl rfl Try.func30 (by kernel_rfl) rfl #[.agg #[.int .i64 a0_0, .int .i64 a0_1]] rfl (by (try simp only [List.map_toArray, List.map_cons, List.map_nil]); first | done | rfl | (simp only [List.length_drop, List.length_take]; rfl)) ?_; (with_reducible refine (seal_Right.calls a0_0 a0_1 false _ A2.out).mono ?_); rintro e w12 ⟨rfl, hb⟩; refine ⟨_, rfl, ?_⟩; have n0_ := Aside0.mk (blk_below (g := gb102) (o := .cells #[.int .i64 a0_0, .int .i64 a0_1] 23 (0, 0)) (by (with_reducible repeat (first | refine blk_drewN ?_ _ | refine blk_drew ?_ | refine blk_alloc ?_ _)); exact BK102.out) hb); have n1_ := Aside0.mk (below_step (by repeat (first | (with_reducible first | exact HB.out | apply below_alloc | apply pw_below_drewN | apply below_drew1 | refine below_set ?_ GE102.out) | exact HB.out)) hb); clear BK102; clear HB; have BK102 := n0_; have HB := n1_; clear n0_ n1_; (try clear hb); (try clear hb2); (try clear hk); (try clear hi)))
    go_ret2
    exact ⟨_, by first | rfl | (simp [errW_none, errW_some] <;> rfl) | (simp [*, errW_none, errW_some] <;> rfl), by first | exact Kd.R_nil _ _ _ _ _ | exact Kd.N_nil _ _ _ _ _ | exact Kd.V_nil _ _ _ _ _ | exact Kd.Q_nil _ _ _ _ _ | exact Kd.S_nil _ _ _ _ _, by repeat (first | (with_reducible first | exact HB.out | apply below_alloc | apply pw_below_drewN | apply below_drew1 | refine below_set ?_ GE102.out) | exact HB.out)⟩
end Go.Proofs.Ytbiijcehgiibeaa.Q
