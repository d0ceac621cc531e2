/- Proved here, in whole numbers: adding bytes to a seal is injective in the seal and in each byte; it is linear in the seal; joined seals are seals of joined bytes. No program in sight. · Proved here: what the small printed functions of reevelaw02 come to (the wake, Fold, Of), and seal.Add where its seal is right. · Proved here: 16777199 is a prime; the pairs modulo it are a field; each pair but zero to the power P P - 1 is 1. No program in sight. · Proved here: what seal.Join, seal.Times, seal.Power come to where their seals are right. · Proved here: inverses, and powers of powers: the plain statement of SealOver, over the printed function. Conditions: its hypotheses. · Proved here: an argument that is a struct of whole numbers is an aggregate of whole numbers that fit. No program in sight. -/
import Derived.Test.YtbiijcehgiibeaaKSOverJFloat
import Derived.Test.YtbiijcehgiibeaaKSOverQg4
import Derived.Test.YtbiijcehgiibeaaKSOverJQ0
import Derived.Test.YtbiijcehgiibeaaKSOverQf12
import Derived.WalkKit
import Derived.ProofKit
import Derived.OpenShut
namespace Go.Proofs.Ytbiijcehgiibeaa.M
def plus (x y : Int × Int) : Int × Int := ((x.1 + y.1) % 16777199, (x.2 + y.2) % 16777199)
theorem plus_right (x y : Int × Int) : right (plus x y).1 (plus x y).2 = true := by rw [right_iff]; unfold plus; omega
theorem plus_comm (x y : Int × Int) : plus x y = plus y x := by unfold plus; rw [Int.add_comm x.1, Int.add_comm x.2]
theorem plus_assoc (x y z : Int × Int) : plus (plus x y) z = plus x (plus y z) := by
  unfold plus
  refine Prod.ext ?_ ?_ <;> simp only <;> omega
theorem plus_zero {x : Int × Int} (h : right x.1 x.2 = true) : plus x (0, 0) = x := by
  obtain ⟨h1, h2, h3, h4⟩ := right_iff.1 h
  unfold plus
  refine Prod.ext ?_ ?_ <;> simp only <;> omega
theorem mul_plus (x y z : Int × Int) : mul (plus x y) z = plus (mul x z) (mul y z) := by
  unfold mul plus
  obtain ⟨a, ha⟩ := emod_ex (x.1 + y.1)
  obtain ⟨b, hb⟩ := emod_ex (x.2 + y.2)
  obtain ⟨c, hc⟩ := emod_ex (x.1 * z.1 - x.2 * z.2)
  obtain ⟨d, hd⟩ := emod_ex (x.1 * z.2 + x.2 * z.1)
  obtain ⟨e, he⟩ := emod_ex (y.1 * z.1 - y.2 * z.2)
  obtain ⟨f, hf⟩ := emod_ex (y.1 * z.2 + y.2 * z.1)
  simp only [ha, hb, hc, hd, he, hf]
  refine Prod.ext (emod_congr ⟨- (a * z.1) + b * z.2 + c + e, ?_⟩) (emod_congr ⟨- (a * z.2) - b * z.1 + d + f, ?_⟩) <;> grind
theorem mul_red (a b : Int) (w : Int × Int) : mul (a % 16777199, b % 16777199) w = mul (a, b) w := by
  unfold mul
  obtain ⟨c, hc⟩ := emod_ex a
  obtain ⟨d, hd⟩ := emod_ex b
  simp only [hc, hd]
  refine Prod.ext (emod_congr ⟨- (c * w.1) + d * w.2, ?_⟩) (emod_congr ⟨- (c * w.2) - d * w.1, ?_⟩) <;> grind
end Go.Proofs.Ytbiijcehgiibeaa.M
namespace Go.Proofs.Ytbiijcehgiibeaa.Pure
open Go.RowKit Go.Proofs.Ytbiijcehgiibeaa.Q Go.Proofs.YtbiijcehgiibeaaW.PrintWords
theorem awake02 : reevelaw02_awake.f = some true := by decide +kernel
theorem tmod_P (n : Int) : n.tmod 16777199 = if 0 ≤ n then n % 16777199 else -((-n) % 16777199) := by
  split
  · exact Int.tmod_eq_emod_of_nonneg ‹_›
  · have := Int.neg_tmod (a := -n) (b := 16777199)
    rw [Int.neg_neg] at this
    rw [this, Int.tmod_eq_emod_of_nonneg (by omega)]
theorem fold_mod (n : Int) : (if (n.tmod 16777199) < 0 then some (wrap64 ((n.tmod 16777199) + 16777199)) else some (n.tmod 16777199)) = some (n % 16777199) := by
  rw [tmod_P]
  by_cases h : 0 ≤ n
  · rw [if_pos h, if_neg (by omega)]
  · rw [if_neg h]
    by_cases h2 : -(-n % 16777199) < 0
    · rw [if_pos h2]
      have : wrap64 (-(-n % 16777199) + 16777199) = n % 16777199 := by unfold wrap64; omega
      rw [this]
    · rw [if_neg h2]
      congr 1
      omega
theorem fold (n : Int) : reevelaw02_Fold.f n = some (n % 16777199) := fold_mod n
theorem of (a b : Int) : reevelaw02_Of.f a b = some (a % 16777199, b % 16777199) := by
  unfold reevelaw02_Of.f
  rw [fold, fold]
  rfl
theorem of_right (a b : Int) : M.right (a % 16777199) (b % 16777199) = true := by rw [M.right_iff]; omega
end Go.Proofs.Ytbiijcehgiibeaa.Pure
namespace Go.Proofs.Ytbiijcehgiibeaa.M
theorem check_P : ((List.range 4097).all fun d => decide (d < 2) || (16777199 % d != 0)) = true := by decide +kernel
theorem small_div {d : Nat} (h : d < 4097) (hd : d ∣ 16777199) : d < 2 := by
  have h1 := List.all_eq_true.1 check_P d (List.mem_range.2 h)
  have h2 : 16777199 % d = 0 := Nat.mod_eq_zero_of_dvd hd
  rw [h2] at h1
  simpa using h1
theorem prime_P {d : Nat} (hd : d ∣ 16777199) : d = 1 ∨ d = 16777199 := by
  obtain ⟨e, he⟩ := hd
  by_cases h : d < 4097
  · have := small_div h ⟨e, he⟩
    have : d ≠ 0 := by rintro rfl; omega
    omega
  · have h2 : e < 4097 := by
      apply Decidable.byContradiction
      intro h3
      have := Nat.mul_le_mul (show 4097 ≤ d by omega) (show 4097 ≤ e by omega)
      omega
    have h3 := small_div h2 ⟨d, by rw [he, Nat.mul_comm]⟩
    have : e ≠ 0 := by rintro rfl; omega
    obtain rfl : e = 1 := by omega
    omega
theorem coprime_P {k : Nat} (h0 : 0 < k) (h1 : k < 16777199) : Nat.Coprime 16777199 k := by
  rcases prime_P (Nat.gcd_dvd_left 16777199 k) with h | h
  · exact h
  · have h2 := Nat.gcd_dvd_right 16777199 k
    rw [h] at h2
    have := Nat.le_of_dvd h0 h2
    omega
def ch : Nat → Nat → Nat
  | _, 0 => 1
  | 0, _ + 1 => 0
  | n + 1, k + 1 => ch n k + ch n (k + 1)
theorem ch_zero (n : Nat) : ch n 0 = 1 := by cases n <;> rfl
theorem ch_gt : ∀ {n k : Nat}, n < k → ch n k = 0
  | 0, k + 1, _ => rfl
  | n + 1, k + 1, h => by
    rw [ch, ch_gt (show n < k by omega), ch_gt (show n < k + 1 by omega)]
theorem ch_self : ∀ n, ch n n = 1
  | 0 => rfl
  | n + 1 => by rw [ch, ch_self n, ch_gt (Nat.lt_succ_self n)]
theorem ch_mul : ∀ (n k : Nat), (k + 1) * ch (n + 1) (k + 1) = (n + 1) * ch n k
  | 0, 0 => rfl
  | 0, k + 1 => by simp [ch]
  | n + 1, 0 => by
    have h1 : 1 * ch (n + 1) 1 = (n + 1) * ch n 0 := ch_mul n 0
    have e1 : ch (n + 2) 1 = ch (n + 1) 0 + ch (n + 1) 1 := rfl
    rw [ch_zero] at h1 e1
    rw [show n + 1 + 1 = n + 2 from rfl, show 0 + 1 = 1 from rfl, e1, ch_zero]
    omega
  | n + 1, k + 1 => by
    have h1 := ch_mul n k
    have h2 := ch_mul n (k + 1)
    have e1 : ch (n + 2) (k + 2) = ch (n + 1) (k + 1) + ch (n + 1) (k + 2) := rfl
    have e2 : ch (n + 1) (k + 1) = ch n k + ch n (k + 1) := rfl
    rw [show n + 1 + 1 = n + 2 from rfl, show k + 1 + 1 = k + 2 from rfl, e1]
    have h2' : (k + 2) * ch (n + 1) (k + 2) = (n + 1) * ch n (k + 1) := h2
    grind
theorem ch_P {p k : Nat} (hp : p = 16777199) (h0 : 0 < k) (h1 : k < p) : 16777199 ∣ ch p k := by
  obtain ⟨q, rfl⟩ : ∃ q, p = q + 1 := ⟨p - 1, by omega⟩
  obtain ⟨j, rfl⟩ : ∃ j, k = j + 1 := ⟨k - 1, by omega⟩
  have h := ch_mul q j
  refine (coprime_P h0 (by omega)).dvd_of_dvd_mul_left ?_
  exact ⟨ch q j, by rw [h, hp]⟩
def sum : Nat → (Nat → Int × Int) → Int × Int
  | 0, _ => (0, 0)
  | n + 1, f => plus (sum n f) (f n)
theorem sum_right (n : Nat) (f : Nat → Int × Int) : right (sum n f).1 (sum n f).2 = true := by
  cases n with
  | zero => exact (by decide : right ((0, 0) : Int × Int).1 ((0, 0) : Int × Int).2 = true)
  | succ n => exact plus_right _ _
theorem sum_congr {f g : Nat → Int × Int} : ∀ {n : Nat}, (∀ k, k < n → f k = g k) → sum n f = sum n g
  | 0, _ => rfl
  | n + 1, h => by rw [sum, sum, sum_congr (fun k hk => h k (by omega)), h n (by omega)]
theorem plus4 (a b c d : Int × Int) : plus (plus a b) (plus c d) = plus (plus a c) (plus b d) := by
  rw [plus_assoc, ← plus_assoc b, plus_comm b c, plus_assoc, plus_assoc]
theorem sum_plus (f g : Nat → Int × Int) : ∀ n, sum n (fun k => plus (f k) (g k)) = plus (sum n f) (sum n g)
  | 0 => (by decide : ((0, 0) : Int × Int) = plus (0, 0) (0, 0))
  | n + 1 => by rw [sum, sum_plus f g n, sum, sum, plus4]
theorem zero_mul (x : Int × Int) : mul (0, 0) x = (0, 0) := by unfold mul; refine Prod.ext ?_ ?_ <;> simp only <;> omega
theorem mul_sum (f : Nat → Int × Int) (z : Int × Int) : ∀ n, mul (sum n f) z = sum n (fun k => mul (f k) z)
  | 0 => zero_mul z
  | n + 1 => by rw [sum, mul_plus, mul_sum f z n, sum]
theorem sum_left (f : Nat → Int × Int) (h : right (f 0).1 (f 0).2 = true) : ∀ n, sum (n + 1) f = plus (f 0) (sum n (fun k => f (k + 1)))
  | 0 => by
    show plus (0, 0) (f 0) = plus (f 0) (0, 0)
    exact plus_comm _ _
  | n + 1 => by rw [sum, sum_left f h n, sum, plus_assoc]
theorem sum_zero {f : Nat → Int × Int} {n : Nat} (h : ∀ k, k < n → f k = (0, 0)) : sum n f = (0, 0) := by
  induction n with
  | zero => rfl
  | succ n ih =>
    rw [sum, ih (fun k hk => h k (by omega)), h n (by omega)]
    decide
def term (x y : Int × Int) (n k : Nat) : Int × Int := mul ((ch n k : Int), 0) (mul (pow x k) (pow y (n - k)))
theorem smul_add (a b : Int) (z : Int × Int) : mul (a + b, 0) z = plus (mul (a, 0) z) (mul (b, 0) z) := by
  rw [← mul_plus]
  unfold plus
  simp only
  rw [mul_red]
  rfl
theorem binom (x y : Int × Int) : ∀ n, pow (plus x y) n = sum (n + 1) (term x y n)
  | 0 => by
    show ((1, 0) : Int × Int) = plus (0, 0) (mul (1, 0) (mul (1, 0) (1, 0)))
    decide
  | n + 1 => by
    have hx : mul (pow (plus x y) n) (plus x y) = plus (mul (sum (n + 1) (term x y n)) x) (mul (sum (n + 1) (term x y n)) y) := by
      rw [binom x y n, mul_comm _ (plus x y), mul_plus, mul_comm x, mul_comm y]
    rw [pow, hx, mul_sum, mul_sum]
    have h0 : right (term x y (n + 1) 0).1 (term x y (n + 1) 0).2 = true := mul_right _ _
    rw [sum_left _ h0 (n + 1)]
    let U : Nat → Int × Int := fun k => mul ((ch n k : Int), 0) (mul (pow x k) (pow y (n + 1 - k)))
    have e1 : sum (n + 1) (fun k => term x y (n + 1) (k + 1)) = plus (sum (n + 1) (fun k => mul (term x y n k) x)) (sum (n + 1) (fun k => U (k + 1))) := by
      rw [← sum_plus]
      refine sum_congr (fun k _ => ?_)
      show mul (((ch n k + ch n (k + 1) : Nat) : Int), 0) (mul (pow x (k + 1)) (pow y (n + 1 - (k + 1)))) = plus (mul (mul ((ch n k : Int), 0) (mul (pow x k) (pow y (n - k)))) x) (mul ((ch n (k + 1) : Int), 0) (mul (pow x (k + 1)) (pow y (n + 1 - (k + 1)))))
      rw [Int.natCast_add, smul_add]
      congr 1
      rw [show n + 1 - (k + 1) = n - k by omega, pow, mul_assoc, mul_assoc, mul_assoc, mul_comm x]
    have e2 : term x y (n + 1) 0 = U 0 := by
      show mul ((ch (n + 1) 0 : Int), 0) _ = mul ((ch n 0 : Int), 0) _
      rw [ch_zero, ch_zero]
    have e3 : plus (U 0) (sum (n + 1) (fun k => U (k + 1))) = sum (n + 1) (fun k => mul (term x y n k) y) := by
      rw [← sum_left U (mul_right _ _) (n + 1), sum]
      have e4 : U (n + 1) = (0, 0) := by
        show mul ((ch n (n + 1) : Int), 0) _ = _
        rw [ch_gt (Nat.lt_succ_self n)]
        exact zero_mul _
      rw [e4, plus_zero (sum_right _ _)]
      refine sum_congr (fun k hk => ?_)
      show mul ((ch n k : Int), 0) (mul (pow x k) (pow y (n + 1 - k))) = mul (mul ((ch n k : Int), 0) (mul (pow x k) (pow y (n - k)))) y
      rw [show n + 1 - k = n - k + 1 by omega, pow, mul_assoc, mul_assoc]
    rw [e1, e2, ← plus_assoc, plus_comm (U 0), plus_assoc, e3]
theorem frob {p : Nat} (hp : p = 16777199) (x y : Int × Int) : pow (plus x y) p = plus (pow x p) (pow y p) := by
  rw [binom]
  obtain ⟨q, hq⟩ : ∃ q, p = q + 1 := ⟨p - 1, by omega⟩
  rw [sum]
  have h0 : sum p (term x y p) = pow y p := by
    have e := sum_left (term x y p) (mul_right _ _) q
    rw [← hq] at e
    have hr0 : right (term x y p 0).1 (term x y p 0).2 = true := mul_right _ _
    rw [e, sum_zero (n := q), plus_zero hr0]
    · unfold term
      rw [ch_zero, Nat.sub_zero]
      show mul (1, 0) (mul (1, 0) (pow y p)) = _
      rw [one_mul _ (mul_right _ _), one_mul _ (pow_right _ _)]
    · intro k hk
      obtain ⟨c, hc⟩ := ch_P hp (Nat.succ_pos k) (show k + 1 < p by omega)
      unfold term
      rw [hc, Int.natCast_mul]
      generalize mul (pow x (k + 1)) (pow y (p - (k + 1))) = z
      have : mul (((16777199 : Nat) : Int) * (c : Int), 0) z = mul ((((16777199 : Nat) : Int) * (c : Int)) % 16777199, 0 % 16777199) z := (mul_red _ _ z).symm
      rw [this, show (((16777199 : Nat) : Int) * (c : Int)) % 16777199 = 0 by omega]
      exact zero_mul z
  have h1 : term x y p p = pow x p := by
    unfold term
    rw [ch_self, Nat.sub_self]
    show mul (1, 0) (mul (pow x p) (1, 0)) = _
    rw [mul_one _ (pow_right _ _), one_mul _ (pow_right _ _)]
  rw [h0, h1, plus_comm]
theorem pow_mul_distr (x y : Int × Int) : ∀ n, pow (mul x y) n = mul (pow x n) (pow y n)
  | 0 => by show ((1, 0) : Int × Int) = mul (1, 0) (1, 0); decide
  | n + 1 => by
    rw [pow, pow_mul_distr x y n, pow, pow, mul_assoc, ← mul_assoc (pow y n), mul_comm (pow y n) x, mul_assoc, mul_assoc]
theorem pow_pow (x : Int × Int) (m : Nat) : ∀ n, pow (pow x m) n = pow x (m * n)
  | 0 => rfl
  | n + 1 => by rw [pow, pow_pow x m n, Nat.mul_succ, pow_add]
theorem pow_one {x : Int × Int} (h : right x.1 x.2 = true) : pow x 1 = x := one_mul x h
theorem one_pow : ∀ n, pow (1, 0) n = (1, 0)
  | 0 => rfl
  | n + 1 => by rw [pow, one_pow n]; decide
theorem fermat {p : Nat} (hp : p = 16777199) : ∀ a : Nat, pow ((a : Int) % 16777199, 0) p = ((a : Int) % 16777199, 0)
  | 0 => by
    obtain ⟨q, rfl⟩ : ∃ q, p = q + 1 := ⟨p - 1, by omega⟩
    rw [pow, mul_comm]
    exact zero_mul _
  | a + 1 => by
    have e : ((((a + 1 : Nat) : Int) % 16777199, 0) : Int × Int) = plus ((a : Int) % 16777199, 0) (1, 0) := by
      unfold plus
      refine Prod.ext ?_ ?_ <;> simp only <;> omega
    rw [e, frob hp, fermat hp a, one_pow]
theorem i_pow : ∀ m, pow (0, 1) (4 * m) = (1, 0)
  | 0 => rfl
  | m + 1 => by rw [show 4 * (m + 1) = 4 * m + 4 by omega, pow_add, i_pow m]; decide
def conj (x : Int × Int) : Int × Int := (x.1, (-x.2) % 16777199)
theorem frob_conj {p : Nat} (hp : p = 16777199) {x : Int × Int} (h : right x.1 x.2 = true) : pow x p = conj x := by
  obtain ⟨a, b⟩ := x
  obtain ⟨h1, h2, h3, h4⟩ := right_iff.1 h
  simp only at h1 h2 h3 h4
  have e : ((a, b) : Int × Int) = plus ((a.toNat : Int) % 16777199, 0) (mul ((b.toNat : Int) % 16777199, 0) (0, 1)) := by
    unfold plus mul
    refine Prod.ext ?_ ?_ <;> simp only <;> omega
  have hi : pow (0, 1) p = (0, 16777198) := by
    obtain ⟨j, hj⟩ : ∃ j : Nat, p = 4 * j + 3 := ⟨4194299, by omega⟩
    rw [hj, pow_add, i_pow]
    decide
  conv => lhs; rw [e]
  rw [frob hp, pow_mul_distr, fermat hp, fermat hp, hi]
  unfold plus mul conj
  refine Prod.ext ?_ ?_ <;> simp only <;> omega
theorem conj_right {x : Int × Int} (h : right x.1 x.2 = true) : right (conj x).1 (conj x).2 = true := by
  obtain ⟨h1, h2, h3, h4⟩ := right_iff.1 h
  rw [right_iff]; unfold conj; simp only; omega
theorem conj_conj {x : Int × Int} (h : right x.1 x.2 = true) : conj (conj x) = x := by
  obtain ⟨h1, h2, h3, h4⟩ := right_iff.1 h
  unfold conj
  refine Prod.ext ?_ ?_ <;> simp only <;> omega
theorem pow_PP {p : Nat} (hp : p = 16777199) {x : Int × Int} (h : right x.1 x.2 = true) : pow x (p * p) = x := by
  rw [← pow_pow, frob_conj hp h, frob_conj hp (conj_right h), conj_conj h]
theorem dvd_iff (a : Int) : a % 16777199 = 0 ↔ 16777199 ∣ a := by omega
theorem inv_exists {a : Int} (ha : a % 16777199 ≠ 0) : ∃ m : Int, (a * m) % 16777199 = 1 := by
  obtain ⟨p, hp⟩ : ∃ p : Nat, p = 16777199 := ⟨_, rfl⟩
  obtain ⟨q, hq⟩ : ∃ q, p = q + 1 := ⟨p - 1, by omega⟩
  have hn : 0 ≤ a % 16777199 ∧ a % 16777199 < 16777199 := by omega
  obtain ⟨n, hna⟩ : ∃ n : Nat, (n : Int) = a % 16777199 := ⟨(a % 16777199).toNat, by omega⟩
  have h1 := fermat hp n
  have hlt : (n : Int) % 16777199 = n := by omega
  rw [hlt] at h1
  -- pow (n, 0) k = (u, 0)
  have hu : ∀ k, ∃ u : Int, pow ((n : Int), 0) k = (u, 0) := by
    intro k
    induction k with
    | zero => exact ⟨1, rfl⟩
    | succ k ih =>
      obtain ⟨u, hu⟩ := ih
      refine ⟨(u * n) % 16777199, ?_⟩
      rw [pow, hu]
      unfold mul
      refine Prod.ext ?_ ?_ <;> simp only [Int.mul_zero, Int.zero_mul, Int.sub_zero, Int.add_zero] <;> rfl
  obtain ⟨u, hu⟩ := hu q
  rw [hq, pow, hu] at h1
  have h2 : (u * n) % 16777199 = n := by
    have := congrArg Prod.fst h1
    unfold mul at this
    simpa using this
  have h3 : (16777199 : Int) ∣ (u - 1) * n := by
    rw [← dvd_iff, Int.sub_mul]
    omega
  have h4 : 16777199 ∣ n * (u - 1).natAbs := by
    have := Int.natAbs_dvd_natAbs.2 h3
    rw [Int.natAbs_mul, Nat.mul_comm] at this
    simpa using this
  have h5 : 16777199 ∣ (u - 1).natAbs := (coprime_P (k := n) (by omega) (by omega)).dvd_of_dvd_mul_left h4
  have h6 : (16777199 : Int) ∣ u - 1 := by
    have := Int.natCast_dvd_natCast.2 h5
    exact Int.dvd_natAbs.1 this
  -- u = n ^ q is 1: so q is above 0, and n ^ (q - 1) is the inverse
  obtain ⟨j, hj⟩ : ∃ j, q = j + 1 := ⟨q - 1, by omega⟩
  have h7 : ∃ m : Int, (m * n) % 16777199 = u % 16777199 := by
    subst hj
    have hv : ∀ k, ∃ v : Int, pow ((n : Int), 0) k = (v, 0) := by
      intro k
      induction k with
      | zero => exact ⟨1, rfl⟩
      | succ k ih =>
        obtain ⟨v, hv⟩ := ih
        refine ⟨(v * n) % 16777199, ?_⟩
        rw [pow, hv]
        unfold mul
        refine Prod.ext ?_ ?_ <;> simp only [Int.mul_zero, Int.zero_mul, Int.sub_zero, Int.add_zero] <;> rfl
    obtain ⟨v, hv⟩ := hv j
    refine ⟨v, ?_⟩
    rw [pow, hv] at hu
    have := congrArg Prod.fst hu
    unfold mul at this
    simp only [Int.mul_zero, Int.sub_zero] at this
    omega
  obtain ⟨m, hm⟩ := h7
  refine ⟨m, ?_⟩
  obtain ⟨k, hk⟩ := emod_ex a
  have e : a * m = m * n + 16777199 * (k * m) := by
    rw [hna, hk]
    grind
  rw [e]
  omega
theorem neg_pow : ∀ k, pow (16777198, 0) (2 * k) = (1, 0)
  | 0 => rfl
  | k + 1 => by rw [show 2 * (k + 1) = 2 * k + 2 by omega, pow_add, neg_pow k]; decide
theorem neg_emod {n : Int} (h0 : 0 < n) (h1 : n < 16777199) : (-n) % 16777199 = 16777199 - n := by
  rw [← Int.add_emod_right, Int.emod_eq_of_lt (by omega) (by omega)]
  omega
theorem self_neg {n : Int} (h0 : 0 ≤ n) (h1 : n < 16777199) (h : n = (16777198 * n) % 16777199) : n = 0 := by
  have e1 : (16777198 : Int) * n = -n + 16777199 * n := by clear h; grind
  rw [e1, Int.add_mul_emod_self_left] at h
  apply Decidable.byContradiction
  intro hne
  have hpos : 0 < n := by clear h; omega
  rw [neg_emod hpos h1] at h
  clear e1
  omega
theorem norm_ne {a b : Int} (h1 : 0 ≤ a) (h2 : a < 16777199) (h3 : 0 ≤ b) (h4 : b < 16777199) (h : (a * a + b * b) % 16777199 = 0) : a = 0 ∧ b = 0 := by
  have prime : ∀ x : Int, 0 ≤ x → x < 16777199 → (x * x) % 16777199 = 0 → x = 0 := by
    intro x hx1 hx2 hx
    apply Decidable.byContradiction
    intro hne
    obtain ⟨m, hm⟩ := inv_exists (a := x) (by omega)
    have : (x * x * (m * m)) % 16777199 = 1 := by
      rw [show x * x * (m * m) = (x * m) * (x * m) by grind, Int.mul_emod, hm]
      decide
    rw [Int.mul_emod, hx] at this
    omega
  by_cases ha : a = 0
  · subst ha
    exact ⟨rfl, prime b h3 h4 (by simpa using h)⟩
  by_cases hb : b = 0
  · subst hb
    exact ⟨prime a h1 h2 (by simpa using h), rfl⟩
  exfalso
  -- c = b / a is a square root of -1; to the power P - 1 it would be 1 and -1
  obtain ⟨m, hm⟩ := inv_exists (a := a) (by omega)
  have hc : ((b * m) * (b * m)) % 16777199 = 16777198 := by
    have e : (b * m) * (b * m) = (a * a + b * b) * (m * m) - (a * m) * (a * m) := by grind
    have e2 : ((a * m) * (a * m)) % 16777199 = 1 := by rw [Int.mul_emod, hm]; decide
    have e3 : ((a * a + b * b) * (m * m)) % 16777199 = 0 := by rw [Int.mul_emod, h]; simp
    rw [e]
    omega
  obtain ⟨p, hp⟩ : ∃ p : Nat, p = 16777199 := ⟨_, rfl⟩
  generalize b * m = c at hc
  obtain ⟨n, hn⟩ : ∃ n : Nat, (n : Int) = c % 16777199 := ⟨(c % 16777199).toNat, by omega⟩
  have f := fermat hp n
  have hlt : (n : Int) % 16777199 = n := by omega
  have hn1 : (n : Int) < 16777199 := by omega
  rw [hlt] at f
  have sq : mul ((n : Int), 0) ((n : Int), 0) = (16777198, 0) := by
    unfold mul
    have : ((n : Int) * n) % 16777199 = 16777198 := by rw [hn, Int.mul_emod, Int.emod_emod, ← Int.mul_emod]; exact hc
    refine Prod.ext ?_ ?_ <;> simp only [Int.mul_zero, Int.zero_mul, Int.sub_zero, Int.add_zero]
    · exact this
    · rfl
  have p2 : pow ((n : Int), 0) 2 = (16777198, 0) := by
    have hr : right ((n : Int), (0 : Int)).1 ((n : Int), (0 : Int)).2 = true := by rw [right_iff]; simp only; omega
    rw [show (2 : Nat) = 1 + 1 from rfl, pow_add, pow_one hr, sq]
  have e : pow ((n : Int), 0) p = mul (16777198, 0) ((n : Int), 0) := by
    have hr : right ((n : Int), (0 : Int)).1 ((n : Int), (0 : Int)).2 = true := by rw [right_iff]; simp only; omega
    obtain ⟨j, hj⟩ : ∃ j : Nat, p = 2 * (2 * j + 1) + 1 := ⟨4194299, by omega⟩
    rw [hj, pow, ← pow_pow, p2, pow, neg_pow]
    congr 1
  rw [f] at e
  have e1 := congrArg Prod.fst e
  unfold mul at e1
  simp only [Int.mul_zero, Int.sub_zero] at e1
  have hz : (n : Int) = 0 := self_neg (Int.natCast_nonneg n) hn1 e1
  clear e1
  rw [hz] at hn
  have : (c * c) % 16777199 = 0 := by rw [Int.mul_emod, ← hn]; decide
  omega
theorem inverse {x : Int × Int} (hx : right x.1 x.2 = true) (hne : x ≠ (0, 0)) : ∃ z, mul x z = (1, 0) := by
  obtain ⟨a, b⟩ := x
  obtain ⟨h1, h2, h3, h4⟩ := right_iff.1 hx
  simp only at h1 h2 h3 h4
  have hN : (a * a + b * b) % 16777199 ≠ 0 := by
    intro h
    obtain ⟨rfl, rfl⟩ := norm_ne h1 h2 h3 h4 h
    exact hne rfl
  obtain ⟨m, hm⟩ := inv_exists hN
  refine ⟨(a * m, -(b * m)), ?_⟩
  unfold mul
  refine Prod.ext ?_ ?_ <;> simp only
  · rw [show a * (a * m) - b * -(b * m) = (a * a + b * b) * m by grind]; exact hm
  · rw [show a * -(b * m) + b * (a * m) = 0 by grind]; rfl
theorem pow_order {x : Int × Int} (hx : right x.1 x.2 = true) (hne : x ≠ (0, 0)) {n : Nat} (hn : n = 281474406285600) : pow x n = (1, 0) := by
  obtain ⟨p, hp⟩ : ∃ p : Nat, p = 16777199 := ⟨_, rfl⟩
  have h : pow x (p * p) = x := pow_PP hp hx
  have hpp : p * p = n + 1 := by rw [hp, hn]
  rw [hpp, pow] at h
  obtain ⟨z, hz⟩ := inverse hx hne
  have : mul (mul (pow x n) x) z = mul x z := by rw [h]
  rw [mul_assoc, hz, mul_one _ (pow_right _ _)] at this
  exact this
end Go.Proofs.Ytbiijcehgiibeaa.M
namespace Go.Proofs.Ytbiijcehgiibeaa.Pure
open Go.RowKit Go.Proofs.Ytbiijcehgiibeaa.Q Go.Proofs.YtbiijcehgiibeaaW.PrintWords
set_option linter.unusedVariables false
set_option linter.unusedSimpArgs false
theorem times_ok {x y : Int × Int} (hx : M.right x.1 x.2 = true) (hy : M.right y.1 y.2 = true) : seal_Times.f x.1 x.2 y.1 y.2 = some ((M.mul x y).1, (M.mul x y).2, 0) := by
  unfold seal_Times.f
  rw [if_pos hx, if_pos hy]
theorem power_ok {x : Int × Int} {n : Int} (hx : M.right x.1 x.2 = true) (h0 : 0 ≤ n) (h1 : n ≤ 9223372036854775807) : seal_Power.f x.1 x.2 n = some ((M.pow x n.toNat).1, (M.pow x n.toNat).2, 0) := by
  unfold seal_Power.f
  rw [if_pos hx, if_neg (by omega), if_pos h1]
theorem eq_pair {x y : Int × Int} (h : x = y) : (x.1 == y.1 && (x.2 == y.2)) = true := by subst h; simp
end Go.Proofs.Ytbiijcehgiibeaa.Pure
namespace Go.Proofs.Ytbiijcehgiibeaa.Pure
open Go.RowKit Go.Proofs.Ytbiijcehgiibeaa.Q Go.Proofs.YtbiijcehgiibeaaW.PrintWords
set_option linter.unusedVariables false
set_option linter.unusedSimpArgs false
theorem SealOver (a0_0 a0_1 a1 a2 : Int) (w0 : (Lit.int .i64 a0_0).wf = true) (w1 : (Lit.int .i64 a0_1).wf = true) (w2 : (Lit.int .i64 a1).wf = true) (w3 : (Lit.int .i64 a2).wf = true) :
    reevelaw02_SealOver.f a0_0 a0_1 a1 a2 = some true := by
  unfold reevelaw02_SealOver.f
  rw [awake02, of, fold, fold]
  simp only [Option.bind_some]
  have hr := of_right a0_0 a0_1
  obtain ⟨x, hx⟩ : ∃ x : Int × Int, x = (a0_0 % 16777199, a0_1 % 16777199) := ⟨_, rfl⟩
  have h1 : a0_0 % 16777199 = x.1 := by rw [hx]
  have h2 : a0_1 % 16777199 = x.2 := by rw [hx]
  rw [h1, h2] at hr ⊢
  clear h1 h2 hx
  have hn : 0 ≤ a1 % 16777199 ∧ a1 % 16777199 < 16777199 := by omega
  have hm : 0 ≤ a2 % 16777199 ∧ a2 % 16777199 < 16777199 := by omega
  generalize a1 % 16777199 = n at hn ⊢
  generalize a2 % 16777199 = m at hm ⊢
  obtain ⟨hn0, hn1⟩ := hn
  obtain ⟨hm0, hm1⟩ := hm
  have hnm0 : 0 ≤ n * m := Int.mul_nonneg hn0 hm0
  have hnm1 : n * m ≤ 16777199 * 16777199 := Int.mul_le_mul (by omega) (by omega) hm0 (by omega)
  have hw : wrap64 (n * m) = n * m := by unfold wrap64; omega
  obtain ⟨q, hq⟩ : ∃ q : Int, q = 281474406285599 := ⟨_, rfl⟩
  rw [hw, ← hq, power_ok hr (by omega) (by omega), power_ok hr hn0 (by omega), power_ok hr hnm0 (by omega)]
  simp only [Option.bind_some]
  rw [times_ok hr (M.pow_right _ _), power_ok (M.pow_right _ _) hm0 (by omega)]
  simp only [Option.bind_some, if_true]
  have e1 : M.pow (M.pow x n.toNat) m.toNat = M.pow x (n * m).toNat := by
    rw [M.pow_pow]
    congr 1
    obtain ⟨a, rfl⟩ := Int.eq_ofNat_of_zero_le hn0
    obtain ⟨b, rfl⟩ := Int.eq_ofNat_of_zero_le hm0
    rw [← Int.natCast_mul, Int.toNat_natCast, Int.toNat_natCast, Int.toNat_natCast]
  rw [if_pos (eq_pair e1)]
  by_cases hz : x = (0, 0)
  · rw [hz]
    rfl
  · have e2 : M.mul x (M.pow x q.toNat) = (1, 0) := by
      have h := M.pow_order hr hz (n := q.toNat + 1) (by omega)
      rw [M.pow, M.mul_comm] at h
      exact h
    rw [e2]
    simp
end Go.Proofs.Ytbiijcehgiibeaa.Pure
namespace Go.Proofs.Ytbiijcehgiibeaa.O
open Go.ChangeShapes Go.WideShapes Go.ChangeAt Go.RowKit
theorem agg_ints {P : Program} {w : World} {r : Reach} {b : Nat} {t e : TypeId} {v : Value} {n : Nat} {fs : Array Field} (hs : P.underlying t = some (.struct fs)) (hC : P.cellsOf t = n)
    (ht : P.cellTypes P.depth t = some (List.replicate n e)) (he : P.underlying e = some (.int .i64)) (hv : Value.okWide P w r b t v) :
    ∃ cs : Array Value, v = .agg cs ∧ cs.size = n ∧ ∀ i, i < n → ∃ x, cs[i]? = some (.int .i64 x) ∧ (Lit.int .i64 x).wf = true := by
  unfold Value.okWide at hv
  rw [hs] at hv
  obtain ⟨cs, rfl, hsz, hr⟩ := hv
  rw [hC] at hsz
  refine ⟨cs, rfl, hsz, fun i hi => ?_⟩
  obtain ⟨ts, h1, _, h2⟩ := hr
  rw [ht] at h1
  cases h1
  obtain ⟨u, h3, h4⟩ := h2 i (cs[i]'(by omega)) (Array.getElem?_eq_getElem (by omega))
  have hu : u = e := by
    have := List.mem_of_getElem? h3
    exact (List.mem_replicate.1 this).2
  subst hu
  generalize hc : cs[i]'(by omega) = c at h4
  unfold Cell.okWide Cell.ok at h4
  rw [he] at h4
  cases c <;> simp only at h4 <;> try exact h4.elim
  rename_i k x
  obtain ⟨rfl, hk⟩ := h4
  refine ⟨x, by rw [Array.getElem?_eq_getElem (by omega), hc], ?_⟩
  unfold IntKind.has at hk
  have h9 : x ≤ 9223372036854775807 := hk.2
  simp [Lit.wf, hk.1, h9]
theorem arr2 {cs : Array Value} {x0 x1 : Value} (hsz : cs.size = 2) (h0 : cs[0]? = some x0) (h1 : cs[1]? = some x1) : cs = #[x0, x1] := by
  obtain ⟨l⟩ := cs
  match l, hsz with
  | [a, b], _ => simp_all
theorem agg2 {P : Program} {w : World} {r : Reach} {b : Nat} {t e : TypeId} {v : Value} {fs : Array Field} (hs : P.underlying t = some (.struct fs)) (hC : P.cellsOf t = 2)
    (ht : P.cellTypes P.depth t = some [e, e]) (he : P.underlying e = some (.int .i64)) (hv : Value.okWide P w r b t v) :
    ∃ x0 x1 : Int, v = .agg #[.int .i64 x0, .int .i64 x1] ∧ (Lit.int .i64 x0).wf = true ∧ (Lit.int .i64 x1).wf = true := by
  obtain ⟨cs, rfl, hsz, h⟩ := agg_ints hs hC ht he hv
  obtain ⟨x0, e0, w0⟩ := h 0 (by omega)
  obtain ⟨x1, e1, w1⟩ := h 1 (by omega)
  exact ⟨x0, x1, by rw [arr2 hsz e0 e1], w0, w1⟩
end Go.Proofs.Ytbiijcehgiibeaa.O
