/- Proved here: 16777199 is a prime; the pairs modulo it are a field; each pair but zero to the power P P - 1 is 1. No program in sight. -/
import Derived.Test.YtbiijcehgiibeaaRing
namespace Go.Proofs.Ytbiijcehgiibeaa.M

/-! The prime -/
theorem check_P : ((List.range 4097).all fun d => decide (d < 2) || (16777199 % d != 0)) = true := by decide +kernel

theorem small_div {d : Nat} (h : d < 4097) (hd : d ∣ 16777199) : d < 2 := by
  have h1 := List.all_eq_true.1 check_P d (List.mem_range.2 h)
  have h2 : 16777199 % d = 0 := Nat.mod_eq_zero_of_dvd hd
  rw [h2] at h1
  simpa using h1

theorem prime_P {d : Nat} (hd : d ∣ 16777199) : d = 1 ∨ d = 16777199 := by
  obtain ⟨e, he⟩ := hd
  by_cases h : d < 4097
  · have := small_div h ⟨e, he⟩
    have : d ≠ 0 := by rintro rfl; omega
    omega
  · have h2 : e < 4097 := by
      apply Decidable.byContradiction
      intro h3
      have := Nat.mul_le_mul (show 4097 ≤ d by omega) (show 4097 ≤ e by omega)
      omega
    have h3 := small_div h2 ⟨d, by rw [he, Nat.mul_comm]⟩
    have : e ≠ 0 := by rintro rfl; omega
    obtain rfl : e = 1 := by omega
    omega

theorem coprime_P {k : Nat} (h0 : 0 < k) (h1 : k < 16777199) : Nat.Coprime 16777199 k := by
  rcases prime_P (Nat.gcd_dvd_left 16777199 k) with h | h
  · exact h
  · have h2 := Nat.gcd_dvd_right 16777199 k
    rw [h] at h2
    have := Nat.le_of_dvd h0 h2
    omega

/-! Binomials -/
def ch : Nat → Nat → Nat
  | _, 0 => 1
  | 0, _ + 1 => 0
  | n + 1, k + 1 => ch n k + ch n (k + 1)
theorem ch_zero (n : Nat) : ch n 0 = 1 := by cases n <;> rfl
theorem ch_gt : ∀ {n k : Nat}, n < k → ch n k = 0
  | 0, k + 1, _ => rfl
  | n + 1, k + 1, h => by
    rw [ch, ch_gt (show n < k by omega), ch_gt (show n < k + 1 by omega)]
theorem ch_self : ∀ n, ch n n = 1
  | 0 => rfl
  | n + 1 => by rw [ch, ch_self n, ch_gt (Nat.lt_succ_self n)]
theorem ch_mul : ∀ (n k : Nat), (k + 1) * ch (n + 1) (k + 1) = (n + 1) * ch n k
  | 0, 0 => rfl
  | 0, k + 1 => by simp [ch]
  | n + 1, 0 => by
    have h1 : 1 * ch (n + 1) 1 = (n + 1) * ch n 0 := ch_mul n 0
    have e1 : ch (n + 2) 1 = ch (n + 1) 0 + ch (n + 1) 1 := rfl
    rw [ch_zero] at h1 e1
    rw [show n + 1 + 1 = n + 2 from rfl, show 0 + 1 = 1 from rfl, e1, ch_zero]
    omega
  | n + 1, k + 1 => by
    have h1 := ch_mul n k
    have h2 := ch_mul n (k + 1)
    have e1 : ch (n + 2) (k + 2) = ch (n + 1) (k + 1) + ch (n + 1) (k + 2) := rfl
    have e2 : ch (n + 1) (k + 1) = ch n k + ch n (k + 1) := rfl
    rw [show n + 1 + 1 = n + 2 from rfl, show k + 1 + 1 = k + 2 from rfl, e1]
    have h2' : (k + 2) * ch (n + 1) (k + 2) = (n + 1) * ch n (k + 1) := h2
    grind
theorem ch_P {p k : Nat} (hp : p = 16777199) (h0 : 0 < k) (h1 : k < p) : 16777199 ∣ ch p k := by
  obtain ⟨q, rfl⟩ : ∃ q, p = q + 1 := ⟨p - 1, by omega⟩
  obtain ⟨j, rfl⟩ : ∃ j, k = j + 1 := ⟨k - 1, by omega⟩
  have h := ch_mul q j
  refine (coprime_P h0 (by omega)).dvd_of_dvd_mul_left ?_
  exact ⟨ch q j, by rw [h, hp]⟩

/-! Sums of pairs -/
def sum : Nat → (Nat → Int × Int) → Int × Int
  | 0, _ => (0, 0)
  | n + 1, f => plus (sum n f) (f n)
theorem sum_right (n : Nat) (f : Nat → Int × Int) : right (sum n f).1 (sum n f).2 = true := by
  cases n with
  | zero => exact (by decide : right ((0, 0) : Int × Int).1 ((0, 0) : Int × Int).2 = true)
  | succ n => exact plus_right _ _
theorem sum_congr {f g : Nat → Int × Int} : ∀ {n : Nat}, (∀ k, k < n → f k = g k) → sum n f = sum n g
  | 0, _ => rfl
  | n + 1, h => by rw [sum, sum, sum_congr (fun k hk => h k (by omega)), h n (by omega)]
theorem plus4 (a b c d : Int × Int) : plus (plus a b) (plus c d) = plus (plus a c) (plus b d) := by
  rw [plus_assoc, ← plus_assoc b, plus_comm b c, plus_assoc, plus_assoc]
theorem sum_plus (f g : Nat → Int × Int) : ∀ n, sum n (fun k => plus (f k) (g k)) = plus (sum n f) (sum n g)
  | 0 => (by decide : ((0, 0) : Int × Int) = plus (0, 0) (0, 0))
  | n + 1 => by rw [sum, sum_plus f g n, sum, sum, plus4]
theorem zero_mul (x : Int × Int) : mul (0, 0) x = (0, 0) := by unfold mul; refine Prod.ext ?_ ?_ <;> simp only <;> omega
theorem mul_sum (f : Nat → Int × Int) (z : Int × Int) : ∀ n, mul (sum n f) z = sum n (fun k => mul (f k) z)
  | 0 => zero_mul z
  | n + 1 => by rw [sum, mul_plus, mul_sum f z n, sum]
theorem zero_plus {x : Int × Int} (h : right x.1 x.2 = true) : plus (0, 0) x = x := by rw [plus_comm, plus_zero h]
theorem sum_left (f : Nat → Int × Int) (h : right (f 0).1 (f 0).2 = true) : ∀ n, sum (n + 1) f = plus (f 0) (sum n (fun k => f (k + 1)))
  | 0 => by
    show plus (0, 0) (f 0) = plus (f 0) (0, 0)
    exact plus_comm _ _
  | n + 1 => by rw [sum, sum_left f h n, sum, plus_assoc]
theorem sum_zero {f : Nat → Int × Int} {n : Nat} (h : ∀ k, k < n → f k = (0, 0)) : sum n f = (0, 0) := by
  induction n with
  | zero => rfl
  | succ n ih =>
    rw [sum, ih (fun k hk => h k (by omega)), h n (by omega)]
    decide

/-! The binomial theorem -/
def term (x y : Int × Int) (n k : Nat) : Int × Int := mul ((ch n k : Int), 0) (mul (pow x k) (pow y (n - k)))
theorem smul_add (a b : Int) (z : Int × Int) : mul (a + b, 0) z = plus (mul (a, 0) z) (mul (b, 0) z) := by
  rw [← mul_plus]
  unfold plus
  simp only
  rw [mul_red]
  rfl
theorem one_smul {z : Int × Int} (h : right z.1 z.2 = true) : mul (1, 0) z = z := one_mul z h

theorem binom (x y : Int × Int) : ∀ n, pow (plus x y) n = sum (n + 1) (term x y n)
  | 0 => by
    show ((1, 0) : Int × Int) = plus (0, 0) (mul (1, 0) (mul (1, 0) (1, 0)))
    decide
  | n + 1 => by
    have hx : mul (pow (plus x y) n) (plus x y) = plus (mul (sum (n + 1) (term x y n)) x) (mul (sum (n + 1) (term x y n)) y) := by
      rw [binom x y n, mul_comm _ (plus x y), mul_plus, mul_comm x, mul_comm y]
    rw [pow, hx, mul_sum, mul_sum]
    have h0 : right (term x y (n + 1) 0).1 (term x y (n + 1) 0).2 = true := mul_right _ _
    rw [sum_left _ h0 (n + 1)]
    let U : Nat → Int × Int := fun k => mul ((ch n k : Int), 0) (mul (pow x k) (pow y (n + 1 - k)))
    have e1 : sum (n + 1) (fun k => term x y (n + 1) (k + 1)) = plus (sum (n + 1) (fun k => mul (term x y n k) x)) (sum (n + 1) (fun k => U (k + 1))) := by
      rw [← sum_plus]
      refine sum_congr (fun k _ => ?_)
      show mul (((ch n k + ch n (k + 1) : Nat) : Int), 0) (mul (pow x (k + 1)) (pow y (n + 1 - (k + 1)))) = plus (mul (mul ((ch n k : Int), 0) (mul (pow x k) (pow y (n - k)))) x) (mul ((ch n (k + 1) : Int), 0) (mul (pow x (k + 1)) (pow y (n + 1 - (k + 1)))))
      rw [Int.natCast_add, smul_add]
      congr 1
      rw [show n + 1 - (k + 1) = n - k by omega, pow, mul_assoc, mul_assoc, mul_assoc, mul_comm x]
    have e2 : term x y (n + 1) 0 = U 0 := by
      show mul ((ch (n + 1) 0 : Int), 0) _ = mul ((ch n 0 : Int), 0) _
      rw [ch_zero, ch_zero]
    have e3 : plus (U 0) (sum (n + 1) (fun k => U (k + 1))) = sum (n + 1) (fun k => mul (term x y n k) y) := by
      rw [← sum_left U (mul_right _ _) (n + 1), sum]
      have e4 : U (n + 1) = (0, 0) := by
        show mul ((ch n (n + 1) : Int), 0) _ = _
        rw [ch_gt (Nat.lt_succ_self n)]
        exact zero_mul _
      rw [e4, plus_zero (sum_right _ _)]
      refine sum_congr (fun k hk => ?_)
      show mul ((ch n k : Int), 0) (mul (pow x k) (pow y (n + 1 - k))) = mul (mul ((ch n k : Int), 0) (mul (pow x k) (pow y (n - k)))) y
      rw [show n + 1 - k = n - k + 1 by omega, pow, mul_assoc, mul_assoc]
    rw [e1, e2, ← plus_assoc, plus_comm (U 0), plus_assoc, e3]

theorem frob {p : Nat} (hp : p = 16777199) (x y : Int × Int) : pow (plus x y) p = plus (pow x p) (pow y p) := by
  rw [binom]
  obtain ⟨q, hq⟩ : ∃ q, p = q + 1 := ⟨p - 1, by omega⟩
  rw [sum]
  have h0 : sum p (term x y p) = pow y p := by
    have e := sum_left (term x y p) (mul_right _ _) q
    rw [← hq] at e
    have hr0 : right (term x y p 0).1 (term x y p 0).2 = true := mul_right _ _
    rw [e, sum_zero (n := q), plus_zero hr0]
    · unfold term
      rw [ch_zero, Nat.sub_zero]
      show mul (1, 0) (mul (1, 0) (pow y p)) = _
      rw [one_mul _ (mul_right _ _), one_mul _ (pow_right _ _)]
    · intro k hk
      obtain ⟨c, hc⟩ := ch_P hp (Nat.succ_pos k) (show k + 1 < p by omega)
      unfold term
      rw [hc, Int.natCast_mul]
      generalize mul (pow x (k + 1)) (pow y (p - (k + 1))) = z
      have : mul (((16777199 : Nat) : Int) * (c : Int), 0) z = mul ((((16777199 : Nat) : Int) * (c : Int)) % 16777199, 0 % 16777199) z := (mul_red _ _ z).symm
      rw [this, show (((16777199 : Nat) : Int) * (c : Int)) % 16777199 = 0 by omega]
      exact zero_mul z
  have h1 : term x y p p = pow x p := by
    unfold term
    rw [ch_self, Nat.sub_self]
    show mul (1, 0) (mul (pow x p) (1, 0)) = _
    rw [mul_one _ (pow_right _ _), one_mul _ (pow_right _ _)]
  rw [h0, h1, plus_comm]

/-! Fermat; the conjugate -/
theorem pow_mul_distr (x y : Int × Int) : ∀ n, pow (mul x y) n = mul (pow x n) (pow y n)
  | 0 => by show ((1, 0) : Int × Int) = mul (1, 0) (1, 0); decide
  | n + 1 => by
    rw [pow, pow_mul_distr x y n, pow, pow, mul_assoc, ← mul_assoc (pow y n), mul_comm (pow y n) x, mul_assoc, mul_assoc]
theorem pow_pow (x : Int × Int) (m : Nat) : ∀ n, pow (pow x m) n = pow x (m * n)
  | 0 => rfl
  | n + 1 => by rw [pow, pow_pow x m n, Nat.mul_succ, pow_add]
theorem pow_one {x : Int × Int} (h : right x.1 x.2 = true) : pow x 1 = x := one_mul x h
theorem one_pow : ∀ n, pow (1, 0) n = (1, 0)
  | 0 => rfl
  | n + 1 => by rw [pow, one_pow n]; decide

theorem fermat {p : Nat} (hp : p = 16777199) : ∀ a : Nat, pow ((a : Int) % 16777199, 0) p = ((a : Int) % 16777199, 0)
  | 0 => by
    obtain ⟨q, rfl⟩ : ∃ q, p = q + 1 := ⟨p - 1, by omega⟩
    rw [pow, mul_comm]
    exact zero_mul _
  | a + 1 => by
    have e : ((((a + 1 : Nat) : Int) % 16777199, 0) : Int × Int) = plus ((a : Int) % 16777199, 0) (1, 0) := by
      unfold plus
      refine Prod.ext ?_ ?_ <;> simp only <;> omega
    rw [e, frob hp, fermat hp a, one_pow]

theorem i_pow : ∀ m, pow (0, 1) (4 * m) = (1, 0)
  | 0 => rfl
  | m + 1 => by rw [show 4 * (m + 1) = 4 * m + 4 by omega, pow_add, i_pow m]; decide

def conj (x : Int × Int) : Int × Int := (x.1, (-x.2) % 16777199)

theorem frob_conj {p : Nat} (hp : p = 16777199) {x : Int × Int} (h : right x.1 x.2 = true) : pow x p = conj x := by
  obtain ⟨a, b⟩ := x
  obtain ⟨h1, h2, h3, h4⟩ := right_iff.1 h
  simp only at h1 h2 h3 h4
  have e : ((a, b) : Int × Int) = plus ((a.toNat : Int) % 16777199, 0) (mul ((b.toNat : Int) % 16777199, 0) (0, 1)) := by
    unfold plus mul
    refine Prod.ext ?_ ?_ <;> simp only <;> omega
  have hi : pow (0, 1) p = (0, 16777198) := by
    obtain ⟨j, hj⟩ : ∃ j : Nat, p = 4 * j + 3 := ⟨4194299, by omega⟩
    rw [hj, pow_add, i_pow]
    decide
  conv => lhs; rw [e]
  rw [frob hp, pow_mul_distr, fermat hp, fermat hp, hi]
  unfold plus mul conj
  refine Prod.ext ?_ ?_ <;> simp only <;> omega

theorem conj_right {x : Int × Int} (h : right x.1 x.2 = true) : right (conj x).1 (conj x).2 = true := by
  obtain ⟨h1, h2, h3, h4⟩ := right_iff.1 h
  rw [right_iff]; unfold conj; simp only; omega
theorem conj_conj {x : Int × Int} (h : right x.1 x.2 = true) : conj (conj x) = x := by
  obtain ⟨h1, h2, h3, h4⟩ := right_iff.1 h
  unfold conj
  refine Prod.ext ?_ ?_ <;> simp only <;> omega

theorem pow_PP {p : Nat} (hp : p = 16777199) {x : Int × Int} (h : right x.1 x.2 = true) : pow x (p * p) = x := by
  rw [← pow_pow, frob_conj hp h, frob_conj hp (conj_right h), conj_conj h]

/-! Norms and inverses -/
theorem dvd_iff (a : Int) : a % 16777199 = 0 ↔ 16777199 ∣ a := by omega

/-- A whole number that the prime does not divide has an inverse. -/
theorem inv_exists {a : Int} (ha : a % 16777199 ≠ 0) : ∃ m : Int, (a * m) % 16777199 = 1 := by
  obtain ⟨p, hp⟩ : ∃ p : Nat, p = 16777199 := ⟨_, rfl⟩
  obtain ⟨q, hq⟩ : ∃ q, p = q + 1 := ⟨p - 1, by omega⟩
  have hn : 0 ≤ a % 16777199 ∧ a % 16777199 < 16777199 := by omega
  obtain ⟨n, hna⟩ : ∃ n : Nat, (n : Int) = a % 16777199 := ⟨(a % 16777199).toNat, by omega⟩
  have h1 := fermat hp n
  have hlt : (n : Int) % 16777199 = n := by omega
  rw [hlt] at h1
  -- pow (n, 0) k = (u, 0)
  have hu : ∀ k, ∃ u : Int, pow ((n : Int), 0) k = (u, 0) := by
    intro k
    induction k with
    | zero => exact ⟨1, rfl⟩
    | succ k ih =>
      obtain ⟨u, hu⟩ := ih
      refine ⟨(u * n) % 16777199, ?_⟩
      rw [pow, hu]
      unfold mul
      refine Prod.ext ?_ ?_ <;> simp only [Int.mul_zero, Int.zero_mul, Int.sub_zero, Int.add_zero] <;> rfl
  obtain ⟨u, hu⟩ := hu q
  rw [hq, pow, hu] at h1
  have h2 : (u * n) % 16777199 = n := by
    have := congrArg Prod.fst h1
    unfold mul at this
    simpa using this
  have h3 : (16777199 : Int) ∣ (u - 1) * n := by
    rw [← dvd_iff, Int.sub_mul]
    omega
  have h4 : 16777199 ∣ n * (u - 1).natAbs := by
    have := Int.natAbs_dvd_natAbs.2 h3
    rw [Int.natAbs_mul, Nat.mul_comm] at this
    simpa using this
  have h5 : 16777199 ∣ (u - 1).natAbs := (coprime_P (k := n) (by omega) (by omega)).dvd_of_dvd_mul_left h4
  have h6 : (16777199 : Int) ∣ u - 1 := by
    have := Int.natCast_dvd_natCast.2 h5
    exact Int.dvd_natAbs.1 this
  -- u = n ^ q is 1: so q is above 0, and n ^ (q - 1) is the inverse
  obtain ⟨j, hj⟩ : ∃ j, q = j + 1 := ⟨q - 1, by omega⟩
  have h7 : ∃ m : Int, (m * n) % 16777199 = u % 16777199 := by
    subst hj
    have hv : ∀ k, ∃ v : Int, pow ((n : Int), 0) k = (v, 0) := by
      intro k
      induction k with
      | zero => exact ⟨1, rfl⟩
      | succ k ih =>
        obtain ⟨v, hv⟩ := ih
        refine ⟨(v * n) % 16777199, ?_⟩
        rw [pow, hv]
        unfold mul
        refine Prod.ext ?_ ?_ <;> simp only [Int.mul_zero, Int.zero_mul, Int.sub_zero, Int.add_zero] <;> rfl
    obtain ⟨v, hv⟩ := hv j
    refine ⟨v, ?_⟩
    rw [pow, hv] at hu
    have := congrArg Prod.fst hu
    unfold mul at this
    simp only [Int.mul_zero, Int.sub_zero] at this
    omega
  obtain ⟨m, hm⟩ := h7
  refine ⟨m, ?_⟩
  obtain ⟨k, hk⟩ := emod_ex a
  have e : a * m = m * n + 16777199 * (k * m) := by
    rw [hna, hk]
    grind
  rw [e]
  omega

theorem neg_pow : ∀ k, pow (16777198, 0) (2 * k) = (1, 0)
  | 0 => rfl
  | k + 1 => by rw [show 2 * (k + 1) = 2 * k + 2 by omega, pow_add, neg_pow k]; decide

theorem neg_emod {n : Int} (h0 : 0 < n) (h1 : n < 16777199) : (-n) % 16777199 = 16777199 - n := by
  rw [← Int.add_emod_right, Int.emod_eq_of_lt (by omega) (by omega)]
  omega
theorem self_neg {n : Int} (h0 : 0 ≤ n) (h1 : n < 16777199) (h : n = (16777198 * n) % 16777199) : n = 0 := by
  have e1 : (16777198 : Int) * n = -n + 16777199 * n := by clear h; grind
  rw [e1, Int.add_mul_emod_self_left] at h
  apply Decidable.byContradiction
  intro hne
  have hpos : 0 < n := by clear h; omega
  rw [neg_emod hpos h1] at h
  clear e1
  omega

/-- The norm of a pair that is not 0 is not 0. -/
theorem norm_ne {a b : Int} (h1 : 0 ≤ a) (h2 : a < 16777199) (h3 : 0 ≤ b) (h4 : b < 16777199) (h : (a * a + b * b) % 16777199 = 0) : a = 0 ∧ b = 0 := by
  have prime : ∀ x : Int, 0 ≤ x → x < 16777199 → (x * x) % 16777199 = 0 → x = 0 := by
    intro x hx1 hx2 hx
    apply Decidable.byContradiction
    intro hne
    obtain ⟨m, hm⟩ := inv_exists (a := x) (by omega)
    have : (x * x * (m * m)) % 16777199 = 1 := by
      rw [show x * x * (m * m) = (x * m) * (x * m) by grind, Int.mul_emod, hm]
      decide
    rw [Int.mul_emod, hx] at this
    omega
  by_cases ha : a = 0
  · subst ha
    exact ⟨rfl, prime b h3 h4 (by simpa using h)⟩
  by_cases hb : b = 0
  · subst hb
    exact ⟨prime a h1 h2 (by simpa using h), rfl⟩
  exfalso
  -- c = b / a is a square root of -1; to the power P - 1 it would be 1 and -1
  obtain ⟨m, hm⟩ := inv_exists (a := a) (by omega)
  have hc : ((b * m) * (b * m)) % 16777199 = 16777198 := by
    have e : (b * m) * (b * m) = (a * a + b * b) * (m * m) - (a * m) * (a * m) := by grind
    have e2 : ((a * m) * (a * m)) % 16777199 = 1 := by rw [Int.mul_emod, hm]; decide
    have e3 : ((a * a + b * b) * (m * m)) % 16777199 = 0 := by rw [Int.mul_emod, h]; simp
    rw [e]
    omega
  obtain ⟨p, hp⟩ : ∃ p : Nat, p = 16777199 := ⟨_, rfl⟩
  generalize b * m = c at hc
  obtain ⟨n, hn⟩ : ∃ n : Nat, (n : Int) = c % 16777199 := ⟨(c % 16777199).toNat, by omega⟩
  have f := fermat hp n
  have hlt : (n : Int) % 16777199 = n := by omega
  have hn1 : (n : Int) < 16777199 := by omega
  rw [hlt] at f
  have sq : mul ((n : Int), 0) ((n : Int), 0) = (16777198, 0) := by
    unfold mul
    have : ((n : Int) * n) % 16777199 = 16777198 := by rw [hn, Int.mul_emod, Int.emod_emod, ← Int.mul_emod]; exact hc
    refine Prod.ext ?_ ?_ <;> simp only [Int.mul_zero, Int.zero_mul, Int.sub_zero, Int.add_zero]
    · exact this
    · rfl
  have p2 : pow ((n : Int), 0) 2 = (16777198, 0) := by
    have hr : right ((n : Int), (0 : Int)).1 ((n : Int), (0 : Int)).2 = true := by rw [right_iff]; simp only; omega
    rw [show (2 : Nat) = 1 + 1 from rfl, pow_add, pow_one hr, sq]
  have e : pow ((n : Int), 0) p = mul (16777198, 0) ((n : Int), 0) := by
    have hr : right ((n : Int), (0 : Int)).1 ((n : Int), (0 : Int)).2 = true := by rw [right_iff]; simp only; omega
    obtain ⟨j, hj⟩ : ∃ j : Nat, p = 2 * (2 * j + 1) + 1 := ⟨4194299, by omega⟩
    rw [hj, pow, ← pow_pow, p2, pow, neg_pow]
    congr 1
  rw [f] at e
  have e1 := congrArg Prod.fst e
  unfold mul at e1
  simp only [Int.mul_zero, Int.sub_zero] at e1
  have hz : (n : Int) = 0 := self_neg (Int.natCast_nonneg n) hn1 e1
  clear e1
  rw [hz] at hn
  have : (c * c) % 16777199 = 0 := by rw [Int.mul_emod, ← hn]; decide
  omega

theorem inverse {x : Int × Int} (hx : right x.1 x.2 = true) (hne : x ≠ (0, 0)) : ∃ z, mul x z = (1, 0) := by
  obtain ⟨a, b⟩ := x
  obtain ⟨h1, h2, h3, h4⟩ := right_iff.1 hx
  simp only at h1 h2 h3 h4
  have hN : (a * a + b * b) % 16777199 ≠ 0 := by
    intro h
    obtain ⟨rfl, rfl⟩ := norm_ne h1 h2 h3 h4 h
    exact hne rfl
  obtain ⟨m, hm⟩ := inv_exists hN
  refine ⟨(a * m, -(b * m)), ?_⟩
  unfold mul
  refine Prod.ext ?_ ?_ <;> simp only
  · rw [show a * (a * m) - b * -(b * m) = (a * a + b * b) * m by grind]; exact hm
  · rw [show a * -(b * m) + b * (a * m) = 0 by grind]; rfl

theorem mul_zero_iff {x y : Int × Int} (hx : right x.1 x.2 = true) (hy : right y.1 y.2 = true) : mul x y = (0, 0) ↔ x = (0, 0) ∨ y = (0, 0) := by
  constructor
  · intro h
    by_cases hne : x = (0, 0)
    · exact .inl hne
    · right
      obtain ⟨z, hz⟩ := inverse hx hne
      have : mul (mul x z) y = (0, 0) := by rw [mul_assoc, mul_comm z, ← mul_assoc, h]; exact zero_mul z
      rw [hz, one_mul y hy] at this
      exact this
  · rintro (rfl | rfl)
    · exact zero_mul y
    · rw [mul_comm]; exact zero_mul x

/-- The power P P - 1 of what is not 0 is 1. -/
theorem pow_order {x : Int × Int} (hx : right x.1 x.2 = true) (hne : x ≠ (0, 0)) {n : Nat} (hn : n = 281474406285600) : pow x n = (1, 0) := by
  obtain ⟨p, hp⟩ : ∃ p : Nat, p = 16777199 := ⟨_, rfl⟩
  have h : pow x (p * p) = x := pow_PP hp hx
  have hpp : p * p = n + 1 := by rw [hp, hn]
  rw [hpp, pow] at h
  obtain ⟨z, hz⟩ := inverse hx hne
  have : mul (mul (pow x n) x) z = mul x z := by rw [h]
  rw [mul_assoc, hz, mul_one _ (pow_right _ _)] at this
  exact this

end Go.Proofs.Ytbiijcehgiibeaa.M
