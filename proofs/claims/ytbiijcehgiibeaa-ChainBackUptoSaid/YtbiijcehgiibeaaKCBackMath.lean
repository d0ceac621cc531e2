/- Definitions, in whole numbers, of what the program's functions answer: seals (pairs modulo the prime), sums over bytes, powers, numbers as bytes. No program in sight. -/
namespace Go.Proofs.Ytbiijcehgiibeaa.M
def right (a b : Int) : Bool := decide (0 ≤ a ∧ a < 16777199 ∧ 0 ≤ b ∧ b < 16777199)
def mul (x y : Int × Int) : Int × Int := ((x.1 * y.1 - x.2 * y.2) % 16777199, (x.1 * y.2 + x.2 * y.1) % 16777199)
def step (x : Int × Int) (c : Int) : Int × Int := ((x.1 * 69069 - x.2 * 362437 + (c + 1)) % 16777199, (x.1 * 362437 + x.2 * 69069) % 16777199)
def add (x : Int × Int) (l : List Int) : Int × Int := l.foldl step x
def bytes (l : List Int) : Bool := l.all fun c => decide (0 ≤ c ∧ c < 256)
def pow (x : Int × Int) : Nat → Int × Int
  | 0 => (1, 0)
  | n + 1 => mul (pow x n) x
theorem right_iff {a b : Int} : right a b = true ↔ 0 ≤ a ∧ a < 16777199 ∧ 0 ≤ b ∧ b < 16777199 := by unfold right; exact decide_eq_true_iff
theorem mul_right (x y : Int × Int) : right (mul x y).1 (mul x y).2 = true := by rw [right_iff]; unfold mul; omega
theorem step_right (x : Int × Int) (c : Int) : right (step x c).1 (step x c).2 = true := by rw [right_iff]; unfold step; omega
theorem add_right (l : List Int) : ∀ (x : Int × Int), right x.1 x.2 = true → right (add x l).1 (add x l).2 = true := by
  induction l with
  | nil => exact fun x h => h
  | cons c l ih => exact fun x _ => ih (step x c) (step_right x c)
theorem pow_right (x : Int × Int) : ∀ n, right (pow x n).1 (pow x n).2 = true
  | 0 => by rw [right_iff]; unfold pow; omega
  | n + 1 => mul_right _ _
theorem bytes_mem {l : List Int} (h : bytes l = true) (c : Int) (hc : c ∈ l) : 0 ≤ c ∧ c < 256 := by
  unfold bytes at h
  rw [List.all_eq_true] at h
  exact of_decide_eq_true (h c hc)
theorem bytes_getD {l : List Int} (h : bytes l = true) (i : Nat) : 0 ≤ l.getD i 0 ∧ l.getD i 0 < 256 := by
  by_cases hi : i < l.length
  · have := bytes_mem h _ (List.getElem_mem hi)
    rw [List.getD_eq_getElem?_getD, List.getElem?_eq_getElem hi]
    exact this
  · rw [List.getD_eq_getElem?_getD, List.getElem?_eq_none (by omega)]
    exact ⟨Int.le_refl _, by decide⟩
theorem add_take (x : Int × Int) (l : List Int) (i : Nat) (h : i < l.length) : add x (l.take (i + 1)) = step (add x (l.take i)) (l.getD i 0) := by
  unfold add
  rw [List.take_succ_eq_append_getElem h, List.foldl_append, List.getD_eq_getElem?_getD, List.getElem?_eq_getElem h]
  rfl
theorem emod_congr {a b : Int} (h : ∃ k, a - b = 16777199 * k) : a % 16777199 = b % 16777199 := by
  obtain ⟨k, hk⟩ := h
  omega
theorem emod_ex (a : Int) : ∃ k, a % 16777199 = a - 16777199 * k := ⟨a / 16777199, by omega⟩
theorem mul_assoc (x y z : Int × Int) : mul (mul x y) z = mul x (mul y z) := by
  unfold mul
  obtain ⟨a, ha⟩ := emod_ex (x.1 * y.1 - x.2 * y.2)
  obtain ⟨b, hb⟩ := emod_ex (x.1 * y.2 + x.2 * y.1)
  obtain ⟨c, hc⟩ := emod_ex (y.1 * z.1 - y.2 * z.2)
  obtain ⟨d, hd⟩ := emod_ex (y.1 * z.2 + y.2 * z.1)
  simp only [ha, hb, hc, hd]
  refine Prod.ext (emod_congr ⟨x.1 * c - x.2 * d - (a * z.1 - b * z.2), ?_⟩) (emod_congr ⟨x.1 * d + x.2 * c - (a * z.2 + b * z.1), ?_⟩) <;> grind
theorem mul_comm (x y : Int × Int) : mul x y = mul y x := by
  unfold mul
  refine Prod.ext (congrArg (· % 16777199) ?_) (congrArg (· % 16777199) ?_) <;> grind
theorem mul_one (x : Int × Int) (h : right x.1 x.2 = true) : mul x (1, 0) = x := by
  obtain ⟨h1, h2, h3, h4⟩ := right_iff.1 h
  unfold mul
  refine Prod.ext ?_ ?_ <;> omega
theorem one_mul (x : Int × Int) (h : right x.1 x.2 = true) : mul (1, 0) x = x := by rw [mul_comm, mul_one x h]
theorem pow_add (x : Int × Int) (m n : Nat) : pow x (m + n) = mul (pow x m) (pow x n) := by
  induction n with
  | zero => exact (mul_one _ (pow_right x m)).symm
  | succ n ih => rw [← Nat.add_assoc, pow, ih, mul_assoc]; rfl
end Go.Proofs.Ytbiijcehgiibeaa.M
