/- Proved here, in whole numbers: adding bytes to a seal is injective in the seal and in each byte; it is linear in the seal; joined seals are seals of joined bytes. No program in sight. -/
import Derived.Test.YtbiijcehgiibeaaMath
namespace Go.Proofs.Ytbiijcehgiibeaa.M

theorem emod_eq {a b : Int} (h : a % 16777199 = b % 16777199) : ∃ k, a - b = 16777199 * k := ⟨a / 16777199 - b / 16777199, by omega⟩

theorem step_inj {x y : Int × Int} {c : Int} (hx : right x.1 x.2 = true) (hy : right y.1 y.2 = true) (h : step x c = step y c) : x = y := by
  obtain ⟨x1, x2⟩ := x
  obtain ⟨y1, y2⟩ := y
  obtain ⟨a1, a2, a3, a4⟩ := right_iff.1 hx
  obtain ⟨b1, b2, b3, b4⟩ := right_iff.1 hy
  have h1 := congrArg Prod.fst h
  have h2 := congrArg Prod.snd h
  unfold step at h1 h2
  simp only at h1 h2 a1 a2 a3 a4 b1 b2 b3 b4
  obtain ⟨k1, e1⟩ := emod_eq h1
  obtain ⟨k2, e2⟩ := emod_eq h2
  clear h h1 h2 hx hy
  have f1 : 13583419 * (x1 * 69069 - x2 * 362437 + (c + 1) - (y1 * 69069 - y2 * 362437 + (c + 1))) - 4082763 * (x1 * 362437 + x2 * 69069 - (y1 * 362437 + y2 * 69069)) = 13583419 * (16777199 * k1) - 4082763 * (16777199 * k2) := by rw [e1, e2]
  have f2 : 4082763 * (x1 * 69069 - x2 * 362437 + (c + 1) - (y1 * 69069 - y2 * 362437 + (c + 1))) + 13583419 * (x1 * 362437 + x2 * 69069 - (y1 * 362437 + y2 * 69069)) = 4082763 * (16777199 * k1) + 13583419 * (16777199 * k2) := by rw [e1, e2]
  clear e1 e2
  have hu : x1 - y1 = 16777199 * (13583419 * k1 - 4082763 * k2 - (-32279) * (x1 - y1) + 310250 * (x2 - y2)) := by grind
  have hv : x2 - y2 = 16777199 * (4082763 * k1 + 13583419 * k2 - 310250 * (x1 - y1) - (-32279) * (x2 - y2)) := by grind
  generalize 13583419 * k1 - 4082763 * k2 - (-32279) * (x1 - y1) + 310250 * (x2 - y2) = m1 at hu
  generalize 4082763 * k1 + 13583419 * k2 - 310250 * (x1 - y1) - (-32279) * (x2 - y2) = m2 at hv
  clear f1 f2
  have e3 : x1 = y1 := by omega
  have e4 : x2 = y2 := by omega
  rw [e3, e4]

theorem add_inj (l : List Int) : ∀ {x y : Int × Int}, right x.1 x.2 = true → right y.1 y.2 = true → add x l = add y l → x = y := by
  induction l with
  | nil => exact fun _ _ h => h
  | cons c l ih => exact fun hx hy h => step_inj hx hy (ih (step_right _ _) (step_right _ _) h)

theorem step_byte {x : Int × Int} {c d : Int} (h0 : 0 ≤ c) (h1 : c < 256) (h2 : 0 ≤ d) (h3 : d < 256) : step x c = step x d ↔ c = d := by
  constructor
  · intro h
    have h1 := congrArg Prod.fst h
    unfold step at h1
    simp only at h1
    obtain ⟨k, e⟩ := emod_eq h1
    omega
  · rintro rfl; rfl

theorem add_append (x : Int × Int) (a b : List Int) : add x (a ++ b) = add (add x a) b := List.foldl_append

/-- One byte turned turns the seal. -/
theorem add_set {x : Int × Int} {l : List Int} {i : Nat} {d : Int} (hl : bytes l = true) (hi : i < l.length) (h0 : 0 ≤ d) (h1 : d < 256) : add x l = add x (l.set i d) ↔ l.getD i 0 = d := by
  have hs : l = l.take i ++ l.getD i 0 :: l.drop (i + 1) := by
    rw [List.getD_eq_getElem?_getD, List.getElem?_eq_getElem hi]
    simp
  have ht : l.set i d = l.take i ++ d :: l.drop (i + 1) := by
    rw [List.set_eq_take_append_cons_drop, if_pos hi]
  have hb := bytes_getD hl i
  have e1 : add x l = add (step (add x (l.take i)) (l.getD i 0)) (l.drop (i + 1)) := by
    conv => lhs; rw [hs]
    rw [add_append]; rfl
  have e2 : add x (l.set i d) = add (step (add x (l.take i)) d) (l.drop (i + 1)) := by
    rw [ht, add_append]; rfl
  rw [e1, e2]
  constructor
  · intro h
    exact (step_byte hb.1 hb.2 h0 h1).1 (add_inj _ (step_right _ _) (step_right _ _) h)
  · intro h; rw [h]

def plus (x y : Int × Int) : Int × Int := ((x.1 + y.1) % 16777199, (x.2 + y.2) % 16777199)
def minus (x y : Int × Int) : Int × Int := ((x.1 - y.1) % 16777199, (x.2 - y.2) % 16777199)
theorem plus_right (x y : Int × Int) : right (plus x y).1 (plus x y).2 = true := by rw [right_iff]; unfold plus; omega
theorem plus_comm (x y : Int × Int) : plus x y = plus y x := by unfold plus; rw [Int.add_comm x.1, Int.add_comm x.2]
theorem plus_assoc (x y z : Int × Int) : plus (plus x y) z = plus x (plus y z) := by
  unfold plus
  refine Prod.ext ?_ ?_ <;> simp only <;> omega
theorem plus_zero {x : Int × Int} (h : right x.1 x.2 = true) : plus x (0, 0) = x := by
  obtain ⟨h1, h2, h3, h4⟩ := right_iff.1 h
  unfold plus
  refine Prod.ext ?_ ?_ <;> simp only <;> omega
theorem minus_plus (x y z : Int × Int) : plus (minus x y) (plus y z) = plus x z := by
  unfold plus minus
  refine Prod.ext ?_ ?_ <;> simp only <;> omega
theorem plus_minus (x y z : Int × Int) : plus (minus x y) z = plus x (minus z y) := by
  unfold plus minus
  refine Prod.ext ?_ ?_ <;> simp only <;> omega
theorem mul_plus (x y z : Int × Int) : mul (plus x y) z = plus (mul x z) (mul y z) := by
  unfold mul plus
  obtain ⟨a, ha⟩ := emod_ex (x.1 + y.1)
  obtain ⟨b, hb⟩ := emod_ex (x.2 + y.2)
  obtain ⟨c, hc⟩ := emod_ex (x.1 * z.1 - x.2 * z.2)
  obtain ⟨d, hd⟩ := emod_ex (x.1 * z.2 + x.2 * z.1)
  obtain ⟨e, he⟩ := emod_ex (y.1 * z.1 - y.2 * z.2)
  obtain ⟨f, hf⟩ := emod_ex (y.1 * z.2 + y.2 * z.1)
  simp only [ha, hb, hc, hd, he, hf]
  refine Prod.ext (emod_congr ⟨- (a * z.1) + b * z.2 + c + e, ?_⟩) (emod_congr ⟨- (a * z.2) - b * z.1 + d + f, ?_⟩) <;> grind
theorem mul_minus (x y z : Int × Int) : mul (minus x y) z = minus (mul x z) (mul y z) := by
  unfold mul minus
  obtain ⟨a, ha⟩ := emod_ex (x.1 - y.1)
  obtain ⟨b, hb⟩ := emod_ex (x.2 - y.2)
  obtain ⟨c, hc⟩ := emod_ex (x.1 * z.1 - x.2 * z.2)
  obtain ⟨d, hd⟩ := emod_ex (x.1 * z.2 + x.2 * z.1)
  obtain ⟨e, he⟩ := emod_ex (y.1 * z.1 - y.2 * z.2)
  obtain ⟨f, hf⟩ := emod_ex (y.1 * z.2 + y.2 * z.1)
  simp only [ha, hb, hc, hd, he, hf]
  refine Prod.ext (emod_congr ⟨- (a * z.1) + b * z.2 + c - e, ?_⟩) (emod_congr ⟨- (a * z.2) - b * z.1 + d - f, ?_⟩) <;> grind
theorem step_eq (x : Int × Int) (c : Int) : step x c = plus (mul x (69069, 362437)) (c + 1, 0) := by
  unfold step plus mul
  refine Prod.ext ?_ ?_ <;> simp only <;> omega
theorem step_zero (c : Int) : step (0, 0) c = ((c + 1) % 16777199, 0) := by
  unfold step
  refine Prod.ext ?_ ?_ <;> simp only <;> omega
theorem mul_red (a b : Int) (w : Int × Int) : mul (a % 16777199, b % 16777199) w = mul (a, b) w := by
  unfold mul
  obtain ⟨c, hc⟩ := emod_ex a
  obtain ⟨d, hd⟩ := emod_ex b
  simp only [hc, hd]
  refine Prod.ext (emod_congr ⟨- (c * w.1) + d * w.2, ?_⟩) (emod_congr ⟨- (c * w.2) - d * w.1, ?_⟩) <;> grind

theorem add_lin (l : List Int) : ∀ (x : Int × Int), right x.1 x.2 = true → add x l = plus (mul x (pow (69069, 362437) l.length)) (add (0, 0) l) := by
  induction l with
  | nil =>
    intro x hx
    show x = plus (mul x (1, 0)) (0, 0)
    rw [mul_one x hx, plus_zero hx]
  | cons c l ih =>
    intro x hx
    show add (step x c) l = plus (mul x (mul (pow (69069, 362437) l.length) (69069, 362437))) (add (step (0, 0) c) l)
    rw [ih _ (step_right x c), ih _ (step_right (0, 0) c)]
    generalize pow (69069, 362437) l.length = w
    generalize add (0, 0) l = r
    have e : mul (step (0, 0) c) w = mul (c + 1, 0) w := by
      rw [step_zero, show (((c + 1) % 16777199, 0) : Int × Int) = ((c + 1) % 16777199, 0 % 16777199) from rfl, mul_red]
    rw [e, step_eq, mul_plus, plus_assoc, mul_assoc, mul_comm (69069, 362437) w]

theorem join_eq (x y : Int × Int) (n : Nat) : join x y n = plus (mul (minus x (1, 2)) (pow (69069, 362437) n)) y := by
  unfold join minus
  rw [mul_red]
  generalize pow (69069, 362437) n = w
  unfold mul plus
  refine Prod.ext ?_ ?_ <;> simp only <;> omega

theorem join_right (x y : Int × Int) (n : Nat) : right (join x y n).1 (join x y n).2 = true := by rw [join_eq]; exact plus_right _ _

/-- Joined: the seal of the one behind the other. -/
theorem join_add {x : Int × Int} (b : List Int) (hx : right x.1 x.2 = true) : join x (add (1, 2) b) b.length = add x b := by
  rw [join_eq, mul_minus, add_lin b (1, 2) (by decide), minus_plus, ← add_lin b x hx]

theorem join_zero {x : Int × Int} (hx : right x.1 x.2 = true) : join x (1, 2) 0 = x := by
  have := join_add [] hx
  exact this

/-- As the document's answer has it. -/
theorem join_ref (x y : Int × Int) (n : Nat) : join x y n = plus (mul x (pow (69069, 362437) n)) (minus y (mul (1, 2) (pow (69069, 362437) n))) := by
  rw [join_eq, mul_minus, plus_minus]

end Go.Proofs.Ytbiijcehgiibeaa.M
