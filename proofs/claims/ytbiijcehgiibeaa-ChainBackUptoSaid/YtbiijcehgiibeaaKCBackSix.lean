/- Proved here, in whole numbers: a seal's six bytes and what is read of six bytes: one the way back of the other. No program in sight. -/
import Derived.Test.YtbiijcehgiibeaaKCBackMath
namespace Go.Proofs.Ytbiijcehgiibeaa.M
def six (l : List Int) (i : Nat) : Int × Int := (l.getD i 0 + 256 * l.getD (i + 1) 0 + 65536 * l.getD (i + 2) 0, l.getD (i + 3) 0 + 256 * l.getD (i + 4) 0 + 65536 * l.getD (i + 5) 0)
def wr6 (x : Int × Int) : List Int := [x.1 % 256, x.1 / 256 % 256, x.1 / 65536 % 256, x.2 % 256, x.2 / 256 % 256, x.2 / 65536 % 256]
def rd6 (l : List Int) (i : Int) : Int × Int × Int × Int :=
  if i < 0 ∨ i > (l.length : Int) then (0, 0, 0, 1) else if (l.length : Int) - i < 6 then (0, 0, 0, 10) else
    if right (six l i.toNat).1 (six l i.toNat).2 = true then ((six l i.toNat).1, (six l i.toNat).2, i + 6, 0) else (0, 0, 0, 20)
theorem wr6_bytes (x : Int × Int) : bytes (wr6 x) = true := by
  unfold bytes wr6
  simp only [List.all_cons, List.all_nil, Bool.and_true, Bool.and_eq_true, decide_eq_true_eq]
  omega
theorem wr6_length (x : Int × Int) : (wr6 x).length = 6 := rfl
theorem getD_append_left (a b : List Int) (i : Nat) (h : i < a.length) : (a ++ b).getD i 0 = a.getD i 0 := by
  rw [List.getD_eq_getElem?_getD, List.getD_eq_getElem?_getD, List.getElem?_append_left h]
theorem getD_append_right (a b : List Int) (i : Nat) : (a ++ b).getD (a.length + i) 0 = b.getD i 0 := by
  rw [List.getD_eq_getElem?_getD, List.getD_eq_getElem?_getD, List.getElem?_append_right (by omega), Nat.add_sub_cancel_left]
theorem six_wr6 {x : Int × Int} (h : right x.1 x.2 = true) (b : List Int) : six (wr6 x ++ b) 0 = x := by
  obtain ⟨h1, h2, h3, h4⟩ := right_iff.1 h
  unfold six
  simp only [Nat.zero_add]
  have hl : (wr6 x).length = 6 := rfl
  rw [getD_append_left _ _ 0 (by omega), getD_append_left _ _ 1 (by omega), getD_append_left _ _ 2 (by omega), getD_append_left _ _ 3 (by omega), getD_append_left _ _ 4 (by omega), getD_append_left _ _ 5 (by omega)]
  unfold wr6
  simp only [List.getD_cons_zero, List.getD_cons_succ]
  refine Prod.ext ?_ ?_ <;> simp only <;> omega
theorem six_shift (a b : List Int) : six (a ++ b) a.length = six b 0 := by
  unfold six
  simp only [Nat.zero_add]
  rw [getD_append_right a b 1, getD_append_right a b 2, getD_append_right a b 3, getD_append_right a b 4, getD_append_right a b 5]
  have := getD_append_right a b 0
  rw [Nat.add_zero] at this
  rw [this]
theorem wr6_six {l : List Int} (hl : bytes l = true) (i : Nat) (h : i + 6 ≤ l.length) : wr6 (six l i) = (l.drop i).take 6 := by
  have b0 := bytes_getD hl i
  have b1 := bytes_getD hl (i + 1)
  have b2 := bytes_getD hl (i + 2)
  have b3 := bytes_getD hl (i + 3)
  have b4 := bytes_getD hl (i + 4)
  have b5 := bytes_getD hl (i + 5)
  have g : ∀ j, j < l.length → ∀ m, (l.drop j).take (m + 1) = l.getD j 0 :: (l.drop (j + 1)).take m := by
    intro j hj m
    rw [List.getD_eq_getElem?_getD, List.getElem?_eq_getElem hj, List.drop_eq_getElem_cons hj]
    rfl
  rw [g i (by omega) 5, g (i + 1) (by omega) 4, g (i + 1 + 1) (by omega) 3, g (i + 1 + 1 + 1) (by omega) 2, g (i + 1 + 1 + 1 + 1) (by omega) 1, g (i + 1 + 1 + 1 + 1 + 1) (by omega) 0, List.take_zero]
  unfold wr6 six
  simp only [show i + 1 + 1 = i + 2 from rfl, show i + 2 + 1 = i + 3 from rfl, show i + 3 + 1 = i + 4 from rfl, show i + 4 + 1 = i + 5 from rfl]
  generalize l.getD i 0 = c0 at *
  generalize l.getD (i + 1) 0 = c1 at *
  generalize l.getD (i + 2) 0 = c2 at *
  generalize l.getD (i + 3) 0 = c3 at *
  generalize l.getD (i + 4) 0 = c4 at *
  generalize l.getD (i + 5) 0 = c5 at *
  have e0 : (c0 + 256 * c1 + 65536 * c2) % 256 = c0 := by omega
  have e1 : (c0 + 256 * c1 + 65536 * c2) / 256 % 256 = c1 := by omega
  have e2 : (c0 + 256 * c1 + 65536 * c2) / 65536 % 256 = c2 := by omega
  have e3 : (c3 + 256 * c4 + 65536 * c5) % 256 = c3 := by omega
  have e4 : (c3 + 256 * c4 + 65536 * c5) / 256 % 256 = c4 := by omega
  have e5 : (c3 + 256 * c4 + 65536 * c5) / 65536 % 256 = c5 := by omega
  rw [e0, e1, e2, e3, e4, e5]
theorem rd6_wr6 {x : Int × Int} (h : right x.1 x.2 = true) (a b : List Int) : rd6 (a ++ (wr6 x ++ b)) (a.length : Int) = (x.1, x.2, (a.length : Int) + 6, 0) := by
  unfold rd6
  rw [if_neg (by simp only [List.length_append, wr6_length]; omega), if_neg (by simp only [List.length_append, wr6_length]; omega), Int.toNat_natCast, six_shift, six_wr6 h, if_pos h]
end Go.Proofs.Ytbiijcehgiibeaa.M
