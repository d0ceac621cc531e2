/- Proved here, in whole numbers: adding bytes to a seal is injective in the seal and in each byte; it is linear in the seal; joined seals are seals of joined bytes. No program in sight. -/
import Derived.Test.YtbiijcehgiibeaaKCTellsMath
namespace Go.Proofs.Ytbiijcehgiibeaa.M
theorem emod_eq {a b : Int} (h : a % 16777199 = b % 16777199) : ∃ k, a - b = 16777199 * k := ⟨a / 16777199 - b / 16777199, by omega⟩
theorem step_inj {x y : Int × Int} {c : Int} (hx : right x.1 x.2 = true) (hy : right y.1 y.2 = true) (h : step x c = step y c) : x = y := by
  obtain ⟨x1, x2⟩ := x
  obtain ⟨y1, y2⟩ := y
  obtain ⟨a1, a2, a3, a4⟩ := right_iff.1 hx
  obtain ⟨b1, b2, b3, b4⟩ := right_iff.1 hy
  have h1 := congrArg Prod.fst h
  have h2 := congrArg Prod.snd h
  unfold step at h1 h2
  simp only at h1 h2 a1 a2 a3 a4 b1 b2 b3 b4
  obtain ⟨k1, e1⟩ := emod_eq h1
  obtain ⟨k2, e2⟩ := emod_eq h2
  clear h h1 h2 hx hy
  have f1 : 13583419 * (x1 * 69069 - x2 * 362437 + (c + 1) - (y1 * 69069 - y2 * 362437 + (c + 1))) - 4082763 * (x1 * 362437 + x2 * 69069 - (y1 * 362437 + y2 * 69069)) = 13583419 * (16777199 * k1) - 4082763 * (16777199 * k2) := by rw [e1, e2]
  have f2 : 4082763 * (x1 * 69069 - x2 * 362437 + (c + 1) - (y1 * 69069 - y2 * 362437 + (c + 1))) + 13583419 * (x1 * 362437 + x2 * 69069 - (y1 * 362437 + y2 * 69069)) = 4082763 * (16777199 * k1) + 13583419 * (16777199 * k2) := by rw [e1, e2]
  clear e1 e2
  have hu : x1 - y1 = 16777199 * (13583419 * k1 - 4082763 * k2 - (-32279) * (x1 - y1) + 310250 * (x2 - y2)) := by grind
  have hv : x2 - y2 = 16777199 * (4082763 * k1 + 13583419 * k2 - 310250 * (x1 - y1) - (-32279) * (x2 - y2)) := by grind
  generalize 13583419 * k1 - 4082763 * k2 - (-32279) * (x1 - y1) + 310250 * (x2 - y2) = m1 at hu
  generalize 4082763 * k1 + 13583419 * k2 - 310250 * (x1 - y1) - (-32279) * (x2 - y2) = m2 at hv
  clear f1 f2
  have e3 : x1 = y1 := by omega
  have e4 : x2 = y2 := by omega
  rw [e3, e4]
theorem add_inj (l : List Int) : ∀ {x y : Int × Int}, right x.1 x.2 = true → right y.1 y.2 = true → add x l = add y l → x = y := by
  induction l with
  | nil => exact fun _ _ h => h
  | cons c l ih => exact fun hx hy h => step_inj hx hy (ih (step_right _ _) (step_right _ _) h)
theorem step_byte {x : Int × Int} {c d : Int} (h0 : 0 ≤ c) (h1 : c < 256) (h2 : 0 ≤ d) (h3 : d < 256) : step x c = step x d ↔ c = d := by
  constructor
  · intro h
    have h1 := congrArg Prod.fst h
    unfold step at h1
    simp only at h1
    obtain ⟨k, e⟩ := emod_eq h1
    omega
  · rintro rfl; rfl
theorem add_append (x : Int × Int) (a b : List Int) : add x (a ++ b) = add (add x a) b := List.foldl_append
theorem add_set {x : Int × Int} {l : List Int} {i : Nat} {d : Int} (hl : bytes l = true) (hi : i < l.length) (h0 : 0 ≤ d) (h1 : d < 256) : add x l = add x (l.set i d) ↔ l.getD i 0 = d := by
  have hs : l = l.take i ++ l.getD i 0 :: l.drop (i + 1) := by
    rw [List.getD_eq_getElem?_getD, List.getElem?_eq_getElem hi]
    simp
  have ht : l.set i d = l.take i ++ d :: l.drop (i + 1) := by
    rw [List.set_eq_take_append_cons_drop, if_pos hi]
  have hb := bytes_getD hl i
  have e1 : add x l = add (step (add x (l.take i)) (l.getD i 0)) (l.drop (i + 1)) := by
    conv => lhs; rw [hs]
    rw [add_append]; rfl
  have e2 : add x (l.set i d) = add (step (add x (l.take i)) d) (l.drop (i + 1)) := by
    rw [ht, add_append]; rfl
  rw [e1, e2]
  constructor
  · intro h
    exact (step_byte hb.1 hb.2 h0 h1).1 (add_inj _ (step_right _ _) (step_right _ _) h)
  · intro h; rw [h]
def plus (x y : Int × Int) : Int × Int := ((x.1 + y.1) % 16777199, (x.2 + y.2) % 16777199)
end Go.Proofs.Ytbiijcehgiibeaa.M
