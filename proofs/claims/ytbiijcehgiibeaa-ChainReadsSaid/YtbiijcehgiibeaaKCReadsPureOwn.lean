/- Proved here: Owned answers true for any two rows of its own that are not too long. -/
import Derived.Test.YtbiijcehgiibeaaKCReadsPureD
import Derived.Test.YtbiijcehgiibeaaKCReadsQf39
namespace Go.Proofs.Ytbiijcehgiibeaa.Pure
open Go.RowKit Go.Proofs.Ytbiijcehgiibeaa.Q Go.Proofs.YtbiijcehgiibeaaW.PrintWords
set_option linter.unusedVariables false
set_option linter.unusedSimpArgs false
def fullOf (v : Int) (l : List Int) (i : Nat) : Prop := ∀ j, j < i → l.getD j 0 = v
theorem fullOf_set {v : Int} {l : List Int} {i : Nat} (hi : i < l.length) (h : fullOf v l i) : fullOf v (l.set i v) (i + 1) := by
  intro j hj
  rw [List.getD_eq_getElem?_getD, List.getElem?_set]
  by_cases e : i = j
  · subst e
    simp [hi]
  · rw [if_neg e, ← List.getD_eq_getElem?_getD]
    exact h j (by omega)
theorem fullOf_append {v : Int} {l : List Int} (h : fullOf v l l.length) : fullOf v (l ++ [v, v]) (l ++ [v, v]).length := by
  intro j hj
  simp only [List.length_append, List.length_cons, List.length_nil] at hj
  rw [List.getD_eq_getElem?_getD]
  by_cases c : j < l.length
  · rw [List.getElem?_append_left c, ← List.getD_eq_getElem?_getD]
    exact h j c
  · rw [List.getElem?_append_right (by omega)]
    obtain e | e : j - l.length = 0 ∨ j - l.length = 1 := by omega
    all_goals rw [e]; rfl
theorem own3 : ∀ (d k : Nat) (b : List Int) (i : Nat), b.length ≤ 1000 → fullOf 2 b b.length → d + i = b.length → d < k → reevelaw02_Owned.l3 k b (i : Int) = some true := by
  intro d
  induction d with
  | zero =>
    intro k b i hl hf hd hk
    obtain ⟨k, rfl⟩ : ∃ j, k = j + 1 := ⟨k - 1, by omega⟩
    simp only [reevelaw02_Owned.l3]
    rw [if_neg (by omega)]
  | succ d ih =>
    intro k b i hl hf hd hk
    obtain ⟨k, rfl⟩ : ∃ j, k = j + 1 := ⟨k - 1, by omega⟩
    simp only [reevelaw02_Owned.l3]
    rw [if_pos (by omega), if_pos (by omega), if_pos (by unfold rd; rw [Int.toNat_natCast]; exact hf i (by omega)), w64b (by omega) (by omega)]
    exact ih k b (i + 1) hl hf (by omega) (by omega)
theorem own2 : ∀ (d k : Nat) (a b : List Int) (i : Nat), a.length ≤ 1000 → b.length ≤ 1000 → fullOf 1 a a.length → fullOf 2 b b.length → d + i = a.length → d + b.length + 1 < k → reevelaw02_Owned.l2 k a b (i : Int) = some true := by
  intro d
  induction d with
  | zero =>
    intro k a b i hl hm hf hg hd hk
    obtain ⟨k, rfl⟩ : ∃ j, k = j + 1 := ⟨k - 1, by omega⟩
    simp only [reevelaw02_Owned.l2]
    rw [if_neg (by omega)]
    exact own3 b.length k b 0 hm hg (by omega) (by omega)
  | succ d ih =>
    intro k a b i hl hm hf hg hd hk
    obtain ⟨k, rfl⟩ : ∃ j, k = j + 1 := ⟨k - 1, by omega⟩
    simp only [reevelaw02_Owned.l2]
    rw [if_pos (by omega), if_pos (by omega), if_pos (by unfold rd; rw [Int.toNat_natCast]; exact hf i (by omega)), w64b (by omega) (by omega)]
    exact ih k a b (i + 1) hl hm hf hg (by omega) (by omega)
theorem own1 : ∀ (d k : Nat) (a b : List Int) (i : Nat), a.length ≤ 900 → b.length ≤ 900 → fullOf 1 a a.length → fullOf 2 b i → d + i = b.length → d + a.length + b.length + 8 < k → reevelaw02_Owned.l1 k a b (i : Int) = some true := by
  intro d
  induction d with
  | zero =>
    intro k a b i hl hm hf hg hd hk
    obtain ⟨k, rfl⟩ : ∃ j, k = j + 1 := ⟨k - 1, by omega⟩
    simp only [reevelaw02_Owned.l1]
    rw [if_neg (by omega)]
    simp only [Option.bind_some]
    rw [if_pos (by simp; omega), if_pos (by simp; omega)]
    refine own2 (a ++ [1, 1]).length k _ _ 0 (by simp; omega) (by simp; omega) (fullOf_append hf) (fullOf_append ?_) (by omega) (by simp; omega)
    rw [show b.length = i by omega]
    exact hg
  | succ d ih =>
    intro k a b i hl hm hf hg hd hk
    obtain ⟨k, rfl⟩ : ∃ j, k = j + 1 := ⟨k - 1, by omega⟩
    simp only [reevelaw02_Owned.l1]
    rw [if_pos (by omega), if_pos (by omega), w64b (by omega) (by omega), Int.toNat_natCast]
    exact ih k a (b.set i 2) (i + 1) hl (by simpa using hm) hf (fullOf_set (by omega) hg) (by simp; omega) (by simp; omega)
theorem own0 : ∀ (d k : Nat) (a b : List Int) (i : Nat), a.length ≤ 900 → b.length ≤ 900 → fullOf 1 a i → d + i = a.length → d + a.length + 2 * b.length + 10 < k → reevelaw02_Owned.l0 k a b (i : Int) = some true := by
  intro d
  induction d with
  | zero =>
    intro k a b i hl hm hf hd hk
    obtain ⟨k, rfl⟩ : ∃ j, k = j + 1 := ⟨k - 1, by omega⟩
    simp only [reevelaw02_Owned.l0]
    rw [if_neg (by omega)]
    refine own1 b.length k a b 0 hl hm ?_ (fun j hj => absurd hj (by omega)) (by omega) (by omega)
    rw [show a.length = i by omega]
    exact hf
  | succ d ih =>
    intro k a b i hl hm hf hd hk
    obtain ⟨k, rfl⟩ : ∃ j, k = j + 1 := ⟨k - 1, by omega⟩
    simp only [reevelaw02_Owned.l0]
    rw [if_pos (by omega), if_pos (by omega), w64b (by omega) (by omega), Int.toNat_natCast]
    exact ih k (a.set i 1) b (i + 1) (by simpa using hl) hm (fullOf_set (by omega) hf) (by simp; omega) (by simp; omega)
theorem owned {a b : List Int} {k : Nat} (ha : a.length ≤ 900) (hb : b.length ≤ 900) (hk : 2 * a.length + 2 * b.length + 10 < k) : reevelaw02_Owned.f k a b = some true := by
  unfold reevelaw02_Owned.f
  exact own0 a.length k a b 0 ha hb (fun j hj => absurd hj (by omega)) (by omega) (by omega)
end Go.Proofs.Ytbiijcehgiibeaa.Pure
