/- Proved here, in whole numbers: adding bytes to a seal is injective in the seal and in each byte; it is linear in the seal; joined seals are seals of joined bytes. No program in sight. · Proved here: what the small printed functions of reevelaw02 come to (the wake, Fold, Of), and seal.Add where its seal is right. · Proved here: 16777199 is a prime; the pairs modulo it are a field; each pair but zero to the power P P - 1 is 1. No program in sight. · A text that a program of this session wrote (wip/qprint.py, over the kit's printer): Lean functions with the same answers as Go functions of the program, and proofs that the calls come to these answers; where a function is named in wip/ext, its definition and proof were written by hand. · Proved here: what the document's answers of layer 2 (Right, Mul, Raise, Times, Power, Join) come to. · Proved here: what chain.Next, chain.Check, links, long and the document's answers of layer 3 come to. · Proved here: the plain law of ChainTells. · Proved here: an argument that is a slice of slices of bytes, or a slice of links, is a row that is read. -/
import Derived.Test.YtbiijcehgiibeaaKCTellsJFloat
import Derived.Test.YtbiijcehgiibeaaKCTellsQf57
import Derived.Test.YtbiijcehgiibeaaKCTellsQg9
import Derived.Test.YtbiijcehgiibeaaKCTellsQf55
import Derived.Test.YtbiijcehgiibeaaKCTellsQf17
import Derived.WalkKit
import Derived.ProofKit
import Derived.Deep.Matrix
import Derived.Deep.Strs
import Derived.Deep.Slices
import Derived.OpenShut
namespace Go.Proofs.Ytbiijcehgiibeaa.M
theorem emod_eq {a b : Int} (h : a % 16777199 = b % 16777199) : ∃ k, a - b = 16777199 * k := ⟨a / 16777199 - b / 16777199, by omega⟩
theorem step_inj {x y : Int × Int} {c : Int} (hx : right x.1 x.2 = true) (hy : right y.1 y.2 = true) (h : step x c = step y c) : x = y := by
  obtain ⟨x1, x2⟩ := x
  obtain ⟨y1, y2⟩ := y
  obtain ⟨a1, a2, a3, a4⟩ := right_iff.1 hx
  obtain ⟨b1, b2, b3, b4⟩ := right_iff.1 hy
  have h1 := congrArg Prod.fst h
  have h2 := congrArg Prod.snd h
  unfold step at h1 h2
  simp only at h1 h2 a1 a2 a3 a4 b1 b2 b3 b4
  obtain ⟨k1, e1⟩ := emod_eq h1
  obtain ⟨k2, e2⟩ := emod_eq h2
  clear h h1 h2 hx hy
  have f1 : 13583419 * (x1 * 69069 - x2 * 362437 + (c + 1) - (y1 * 69069 - y2 * 362437 + (c + 1))) - 4082763 * (x1 * 362437 + x2 * 69069 - (y1 * 362437 + y2 * 69069)) = 13583419 * (16777199 * k1) - 4082763 * (16777199 * k2) := by rw [e1, e2]
  have f2 : 4082763 * (x1 * 69069 - x2 * 362437 + (c + 1) - (y1 * 69069 - y2 * 362437 + (c + 1))) + 13583419 * (x1 * 362437 + x2 * 69069 - (y1 * 362437 + y2 * 69069)) = 4082763 * (16777199 * k1) + 13583419 * (16777199 * k2) := by rw [e1, e2]
  clear e1 e2
  have hu : x1 - y1 = 16777199 * (13583419 * k1 - 4082763 * k2 - (-32279) * (x1 - y1) + 310250 * (x2 - y2)) := by grind
  have hv : x2 - y2 = 16777199 * (4082763 * k1 + 13583419 * k2 - 310250 * (x1 - y1) - (-32279) * (x2 - y2)) := by grind
  generalize 13583419 * k1 - 4082763 * k2 - (-32279) * (x1 - y1) + 310250 * (x2 - y2) = m1 at hu
  generalize 4082763 * k1 + 13583419 * k2 - 310250 * (x1 - y1) - (-32279) * (x2 - y2) = m2 at hv
  clear f1 f2
  have e3 : x1 = y1 := by omega
  have e4 : x2 = y2 := by omega
  rw [e3, e4]
theorem add_inj (l : List Int) : ∀ {x y : Int × Int}, right x.1 x.2 = true → right y.1 y.2 = true → add x l = add y l → x = y := by
  induction l with
  | nil => exact fun _ _ h => h
  | cons c l ih => exact fun hx hy h => step_inj hx hy (ih (step_right _ _) (step_right _ _) h)
theorem step_byte {x : Int × Int} {c d : Int} (h0 : 0 ≤ c) (h1 : c < 256) (h2 : 0 ≤ d) (h3 : d < 256) : step x c = step x d ↔ c = d := by
  constructor
  · intro h
    have h1 := congrArg Prod.fst h
    unfold step at h1
    simp only at h1
    obtain ⟨k, e⟩ := emod_eq h1
    omega
  · rintro rfl; rfl
theorem add_append (x : Int × Int) (a b : List Int) : add x (a ++ b) = add (add x a) b := List.foldl_append
theorem add_set {x : Int × Int} {l : List Int} {i : Nat} {d : Int} (hl : bytes l = true) (hi : i < l.length) (h0 : 0 ≤ d) (h1 : d < 256) : add x l = add x (l.set i d) ↔ l.getD i 0 = d := by
  have hs : l = l.take i ++ l.getD i 0 :: l.drop (i + 1) := by
    rw [List.getD_eq_getElem?_getD, List.getElem?_eq_getElem hi]
    simp
  have ht : l.set i d = l.take i ++ d :: l.drop (i + 1) := by
    rw [List.set_eq_take_append_cons_drop, if_pos hi]
  have hb := bytes_getD hl i
  have e1 : add x l = add (step (add x (l.take i)) (l.getD i 0)) (l.drop (i + 1)) := by
    conv => lhs; rw [hs]
    rw [add_append]; rfl
  have e2 : add x (l.set i d) = add (step (add x (l.take i)) d) (l.drop (i + 1)) := by
    rw [ht, add_append]; rfl
  rw [e1, e2]
  constructor
  · intro h
    exact (step_byte hb.1 hb.2 h0 h1).1 (add_inj _ (step_right _ _) (step_right _ _) h)
  · intro h; rw [h]
def plus (x y : Int × Int) : Int × Int := ((x.1 + y.1) % 16777199, (x.2 + y.2) % 16777199)
end Go.Proofs.Ytbiijcehgiibeaa.M
namespace Go.Proofs.Ytbiijcehgiibeaa.Pure
open Go.RowKit Go.Proofs.Ytbiijcehgiibeaa.Q Go.Proofs.YtbiijcehgiibeaaW.PrintWords
theorem tmod_P (n : Int) : n.tmod 16777199 = if 0 ≤ n then n % 16777199 else -((-n) % 16777199) := by
  split
  · exact Int.tmod_eq_emod_of_nonneg ‹_›
  · have := Int.neg_tmod (a := -n) (b := 16777199)
    rw [Int.neg_neg] at this
    rw [this, Int.tmod_eq_emod_of_nonneg (by omega)]
theorem bytes_of {l : List Int} (h : ∀ x ∈ l, (Lit.int .u8 x).wf = true) : M.bytes l = true := by
  unfold M.bytes
  rw [List.all_eq_true]
  intro x hx
  have := h x hx
  simp only [Lit.wf, Bool.and_eq_true, decide_eq_true_eq] at this
  have h1 : (0 : Int) ≤ x := this.1
  have h2 : x ≤ 255 := this.2
  exact decide_eq_true (by omega)
theorem u8_of {x : Int} (h : (Lit.int .u8 x).wf = true) : 0 ≤ x ∧ x < 256 := by
  simp only [Lit.wf, Bool.and_eq_true, decide_eq_true_eq] at h
  have h1 : (0 : Int) ≤ x := h.1
  have h2 : x ≤ 255 := h.2
  omega
theorem add_ok {a b : Int} {l : List Int} (h : M.right a b = true) (hb : M.bytes l = true) (hl : (l.length : Int) ≤ 9223372036854775807) : seal_Add.f a b l = some ((M.add (a, b) l).1, (M.add (a, b) l).2, 0) := by
  unfold seal_Add.f
  rw [if_pos h, if_pos hb, if_pos hl]
end Go.Proofs.Ytbiijcehgiibeaa.Pure
namespace Go.Proofs.Ytbiijcehgiibeaa.M
def sum : Nat → (Nat → Int × Int) → Int × Int
  | 0, _ => (0, 0)
  | n + 1, f => plus (sum n f) (f n)
theorem zero_mul (x : Int × Int) : mul (0, 0) x = (0, 0) := by unfold mul; refine Prod.ext ?_ ?_ <;> simp only <;> omega
end Go.Proofs.Ytbiijcehgiibeaa.M
namespace Go.Proofs.Ytbiijcehgiibeaa.Q
open Go.RowKit Go.Proofs.YtbiijcehgiibeaaW.PrintWords Go.Proofs.YtbiijcehgiibeaaW.PrintLast Go.Proofs.YtbiijcehgiibeaaW.PrintMore
attribute [local go_sem] max2_int min2_int max_two min_two max_three min_three max_four min_four   -- for this text's walks alone
set_option linter.unusedVariables false
set_option linter.unusedSimpArgs false
def reeveref02_Right.f (a0_0 : Int) (a0_1 : Int) : Option (Bool) := if a0_0 ≥ 0 then (if a0_0 < 16777199 then (if a0_1 ≥ 0 then (some (decide (a0_1 < 16777199))) else (some false)) else (some false)) else (some false)
end Go.Proofs.Ytbiijcehgiibeaa.Q
namespace Go.Proofs.Ytbiijcehgiibeaa.Pure
open Go.RowKit Go.Proofs.Ytbiijcehgiibeaa.Q Go.Proofs.YtbiijcehgiibeaaW.PrintWords
set_option linter.unusedVariables false
set_option linter.unusedSimpArgs false
theorem rright (a b : Int) : reeveref02_Right.f a b = some (M.right a b) := by
  unfold reeveref02_Right.f M.right
  by_cases h1 : 0 ≤ a
  · rw [if_pos h1]
    by_cases h2 : a < 16777199
    · rw [if_pos h2]
      by_cases h3 : 0 ≤ b
      · rw [if_pos h3]; congr 1; simp [h1, h2, h3]
      · rw [if_neg h3]; congr 1; simp [h3]
    · rw [if_neg h2]; congr 1; simp [h2]
  · rw [if_neg h1]; congr 1; simp [h1]
theorem w64 {n : Int} (h1 : -9223372036854775808 ≤ n) (h2 : n ≤ 9223372036854775807) : wrap64 n = n := by unfold wrap64; omega
end Go.Proofs.Ytbiijcehgiibeaa.Pure
namespace Go.Proofs.Ytbiijcehgiibeaa.Pure
open Go.RowKit Go.Proofs.Ytbiijcehgiibeaa.Q Go.Proofs.YtbiijcehgiibeaaW.PrintWords
set_option linter.unusedVariables false
set_option linter.unusedSimpArgs false
theorem awake03 (k : Nat) : reevelaw03_awake.f (k + 10) = some true := by kernel_rfl
def may (x : S60) : Bool := decide (0 ≤ x.f0 ∧ x.f0 ≤ 10000 ∧ 0 ≤ x.f1 ∧ x.f1 ≤ 4194304) && M.right x.f2.f0 x.f2.f1
def next (x : S60) (b : List Int) : S60 × Int :=
  if may x = true then if (b.length : Int) > 4194304 then (z60, 2) else if x.f0 = 10000 then (z60, 3) else (⟨x.f0 + 1, b.length, ⟨(M.add (x.f2.f0, x.f2.f1) b).1, (M.add (x.f2.f0, x.f2.f1) b).2⟩⟩, 0) else (z60, 30)
theorem may_iff {x : S60} : may x = true ↔ (0 ≤ x.f0 ∧ x.f0 ≤ 10000 ∧ 0 ≤ x.f1 ∧ x.f1 ≤ 4194304) ∧ M.right x.f2.f0 x.f2.f1 = true := by
  unfold may
  rw [Bool.and_eq_true, decide_eq_true_iff]
theorem cmay (x : S60) : chain_may.f x.f0 x.f1 x.f2.f0 x.f2.f1 = some (may x) := by
  unfold chain_may.f may
  rw [show seal_Right.f x.f2.f0 x.f2.f1 = some (M.right x.f2.f0 x.f2.f1) from rright _ _]
  simp only [Option.bind_some]
  by_cases h1 : x.f0 ≥ 0
  · rw [if_pos h1]
    by_cases h2 : x.f0 ≤ 10000
    · rw [if_pos h2]
      by_cases h3 : x.f1 ≥ 0
      · rw [if_pos h3]
        by_cases h4 : x.f1 ≤ 4194304
        · rw [if_pos h4, decide_eq_true (show 0 ≤ x.f0 ∧ x.f0 ≤ 10000 ∧ 0 ≤ x.f1 ∧ x.f1 ≤ 4194304 by omega), Bool.true_and]
        · rw [if_neg h4, decide_eq_false (by omega), Bool.false_and]
      · rw [if_neg h3, decide_eq_false (by omega), Bool.false_and]
    · rw [if_neg h2, decide_eq_false (by omega), Bool.false_and]
  · rw [if_neg h1, decide_eq_false (by omega), Bool.false_and]
theorem cnext (x : S60) {b : List Int} (hb : M.bytes b = true) (hl : (b.length : Int) ≤ 9223372036854775807) :
    chain_Next.f x.f0 x.f1 x.f2.f0 x.f2.f1 b = some ((next x b).1.f0, (next x b).1.f1, (next x b).1.f2.f0, (next x b).1.f2.f1, (next x b).2) := by
  unfold chain_Next.f next
  rw [cmay]
  simp only [Option.bind_some]
  by_cases h : may x = true
  · have h' := may_iff.1 h
    rw [if_pos h, if_pos h]
    by_cases h1 : (b.length : Int) > 4194304
    · rw [if_pos h1, if_pos h1]; rfl
    · rw [if_neg h1, if_neg h1]
      by_cases h2 : x.f0 = 10000
      · rw [if_pos h2, if_pos h2]; rfl
      · rw [if_neg h2, if_neg h2, add_ok h'.2 hb hl, w64 (n := x.f0 + 1) (by omega) (by omega)]
        rfl
  · rw [if_neg h, if_neg h]; rfl
def eqv (x y : S60) : Bool := (x.f0 == y.f0) && ((x.f1 == y.f1) && ((x.f2.f0 == y.f2.f0) && (x.f2.f1 == y.f2.f1)))
theorem eqv_iff {x y : S60} : eqv x y = true ↔ x = y := by
  obtain ⟨a, b, c, d⟩ := x
  obtain ⟨a', b', c', d'⟩ := y
  unfold eqv
  simp
theorem eqv_not (x y : S60) : (!(x.f0 == y.f0) || (!(x.f1 == y.f1) || ((!(x.f2.f0 == y.f2.f0) || (!(x.f2.f1 == y.f2.f1)))))) = !eqv x y := by
  unfold eqv
  simp only [Bool.not_and]
def good : S60 → List (List Int) → List S60 → Nat
  | _, [], _ => 0
  | _, _ :: _, [] => 0
  | x, b :: ps, l :: ls => if (next x b).2 = 0 ∧ eqv (next x b).1 l = true then 1 + good (next x b).1 ps ls else 0
theorem good_nil (x : S60) (ps : List (List Int)) : good x ps [] = 0 := by cases ps <;> rfl
def tell (ps : List (List Int)) (ls : List S60) (g : Nat) : Int := if g = ps.length ∧ ls.length ≤ ps.length then -1 else (g : Int)
def first : S60 := ⟨0, 0, ⟨1, 2⟩⟩
def check (ps : List (List Int)) (ls : List S60) : Int := tell ps ls (good first ps ls)
def rows (ps : List (List Int)) : Prop := ps.length ≤ 9223372036854775807 ∧ ∀ x ∈ ps, x.length ≤ 9223372036854775807 ∧ M.bytes x = true
theorem rows_of {ps : List (List Int)} (h : ps.length ≤ 9223372036854775807 ∧ ∀ x ∈ ps, x.length ≤ 9223372036854775807 ∧ ∀ y ∈ x, (Lit.int .u8 y).wf = true) : rows ps :=
  ⟨h.1, fun x hx => ⟨(h.2 x hx).1, bytes_of (h.2 x hx).2⟩⟩
theorem ccheck0 {ps : List (List Int)} {ls : List S60} (hr : rows ps) : ∀ (k i : Nat) (x : S60), i ≤ ps.length → ps.length - i < k →
    chain_Check.l0 k ps ls (i : Int) ps (ps.length : Int) (i : Int) x.f0 x.f1 x.f2.f0 x.f2.f1 = some (tell ps ls (i + good x (ps.drop i) (ls.drop i))) := by
  intro k
  have hm := hr.1
  induction k with
  | zero => intro i x _ h; omega
  | succ k ih =>
    intro i x hi hk
    simp only [chain_Check.l0]
    have tail : ∀ g : Nat, (if (g : Int) = (ps.length : Int) then (if (ls.length : Int) ≤ (ps.length : Int) then some (-1) else some (g : Int)) else some (g : Int)) = some (tell ps ls g) := by
      intro g
      unfold tell
      by_cases h1 : g = ps.length
      · rw [if_pos (by omega)]
        by_cases h2 : ls.length ≤ ps.length
        · rw [if_pos (by omega), if_pos ⟨h1, h2⟩]
        · rw [if_neg (by omega), if_neg (fun e => h2 e.2)]
      · rw [if_neg (by omega), if_neg (fun e => h1 e.1)]
    by_cases h : i < ps.length
    · have ep : ps.drop i = ps.getD i [] :: ps.drop (i + 1) := by
        rw [List.getD_eq_getElem?_getD, List.getElem?_eq_getElem h, List.drop_eq_getElem_cons h]; rfl
      have hmem : ps.getD i [] ∈ ps := by
        rw [List.getD_eq_getElem?_getD, List.getElem?_eq_getElem h]; exact List.getElem_mem h
      have er : rd_L2 ps (i : Int) = ps.getD i [] := by unfold rd_L2; rw [Int.toNat_natCast]
      rw [if_pos (by omega), if_pos (by omega), if_pos (by omega), er, cnext x (hr.2 _ hmem).2 (by have := (hr.2 _ hmem).1; omega)]
      simp only [Option.bind_some]
      rw [ep]
      by_cases h2 : i < ls.length
      · have el : ls.drop i = ls.getD i z60 :: ls.drop (i + 1) := by
          rw [List.getD_eq_getElem?_getD, List.getElem?_eq_getElem h2, List.drop_eq_getElem_cons h2]; rfl
        have et : rd_T60 ls (i : Int) = ls.getD i z60 := by unfold rd_T60; rw [Int.toNat_natCast]
        rw [if_neg (by omega), el, et]
        generalize ls.getD i z60 = l
        have eg : ∀ r s, good x (ps.getD i [] :: r) (l :: s) = if (next x (ps.getD i [])).2 = 0 ∧ eqv (next x (ps.getD i [])).1 l = true then 1 + good (next x (ps.getD i [])).1 r s else 0 := fun _ _ => rfl
        rw [eg]
        generalize next x (ps.getD i []) = y
        rw [eqv_not]
        by_cases h3 : y.2 = 0
        · rw [if_pos h3, if_pos (by omega), if_pos (by omega)]
          by_cases h4 : eqv y.1 l = true
          · rw [h4, if_neg (by decide), if_pos ⟨h3, rfl⟩, w64 (n := (i : Int) + 1) (by omega) (by omega), show ((i : Int) + 1) = ((i + 1 : Nat) : Int) by omega, ih (i + 1) y.1 (by omega) (by omega), Nat.add_assoc]
          · rw [if_pos (by simp [h4]), if_neg (c := y.2 = 0 ∧ eqv y.1 l = true) (fun e => h4 e.2)]
            exact tail i
        · rw [if_neg h3, if_neg (c := y.2 = 0 ∧ eqv y.1 l = true) (fun e => h3 e.1)]
          exact tail i
      · rw [if_pos (by omega), List.drop_of_length_le (l := ls) (by omega), good_nil, Nat.add_zero]
        exact tail i
    · rw [if_neg (by omega), List.drop_of_length_le (by omega)]
      exact tail i
theorem ccheck {ps : List (List Int)} {ls : List S60} (hr : rows ps) {k : Nat} (hk : ps.length < k) : chain_Check.f k ps ls = some (check ps ls) := by
  unfold chain_Check.f
  rw [show chain_First.f = some (first.f0, first.f1, first.f2.f0, first.f2.f1) from rfl]
  simp only [Option.bind_some]
  have := ccheck0 (ls := ls) hr k 0 first (by omega) (by omega)
  simpa [check] using this
def mk : S60 → List (List Int) → Option (List S60)
  | _, [] => some []
  | x, b :: ps => if (next x b).2 = 0 then (mk (next x b).1 ps).map ((next x b).1 :: ·) else none
theorem next_ok {x : S60} {b : List Int} (h : (next x b).2 = 0) : may x = true ∧ (b.length : Int) ≤ 4194304 ∧ x.f0 ≠ 10000 ∧ next x b = (⟨x.f0 + 1, b.length, ⟨(M.add (x.f2.f0, x.f2.f1) b).1, (M.add (x.f2.f0, x.f2.f1) b).2⟩⟩, 0) := by
  unfold next at h ⊢
  by_cases h1 : may x = true
  · rw [if_pos h1] at h
    by_cases h2 : (b.length : Int) > 4194304
    · rw [if_pos h2] at h; exact absurd h (by decide)
    · rw [if_neg h2] at h
      by_cases h3 : x.f0 = 10000
      · rw [if_pos h3] at h; exact absurd h (by decide)
      · exact ⟨h1, by omega, h3, by rw [if_pos h1, if_neg h2, if_neg h3]⟩
  · rw [if_neg h1] at h; exact absurd h (by decide)
theorem next_eq {x : S60} {b : List Int} (h1 : may x = true) (h2 : (b.length : Int) ≤ 4194304) (h3 : x.f0 ≠ 10000) : next x b = (⟨x.f0 + 1, b.length, ⟨(M.add (x.f2.f0, x.f2.f1) b).1, (M.add (x.f2.f0, x.f2.f1) b).2⟩⟩, 0) := by
  unfold next
  rw [if_pos h1, if_neg (by omega), if_neg h3]
theorem next_may {x : S60} {b : List Int} (h : (next x b).2 = 0) : may (next x b).1 = true := by
  obtain ⟨h1, h2, h3, h4⟩ := next_ok h
  have h5 := may_iff.1 h1
  rw [h4, may_iff]
  exact ⟨⟨by simp only; omega, by simp only; omega, by simp only; omega, by simp only; omega⟩, M.add_right b (x.f2.f0, x.f2.f1) h5.2⟩
theorem mk_len : ∀ (ps : List (List Int)) (x : S60) (ls : List S60), mk x ps = some ls → ls.length = ps.length ∧ good x ps ls = ps.length ∧ (ps ≠ [] → x.f0 + ps.length ≤ 10000)
  | [], x, ls, h => by
    simp [mk] at h
    subst h
    exact ⟨rfl, rfl, fun h => absurd rfl h⟩
  | b :: ps, x, ls, h => by
    unfold mk at h
    by_cases hc : (next x b).2 = 0
    · rw [if_pos hc] at h
      obtain ⟨l2, h2, rfl⟩ := Option.map_eq_some_iff.1 h
      obtain ⟨e1, e2, e3⟩ := mk_len ps _ _ h2
      obtain ⟨n1, n2, n3, n4⟩ := next_ok hc
      have n5 := may_iff.1 n1
      refine ⟨by simp [e1], ?_, fun _ => ?_⟩
      · unfold good
        rw [if_pos ⟨hc, eqv_iff.2 rfl⟩, e2]
        simp
        omega
      · simp only [List.length_cons]
        by_cases hp : ps = []
        · subst hp; simp; omega
        · have := e3 hp
          rw [n4] at this
          simp only at this
          omega
    · rw [if_neg hc] at h
      cases h
theorem mk_no : ∀ (ps : List (List Int)) (x : S60), may x = true → x.f0 + ps.length ≤ 10000 → (∀ b ∈ ps, (b.length : Int) ≤ 4194304) → mk x ps ≠ none
  | [], x, _, _, _ => by simp [mk]
  | b :: ps, x, h1, h2, h3 => by
    simp only [List.length_cons] at h2
    have e := next_eq (x := x) (b := b) h1 (h3 b (by simp)) (by omega)
    have e0 : (next x b).2 = 0 := by rw [e]
    unfold mk
    rw [if_pos e0]
    have := mk_no ps (next x b).1 (next_may e0) (by rw [e]; simp only; omega) (fun c hc => h3 c (by simp [hc]))
    intro hn
    exact this (Option.map_eq_none_iff.1 hn)
theorem long0 {ps : List (List Int)} (hm : ps.length ≤ 9223372036854775807) : ∀ (k i : Nat), i ≤ ps.length → ps.length - i < k → reevelaw03_long.l0 k ps (i : Int) = some ((ps.drop i).any fun b => decide ((b.length : Int) > 4194304)) := by
  intro k
  induction k with
  | zero => intro i _ h; omega
  | succ k ih =>
    intro i hi hk
    simp only [reevelaw03_long.l0]
    by_cases h : i < ps.length
    · have ep : ps.drop i = ps.getD i [] :: ps.drop (i + 1) := by
        rw [List.getD_eq_getElem?_getD, List.getElem?_eq_getElem h, List.drop_eq_getElem_cons h]; rfl
      have er : rd_L2 ps (i : Int) = ps.getD i [] := by unfold rd_L2; rw [Int.toNat_natCast]
      rw [if_pos (by omega), if_pos (by omega), er, ep, List.any_cons]
      by_cases h2 : ((ps.getD i []).length : Int) > 4194304
      · rw [if_pos h2, decide_eq_true h2, Bool.true_or]
      · rw [if_neg h2, decide_eq_false h2, Bool.false_or, w64 (n := (i : Int) + 1) (by omega) (by omega), show ((i : Int) + 1) = ((i + 1 : Nat) : Int) by omega, ih (i + 1) (by omega) (by omega)]
    · rw [if_neg (by omega), List.drop_of_length_le (by omega)]
      rfl
theorem long {ps : List (List Int)} (hm : ps.length ≤ 9223372036854775807) {k : Nat} (hk : ps.length < k) : reevelaw03_long.f k ps = some (ps.any fun b => decide ((b.length : Int) > 4194304)) := by
  unfold reevelaw03_long.f
  have := long0 hm k 0 (by omega) (by omega)
  simpa using this
theorem links0 {ps : List (List Int)} (hr : rows ps) : ∀ (k i : Nat) (x : S60) (acc : List S60), i ≤ ps.length → ps.length - i < k → x.f0 = i → acc.length = i → acc.length ≤ 10000 →
    reevelaw03_links.l0 k ps acc (i : Int) x.f0 x.f1 x.f2.f0 x.f2.f1 = some (match mk x (ps.drop i) with | some l => (acc ++ l, true) | none => ([], false)) := by
  intro k
  have hm0 := hr.1
  induction k with
  | zero => intro i x acc _ h; omega
  | succ k ih =>
    intro i x acc hi hk hx ha ha2
    simp only [reevelaw03_links.l0]
    by_cases h : i < ps.length
    · have ep : ps.drop i = ps.getD i [] :: ps.drop (i + 1) := by
        rw [List.getD_eq_getElem?_getD, List.getElem?_eq_getElem h, List.drop_eq_getElem_cons h]; rfl
      have hmem : ps.getD i [] ∈ ps := by
        rw [List.getD_eq_getElem?_getD, List.getElem?_eq_getElem h]; exact List.getElem_mem h
      have er : rd_L2 ps (i : Int) = ps.getD i [] := by unfold rd_L2; rw [Int.toNat_natCast]
      rw [if_pos (by omega), if_pos (by omega), er, cnext x (hr.2 _ hmem).2 (by have := (hr.2 _ hmem).1; omega)]
      simp only [Option.bind_some]
      rw [ep]
      have em : ∀ r, mk x (ps.getD i [] :: r) = if (next x (ps.getD i [])).2 = 0 then (mk (next x (ps.getD i [])).1 r).map ((next x (ps.getD i [])).1 :: ·) else none := fun _ => rfl
      rw [em]
      by_cases h3 : (next x (ps.getD i [])).2 = 0
      · obtain ⟨n1, n2, n3, n4⟩ := next_ok h3
        have n5 := may_iff.1 n1
        have n6 : (next x (ps.getD i [])).1.f0 = ((i + 1 : Nat) : Int) := by rw [n4]; simp only; omega
        rw [if_pos h3, if_pos h3, if_pos (by omega), w64 (n := (i : Int) + 1) (by omega) (by omega), show ((i : Int) + 1) = ((i + 1 : Nat) : Int) by omega,
          ih (i + 1) (next x (ps.getD i [])).1 _ (by omega) (by omega) n6 (by simp [ha]) (by simp; omega)]
        congr 1
        cases mk (next x (ps.getD i [])).1 (ps.drop (i + 1)) with
        | none => rfl
        | some l => simp
      · rw [if_neg h3, if_neg h3]
    · rw [if_neg (by omega), List.drop_of_length_le (by omega)]
      simp [mk]
theorem links {ps : List (List Int)} (hr : rows ps) {k : Nat} (hk : ps.length < k) : reevelaw03_links.f k ps = some (match mk first ps with | some l => (l, true) | none => ([], false)) := by
  unfold reevelaw03_links.f
  rw [show chain_First.f = some (first.f0, first.f1, first.f2.f0, first.f2.f1) from rfl]
  simp only [Option.bind_some]
  have := links0 hr k 0 first [] (by omega) (by omega) rfl rfl (by simp)
  simpa using this
end Go.Proofs.Ytbiijcehgiibeaa.Pure
namespace Go.Proofs.Ytbiijcehgiibeaa.Pure
open Go.RowKit Go.Proofs.Ytbiijcehgiibeaa.Q Go.Proofs.YtbiijcehgiibeaaW.PrintWords
theorem good_append : ∀ (ps : List (List Int)) (ls r : List S60) (x : S60), good x ps ls = ps.length → good x ps (ls ++ r) = ps.length
  | [], ls, r, x, _ => rfl
  | b :: ps, [], r, x, h => by simp [good] at h
  | b :: ps, l :: ls, r, x, h => by
    rw [List.cons_append]
    unfold good at h ⊢
    by_cases c : (next x b).2 = 0 ∧ eqv (next x b).1 l = true
    · rw [if_pos c] at h ⊢
      rw [List.length_cons] at h ⊢
      rw [good_append ps ls r _ (by omega)]
      omega
    · rw [if_neg c] at h
      simp at h
theorem good_cut : ∀ (ps : List (List Int)) (ls : List S60) (x : S60) (m : Nat), good x ps ls = ps.length → m ≤ ps.length → good x ps (ls.take m) = m
  | [], ls, x, m, _, hm => by
    have : m = 0 := by simpa using hm
    subst this
    rfl
  | b :: ps, [], x, m, h, hm => by simp [good] at h
  | b :: ps, l :: ls, x, m, h, hm => by
    cases m with
    | zero => rfl
    | succ m =>
      rw [List.take_succ_cons]
      unfold good at h ⊢
      by_cases c : (next x b).2 = 0 ∧ eqv (next x b).1 l = true
      · rw [if_pos c] at h ⊢
        rw [List.length_cons] at h hm
        rw [good_cut ps ls _ m (by omega) (by omega)]
        omega
      · rw [if_neg c] at h
        simp at h
theorem good_set : ∀ (ps : List (List Int)) (ls : List S60) (x : S60) (k : Nat) (b' : List Int), mk x ps = some ls → k < ps.length → b'.length = (ps.getD k []).length →
    (∀ z, M.add z (ps.getD k []) ≠ M.add z b') → good x (ps.set k b') ls = k
  | [], ls, x, k, b', _, h, _, _ => by simp at h
  | b :: ps, ls, x, k, b', hmk, hk, hl, hne => by
    unfold mk at hmk
    by_cases hc : (next x b).2 = 0
    · rw [if_pos hc] at hmk
      obtain ⟨l2, h2, rfl⟩ := Option.map_eq_some_iff.1 hmk
      obtain ⟨n1, n2, n3, n4⟩ := next_ok hc
      cases k with
      | zero =>
        rw [List.set_cons_zero]
        simp at hl hne
        unfold good
        rw [if_neg]
        rintro ⟨e1, e2⟩
        rw [eqv_iff, n4, next_eq n1 (by omega) n3] at e2
        injection e2 with _ _ e3
        injection e3 with e4 e5
        exact hne _ _ (Prod.ext e4.symm e5.symm)
      | succ k =>
        rw [List.set_cons_succ]
        unfold good
        rw [if_pos ⟨hc, eqv_iff.2 rfl⟩, good_set ps l2 _ k b' h2 (by simpa using hk) (by simpa using hl) (by simpa using hne)]
        omega
    · rw [if_neg hc] at hmk
      cases hmk
theorem mk_part : ∀ (ps : List (List Int)) (ls : List S60) (x : S60), mk x ps = some ls → ∀ b ∈ ps, (b.length : Int) ≤ 4194304
  | [], ls, x, _, b, hb => by simp at hb
  | c :: ps, ls, x, hmk, b, hb => by
    unfold mk at hmk
    by_cases hc : (next x c).2 = 0
    · rw [if_pos hc] at hmk
      obtain ⟨l2, h2, rfl⟩ := Option.map_eq_some_iff.1 hmk
      rcases List.mem_cons.1 hb with rfl | hb
      · exact (next_ok hc).2.1
      · exact mk_part ps l2 _ h2 b hb
    · rw [if_neg hc] at hmk
      cases hmk
theorem bytes_set {l : List Int} {i : Nat} {d : Int} (h : M.bytes l = true) (h0 : 0 ≤ d) (h1 : d < 256) : M.bytes (l.set i d) = true := by
  unfold M.bytes
  rw [List.all_eq_true]
  intro x hx
  rcases List.mem_or_eq_of_mem_set hx with hx | rfl
  · have := M.bytes_mem h x hx
    simpa using this
  · simpa using ⟨h0, h1⟩
theorem rows_set {ps : List (List Int)} (h : rows ps) {k : Nat} {b : List Int} (hb : b.length ≤ 9223372036854775807) (hc : M.bytes b = true) : rows (ps.set k b) := by
  refine ⟨by rw [List.length_set]; exact h.1, fun x hx => ?_⟩
  rcases List.mem_or_eq_of_mem_set hx with hx | rfl
  · exact h.2 x hx
  · exact ⟨hb, hc⟩
theorem tells2 {ps : List (List Int)} {ls : List S60} (hr : rows ps) (hmk : mk first ps = some ls) (hp : ps.length ≤ 10000) (a1 a2 a3 : Int) (h3 : 0 ≤ a3) (h3' : a3 < 256) {k : Nat} (hk : ps.length < k) (b : Bool) (hb : b = false → ps.length ≠ 0 ∧ 0 ≤ a1 ∧ 0 ≤ a2) :
    reevelaw03_ChainTells.j2 (k + 1) ps a1 a2 a3 ls b = some true := by
  obtain ⟨hl, hg, _⟩ := mk_len _ _ _ hmk
  simp only [reevelaw03_ChainTells.j2]
  cases b with
  | true => rw [if_pos rfl]
  | false =>
    obtain ⟨n0, n1, n2⟩ := hb rfl
    rw [if_neg (by decide), w64 (n := (ls.length : Int) - 1) (by omega) (by omega), if_pos (by omega), if_pos (by omega), ccheck hr (by omega)]
    simp only [Option.bind_some]
    have few : check ps (ls.take ((ls.length : Int) - 1).toNat) = (ps.length : Int) - 1 := by
      unfold check tell
      rw [good_cut ps ls first _ hg (by omega), if_neg (by omega)]
      omega
    have et : Int.tmod a1 (ps.length : Int) = a1 % (ps.length : Int) := Int.tmod_eq_emod_of_nonneg n1
    rw [few, et]
    have q0 := Int.emod_nonneg a1 (show (ps.length : Int) ≠ 0 by omega)
    have q1 := Int.emod_lt_of_pos a1 (show (0 : Int) < (ps.length : Int) by omega)
    obtain ⟨j, hj⟩ := Int.eq_ofNat_of_zero_le q0
    rw [hj] at q1 ⊢
    have hj' : j < ps.length := by omega
    rw [if_neg (by omega), w64 (n := (ps.length : Int) - 1) (by omega) (by omega), if_pos rfl, if_pos (by omega), if_pos (by omega)]
    have er : rd_L2 ps (j : Int) = ps.getD j [] := by unfold rd_L2; rw [Int.toNat_natCast]
    have hmem : ps.getD j [] ∈ ps := by
      rw [List.getD_eq_getElem?_getD, List.getElem?_eq_getElem hj']; exact List.getElem_mem hj'
    have hpl := mk_part _ _ _ hmk _ hmem
    have hby := (hr.2 _ hmem).2
    rw [er, Int.toNat_natCast]
    by_cases c0 : ((ps.getD j []).length : Int) = 0
    · rw [if_pos c0]
    · rw [if_neg c0, if_pos (by simp only [List.length_nil]; omega)]
      rw [if_pos (by simp only [List.length_nil]; omega), List.nil_append ps, List.nil_append (ps.getD j []), if_neg c0]
      have ei : Int.tmod a2 ((ps.getD j []).length : Int) = a2 % ((ps.getD j []).length : Int) := Int.tmod_eq_emod_of_nonneg n2
      have r0 := Int.emod_nonneg a2 c0
      have r1 := Int.emod_lt_of_pos a2 (show (0 : Int) < ((ps.getD j []).length : Int) by omega)
      rw [ei]
      obtain ⟨i, hi⟩ := Int.eq_ofNat_of_zero_le r0
      rw [hi] at r1 ⊢
      have hi' : i < (ps.getD j []).length := by omega
      rw [if_pos (by omega), if_pos (by omega), if_pos (by omega), Int.toNat_natCast, ccheck (rows_set hr (by rw [List.length_set]; omega) (bytes_set hby h3 h3')) (by rw [List.length_set]; omega)]
      simp only [Option.bind_some]
      have eb : rd (ps.getD j []) (i : Int) = (ps.getD j []).getD i 0 := by unfold rd; rw [Int.toNat_natCast]
      rw [eb]
      by_cases c1 : (ps.getD j []).getD i 0 = a3
      · have e1 : (ps.getD j []).set i a3 = ps.getD j [] := by
          subst c1
          apply List.ext_getElem?
          intro n
          by_cases hn : i = n
          · subst hn
            rw [List.getElem?_set_self hi', List.getD_eq_getElem?_getD, List.getElem?_eq_getElem hi']
            rfl
          · rw [List.getElem?_set_ne hn]
        have e2 : ps.set j (ps.getD j []) = ps := by
          apply List.ext_getElem?
          intro n
          by_cases hn : j = n
          · subst hn
            rw [List.getElem?_set_self hj', List.getD_eq_getElem?_getD, List.getElem?_eq_getElem hj']
            rfl
          · rw [List.getElem?_set_ne hn]
        have e3 : check ps ls = -1 := by
          unfold check tell
          rw [hg, if_pos ⟨rfl, by omega⟩]
        rw [if_pos c1, e1, e2, e3, if_pos rfl]
      · have e3 : check (ps.set j ((ps.getD j []).set i a3)) ls = (j : Int) := by
          unfold check tell
          rw [good_set ps ls first j _ hmk hj' (by rw [List.length_set]) (fun z hz => c1 ((M.add_set hby hi' h3 h3').1 hz)), if_neg (by rw [List.length_set]; omega)]
        rw [if_neg c1, if_neg c1, e3]
        simp
theorem ChainTells (ps : List (List Int)) (a1 a2 a3 : Int) (h : ps.length ≤ 9223372036854775807 ∧ ∀ x ∈ ps, x.length ≤ 9223372036854775807 ∧ ∀ y ∈ x, (Lit.int .u8 y).wf = true) (_ : (Lit.int .i64 a1).wf = true) (_ : (Lit.int .i64 a2).wf = true) (w3 : (Lit.int .u8 a3).wf = true) :
    ∃ k, reevelaw03_ChainTells.f k ps a1 a2 a3 = some true := by
  have hr := rows_of h
  obtain ⟨h3, h3'⟩ := u8_of w3
  refine ⟨ps.length + 14, ?_⟩
  unfold reevelaw03_ChainTells.f
  rw [show ps.length + 14 = (ps.length + 4) + 10 from rfl, awake03, links hr (by omega)]
  simp only [Option.bind_some, if_true]
  rw [show ps.length + 4 + 10 = (ps.length + 11) + 1 + 1 + 1 by omega]
  simp only [reevelaw03_ChainTells.j0]
  cases hmk : mk first ps with
  | none =>
    simp only [if_true, Bool.false_eq_true, if_false]
    by_cases c : (ps.length : Int) > 10000
    · rw [if_pos c]
    · rw [if_neg c, long h.1 (by omega)]
      simp only [Option.bind_some]
      congr 1
      rw [List.any_eq_true]
      rcases Classical.em (∃ b ∈ ps, (b.length : Int) > 4194304) with ⟨b, hb, hl⟩ | hn
      · exact ⟨b, hb, by simpa using hl⟩
      · exact absurd hmk (mk_no ps first (by decide) (by show (0 : Int) + _ ≤ _; omega) (fun b hb => by
          rcases Int.lt_or_le 4194304 (b.length : Int) with h1 | h1
          · exact absurd ⟨b, hb, h1⟩ hn
          · exact h1))
  | some l =>
    obtain ⟨hl, hg, hle⟩ := mk_len _ _ _ hmk
    have hp : ps.length ≤ 10000 := by
      by_cases c : ps = []
      · subst c; simp
      · have := hle c
        have e : first.f0 = 0 := rfl
        omega
    simp only [if_true]
    rw [if_neg (by simp only [decide_eq_true_eq]; omega), ccheck hr (by omega)]
    simp only [Option.bind_some, List.nil_append, List.length_nil]
    rw [if_pos (by omega), if_pos (by omega), ccheck hr (by omega)]
    have e1 : check ps l = -1 := by
      unfold check tell
      rw [hg, if_pos ⟨rfl, by omega⟩]
    have e2 : check ps (l ++ [(⟨0, 0, (⟨0, 0⟩ : S23)⟩ : S60)]) = (ps.length : Int) := by
      unfold check tell
      rw [good_append ps l _ first hg, if_neg (by simp; omega)]
    simp only [Option.bind_some]
    rw [e1, e2, if_pos rfl]
    simp only [reevelaw03_ChainTells.j1]
    rw [if_neg (by simp)]
    by_cases c1 : (ps.length : Int) = 0
    · rw [if_pos c1]
      exact tells2 hr hmk hp _ _ _ h3 h3' (by omega) _ (fun e => by cases e)
    · rw [if_neg c1]
      by_cases c2 : a1 < 0
      · rw [if_pos c2]
        exact tells2 hr hmk hp _ _ _ h3 h3' (by omega) _ (fun e => by cases e)
      · rw [if_neg c2]
        exact tells2 hr hmk hp _ _ _ h3 h3' (by omega) _ (fun e => by
          have := of_decide_eq_false e
          omega)
end Go.Proofs.Ytbiijcehgiibeaa.Pure
namespace Go.Proofs.Ytbiijcehgiibeaa.O
open Go.ChangeShapes Go.WideShapes Go.ChangeAt Go.RowKit Go.Deep Go.Proofs.YtbiijcehgiibeaaW.PrintWords Go.Proofs.Ytbiijcehgiibeaa.Q
set_option linter.unusedVariables false
theorem rows_read {H : Type} {enc : TypeId × Value → H} {P : Program} {W : World} {held : Bool} {t e q : TypeId} {a : Option Addr} {len cap : Nat} {d : DataW H} {ps : List MemPlace} {ts : List TypeId} {ds : List (DataW H)} {j : Nat}
    (hsz : (DataW.weightsEach P ts ds).all (· ≤ reachBytes) = true) (ht : ts[j]? = some t) (hd : ds[j]? = some d) (hu : P.underlying t = some (.slice e)) (he : P.underlying e = some (.slice q)) (hq : P.underlying q = some (.int .u8))
    (ce : P.cellsOf e = 1) (cq : P.cellsOf q = 1) (be : P.bytesOf e = 24) (bq : P.bytesOf q = 1)
    (h : DataW.Trod enc P W 0 (fun _ => true) held t (.slice a len cap) d ps) :
    ∃ l : List (List Int), len = l.length ∧ Kd.C (Kd.slice 5 (Kd.int .u8)) W a l.length l ∧ l.length ≤ cap ∧ (l.length ≤ 9223372036854775807 ∧ ∀ x ∈ l, x.length ≤ 9223372036854775807 ∧ ∀ y ∈ x, (Lit.int .u8 y).wf = true) := by
  obtain ⟨fuel, hf⟩ := h
  rcases open_int_rows hu he hq ce cq hf with ⟨hcs, _⟩ | ⟨ad, n, c, A, L, C, Z, hcs, _, hl, hm, hx, hr⟩
  · simp [Value.cells] at hcs
    obtain ⟨rfl, rfl, rfl⟩ := hcs
    exact ⟨[], rfl, ⟨rfl, by decide, fun h => absurd h (by decide)⟩, Nat.le_refl _, by decide, fun x hx => absurd hx (by simp)⟩
  · simp [Value.cells] at hcs
    obtain ⟨rfl, rfl, rfl⟩ := hcs
    have hm' : cap ≤ 9223372036854775807 := hm
    refine ⟨(List.range len).map fun r => (Z r).take (L r), by simp, ?_, by simpa using hl, by simp; omega, ?_⟩
    · refine ⟨rfl, by simp; omega, fun _ => ⟨ad, rfl, fun j p hj => ?_⟩⟩
      rw [List.getElem?_map] at hj
      by_cases hjl : j < len
      · rw [List.getElem?_range hjl] at hj
        simp only [Option.map_some] at hj
        injection hj with hj
        subst hj
        obtain ⟨h1, h2, h3, h4, h5, h6, h7⟩ := hr j (by omega)
        have hlen : ((Z j).take (L j)).length = L j := by rw [List.length_take]; omega
        have h3' : C j ≤ 9223372036854775807 := h3
        refine ⟨[.slice (A j) (L j) (C j)], rfl, ⟨A j, C j, by rw [hlen], by omega, ?_⟩, fun i u hi => ?_⟩
        · rw [hlen]
          refine ⟨hlen, by omega, fun hp => ?_⟩
          cases hA : A j with
          | none => exact absurd (h6 hA) (by omega)
          | some a' =>
            refine ⟨a', rfl, fun i p hi => ⟨[.int .u8 p], rfl, rfl, fun i' u hu => ?_⟩⟩
            cases i' with
            | succ i' => simp at hu
            | zero =>
              have hu' : Value.int .u8 p = u := by simpa using hu
              subst hu'
              have hiL : i < L j := by
                have := (List.getElem?_eq_some_iff.1 hi).1
                omega
              have h8 := (h7 a' hA).2 i (by omega)
              rw [List.getElem?_take_of_lt hiL] at hi
              rw [List.getD_eq_getElem?_getD, hi] at h8
              simpa [Kd.int, Kd.scalar] using h8
        · cases i with
          | succ i => simp at hi
          | zero =>
            have hi' : Value.slice (A j) (L j) (C j) = u := by simpa using hi
            subst hi'
            simpa [Kd.slice] using h1
      · rw [List.getElem?_eq_none (by simpa using hjl)] at hj
        simp at hj
    · intro x hx2
      obtain ⟨r, hr1, rfl⟩ := List.mem_map.1 hx2
      have hrl : r < len := by simpa using hr1
      obtain ⟨h1, h2, h3, h4, h5, h6, h7⟩ := hr r (by omega)
      have h3' : C r ≤ 9223372036854775807 := h3
      exact ⟨by rw [List.length_take]; omega, fun y hy => h5 y (List.mem_of_mem_take hy)⟩
end Go.Proofs.Ytbiijcehgiibeaa.O
