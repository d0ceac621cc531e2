/- Proved here, in whole numbers: adding bytes to a seal is injective in the seal and in each byte; it is linear in the seal; joined seals are seals of joined bytes. No program in sight. · Proved here: what the small printed functions of reevelaw02 come to (the wake, Fold, Of), and seal.Add where its seal is right. · Proved here: 16777199 is a prime; the pairs modulo it are a field; each pair but zero to the power P P - 1 is 1. No program in sight. · Proved here: what seal.Join, seal.Times, seal.Power come to where their seals are right. · A text that a program of this session wrote (wip/qprint.py, over the kit's printer): Lean functions with the same answers as Go functions of the program, and proofs that the calls come to these answers; where a function is named in wip/ext, its definition and proof were written by hand. · Proved here: what the document's answers of layer 2 (Right, Mul, Raise, Times, Power, Join) come to. · Proved here: what chain.Next, chain.Check, links, long and the document's answers of layer 3 come to. · Proved here: the plain law of ChainWhole. · Proved here: an argument that is a slice of slices of bytes, or a slice of links, is a row that is read. -/
import Derived.Test.YtbiijcehgiibeaaKCWholeJFloat
import Derived.Test.YtbiijcehgiibeaaKCWholeQg7
import Derived.Test.YtbiijcehgiibeaaKCWholeQg9
import Derived.Test.YtbiijcehgiibeaaKCWholeQf55
import Derived.Test.YtbiijcehgiibeaaKCWholeQf15
import Derived.WalkKit
import Derived.ProofKit
import Derived.Deep.Matrix
import Derived.Deep.Strs
import Derived.Deep.Slices
import Derived.OpenShut
namespace Go.Proofs.Ytbiijcehgiibeaa.M
def plus (x y : Int × Int) : Int × Int := ((x.1 + y.1) % 16777199, (x.2 + y.2) % 16777199)
end Go.Proofs.Ytbiijcehgiibeaa.M
namespace Go.Proofs.Ytbiijcehgiibeaa.Pure
open Go.RowKit Go.Proofs.Ytbiijcehgiibeaa.Q Go.Proofs.YtbiijcehgiibeaaW.PrintWords
theorem tmod_P (n : Int) : n.tmod 16777199 = if 0 ≤ n then n % 16777199 else -((-n) % 16777199) := by
  split
  · exact Int.tmod_eq_emod_of_nonneg ‹_›
  · have := Int.neg_tmod (a := -n) (b := 16777199)
    rw [Int.neg_neg] at this
    rw [this, Int.tmod_eq_emod_of_nonneg (by omega)]
theorem bytes_of {l : List Int} (h : ∀ x ∈ l, (Lit.int .u8 x).wf = true) : M.bytes l = true := by
  unfold M.bytes
  rw [List.all_eq_true]
  intro x hx
  have := h x hx
  simp only [Lit.wf, Bool.and_eq_true, decide_eq_true_eq] at this
  have h1 : (0 : Int) ≤ x := this.1
  have h2 : x ≤ 255 := this.2
  exact decide_eq_true (by omega)
theorem add_ok {a b : Int} {l : List Int} (h : M.right a b = true) (hb : M.bytes l = true) (hl : (l.length : Int) ≤ 9223372036854775807) : seal_Add.f a b l = some ((M.add (a, b) l).1, (M.add (a, b) l).2, 0) := by
  unfold seal_Add.f
  rw [if_pos h, if_pos hb, if_pos hl]
end Go.Proofs.Ytbiijcehgiibeaa.Pure
namespace Go.Proofs.Ytbiijcehgiibeaa.M
def sum : Nat → (Nat → Int × Int) → Int × Int
  | 0, _ => (0, 0)
  | n + 1, f => plus (sum n f) (f n)
theorem zero_mul (x : Int × Int) : mul (0, 0) x = (0, 0) := by unfold mul; refine Prod.ext ?_ ?_ <;> simp only <;> omega
end Go.Proofs.Ytbiijcehgiibeaa.M
namespace Go.Proofs.Ytbiijcehgiibeaa.Pure
open Go.RowKit Go.Proofs.Ytbiijcehgiibeaa.Q Go.Proofs.YtbiijcehgiibeaaW.PrintWords
set_option linter.unusedVariables false
set_option linter.unusedSimpArgs false
theorem addp_ok {x : Int × Int} {l : List Int} (h : M.right x.1 x.2 = true) (hb : M.bytes l = true) (hl : (l.length : Int) ≤ 9223372036854775807) : seal_Add.f x.1 x.2 l = some ((M.add x l).1, (M.add x l).2, 0) := add_ok h hb hl
end Go.Proofs.Ytbiijcehgiibeaa.Pure
namespace Go.Proofs.Ytbiijcehgiibeaa.Q
open Go.RowKit Go.Proofs.YtbiijcehgiibeaaW.PrintWords Go.Proofs.YtbiijcehgiibeaaW.PrintLast Go.Proofs.YtbiijcehgiibeaaW.PrintMore
attribute [local go_sem] max2_int min2_int max_two min_two max_three min_three max_four min_four   -- for this text's walks alone
set_option linter.unusedVariables false
set_option linter.unusedSimpArgs false
def reeveref02_Right.f (a0_0 : Int) (a0_1 : Int) : Option (Bool) := if a0_0 ≥ 0 then (if a0_0 < 16777199 then (if a0_1 ≥ 0 then (some (decide (a0_1 < 16777199))) else (some false)) else (some false)) else (some false)
end Go.Proofs.Ytbiijcehgiibeaa.Q
namespace Go.Proofs.Ytbiijcehgiibeaa.Pure
open Go.RowKit Go.Proofs.Ytbiijcehgiibeaa.Q Go.Proofs.YtbiijcehgiibeaaW.PrintWords
set_option linter.unusedVariables false
set_option linter.unusedSimpArgs false
theorem rright (a b : Int) : reeveref02_Right.f a b = some (M.right a b) := by
  unfold reeveref02_Right.f M.right
  by_cases h1 : 0 ≤ a
  · rw [if_pos h1]
    by_cases h2 : a < 16777199
    · rw [if_pos h2]
      by_cases h3 : 0 ≤ b
      · rw [if_pos h3]; congr 1; simp [h1, h2, h3]
      · rw [if_neg h3]; congr 1; simp [h3]
    · rw [if_neg h2]; congr 1; simp [h2]
  · rw [if_neg h1]; congr 1; simp [h1]
theorem w64 {n : Int} (h1 : -9223372036854775808 ≤ n) (h2 : n ≤ 9223372036854775807) : wrap64 n = n := by unfold wrap64; omega
end Go.Proofs.Ytbiijcehgiibeaa.Pure
namespace Go.Proofs.Ytbiijcehgiibeaa.Pure
open Go.RowKit Go.Proofs.Ytbiijcehgiibeaa.Q Go.Proofs.YtbiijcehgiibeaaW.PrintWords
set_option linter.unusedVariables false
set_option linter.unusedSimpArgs false
theorem awake03 (k : Nat) : reevelaw03_awake.f (k + 10) = some true := by kernel_rfl
def may (x : S60) : Bool := decide (0 ≤ x.f0 ∧ x.f0 ≤ 10000 ∧ 0 ≤ x.f1 ∧ x.f1 ≤ 4194304) && M.right x.f2.f0 x.f2.f1
def next (x : S60) (b : List Int) : S60 × Int :=
  if may x = true then if (b.length : Int) > 4194304 then (z60, 2) else if x.f0 = 10000 then (z60, 3) else (⟨x.f0 + 1, b.length, ⟨(M.add (x.f2.f0, x.f2.f1) b).1, (M.add (x.f2.f0, x.f2.f1) b).2⟩⟩, 0) else (z60, 30)
theorem may_iff {x : S60} : may x = true ↔ (0 ≤ x.f0 ∧ x.f0 ≤ 10000 ∧ 0 ≤ x.f1 ∧ x.f1 ≤ 4194304) ∧ M.right x.f2.f0 x.f2.f1 = true := by
  unfold may
  rw [Bool.and_eq_true, decide_eq_true_iff]
theorem cmay (x : S60) : chain_may.f x.f0 x.f1 x.f2.f0 x.f2.f1 = some (may x) := by
  unfold chain_may.f may
  rw [show seal_Right.f x.f2.f0 x.f2.f1 = some (M.right x.f2.f0 x.f2.f1) from rright _ _]
  simp only [Option.bind_some]
  by_cases h1 : x.f0 ≥ 0
  · rw [if_pos h1]
    by_cases h2 : x.f0 ≤ 10000
    · rw [if_pos h2]
      by_cases h3 : x.f1 ≥ 0
      · rw [if_pos h3]
        by_cases h4 : x.f1 ≤ 4194304
        · rw [if_pos h4, decide_eq_true (show 0 ≤ x.f0 ∧ x.f0 ≤ 10000 ∧ 0 ≤ x.f1 ∧ x.f1 ≤ 4194304 by omega), Bool.true_and]
        · rw [if_neg h4, decide_eq_false (by omega), Bool.false_and]
      · rw [if_neg h3, decide_eq_false (by omega), Bool.false_and]
    · rw [if_neg h2, decide_eq_false (by omega), Bool.false_and]
  · rw [if_neg h1, decide_eq_false (by omega), Bool.false_and]
theorem cnext (x : S60) {b : List Int} (hb : M.bytes b = true) (hl : (b.length : Int) ≤ 9223372036854775807) :
    chain_Next.f x.f0 x.f1 x.f2.f0 x.f2.f1 b = some ((next x b).1.f0, (next x b).1.f1, (next x b).1.f2.f0, (next x b).1.f2.f1, (next x b).2) := by
  unfold chain_Next.f next
  rw [cmay]
  simp only [Option.bind_some]
  by_cases h : may x = true
  · have h' := may_iff.1 h
    rw [if_pos h, if_pos h]
    by_cases h1 : (b.length : Int) > 4194304
    · rw [if_pos h1, if_pos h1]; rfl
    · rw [if_neg h1, if_neg h1]
      by_cases h2 : x.f0 = 10000
      · rw [if_pos h2, if_pos h2]; rfl
      · rw [if_neg h2, if_neg h2, add_ok h'.2 hb hl, w64 (n := x.f0 + 1) (by omega) (by omega)]
        rfl
  · rw [if_neg h, if_neg h]; rfl
def eqv (x y : S60) : Bool := (x.f0 == y.f0) && ((x.f1 == y.f1) && ((x.f2.f0 == y.f2.f0) && (x.f2.f1 == y.f2.f1)))
theorem eqv_iff {x y : S60} : eqv x y = true ↔ x = y := by
  obtain ⟨a, b, c, d⟩ := x
  obtain ⟨a', b', c', d'⟩ := y
  unfold eqv
  simp
def good : S60 → List (List Int) → List S60 → Nat
  | _, [], _ => 0
  | _, _ :: _, [] => 0
  | x, b :: ps, l :: ls => if (next x b).2 = 0 ∧ eqv (next x b).1 l = true then 1 + good (next x b).1 ps ls else 0
def first : S60 := ⟨0, 0, ⟨1, 2⟩⟩
def rows (ps : List (List Int)) : Prop := ps.length ≤ 9223372036854775807 ∧ ∀ x ∈ ps, x.length ≤ 9223372036854775807 ∧ M.bytes x = true
theorem rows_of {ps : List (List Int)} (h : ps.length ≤ 9223372036854775807 ∧ ∀ x ∈ ps, x.length ≤ 9223372036854775807 ∧ ∀ y ∈ x, (Lit.int .u8 y).wf = true) : rows ps :=
  ⟨h.1, fun x hx => ⟨(h.2 x hx).1, bytes_of (h.2 x hx).2⟩⟩
def mk : S60 → List (List Int) → Option (List S60)
  | _, [] => some []
  | x, b :: ps => if (next x b).2 = 0 then (mk (next x b).1 ps).map ((next x b).1 :: ·) else none
theorem next_ok {x : S60} {b : List Int} (h : (next x b).2 = 0) : may x = true ∧ (b.length : Int) ≤ 4194304 ∧ x.f0 ≠ 10000 ∧ next x b = (⟨x.f0 + 1, b.length, ⟨(M.add (x.f2.f0, x.f2.f1) b).1, (M.add (x.f2.f0, x.f2.f1) b).2⟩⟩, 0) := by
  unfold next at h ⊢
  by_cases h1 : may x = true
  · rw [if_pos h1] at h
    by_cases h2 : (b.length : Int) > 4194304
    · rw [if_pos h2] at h; exact absurd h (by decide)
    · rw [if_neg h2] at h
      by_cases h3 : x.f0 = 10000
      · rw [if_pos h3] at h; exact absurd h (by decide)
      · exact ⟨h1, by omega, h3, by rw [if_pos h1, if_neg h2, if_neg h3]⟩
  · rw [if_neg h1] at h; exact absurd h (by decide)
theorem next_eq {x : S60} {b : List Int} (h1 : may x = true) (h2 : (b.length : Int) ≤ 4194304) (h3 : x.f0 ≠ 10000) : next x b = (⟨x.f0 + 1, b.length, ⟨(M.add (x.f2.f0, x.f2.f1) b).1, (M.add (x.f2.f0, x.f2.f1) b).2⟩⟩, 0) := by
  unfold next
  rw [if_pos h1, if_neg (by omega), if_neg h3]
theorem next_may {x : S60} {b : List Int} (h : (next x b).2 = 0) : may (next x b).1 = true := by
  obtain ⟨h1, h2, h3, h4⟩ := next_ok h
  have h5 := may_iff.1 h1
  rw [h4, may_iff]
  exact ⟨⟨by simp only; omega, by simp only; omega, by simp only; omega, by simp only; omega⟩, M.add_right b (x.f2.f0, x.f2.f1) h5.2⟩
theorem mk_len : ∀ (ps : List (List Int)) (x : S60) (ls : List S60), mk x ps = some ls → ls.length = ps.length ∧ good x ps ls = ps.length ∧ (ps ≠ [] → x.f0 + ps.length ≤ 10000)
  | [], x, ls, h => by
    simp [mk] at h
    subst h
    exact ⟨rfl, rfl, fun h => absurd rfl h⟩
  | b :: ps, x, ls, h => by
    unfold mk at h
    by_cases hc : (next x b).2 = 0
    · rw [if_pos hc] at h
      obtain ⟨l2, h2, rfl⟩ := Option.map_eq_some_iff.1 h
      obtain ⟨e1, e2, e3⟩ := mk_len ps _ _ h2
      obtain ⟨n1, n2, n3, n4⟩ := next_ok hc
      have n5 := may_iff.1 n1
      refine ⟨by simp [e1], ?_, fun _ => ?_⟩
      · unfold good
        rw [if_pos ⟨hc, eqv_iff.2 rfl⟩, e2]
        simp
        omega
      · simp only [List.length_cons]
        by_cases hp : ps = []
        · subst hp; simp; omega
        · have := e3 hp
          rw [n4] at this
          simp only at this
          omega
    · rw [if_neg hc] at h
      cases h
theorem mk_no : ∀ (ps : List (List Int)) (x : S60), may x = true → x.f0 + ps.length ≤ 10000 → (∀ b ∈ ps, (b.length : Int) ≤ 4194304) → mk x ps ≠ none
  | [], x, _, _, _ => by simp [mk]
  | b :: ps, x, h1, h2, h3 => by
    simp only [List.length_cons] at h2
    have e := next_eq (x := x) (b := b) h1 (h3 b (by simp)) (by omega)
    have e0 : (next x b).2 = 0 := by rw [e]
    unfold mk
    rw [if_pos e0]
    have := mk_no ps (next x b).1 (next_may e0) (by rw [e]; simp only; omega) (fun c hc => h3 c (by simp [hc]))
    intro hn
    exact this (Option.map_eq_none_iff.1 hn)
theorem long0 {ps : List (List Int)} (hm : ps.length ≤ 9223372036854775807) : ∀ (k i : Nat), i ≤ ps.length → ps.length - i < k → reevelaw03_long.l0 k ps (i : Int) = some ((ps.drop i).any fun b => decide ((b.length : Int) > 4194304)) := by
  intro k
  induction k with
  | zero => intro i _ h; omega
  | succ k ih =>
    intro i hi hk
    simp only [reevelaw03_long.l0]
    by_cases h : i < ps.length
    · have ep : ps.drop i = ps.getD i [] :: ps.drop (i + 1) := by
        rw [List.getD_eq_getElem?_getD, List.getElem?_eq_getElem h, List.drop_eq_getElem_cons h]; rfl
      have er : rd_L2 ps (i : Int) = ps.getD i [] := by unfold rd_L2; rw [Int.toNat_natCast]
      rw [if_pos (by omega), if_pos (by omega), er, ep, List.any_cons]
      by_cases h2 : ((ps.getD i []).length : Int) > 4194304
      · rw [if_pos h2, decide_eq_true h2, Bool.true_or]
      · rw [if_neg h2, decide_eq_false h2, Bool.false_or, w64 (n := (i : Int) + 1) (by omega) (by omega), show ((i : Int) + 1) = ((i + 1 : Nat) : Int) by omega, ih (i + 1) (by omega) (by omega)]
    · rw [if_neg (by omega), List.drop_of_length_le (by omega)]
      rfl
theorem long {ps : List (List Int)} (hm : ps.length ≤ 9223372036854775807) {k : Nat} (hk : ps.length < k) : reevelaw03_long.f k ps = some (ps.any fun b => decide ((b.length : Int) > 4194304)) := by
  unfold reevelaw03_long.f
  have := long0 hm k 0 (by omega) (by omega)
  simpa using this
theorem links0 {ps : List (List Int)} (hr : rows ps) : ∀ (k i : Nat) (x : S60) (acc : List S60), i ≤ ps.length → ps.length - i < k → x.f0 = i → acc.length = i → acc.length ≤ 10000 →
    reevelaw03_links.l0 k ps acc (i : Int) x.f0 x.f1 x.f2.f0 x.f2.f1 = some (match mk x (ps.drop i) with | some l => (acc ++ l, true) | none => ([], false)) := by
  intro k
  have hm0 := hr.1
  induction k with
  | zero => intro i x acc _ h; omega
  | succ k ih =>
    intro i x acc hi hk hx ha ha2
    simp only [reevelaw03_links.l0]
    by_cases h : i < ps.length
    · have ep : ps.drop i = ps.getD i [] :: ps.drop (i + 1) := by
        rw [List.getD_eq_getElem?_getD, List.getElem?_eq_getElem h, List.drop_eq_getElem_cons h]; rfl
      have hmem : ps.getD i [] ∈ ps := by
        rw [List.getD_eq_getElem?_getD, List.getElem?_eq_getElem h]; exact List.getElem_mem h
      have er : rd_L2 ps (i : Int) = ps.getD i [] := by unfold rd_L2; rw [Int.toNat_natCast]
      rw [if_pos (by omega), if_pos (by omega), er, cnext x (hr.2 _ hmem).2 (by have := (hr.2 _ hmem).1; omega)]
      simp only [Option.bind_some]
      rw [ep]
      have em : ∀ r, mk x (ps.getD i [] :: r) = if (next x (ps.getD i [])).2 = 0 then (mk (next x (ps.getD i [])).1 r).map ((next x (ps.getD i [])).1 :: ·) else none := fun _ => rfl
      rw [em]
      by_cases h3 : (next x (ps.getD i [])).2 = 0
      · obtain ⟨n1, n2, n3, n4⟩ := next_ok h3
        have n5 := may_iff.1 n1
        have n6 : (next x (ps.getD i [])).1.f0 = ((i + 1 : Nat) : Int) := by rw [n4]; simp only; omega
        rw [if_pos h3, if_pos h3, if_pos (by omega), w64 (n := (i : Int) + 1) (by omega) (by omega), show ((i : Int) + 1) = ((i + 1 : Nat) : Int) by omega,
          ih (i + 1) (next x (ps.getD i [])).1 _ (by omega) (by omega) n6 (by simp [ha]) (by simp; omega)]
        congr 1
        cases mk (next x (ps.getD i [])).1 (ps.drop (i + 1)) with
        | none => rfl
        | some l => simp
      · rw [if_neg h3, if_neg h3]
    · rw [if_neg (by omega), List.drop_of_length_le (by omega)]
      simp [mk]
theorem links {ps : List (List Int)} (hr : rows ps) {k : Nat} (hk : ps.length < k) : reevelaw03_links.f k ps = some (match mk first ps with | some l => (l, true) | none => ([], false)) := by
  unfold reevelaw03_links.f
  rw [show chain_First.f = some (first.f0, first.f1, first.f2.f0, first.f2.f1) from rfl]
  simp only [Option.bind_some]
  have := links0 hr k 0 first [] (by omega) (by omega) rfl rfl (by simp)
  simpa using this
end Go.Proofs.Ytbiijcehgiibeaa.Pure
namespace Go.Proofs.Ytbiijcehgiibeaa.Pure
open Go.RowKit Go.Proofs.Ytbiijcehgiibeaa.Q Go.Proofs.YtbiijcehgiibeaaW.PrintWords
theorem whole0 {ps : List (List Int)} {ls : List S60} (hr : rows ps) : ∀ (k i : Nat) (x : S60), i ≤ ps.length → ps.length - i < k → x.f0 = i → mk x (ps.drop i) = some (ls.drop i) → M.right x.f2.f0 x.f2.f1 = true →
    reevelaw03_ChainWhole.l0 k ps ls (i : Int) x.f2.f0 x.f2.f1 = some true := by
  intro k
  have hm0 := hr.1
  induction k with
  | zero => intro i x _ h; omega
  | succ k ih =>
    intro i x hi hk hx hmk hright
    simp only [reevelaw03_ChainWhole.l0]
    by_cases h : i < ps.length
    · have ep : ps.drop i = ps.getD i [] :: ps.drop (i + 1) := by
        rw [List.getD_eq_getElem?_getD, List.getElem?_eq_getElem h, List.drop_eq_getElem_cons h]; rfl
      have hmem : ps.getD i [] ∈ ps := by
        rw [List.getD_eq_getElem?_getD, List.getElem?_eq_getElem h]; exact List.getElem_mem h
      have er : rd_L2 ps (i : Int) = ps.getD i [] := by unfold rd_L2; rw [Int.toNat_natCast]
      have hlen := (mk_len _ _ _ hmk).1
      rw [List.length_drop, List.length_drop] at hlen
      have hil : i < ls.length := by omega
      have el : ls.drop i = ls.getD i z60 :: ls.drop (i + 1) := by
        rw [List.getD_eq_getElem?_getD, List.getElem?_eq_getElem hil, List.drop_eq_getElem_cons hil]; rfl
      have et : rd_T60 ls (i : Int) = ls.getD i z60 := by unfold rd_T60; rw [Int.toNat_natCast]
      rw [ep, el] at hmk
      unfold mk at hmk
      by_cases hc : (next x (ps.getD i [])).2 = 0
      · rw [if_pos hc] at hmk
        obtain ⟨l2, h2, h3⟩ := Option.map_eq_some_iff.1 hmk
        obtain ⟨e1, e2⟩ := List.cons.inj h3
        obtain ⟨n1, n2, n3, n4⟩ := next_ok hc
        have n5 := may_iff.1 n1
        rw [if_pos (by omega), if_pos (by omega), er, et, ← e1, addp_ok (x := (x.f2.f0, x.f2.f1)) hright (hr.2 _ hmem).2 (by have := (hr.2 _ hmem).1; omega)]
        simp only [Option.bind_some]
        rw [if_pos trivial, if_pos (by omega), w64 (n := (i : Int) + 1) (by omega) (by omega)]
        have hnx := n4
        rw [n4]
        simp only
        rw [if_neg (by simp [hx])]
        rw [show ((i : Int) + 1) = ((i + 1 : Nat) : Int) by omega]
        subst e2
        have hm2 := next_may hc
        have := ih (i + 1) (next x (ps.getD i [])).1 (by omega) (by omega) (by rw [n4]; simp only; omega) h2 (may_iff.1 hm2).2
        rw [n4] at this
        exact this
      · rw [if_neg hc] at hmk
        cases hmk
    · rw [if_neg (by omega)]
theorem ChainWhole (ps : List (List Int)) (h : ps.length ≤ 9223372036854775807 ∧ ∀ x ∈ ps, x.length ≤ 9223372036854775807 ∧ ∀ y ∈ x, (Lit.int .u8 y).wf = true) : ∃ k, reevelaw03_ChainWhole.f k ps = some true := by
  have hr := rows_of h
  refine ⟨ps.length + 10, ?_⟩
  unfold reevelaw03_ChainWhole.f
  rw [awake03, links hr (by omega)]
  simp only [Option.bind_some, if_true]
  rw [show ps.length + 10 = (ps.length + 9) + 1 from rfl]
  simp only [reevelaw03_ChainWhole.j0]
  cases hmk : mk first ps with
  | none =>
    simp only [Bool.not_false, if_true]
    by_cases c : (ps.length : Int) > 10000
    · rw [if_pos c]
    · rw [if_neg c, long h.1 (by omega)]
      simp only [Option.bind_some]
      congr 1
      rw [List.any_eq_true]
      rcases Classical.em (∃ b ∈ ps, (b.length : Int) > 4194304) with ⟨b, hb, hl⟩ | hn
      · exact ⟨b, hb, by simpa using hl⟩
      · exact absurd hmk (mk_no ps first (by decide) (by show (0 : Int) + _ ≤ _; omega) (fun b hb => by
          rcases Int.lt_or_le 4194304 (b.length : Int) with h1 | h1
          · exact absurd ⟨b, hb, h1⟩ hn
          · exact h1))
  | some l =>
    simp only [Bool.not_true]
    rw [if_neg (by decide), show seal_Start.f = some (first.f2.f0, first.f2.f1) from rfl]
    simp only [Option.bind_some]
    have := whole0 (ls := l) hr (ps.length + 9) 0 first (by omega) (by omega) rfl (by simpa using hmk) (by decide)
    simpa using this
end Go.Proofs.Ytbiijcehgiibeaa.Pure
namespace Go.Proofs.Ytbiijcehgiibeaa.O
open Go.ChangeShapes Go.WideShapes Go.ChangeAt Go.RowKit Go.Deep Go.Proofs.YtbiijcehgiibeaaW.PrintWords Go.Proofs.Ytbiijcehgiibeaa.Q
set_option linter.unusedVariables false
theorem rows_read {H : Type} {enc : TypeId × Value → H} {P : Program} {W : World} {held : Bool} {t e q : TypeId} {a : Option Addr} {len cap : Nat} {d : DataW H} {ps : List MemPlace} {ts : List TypeId} {ds : List (DataW H)} {j : Nat}
    (hsz : (DataW.weightsEach P ts ds).all (· ≤ reachBytes) = true) (ht : ts[j]? = some t) (hd : ds[j]? = some d) (hu : P.underlying t = some (.slice e)) (he : P.underlying e = some (.slice q)) (hq : P.underlying q = some (.int .u8))
    (ce : P.cellsOf e = 1) (cq : P.cellsOf q = 1) (be : P.bytesOf e = 24) (bq : P.bytesOf q = 1)
    (h : DataW.Trod enc P W 0 (fun _ => true) held t (.slice a len cap) d ps) :
    ∃ l : List (List Int), len = l.length ∧ Kd.C (Kd.slice 5 (Kd.int .u8)) W a l.length l ∧ l.length ≤ cap ∧ (l.length ≤ 9223372036854775807 ∧ ∀ x ∈ l, x.length ≤ 9223372036854775807 ∧ ∀ y ∈ x, (Lit.int .u8 y).wf = true) := by
  obtain ⟨fuel, hf⟩ := h
  rcases open_int_rows hu he hq ce cq hf with ⟨hcs, _⟩ | ⟨ad, n, c, A, L, C, Z, hcs, _, hl, hm, hx, hr⟩
  · simp [Value.cells] at hcs
    obtain ⟨rfl, rfl, rfl⟩ := hcs
    exact ⟨[], rfl, ⟨rfl, by decide, fun h => absurd h (by decide)⟩, Nat.le_refl _, by decide, fun x hx => absurd hx (by simp)⟩
  · simp [Value.cells] at hcs
    obtain ⟨rfl, rfl, rfl⟩ := hcs
    have hm' : cap ≤ 9223372036854775807 := hm
    refine ⟨(List.range len).map fun r => (Z r).take (L r), by simp, ?_, by simpa using hl, by simp; omega, ?_⟩
    · refine ⟨rfl, by simp; omega, fun _ => ⟨ad, rfl, fun j p hj => ?_⟩⟩
      rw [List.getElem?_map] at hj
      by_cases hjl : j < len
      · rw [List.getElem?_range hjl] at hj
        simp only [Option.map_some] at hj
        injection hj with hj
        subst hj
        obtain ⟨h1, h2, h3, h4, h5, h6, h7⟩ := hr j (by omega)
        have hlen : ((Z j).take (L j)).length = L j := by rw [List.length_take]; omega
        have h3' : C j ≤ 9223372036854775807 := h3
        refine ⟨[.slice (A j) (L j) (C j)], rfl, ⟨A j, C j, by rw [hlen], by omega, ?_⟩, fun i u hi => ?_⟩
        · rw [hlen]
          refine ⟨hlen, by omega, fun hp => ?_⟩
          cases hA : A j with
          | none => exact absurd (h6 hA) (by omega)
          | some a' =>
            refine ⟨a', rfl, fun i p hi => ⟨[.int .u8 p], rfl, rfl, fun i' u hu => ?_⟩⟩
            cases i' with
            | succ i' => simp at hu
            | zero =>
              have hu' : Value.int .u8 p = u := by simpa using hu
              subst hu'
              have hiL : i < L j := by
                have := (List.getElem?_eq_some_iff.1 hi).1
                omega
              have h8 := (h7 a' hA).2 i (by omega)
              rw [List.getElem?_take_of_lt hiL] at hi
              rw [List.getD_eq_getElem?_getD, hi] at h8
              simpa [Kd.int, Kd.scalar] using h8
        · cases i with
          | succ i => simp at hi
          | zero =>
            have hi' : Value.slice (A j) (L j) (C j) = u := by simpa using hi
            subst hi'
            simpa [Kd.slice] using h1
      · rw [List.getElem?_eq_none (by simpa using hjl)] at hj
        simp at hj
    · intro x hx2
      obtain ⟨r, hr1, rfl⟩ := List.mem_map.1 hx2
      have hrl : r < len := by simpa using hr1
      obtain ⟨h1, h2, h3, h4, h5, h6, h7⟩ := hr r (by omega)
      have h3' : C r ≤ 9223372036854775807 := h3
      exact ⟨by rw [List.length_take]; omega, fun y hy => h5 y (List.mem_of_mem_take hy)⟩
end Go.Proofs.Ytbiijcehgiibeaa.O
