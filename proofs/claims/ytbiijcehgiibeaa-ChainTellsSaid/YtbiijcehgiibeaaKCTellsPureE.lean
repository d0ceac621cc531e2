/- Proved here: what chain.Next, chain.Check, links, long and the document's answers of layer 3 come to. -/
import Derived.Test.YtbiijcehgiibeaaKCTellsPureC
import Derived.Test.YtbiijcehgiibeaaKCTellsQf57
import Derived.Test.YtbiijcehgiibeaaKCTellsQ0
import Derived.Test.YtbiijcehgiibeaaKCTellsQe60
import Derived.Test.YtbiijcehgiibeaaKCTellsQg3
import Derived.Test.YtbiijcehgiibeaaKCTellsQg9
import Derived.Test.YtbiijcehgiibeaaKCTellsQf55
namespace Go.Proofs.Ytbiijcehgiibeaa.Pure
open Go.RowKit Go.Proofs.Ytbiijcehgiibeaa.Q Go.Proofs.YtbiijcehgiibeaaW.PrintWords
set_option linter.unusedVariables false
set_option linter.unusedSimpArgs false
theorem awake03 (k : Nat) : reevelaw03_awake.f (k + 10) = some true := by kernel_rfl
def may (x : S60) : Bool := decide (0 ≤ x.f0 ∧ x.f0 ≤ 10000 ∧ 0 ≤ x.f1 ∧ x.f1 ≤ 4194304) && M.right x.f2.f0 x.f2.f1
def next (x : S60) (b : List Int) : S60 × Int :=
  if may x = true then if (b.length : Int) > 4194304 then (z60, 2) else if x.f0 = 10000 then (z60, 3) else (⟨x.f0 + 1, b.length, ⟨(M.add (x.f2.f0, x.f2.f1) b).1, (M.add (x.f2.f0, x.f2.f1) b).2⟩⟩, 0) else (z60, 30)
theorem may_iff {x : S60} : may x = true ↔ (0 ≤ x.f0 ∧ x.f0 ≤ 10000 ∧ 0 ≤ x.f1 ∧ x.f1 ≤ 4194304) ∧ M.right x.f2.f0 x.f2.f1 = true := by
  unfold may
  rw [Bool.and_eq_true, decide_eq_true_iff]
theorem cmay (x : S60) : chain_may.f x.f0 x.f1 x.f2.f0 x.f2.f1 = some (may x) := by
  unfold chain_may.f may
  rw [show seal_Right.f x.f2.f0 x.f2.f1 = some (M.right x.f2.f0 x.f2.f1) from rright _ _]
  simp only [Option.bind_some]
  by_cases h1 : x.f0 ≥ 0
  · rw [if_pos h1]
    by_cases h2 : x.f0 ≤ 10000
    · rw [if_pos h2]
      by_cases h3 : x.f1 ≥ 0
      · rw [if_pos h3]
        by_cases h4 : x.f1 ≤ 4194304
        · rw [if_pos h4, decide_eq_true (show 0 ≤ x.f0 ∧ x.f0 ≤ 10000 ∧ 0 ≤ x.f1 ∧ x.f1 ≤ 4194304 by omega), Bool.true_and]
        · rw [if_neg h4, decide_eq_false (by omega), Bool.false_and]
      · rw [if_neg h3, decide_eq_false (by omega), Bool.false_and]
    · rw [if_neg h2, decide_eq_false (by omega), Bool.false_and]
  · rw [if_neg h1, decide_eq_false (by omega), Bool.false_and]
theorem cnext (x : S60) {b : List Int} (hb : M.bytes b = true) (hl : (b.length : Int) ≤ 9223372036854775807) :
    chain_Next.f x.f0 x.f1 x.f2.f0 x.f2.f1 b = some ((next x b).1.f0, (next x b).1.f1, (next x b).1.f2.f0, (next x b).1.f2.f1, (next x b).2) := by
  unfold chain_Next.f next
  rw [cmay]
  simp only [Option.bind_some]
  by_cases h : may x = true
  · have h' := may_iff.1 h
    rw [if_pos h, if_pos h]
    by_cases h1 : (b.length : Int) > 4194304
    · rw [if_pos h1, if_pos h1]; rfl
    · rw [if_neg h1, if_neg h1]
      by_cases h2 : x.f0 = 10000
      · rw [if_pos h2, if_pos h2]; rfl
      · rw [if_neg h2, if_neg h2, add_ok h'.2 hb hl, w64 (n := x.f0 + 1) (by omega) (by omega)]
        rfl
  · rw [if_neg h, if_neg h]; rfl
def eqv (x y : S60) : Bool := (x.f0 == y.f0) && ((x.f1 == y.f1) && ((x.f2.f0 == y.f2.f0) && (x.f2.f1 == y.f2.f1)))
theorem eqv_iff {x y : S60} : eqv x y = true ↔ x = y := by
  obtain ⟨a, b, c, d⟩ := x
  obtain ⟨a', b', c', d'⟩ := y
  unfold eqv
  simp
theorem eqv_not (x y : S60) : (!(x.f0 == y.f0) || (!(x.f1 == y.f1) || ((!(x.f2.f0 == y.f2.f0) || (!(x.f2.f1 == y.f2.f1)))))) = !eqv x y := by
  unfold eqv
  simp only [Bool.not_and]
def good : S60 → List (List Int) → List S60 → Nat
  | _, [], _ => 0
  | _, _ :: _, [] => 0
  | x, b :: ps, l :: ls => if (next x b).2 = 0 ∧ eqv (next x b).1 l = true then 1 + good (next x b).1 ps ls else 0
theorem good_nil (x : S60) (ps : List (List Int)) : good x ps [] = 0 := by cases ps <;> rfl
def tell (ps : List (List Int)) (ls : List S60) (g : Nat) : Int := if g = ps.length ∧ ls.length ≤ ps.length then -1 else (g : Int)
def first : S60 := ⟨0, 0, ⟨1, 2⟩⟩
def check (ps : List (List Int)) (ls : List S60) : Int := tell ps ls (good first ps ls)
def rows (ps : List (List Int)) : Prop := ps.length ≤ 9223372036854775807 ∧ ∀ x ∈ ps, x.length ≤ 9223372036854775807 ∧ M.bytes x = true
theorem rows_of {ps : List (List Int)} (h : ps.length ≤ 9223372036854775807 ∧ ∀ x ∈ ps, x.length ≤ 9223372036854775807 ∧ ∀ y ∈ x, (Lit.int .u8 y).wf = true) : rows ps :=
  ⟨h.1, fun x hx => ⟨(h.2 x hx).1, bytes_of (h.2 x hx).2⟩⟩
theorem ccheck0 {ps : List (List Int)} {ls : List S60} (hr : rows ps) : ∀ (k i : Nat) (x : S60), i ≤ ps.length → ps.length - i < k →
    chain_Check.l0 k ps ls (i : Int) ps (ps.length : Int) (i : Int) x.f0 x.f1 x.f2.f0 x.f2.f1 = some (tell ps ls (i + good x (ps.drop i) (ls.drop i))) := by
  intro k
  have hm := hr.1
  induction k with
  | zero => intro i x _ h; omega
  | succ k ih =>
    intro i x hi hk
    simp only [chain_Check.l0]
    have tail : ∀ g : Nat, (if (g : Int) = (ps.length : Int) then (if (ls.length : Int) ≤ (ps.length : Int) then some (-1) else some (g : Int)) else some (g : Int)) = some (tell ps ls g) := by
      intro g
      unfold tell
      by_cases h1 : g = ps.length
      · rw [if_pos (by omega)]
        by_cases h2 : ls.length ≤ ps.length
        · rw [if_pos (by omega), if_pos ⟨h1, h2⟩]
        · rw [if_neg (by omega), if_neg (fun e => h2 e.2)]
      · rw [if_neg (by omega), if_neg (fun e => h1 e.1)]
    by_cases h : i < ps.length
    · have ep : ps.drop i = ps.getD i [] :: ps.drop (i + 1) := by
        rw [List.getD_eq_getElem?_getD, List.getElem?_eq_getElem h, List.drop_eq_getElem_cons h]; rfl
      have hmem : ps.getD i [] ∈ ps := by
        rw [List.getD_eq_getElem?_getD, List.getElem?_eq_getElem h]; exact List.getElem_mem h
      have er : rd_L2 ps (i : Int) = ps.getD i [] := by unfold rd_L2; rw [Int.toNat_natCast]
      rw [if_pos (by omega), if_pos (by omega), if_pos (by omega), er, cnext x (hr.2 _ hmem).2 (by have := (hr.2 _ hmem).1; omega)]
      simp only [Option.bind_some]
      rw [ep]
      by_cases h2 : i < ls.length
      · have el : ls.drop i = ls.getD i z60 :: ls.drop (i + 1) := by
          rw [List.getD_eq_getElem?_getD, List.getElem?_eq_getElem h2, List.drop_eq_getElem_cons h2]; rfl
        have et : rd_T60 ls (i : Int) = ls.getD i z60 := by unfold rd_T60; rw [Int.toNat_natCast]
        rw [if_neg (by omega), el, et]
        generalize ls.getD i z60 = l
        have eg : ∀ r s, good x (ps.getD i [] :: r) (l :: s) = if (next x (ps.getD i [])).2 = 0 ∧ eqv (next x (ps.getD i [])).1 l = true then 1 + good (next x (ps.getD i [])).1 r s else 0 := fun _ _ => rfl
        rw [eg]
        generalize next x (ps.getD i []) = y
        rw [eqv_not]
        by_cases h3 : y.2 = 0
        · rw [if_pos h3, if_pos (by omega), if_pos (by omega)]
          by_cases h4 : eqv y.1 l = true
          · rw [h4, if_neg (by decide), if_pos ⟨h3, rfl⟩, w64 (n := (i : Int) + 1) (by omega) (by omega), show ((i : Int) + 1) = ((i + 1 : Nat) : Int) by omega, ih (i + 1) y.1 (by omega) (by omega), Nat.add_assoc]
          · rw [if_pos (by simp [h4]), if_neg (c := y.2 = 0 ∧ eqv y.1 l = true) (fun e => h4 e.2)]
            exact tail i
        · rw [if_neg h3, if_neg (c := y.2 = 0 ∧ eqv y.1 l = true) (fun e => h3 e.1)]
          exact tail i
      · rw [if_pos (by omega), List.drop_of_length_le (l := ls) (by omega), good_nil, Nat.add_zero]
        exact tail i
    · rw [if_neg (by omega), List.drop_of_length_le (by omega)]
      exact tail i
theorem ccheck {ps : List (List Int)} {ls : List S60} (hr : rows ps) {k : Nat} (hk : ps.length < k) : chain_Check.f k ps ls = some (check ps ls) := by
  unfold chain_Check.f
  rw [show chain_First.f = some (first.f0, first.f1, first.f2.f0, first.f2.f1) from rfl]
  simp only [Option.bind_some]
  have := ccheck0 (ls := ls) hr k 0 first (by omega) (by omega)
  simpa [check] using this
def mk : S60 → List (List Int) → Option (List S60)
  | _, [] => some []
  | x, b :: ps => if (next x b).2 = 0 then (mk (next x b).1 ps).map ((next x b).1 :: ·) else none
theorem next_ok {x : S60} {b : List Int} (h : (next x b).2 = 0) : may x = true ∧ (b.length : Int) ≤ 4194304 ∧ x.f0 ≠ 10000 ∧ next x b = (⟨x.f0 + 1, b.length, ⟨(M.add (x.f2.f0, x.f2.f1) b).1, (M.add (x.f2.f0, x.f2.f1) b).2⟩⟩, 0) := by
  unfold next at h ⊢
  by_cases h1 : may x = true
  · rw [if_pos h1] at h
    by_cases h2 : (b.length : Int) > 4194304
    · rw [if_pos h2] at h; exact absurd h (by decide)
    · rw [if_neg h2] at h
      by_cases h3 : x.f0 = 10000
      · rw [if_pos h3] at h; exact absurd h (by decide)
      · exact ⟨h1, by omega, h3, by rw [if_pos h1, if_neg h2, if_neg h3]⟩
  · rw [if_neg h1] at h; exact absurd h (by decide)
theorem next_eq {x : S60} {b : List Int} (h1 : may x = true) (h2 : (b.length : Int) ≤ 4194304) (h3 : x.f0 ≠ 10000) : next x b = (⟨x.f0 + 1, b.length, ⟨(M.add (x.f2.f0, x.f2.f1) b).1, (M.add (x.f2.f0, x.f2.f1) b).2⟩⟩, 0) := by
  unfold next
  rw [if_pos h1, if_neg (by omega), if_neg h3]
theorem next_may {x : S60} {b : List Int} (h : (next x b).2 = 0) : may (next x b).1 = true := by
  obtain ⟨h1, h2, h3, h4⟩ := next_ok h
  have h5 := may_iff.1 h1
  rw [h4, may_iff]
  exact ⟨⟨by simp only; omega, by simp only; omega, by simp only; omega, by simp only; omega⟩, M.add_right b (x.f2.f0, x.f2.f1) h5.2⟩
theorem mk_len : ∀ (ps : List (List Int)) (x : S60) (ls : List S60), mk x ps = some ls → ls.length = ps.length ∧ good x ps ls = ps.length ∧ (ps ≠ [] → x.f0 + ps.length ≤ 10000)
  | [], x, ls, h => by
    simp [mk] at h
    subst h
    exact ⟨rfl, rfl, fun h => absurd rfl h⟩
  | b :: ps, x, ls, h => by
    unfold mk at h
    by_cases hc : (next x b).2 = 0
    · rw [if_pos hc] at h
      obtain ⟨l2, h2, rfl⟩ := Option.map_eq_some_iff.1 h
      obtain ⟨e1, e2, e3⟩ := mk_len ps _ _ h2
      obtain ⟨n1, n2, n3, n4⟩ := next_ok hc
      have n5 := may_iff.1 n1
      refine ⟨by simp [e1], ?_, fun _ => ?_⟩
      · unfold good
        rw [if_pos ⟨hc, eqv_iff.2 rfl⟩, e2]
        simp
        omega
      · simp only [List.length_cons]
        by_cases hp : ps = []
        · subst hp; simp; omega
        · have := e3 hp
          rw [n4] at this
          simp only at this
          omega
    · rw [if_neg hc] at h
      cases h
theorem mk_no : ∀ (ps : List (List Int)) (x : S60), may x = true → x.f0 + ps.length ≤ 10000 → (∀ b ∈ ps, (b.length : Int) ≤ 4194304) → mk x ps ≠ none
  | [], x, _, _, _ => by simp [mk]
  | b :: ps, x, h1, h2, h3 => by
    simp only [List.length_cons] at h2
    have e := next_eq (x := x) (b := b) h1 (h3 b (by simp)) (by omega)
    have e0 : (next x b).2 = 0 := by rw [e]
    unfold mk
    rw [if_pos e0]
    have := mk_no ps (next x b).1 (next_may e0) (by rw [e]; simp only; omega) (fun c hc => h3 c (by simp [hc]))
    intro hn
    exact this (Option.map_eq_none_iff.1 hn)
theorem long0 {ps : List (List Int)} (hm : ps.length ≤ 9223372036854775807) : ∀ (k i : Nat), i ≤ ps.length → ps.length - i < k → reevelaw03_long.l0 k ps (i : Int) = some ((ps.drop i).any fun b => decide ((b.length : Int) > 4194304)) := by
  intro k
  induction k with
  | zero => intro i _ h; omega
  | succ k ih =>
    intro i hi hk
    simp only [reevelaw03_long.l0]
    by_cases h : i < ps.length
    · have ep : ps.drop i = ps.getD i [] :: ps.drop (i + 1) := by
        rw [List.getD_eq_getElem?_getD, List.getElem?_eq_getElem h, List.drop_eq_getElem_cons h]; rfl
      have er : rd_L2 ps (i : Int) = ps.getD i [] := by unfold rd_L2; rw [Int.toNat_natCast]
      rw [if_pos (by omega), if_pos (by omega), er, ep, List.any_cons]
      by_cases h2 : ((ps.getD i []).length : Int) > 4194304
      · rw [if_pos h2, decide_eq_true h2, Bool.true_or]
      · rw [if_neg h2, decide_eq_false h2, Bool.false_or, w64 (n := (i : Int) + 1) (by omega) (by omega), show ((i : Int) + 1) = ((i + 1 : Nat) : Int) by omega, ih (i + 1) (by omega) (by omega)]
    · rw [if_neg (by omega), List.drop_of_length_le (by omega)]
      rfl
theorem long {ps : List (List Int)} (hm : ps.length ≤ 9223372036854775807) {k : Nat} (hk : ps.length < k) : reevelaw03_long.f k ps = some (ps.any fun b => decide ((b.length : Int) > 4194304)) := by
  unfold reevelaw03_long.f
  have := long0 hm k 0 (by omega) (by omega)
  simpa using this
theorem links0 {ps : List (List Int)} (hr : rows ps) : ∀ (k i : Nat) (x : S60) (acc : List S60), i ≤ ps.length → ps.length - i < k → x.f0 = i → acc.length = i → acc.length ≤ 10000 →
    reevelaw03_links.l0 k ps acc (i : Int) x.f0 x.f1 x.f2.f0 x.f2.f1 = some (match mk x (ps.drop i) with | some l => (acc ++ l, true) | none => ([], false)) := by
  intro k
  have hm0 := hr.1
  induction k with
  | zero => intro i x acc _ h; omega
  | succ k ih =>
    intro i x acc hi hk hx ha ha2
    simp only [reevelaw03_links.l0]
    by_cases h : i < ps.length
    · have ep : ps.drop i = ps.getD i [] :: ps.drop (i + 1) := by
        rw [List.getD_eq_getElem?_getD, List.getElem?_eq_getElem h, List.drop_eq_getElem_cons h]; rfl
      have hmem : ps.getD i [] ∈ ps := by
        rw [List.getD_eq_getElem?_getD, List.getElem?_eq_getElem h]; exact List.getElem_mem h
      have er : rd_L2 ps (i : Int) = ps.getD i [] := by unfold rd_L2; rw [Int.toNat_natCast]
      rw [if_pos (by omega), if_pos (by omega), er, cnext x (hr.2 _ hmem).2 (by have := (hr.2 _ hmem).1; omega)]
      simp only [Option.bind_some]
      rw [ep]
      have em : ∀ r, mk x (ps.getD i [] :: r) = if (next x (ps.getD i [])).2 = 0 then (mk (next x (ps.getD i [])).1 r).map ((next x (ps.getD i [])).1 :: ·) else none := fun _ => rfl
      rw [em]
      by_cases h3 : (next x (ps.getD i [])).2 = 0
      · obtain ⟨n1, n2, n3, n4⟩ := next_ok h3
        have n5 := may_iff.1 n1
        have n6 : (next x (ps.getD i [])).1.f0 = ((i + 1 : Nat) : Int) := by rw [n4]; simp only; omega
        rw [if_pos h3, if_pos h3, if_pos (by omega), w64 (n := (i : Int) + 1) (by omega) (by omega), show ((i : Int) + 1) = ((i + 1 : Nat) : Int) by omega,
          ih (i + 1) (next x (ps.getD i [])).1 _ (by omega) (by omega) n6 (by simp [ha]) (by simp; omega)]
        congr 1
        cases mk (next x (ps.getD i [])).1 (ps.drop (i + 1)) with
        | none => rfl
        | some l => simp
      · rw [if_neg h3, if_neg h3]
    · rw [if_neg (by omega), List.drop_of_length_le (by omega)]
      simp [mk]
theorem links {ps : List (List Int)} (hr : rows ps) {k : Nat} (hk : ps.length < k) : reevelaw03_links.f k ps = some (match mk first ps with | some l => (l, true) | none => ([], false)) := by
  unfold reevelaw03_links.f
  rw [show chain_First.f = some (first.f0, first.f1, first.f2.f0, first.f2.f1) from rfl]
  simp only [Option.bind_some]
  have := links0 hr k 0 first [] (by omega) (by omega) rfl rfl (by simp)
  simpa using this
end Go.Proofs.Ytbiijcehgiibeaa.Pure
