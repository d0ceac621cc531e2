/- Proved here: the document's Right answers 0 where a policy may be (Pol.ok), else 40. -/
import Derived.Test.YtbiijcehgiibeaaKPReadsJPolg
import Derived.Test.YtbiijcehgiibeaaKPReadsQg11
namespace Go.Proofs.Ytbiijcehgiibeaa.Pol
open Go.RowKit Go.Proofs.Ytbiijcehgiibeaa.Q Go.Proofs.YtbiijcehgiibeaaW.PrintWords
set_option linter.unusedSimpArgs false
theorem rin (n lo hi : Int) : reeveref04_in.f n lo hi = some (inB n lo hi) := by
  unfold reeveref04_in.f inB
  by_cases h : n ≥ lo
  · rw [if_pos h, decide_eq_decide.2 (show (n ≤ hi ↔ lo ≤ n ∧ n ≤ hi) from ⟨fun e => ⟨h, e⟩, fun e => e.2⟩)]
  · rw [if_neg h, decide_eq_false (fun e => h e.1)]
theorem rright1 (k : Nat) (x y : Bool) (p : Py) : reeveref04_Right.j1 (k + 1) x y p.kind p.cap p.num p.den p.width p.count p.keys p.slots p.every p.seg = some (if (x && (y || window p)) = true then 0 else 40) := by
  simp only [reeveref04_Right.j1, rin, Option.bind_some]
  unfold window
  by_cases c1 : p.kind = 2
  · rw [if_pos c1, decide_eq_true c1]
    generalize inB p.width 1 1048576 = b1
    generalize inB p.count 1 32 = b2
    by_cases c2 : p.num = 0
    · rw [if_pos c2, decide_eq_true c2]
      by_cases c3 : p.den = 0
      · rw [if_pos c3, decide_eq_true c3]
        cases x <;> cases y <;> cases b1 <;> cases b2 <;> rfl
      · rw [if_neg c3, decide_eq_false c3]
        cases x <;> cases y <;> cases b1 <;> cases b2 <;> rfl
    · rw [if_neg c2, decide_eq_false c2]
      generalize decide (p.den = 0) = b3
      cases x <;> cases y <;> cases b1 <;> cases b2 <;> cases b3 <;> rfl
  · rw [if_neg c1, decide_eq_false c1]
    generalize inB p.width 1 1048576 = b1
    generalize inB p.count 1 32 = b2
    generalize decide (p.num = 0) = b3
    generalize decide (p.den = 0) = b4
    cases x <;> cases y <;> cases b1 <;> cases b2 <;> cases b3 <;> cases b4 <;> rfl
theorem rright0 (k : Nat) (x : Bool) (p : Py) : reeveref04_Right.j0 (k + 2) x p.kind p.cap p.num p.den p.width p.count p.keys p.slots p.every p.seg = some (if (x && (bucket p || window p)) = true then 0 else 40) := by
  simp only [reeveref04_Right.j0, rin, Option.bind_some, rright1]
  unfold bucket
  generalize window p = w
  by_cases c1 : p.kind = 1
  · rw [if_pos c1, decide_eq_true c1]
    generalize inB p.num 1 65536 = b1
    generalize inB p.den 1 65536 = b2
    by_cases c2 : p.width = 0
    · rw [if_pos c2, decide_eq_true c2, show (p.count == 0) = decide (p.count = 0) from rfl]
      generalize decide (p.count = 0) = b3
      cases x <;> cases b1 <;> cases b2 <;> cases b3 <;> cases w <;> rfl
    · rw [if_neg c2, decide_eq_false c2]
      generalize decide (p.count = 0) = b3
      cases x <;> cases b1 <;> cases b2 <;> cases b3 <;> cases w <;> rfl
  · rw [if_neg c1, decide_eq_false c1]
    generalize inB p.num 1 65536 = b1
    generalize inB p.den 1 65536 = b2
    generalize decide (p.width = 0) = b3
    generalize decide (p.count = 0) = b4
    cases x <;> cases b1 <;> cases b2 <;> cases b3 <;> cases b4 <;> cases w <;> rfl
theorem rright {k : Nat} (p : Py) (hk : 1 < k) : reeveref04_Right.f k p.kind p.cap p.num p.den p.width p.count p.keys p.slots p.every p.seg = some (if ok p = true then 0 else 40) := by
  obtain ⟨k, rfl⟩ : ∃ j, k = j + 2 := ⟨k - 2, by omega⟩
  unfold reeveref04_Right.f
  simp only [rin, Option.bind_some, rright0]
  unfold ok all
  generalize inB p.cap 1 1048576 = b1
  generalize inB p.keys 1 1000 = b2
  generalize inB p.slots 1 64 = b3
  generalize inB p.every 0 1000 = b4
  generalize inB p.seg 1 1000 = b5
  generalize bucket p = b6
  generalize window p = b7
  cases b1 <;> cases b2 <;> cases b3 <;> cases b4 <;> cases b5 <;> cases b6 <;> cases b7 <;> rfl
theorem eight_of {xs : List Int} (h : xs.length = 8) : ∃ a b c d e f g i, xs = [a, b, c, d, e, f, g, i] := by
  match xs, h with
  | [a, b, c, d, e, f, g, i], _ => exact ⟨a, b, c, d, e, f, g, i, rfl⟩
end Go.Proofs.Ytbiijcehgiibeaa.Pol
