/- Proved here: what chain.Next, chain.Check, links, long and the document's answers of layer 3 come to. -/
import Derived.Test.YtbiijcehgiibeaaKSReadsPureC
import Derived.Test.YtbiijcehgiibeaaKSReadsQ0
import Derived.Test.YtbiijcehgiibeaaKSReadsQe60
import Derived.Test.YtbiijcehgiibeaaKSReadsQg2
import Derived.Test.YtbiijcehgiibeaaKSReadsQg3
import Derived.Test.YtbiijcehgiibeaaKSReadsQf36
namespace Go.Proofs.Ytbiijcehgiibeaa.Pure
open Go.RowKit Go.Proofs.Ytbiijcehgiibeaa.Q Go.Proofs.YtbiijcehgiibeaaW.PrintWords
set_option linter.unusedVariables false
set_option linter.unusedSimpArgs false
def may (x : S60) : Bool := decide (0 ≤ x.f0 ∧ x.f0 ≤ 10000 ∧ 0 ≤ x.f1 ∧ x.f1 ≤ 4194304) && M.right x.f2.f0 x.f2.f1
def next (x : S60) (b : List Int) : S60 × Int :=
  if may x = true then if (b.length : Int) > 4194304 then (z60, 2) else if x.f0 = 10000 then (z60, 3) else (⟨x.f0 + 1, b.length, ⟨(M.add (x.f2.f0, x.f2.f1) b).1, (M.add (x.f2.f0, x.f2.f1) b).2⟩⟩, 0) else (z60, 30)
def first : S60 := ⟨0, 0, ⟨1, 2⟩⟩
def rows (ps : List (List Int)) : Prop := ps.length ≤ 9223372036854775807 ∧ ∀ x ∈ ps, x.length ≤ 9223372036854775807 ∧ M.bytes x = true
def mk : S60 → List (List Int) → Option (List S60)
  | _, [] => some []
  | x, b :: ps => if (next x b).2 = 0 then (mk (next x b).1 ps).map ((next x b).1 :: ·) else none
end Go.Proofs.Ytbiijcehgiibeaa.Pure
