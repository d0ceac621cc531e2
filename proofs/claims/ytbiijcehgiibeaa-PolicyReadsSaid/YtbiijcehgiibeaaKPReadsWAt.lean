/- Proved here: steps of a walk and facts on rows of cells: words of the kit's printer, laid by print.sh and cut down by this session's wip/shake.py to what this claim reaches. -/
import Derived.Test.YtbiijcehgiibeaaKPReadsWN
namespace Go.Proofs.YtbiijcehgiibeaaW.PrintWords
open Go.RowKit
section
variable {w w' u : World} {m B g : Nat} {o : Obj} {row : Option Nat} {S : Nat → Prop} {a : Addr} {v : Value}
theorem cell_at (hq : w.drewN m = w') (h : w.cell? a = some v) : w'.cell? a = some v := by subst hq; exact h
end
namespace Kd
end Kd
end Go.Proofs.YtbiijcehgiibeaaW.PrintWords
