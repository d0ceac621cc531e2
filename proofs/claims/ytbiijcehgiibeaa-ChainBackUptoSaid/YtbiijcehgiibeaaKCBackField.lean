/- Proved here: 16777199 is a prime; the pairs modulo it are a field; each pair but zero to the power P P - 1 is 1. No program in sight. -/
import Derived.Test.YtbiijcehgiibeaaKCBackRing
namespace Go.Proofs.Ytbiijcehgiibeaa.M
def sum : Nat → (Nat → Int × Int) → Int × Int
  | 0, _ => (0, 0)
  | n + 1, f => plus (sum n f) (f n)
theorem zero_mul (x : Int × Int) : mul (0, 0) x = (0, 0) := by unfold mul; refine Prod.ext ?_ ?_ <;> simp only <;> omega
end Go.Proofs.Ytbiijcehgiibeaa.M
