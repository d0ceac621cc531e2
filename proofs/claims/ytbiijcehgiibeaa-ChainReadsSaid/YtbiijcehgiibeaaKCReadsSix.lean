/- Proved here, in whole numbers: a seal's six bytes and what is read of six bytes: one the way back of the other. No program in sight. -/
import Derived.Test.YtbiijcehgiibeaaKCReadsMath
namespace Go.Proofs.Ytbiijcehgiibeaa.M
def six (l : List Int) (i : Nat) : Int × Int := (l.getD i 0 + 256 * l.getD (i + 1) 0 + 65536 * l.getD (i + 2) 0, l.getD (i + 3) 0 + 256 * l.getD (i + 4) 0 + 65536 * l.getD (i + 5) 0)
def wr6 (x : Int × Int) : List Int := [x.1 % 256, x.1 / 256 % 256, x.1 / 65536 % 256, x.2 % 256, x.2 / 256 % 256, x.2 / 65536 % 256]
def rd6 (l : List Int) (i : Int) : Int × Int × Int × Int :=
  if i < 0 ∨ i > (l.length : Int) then (0, 0, 0, 1) else if (l.length : Int) - i < 6 then (0, 0, 0, 10) else
    if right (six l i.toNat).1 (six l i.toNat).2 = true then ((six l i.toNat).1, (six l i.toNat).2, i + 6, 0) else (0, 0, 0, 20)
theorem wr6_length (x : Int × Int) : (wr6 x).length = 6 := rfl
end Go.Proofs.Ytbiijcehgiibeaa.M
