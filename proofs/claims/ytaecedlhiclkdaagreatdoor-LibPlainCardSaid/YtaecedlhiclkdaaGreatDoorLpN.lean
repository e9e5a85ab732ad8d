/- LibPlain: small whole numbers as floats may be. No condition. -/
import Derived.Test.YtaecedlhiclkdaaGreatDoorVxZs
namespace Go.Proofs.YtaecedlhiclkdaaGreatDoor.Lp
open Go Vx
theorem near_may : ((List.range 4098).all fun j => mayF (FloatKind.f64.nearest ((j : Int) - 1))) = true := by kernel_rfl
end Go.Proofs.YtaecedlhiclkdaaGreatDoor.Lp
