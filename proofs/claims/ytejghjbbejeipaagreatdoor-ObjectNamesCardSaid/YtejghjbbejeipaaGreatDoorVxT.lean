/- The functions without a body that the runs of this seat reach. No condition. -/
import Derived.Test.YtejghjbbejeipaaGreatDoorVxX
import Derived.Test.YtejghjbbejeipaaGreatDoorProg
namespace Go.Proofs.YtejghjbbejeipaaGreatDoor.Vx
open Go

noncomputable def PP : Program := Tryz.prog
noncomputable def XT : Exts := fun g => match g with
  | 86 => some (ext1 PP (Go.Extern.MathFloor.toIntegral "math.archTrunc" .zero))
  | 89 => some (ext1 PP (Go.Extern.MathFloatBits.float64bits))
  | 88 => some (ext1 PP (Go.Extern.MathFloatBits.float64frombits))
  | 253 => some (extId)
  | _ => none

theorem XT_ok : ExtOK Tryz.prog XT := by
  intro g C hC
  unfold XT at hC
  split at hC <;> cases hC
  · exact (ext1_ok _ _).ok Tryz.func86 rfl (by kernel_rfl) (by kernel_rfl) (by kernel_rfl)
  · exact (ext1_ok _ _).ok Tryz.func89 rfl (by kernel_rfl) (by kernel_rfl) (by kernel_rfl)
  · exact (ext1_ok _ _).ok Tryz.func88 rfl (by kernel_rfl) (by kernel_rfl) (by kernel_rfl)
  · exact (extId_ok _).ok Tryz.func253 rfl (by kernel_rfl) (by kernel_rfl) (by kernel_rfl)

theorem mixed : Tryz.prog.follows .mixedOrders = true := by kernel_rfl
end Go.Proofs.YtejghjbbejeipaaGreatDoor.Vx
