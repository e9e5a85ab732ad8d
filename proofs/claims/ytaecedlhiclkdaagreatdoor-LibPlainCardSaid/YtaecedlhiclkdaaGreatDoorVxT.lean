/- The functions without a body that the runs of this seat reach. No condition. -/
import Derived.Test.YtaecedlhiclkdaaGreatDoorVxX
import Derived.Test.YtaecedlhiclkdaaGreatDoorProg
namespace Go.Proofs.YtaecedlhiclkdaaGreatDoor.Vx
open Go

noncomputable def PP : Program := Tryz.prog
noncomputable def XT : Exts := fun g => match g with
  | 117 => some (extF PP 2 (Go.Extern.MathFloor.toIntegral "math.archTrunc" .zero))
  | 120 => some (extF PP 0 (Go.Extern.MathFloatBits.float64bits))
  | 119 => some (extF PP 1 (Go.Extern.MathFloatBits.float64frombits))
  | 167 => some (extId)
  | 168 => some (extMakeNoZero PP #[164])
  | _ => none

theorem XT_ok : ExtOK Tryz.prog XT := by
  intro g C hC
  unfold XT at hC
  split at hC <;> cases hC
  · exact (extF_ok (extTrunc_ok _)).ok Tryz.func117 rfl (by kernel_rfl) (by kernel_rfl) (by kernel_rfl)
  · exact (extF_ok (extBits_ok _)).ok Tryz.func120 rfl (by kernel_rfl) (by kernel_rfl) (by kernel_rfl)
  · exact (extF_ok (extFrom_ok _)).ok Tryz.func119 rfl (by kernel_rfl) (by kernel_rfl) (by kernel_rfl)
  · exact (extId_ok _).ok Tryz.func167 rfl (by kernel_rfl) (by kernel_rfl) (by kernel_rfl)
  · exact (extMakeNoZero_ok Tryz.prog #[3] #[164]).ok Tryz.func168 rfl (by kernel_rfl) (by kernel_rfl) (by kernel_rfl)

theorem mixed : Tryz.prog.follows .mixedOrders = true := by kernel_rfl
end Go.Proofs.YtaecedlhiclkdaaGreatDoor.Vx
