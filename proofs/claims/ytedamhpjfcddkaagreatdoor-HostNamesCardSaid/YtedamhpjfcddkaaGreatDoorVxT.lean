/- The functions without a body that the runs of this seat reach. No condition. -/
import Derived.Test.YtedamhpjfcddkaaGreatDoorVxX
import Derived.Test.YtedamhpjfcddkaaGreatDoorProg
namespace Go.Proofs.YtedamhpjfcddkaaGreatDoor.Vx
open Go

noncomputable def PP : Program := Tryz.prog
noncomputable def XT : Exts := fun g => match g with
  | 310 => some (extF PP 2 (Go.Extern.MathFloor.toIntegral "math.archTrunc" .zero))
  | 312 => some (extF PP 0 (Go.Extern.MathFloatBits.float64bits))
  | 145 => some (extF PP 1 (Go.Extern.MathFloatBits.float64frombits))
  | 303 => some (ext2 PP (Go.Extern.BytealgIndexByte.indexByte))
  | 416 => some (extId)
  | 631 => some (extMakeNoZero PP #[333])
  | _ => none

theorem XT_ok : ExtOK Tryz.prog XT := by
  intro g C hC
  unfold XT at hC
  split at hC <;> cases hC
  · exact (extF_ok (extTrunc_ok _)).ok Tryz.func310 rfl (by kernel_rfl) (by kernel_rfl) (by kernel_rfl)
  · exact (extF_ok (extBits_ok _)).ok Tryz.func312 rfl (by kernel_rfl) (by kernel_rfl) (by kernel_rfl)
  · exact (extF_ok (extFrom_ok _)).ok Tryz.func145 rfl (by kernel_rfl) (by kernel_rfl) (by kernel_rfl)
  · exact (ext2_ok _ _).ok Tryz.func303 rfl (by kernel_rfl) (by kernel_rfl) (by kernel_rfl)
  · exact (extId_ok _).ok Tryz.func416 rfl (by kernel_rfl) (by kernel_rfl) (by kernel_rfl)
  · exact (extMakeNoZero_ok Tryz.prog #[3] #[333]).ok Tryz.func631 rfl (by kernel_rfl) (by kernel_rfl) (by kernel_rfl)

theorem mixed : Tryz.prog.follows .mixedOrders = true := by kernel_rfl
end Go.Proofs.YtedamhpjfcddkaaGreatDoor.Vx
