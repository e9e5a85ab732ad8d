/- The functions without a body that the runs of this seat reach. No condition. -/
import Derived.Test.YtbmekbpgoakkbaaGreatDoorVxX
import Derived.Test.YtbmekbpgoakkbaaGreatDoorProg
namespace Go.Proofs.YtbmekbpgoakkbaaGreatDoor.Vx
open Go

noncomputable def PP : Program := Tryz.prog
noncomputable def XT : Exts := fun g => match g with
  | 419 => some (extF PP 2 (Go.Extern.MathFloor.toIntegral "math.archTrunc" .zero))
  | 421 => some (extF PP 0 (Go.Extern.MathFloatBits.float64bits))
  | 101 => some (extF PP 1 (Go.Extern.MathFloatBits.float64frombits))
  | 449 => some (ext2 PP (Go.Extern.BytealgIndexByte.indexByte))
  | 277 => some (ext2 PP (Go.Extern.BytealgCount.count))
  | 278 => some (extId)
  | 655 => some (extMakeNoZero PP #[113])
  | _ => none

theorem XT_ok : ExtOK Tryz.prog XT := by
  intro g C hC
  unfold XT at hC
  split at hC <;> cases hC
  · exact (extF_ok (extTrunc_ok _)).ok Tryz.func419 rfl (by kernel_rfl) (by kernel_rfl) (by kernel_rfl)
  · exact (extF_ok (extBits_ok _)).ok Tryz.func421 rfl (by kernel_rfl) (by kernel_rfl) (by kernel_rfl)
  · exact (extF_ok (extFrom_ok _)).ok Tryz.func101 rfl (by kernel_rfl) (by kernel_rfl) (by kernel_rfl)
  · exact (ext2_ok _ _).ok Tryz.func449 rfl (by kernel_rfl) (by kernel_rfl) (by kernel_rfl)
  · exact (ext2_ok _ _).ok Tryz.func277 rfl (by kernel_rfl) (by kernel_rfl) (by kernel_rfl)
  · exact (extId_ok _).ok Tryz.func278 rfl (by kernel_rfl) (by kernel_rfl) (by kernel_rfl)
  · exact (extMakeNoZero_ok Tryz.prog #[3] #[113]).ok Tryz.func655 rfl (by kernel_rfl) (by kernel_rfl) (by kernel_rfl)

theorem mixed : Tryz.prog.follows .mixedOrders = true := by kernel_rfl
end Go.Proofs.YtbmekbpgoakkbaaGreatDoor.Vx
