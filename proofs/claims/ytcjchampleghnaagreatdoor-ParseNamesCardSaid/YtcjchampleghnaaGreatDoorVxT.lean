/- The functions without a body that the runs of this seat reach. No condition. -/
import Derived.Test.YtcjchampleghnaaGreatDoorVxX
import Derived.Test.YtcjchampleghnaaGreatDoorProg
namespace Go.Proofs.YtcjchampleghnaaGreatDoor.Vx
open Go

noncomputable def PP : Program := Tryz.prog
noncomputable def XT : Exts := fun g => match g with
  | 228 => some (ext1 PP (Go.Extern.MathFloor.toIntegral "math.archTrunc" .zero))
  | 231 => some (ext1 PP (Go.Extern.MathFloatBits.float64bits))
  | 230 => some (ext1 PP (Go.Extern.MathFloatBits.float64frombits))
  | 234 => some (ext2 PP (Go.Extern.BytealgIndexByte.indexByte))
  | 157 => some (extId)
  | 227 => some (extMakeNoZero PP #[23])
  | _ => none

theorem XT_ok : ExtOK Tryz.prog XT := by
  intro g C hC
  unfold XT at hC
  split at hC <;> cases hC
  · exact (ext1_ok _ _).ok Tryz.func228 rfl (by kernel_rfl) (by kernel_rfl) (by kernel_rfl)
  · exact (ext1_ok _ _).ok Tryz.func231 rfl (by kernel_rfl) (by kernel_rfl) (by kernel_rfl)
  · exact (ext1_ok _ _).ok Tryz.func230 rfl (by kernel_rfl) (by kernel_rfl) (by kernel_rfl)
  · exact (ext2_ok _ _).ok Tryz.func234 rfl (by kernel_rfl) (by kernel_rfl) (by kernel_rfl)
  · exact (extId_ok _).ok Tryz.func157 rfl (by kernel_rfl) (by kernel_rfl) (by kernel_rfl)
  · exact (extMakeNoZero_ok Tryz.prog #[3] #[23]).ok Tryz.func227 rfl (by kernel_rfl) (by kernel_rfl) (by kernel_rfl)

theorem mixed : Tryz.prog.follows .mixedOrders = true := by kernel_rfl
end Go.Proofs.YtcjchampleghnaaGreatDoor.Vx
