/- The functions without a body that the closed runs of this seat reach, and the evaluator over its program. No condition. -/
import Derived.Test.YtamnfcgmbldndaaGreatDoorVxS
import Derived.Test.YtamnfcgmbldndaaGreatDoorProg
namespace Go.Proofs.YtamnfcgmbldndaaGreatDoor.Vx
open Go

noncomputable def ext0 : Exts := fun g => match g with
  | 140 => some (ext1 Tryz.prog (Go.Extern.MathFloor.toIntegral "math.archTrunc" .zero))
  | 143 => some (ext1 Tryz.prog (Go.Extern.MathFloatBits.float64bits))
  | 142 => some (ext1 Tryz.prog (Go.Extern.MathFloatBits.float64frombits))
  | 256 => some (ext2 Tryz.prog (Go.Extern.BytealgIndexByte.indexByte))
  | 254 => some (extId)
  | 255 => some (extMakeNoZero Tryz.prog #[206])
  | _ => none

theorem ext0_ok : ExtOK Tryz.prog ext0 := by
  intro g C hC
  unfold ext0 at hC
  split at hC <;> cases hC
  · exact (ext1_ok _ _).ok Tryz.func140 rfl (by kernel_rfl) (by kernel_rfl) (by kernel_rfl)
  · exact (ext1_ok _ _).ok Tryz.func143 rfl (by kernel_rfl) (by kernel_rfl) (by kernel_rfl)
  · exact (ext1_ok _ _).ok Tryz.func142 rfl (by kernel_rfl) (by kernel_rfl) (by kernel_rfl)
  · exact (ext2_ok _ _).ok Tryz.func256 rfl (by kernel_rfl) (by kernel_rfl) (by kernel_rfl)
  · exact (extId_ok _).ok Tryz.func254 rfl (by kernel_rfl) (by kernel_rfl) (by kernel_rfl)
  · exact (extMakeNoZero_ok Tryz.prog #[3] #[206]).ok Tryz.func255 rfl (by kernel_rfl) (by kernel_rfl) (by kernel_rfl)

theorem mixed : Tryz.prog.follows .mixedOrders = true := by kernel_rfl

/-- the evaluator over this seat's program -/
noncomputable def run (lf n : Nat) : CallF := evaluate Tryz.prog ext0 lf n
theorem run_ok (lf n : Nat) : CallOK Tryz.prog (run lf n) := evaluate_ok mixed ext0_ok
end Go.Proofs.YtamnfcgmbldndaaGreatDoor.Vx
