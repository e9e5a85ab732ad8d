/- The functions without a body that the runs of this seat reach. No condition. -/
import Derived.Test.YtdplmegbnceijaaVxX
import Derived.Test.YtdplmegbnceijaaProg
namespace Go.Proofs.Ytdplmegbnceijaa.Vx
open Go

noncomputable def PP : Program := Try.prog
noncomputable def XT : Exts := fun g => match g with
  | 39 => some (extF PP 2 (Go.Extern.MathFloor.toIntegral "math.archTrunc" .zero))
  | 42 => some (extF PP 0 (Go.Extern.MathFloatBits.float64bits))
  | 41 => some (extF PP 1 (Go.Extern.MathFloatBits.float64frombits))
  | _ => none

theorem XT_ok : ExtOK Try.prog XT := by
  intro g C hC
  unfold XT at hC
  split at hC <;> cases hC
  · exact (extF_ok (extTrunc_ok _)).ok Try.func39 rfl (by kernel_rfl) (by kernel_rfl) (by kernel_rfl)
  · exact (extF_ok (extBits_ok _)).ok Try.func42 rfl (by kernel_rfl) (by kernel_rfl) (by kernel_rfl)
  · exact (extF_ok (extFrom_ok _)).ok Try.func41 rfl (by kernel_rfl) (by kernel_rfl) (by kernel_rfl)

theorem mixed : Try.prog.follows .mixedOrders = true := by kernel_rfl
end Go.Proofs.Ytdplmegbnceijaa.Vx
