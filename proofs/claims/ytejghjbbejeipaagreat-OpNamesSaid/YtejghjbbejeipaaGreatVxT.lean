/- The functions without a body that the runs of this seat reach. No condition. -/
import Derived.Test.YtejghjbbejeipaaGreatVxX
import Derived.Test.YtejghjbbejeipaaGreatProg
namespace Go.Proofs.YtejghjbbejeipaaGreat.Vx
open Go

noncomputable def PP : Program := Tryz.prog
noncomputable def XT : Exts := fun g => match g with
  | 98 => some (ext1 PP (Go.Extern.MathFloor.toIntegral "math.archTrunc" .zero))
  | 101 => some (ext1 PP (Go.Extern.MathFloatBits.float64bits))
  | 100 => some (ext1 PP (Go.Extern.MathFloatBits.float64frombits))
  | 208 => some (extId)
  | _ => none

theorem XT_ok : ExtOK Tryz.prog XT := by
  intro g C hC
  unfold XT at hC
  split at hC <;> cases hC
  · exact (ext1_ok _ _).ok Tryz.func98 rfl (by kernel_rfl) (by kernel_rfl) (by kernel_rfl)
  · exact (ext1_ok _ _).ok Tryz.func101 rfl (by kernel_rfl) (by kernel_rfl) (by kernel_rfl)
  · exact (ext1_ok _ _).ok Tryz.func100 rfl (by kernel_rfl) (by kernel_rfl) (by kernel_rfl)
  · exact (extId_ok _).ok Tryz.func208 rfl (by kernel_rfl) (by kernel_rfl) (by kernel_rfl)

theorem mixed : Tryz.prog.follows .mixedOrders = true := by kernel_rfl
end Go.Proofs.YtejghjbbejeipaaGreat.Vx
