/- The functions without a body that the closed runs of this seat reach, and the evaluator over its program. No condition. -/
import Derived.Test.YtamnfcgmbldndaaGreatDoorVxS
import Derived.Test.YtamnfcgmbldndaaGreatDoorProg
namespace Go.Proofs.YtamnfcgmbldndaaGreatDoor.Vx
open Go

noncomputable def ext0 : Exts := fun g => match g with
  | 140 => some (fun x => Go.Extern.MathFloor.toIntegral "math.archTrunc" .zero #[x])
  | 143 => some (fun x => Go.Extern.MathFloatBits.float64bits #[x])
  | 142 => some (fun x => Go.Extern.MathFloatBits.float64frombits #[x])
  | _ => none

theorem ext0_ok : ExtOK Tryz.prog ext0 := by
  intro g f x w h
  unfold ext0 at h
  split at h <;> cases h
  · exact extern_run (e := Go.Extern.MathFloor.toIntegral "math.archTrunc" .zero) Tryz.func140 rfl (by kernel_rfl) (by kernel_rfl) (by kernel_rfl) x w
  · exact extern_run (e := Go.Extern.MathFloatBits.float64bits) Tryz.func143 rfl (by kernel_rfl) (by kernel_rfl) (by kernel_rfl) x w
  · exact extern_run (e := Go.Extern.MathFloatBits.float64frombits) Tryz.func142 rfl (by kernel_rfl) (by kernel_rfl) (by kernel_rfl) x w

theorem mixed : Tryz.prog.follows .mixedOrders = true := by kernel_rfl

/-- the evaluator over this seat's program -/
noncomputable def run (lf n : Nat) : CallF := evaluate Tryz.prog ext0 lf n
theorem run_ok (lf n : Nat) : CallOK Tryz.prog (run lf n) := evaluate_ok mixed ext0_ok
end Go.Proofs.YtamnfcgmbldndaaGreatDoor.Vx
