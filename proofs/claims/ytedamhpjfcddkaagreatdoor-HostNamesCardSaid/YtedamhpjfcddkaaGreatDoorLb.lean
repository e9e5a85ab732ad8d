/- Library functions and the first objects' properties by their contracts, for the evaluator. No condition. -/
import Derived.Test.YtedamhpjfcddkaaGreatDoorLib0
import Derived.Test.YtedamhpjfcddkaaGreatDoorPr
set_option linter.all false
namespace Go.Proofs.YtedamhpjfcddkaaGreatDoor.Lb
open Go
noncomputable def sp : Vx.Specs := fun g => match g with
  | 70 => Pr.sp 70
  | g => Lib0.sp g
theorem sp_ok : Vx.SpecOK Tryz.prog sp := by
  intro g C hC
  unfold sp at hC
  split at hC
  · exact Pr.sp_ok _ _ hC
  · exact Lib0.sp_ok _ _ hC
end Go.Proofs.YtedamhpjfcddkaaGreatDoor.Lb
