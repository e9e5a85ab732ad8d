/- Library functions by their contracts, for the evaluator. No condition. -/
import Derived.Test.YtcjchampleghnaaGreatDoorShelf
import Derived.Test.YtcjchampleghnaaGreatDoorVxY
import Derived.Test.YtcjchampleghnaaGreatDoorVxZ
namespace Go.Proofs.YtcjchampleghnaaGreatDoor.Lib0
open Go
noncomputable def sp : Vx.Specs := fun g => match g with
  | 64 => some (Vx.indexC 0 (fun r => .i .i64 r))
  | _ => none
theorem sp_ok : Vx.SpecOK Tryz.prog sp := by
  intro g C hC
  unfold sp at hC
  split at hC <;> cases hC
  exact Vx.indexC_ok (RES := fun r => .int .i64 r) (fun E r => by rw [Vx.Rv]) (fun s sub m w hs hm => Tryz.strings_Index s sub m w hs hm)
end Go.Proofs.YtcjchampleghnaaGreatDoor.Lib0
