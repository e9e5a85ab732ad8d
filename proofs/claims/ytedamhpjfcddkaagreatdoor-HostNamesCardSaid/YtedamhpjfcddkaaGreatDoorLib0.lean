/- Library functions by their contracts, for the evaluator. No condition. -/
import Derived.Shelf.Strings.Search3
import Derived.Test.YtedamhpjfcddkaaGreatDoorShelf
import Derived.Test.YtedamhpjfcddkaaGreatDoorVxY
import Derived.Test.YtedamhpjfcddkaaGreatDoorVxZ
namespace Go.Proofs.YtedamhpjfcddkaaGreatDoor.Lib0
open Go Go.Shelf
noncomputable def sp : Vx.Specs := fun g => match g with
  | 50 => some (Vx.indexC 1 (fun r => .i .i64 r))
  | _ => none
theorem sp_ok : Vx.SpecOK Tryz.prog sp := by
  intro g C hC
  unfold sp at hC
  split at hC <;> cases hC
  exact Vx.CtOK.of fun args ARGS E h nxt w k he ra hr => Vx.indexC_ok (RES := fun r => .int .i64 r) (fun E r => by rw [Vx.Rv]) (fun s sub m w hs hm => Any.strings_Index Tryz.lays143 s sub m w hs hm) args ARGS E h nxt w k he ra hr
end Go.Proofs.YtedamhpjfcddkaaGreatDoor.Lib0
