/- defineProperty where the key is an object's, in the kernel. No condition. -/
import Derived.Test.YtngagklmbbogiaaGreatDoorC4
set_option linter.all false
namespace Go.Proofs.YtngagklmbbogiaaGreatDoor.Ob
open Go Go.RowKit Vx
set_option maxRecDepth 100000
theorem e90a:([0,1,2,3,4].all e90)=true:=by kernel_rfl
theorem e90b:e90 5=true:=by kernel_rfl
end Go.Proofs.YtngagklmbbogiaaGreatDoor.Ob
