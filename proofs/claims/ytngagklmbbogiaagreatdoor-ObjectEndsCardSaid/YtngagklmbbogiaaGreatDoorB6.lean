/- Describe's ways, in the kernel. No condition. -/
import Derived.Test.YtngagklmbbogiaaGreatDoorB5
set_option linter.all false
namespace Go.Proofs.YtngagklmbbogiaaGreatDoor.Ob
open Go Go.RowKit Vx
set_option maxRecDepth 100000
theorem dW8:dW 8=true:=by kernel_rfl
theorem dW11:dW 11=true:=by kernel_rfl
end Go.Proofs.YtngagklmbbogiaaGreatDoor.Ob
