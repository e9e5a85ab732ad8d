/- Describe's ways, in the kernel. No condition. -/
import Derived.Test.YtngagklmbbogiaaGreatDoorB5
set_option linter.all false
namespace Go.Proofs.YtngagklmbbogiaaGreatDoor.Ob
open Go Go.RowKit Vx
set_option maxRecDepth 100000
theorem dW18:dW 18=true:=by kernel_rfl
theorem dW21:dW 21=true:=by kernel_rfl
theorem dW22:dW 22=true:=by kernel_rfl
end Go.Proofs.YtngagklmbbogiaaGreatDoor.Ob
