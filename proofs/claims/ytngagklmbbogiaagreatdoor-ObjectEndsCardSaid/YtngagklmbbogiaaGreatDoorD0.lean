/- defineProperty where the key is an object's, in the kernel. No condition. -/
import Derived.Test.YtngagklmbbogiaaGreatDoorC4
set_option linter.all false
namespace Go.Proofs.YtngagklmbbogiaaGreatDoor.Ob
open Go Go.RowKit Vx
set_option maxRecDepth 100000
theorem e90c:([6,7].all e90)=true:=by kernel_rfl
theorem e90d:([8,9,10].all e90)=true:=by kernel_rfl
theorem c90d:Xo 90 3 (oA 0++pA 1++oA 2) (qG 1) (.go 0)=true:=by kernel_rfl
end Go.Proofs.YtngagklmbbogiaaGreatDoor.Ob
