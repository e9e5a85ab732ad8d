/- getOwnPropertyDescriptor where the key is an object's, in the kernel. No condition. -/
import Derived.Test.YtngagklmbbogiaaGreatDoorC2
set_option linter.all false
namespace Go.Proofs.YtngagklmbbogiaaGreatDoor.Ob
open Go Go.RowKit Vx
set_option maxRecDepth 100000
theorem c92b3:Xm c4 92 [.ag [.p 30 0,gA 3]] (ij 3) (fF 3++(kF (oA 0++oA 1)++f2)++qG 1) (uf TA)=true:=by kernel_rfl
end Go.Proofs.YtngagklmbbogiaaGreatDoor.Ob
