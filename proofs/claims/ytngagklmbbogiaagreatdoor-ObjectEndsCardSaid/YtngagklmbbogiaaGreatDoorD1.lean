/- defineProperty where the key is an object's and the descriptor is none, in the kernel. No condition. -/
import Derived.Test.YtngagklmbbogiaaGreatDoorC2
set_option linter.all false
namespace Go.Proofs.YtngagklmbbogiaaGreatDoor.Ob
open Go Go.RowKit Vx
set_option maxRecDepth 100000
theorem c90b2:Xm c4 90 [.ag [.p 30 0,gA 2]] (ij 2) (fF 2++(kF (oA 0++oA 1++pA 2)++f2)++qG 1) (uf fun _=>te)=true:=by kernel_rfl
end Go.Proofs.YtngagklmbbogiaaGreatDoor.Ob
