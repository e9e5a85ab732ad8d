/- The run of VmNames: it answers true. No condition. -/
import Derived.Test.YtbmekbpgoakkbaaGreatDoorVa
import Derived.Test.YtbmekbpgoakkbaaGreatDoorVb
import Derived.Test.YtbmekbpgoakkbaaGreatDoorVc
import Derived.Test.YtbmekbpgoakkbaaGreatDoorVd
import Derived.Test.YtbmekbpgoakkbaaGreatDoorVxY
set_option linter.all false
namespace Go.Proofs.YtbmekbpgoakkbaaGreatDoor.Vj
open Go Vx
noncomputable def sp : Specs := fun g => match g with
  | 5 => some (Sd.selC Va.args0 (memC (fun h b => someInt h 1 b) Va.args0 Va.lit0 Va.objs0) (Sd.selC Vb.args0 (memC (fun h b => someInt h 1 b) Vb.args0 Vb.lit0 Vb.objs0) (Sd.selC Vc.args0 (memC (fun h b => someInt h 1 b) Vc.args0 Vc.lit0 Vc.objs0) (Sd.selC Vc.args1 (memC (fun h b => someInt h 1 b) Vc.args1 Vc.lit1 Vc.objs1) (Sd.selC Vd.args0 (memC (fun h b => someInt h 1 b) Vd.args0 Vd.lit0 Vd.objs0) (memC (fun h b => someInt h 1 b) Vd.args1 Vd.lit1 Vd.objs1))))))
  | g => Sd.sp g
end Go.Proofs.YtbmekbpgoakkbaaGreatDoor.Vj
set_option linter.all false
set_option maxRecDepth 100000
namespace Go.Proofs.YtbmekbpgoakkbaaGreatDoor.vmNames
open Go
theorem ran : Vx.run Vj.sp 200 3 [] (Vx.startH [(1, [.ii .i64])] 3) 3 (fun v _ _ => match v with | .b y => (y == true) | _ => false) = true := by kernel_rfl
end Go.Proofs.YtbmekbpgoakkbaaGreatDoor.vmNames
