/- The run of HostNames: it answers true, and writes no old block. No condition. -/
import Derived.Below
import Derived.Test.YtedamhpjfcddkaaGreatDoorVxY
import Derived.Test.YtedamhpjfcddkaaGreatDoorHj
set_option linter.all false
set_option maxRecDepth 100000
namespace Go.Proofs.YtedamhpjfcddkaaGreatDoor.hostNames
open Go Go.RowKit
theorem ran : Vx.run Hj.sp 200 3 [] (Vx.startH [(1, [.ii .i64])] 3) 3 (fun v _ _ => match v with | .b y => (y == true) | _ => false) = true := by kernel_rfl

theorem walk (w : World) (hw : Vx.HoldsG w [(1, [.ii .i64])]) :
    Calls Tryz.prog 3 #[] w fun e w' => e = .returned (.bool true) ∧ Below w.heap.size w w' :=
  Vx.closedG (Vx.run_ok Hj.sp_ok 200) (by kernel_rfl) (by kernel_rfl) ran w hw

end Go.Proofs.YtedamhpjfcddkaaGreatDoor.hostNames
