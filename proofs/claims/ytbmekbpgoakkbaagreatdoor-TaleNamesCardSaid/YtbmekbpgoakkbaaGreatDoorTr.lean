/- The calls whose answers are known, together; the run of TaleNames over them. No condition. -/
import Derived.Test.YtbmekbpgoakkbaaGreatDoorTa
import Derived.Test.YtbmekbpgoakkbaaGreatDoorTb
import Derived.Test.YtbmekbpgoakkbaaGreatDoorTc
import Derived.Test.YtbmekbpgoakkbaaGreatDoorTe
import Derived.Test.YtbmekbpgoakkbaaGreatDoorTf
import Derived.Test.YtbmekbpgoakkbaaGreatDoorTs
import Derived.Test.YtbmekbpgoakkbaaGreatDoorVxY
set_option linter.all false
namespace Go.Proofs.YtbmekbpgoakkbaaGreatDoor.Tj
open Go Vx
noncomputable def sp : Specs := fun g => match g with
  | 15 => some (Sd.selC Ts.args0 (memC (fun h b => someInt h 1 b) Ts.args0 Ts.lit0 Ts.objs0) (Sd.selC Ts.args1 (memC (fun h b => someInt h 1 b) Ts.args1 Ts.lit1 Ts.objs1) (Sd.selC Ts.args2 (memC (fun h b => someInt h 1 b) Ts.args2 Ts.lit2 Ts.objs2) (Sd.selC Ts.args3 (memC (fun h b => someInt h 1 b) Ts.args3 Ts.lit3 Ts.objs3) (Sd.selC Ts.args4 (memC (fun h b => someInt h 1 b) Ts.args4 Ts.lit4 Ts.objs4) (Sd.selC Ts.args5 (memC (fun h b => someInt h 1 b) Ts.args5 Ts.lit5 Ts.objs5) (Sd.selC Ts.args6 (memC (fun h b => someInt h 1 b) Ts.args6 Ts.lit6 Ts.objs6) (Sd.selC Te.args0 (memC (fun h b => someInt h 1 b) Te.args0 Te.lit0 Te.objs0) (Sd.selC Ta.args0 (memC (fun h b => someInt h 1 b) Ta.args0 Ta.lit0 Ta.objs0) (Sd.selC Tb.args0 (memC (fun h b => someInt h 1 b) Tb.args0 Tb.lit0 Tb.objs0) (Sd.selC Tc.args0 (memC (fun h b => someInt h 1 b) Tc.args0 Tc.lit0 Tc.objs0) (memC Tf.okP Tf.args0 Tf.lit0 Tf.objs0))))))))))))
  | g => Sd.sp g
end Go.Proofs.YtbmekbpgoakkbaaGreatDoor.Tj
set_option linter.all false
set_option maxRecDepth 100000
namespace Go.Proofs.YtbmekbpgoakkbaaGreatDoor.taleNames
open Go
theorem ran : Vx.run Tj.sp 200 4 [] (Vx.startH [(1, [.ii .i64]), (2, Tf.pw)] 4) 4 (fun v _ _ => match v with | .b y => (y == true) | _ => false) = true := by kernel_rfl
end Go.Proofs.YtbmekbpgoakkbaaGreatDoor.taleNames
