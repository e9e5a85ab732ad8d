/- Calls whose answers are known, new memory too: each is a closed run of its own. No condition. -/
import Derived.Test.YtbmekbpgoakkbaaGreatDoorQr
import Derived.Test.YtbmekbpgoakkbaaGreatDoorVxY
import Derived.Test.YtbmekbpgoakkbaaGreatDoorVxZ
set_option linter.all false
set_option maxRecDepth 100000
namespace Go.Proofs.YtbmekbpgoakkbaaGreatDoor.Vb
open Go Vx

noncomputable def objs0 : List ObjL := []
noncomputable def lit0 : AV := (.b true)
noncomputable def ids0 : List Nat := []
noncomputable def args0 : List AV := [.s 64 3098511279286321537275949921388490526992397931563926962350996395140603262203061417659219370717099112435983404309389901284715704466263302537597384782013804, .s 0 0, .i .u8 2, .s 0 0, .f .f64 4638144666238189568]
theorem ran0 : run Qr.sp 200 5 args0 (startH [(1, [.ii .i64])] 3) 3 (fun v h _ => bc (sameT v (sh2 (fun j => ids0.getD j 0) lit0)) (sameOs objs0.length (fun j => ids0.getD j 0) h 3 ids0 objs0) false) = true := by kernel_rfl

noncomputable def sp : Specs := fun g => match g with
  | 5 => some (memC (fun h b => someInt h 1 b) args0 lit0 objs0)
  | g => Qr.sp g
end Go.Proofs.YtbmekbpgoakkbaaGreatDoor.Vb
