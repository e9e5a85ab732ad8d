/- Calls whose answers are known, new memory too: each is a closed run of its own. No condition. -/
import Derived.Test.YtbmekbpgoakkbaaGreatDoorSd
import Derived.Test.YtbmekbpgoakkbaaGreatDoorVxY
import Derived.Test.YtbmekbpgoakkbaaGreatDoorVxZ
set_option linter.all false
set_option maxRecDepth 100000
namespace Go.Proofs.YtbmekbpgoakkbaaGreatDoor.Vd
open Go Vx

noncomputable def objs0 : List ObjL := []
noncomputable def lit0 : AV := (.b true)
noncomputable def ids0 : List Nat := []
noncomputable def args0 : List AV := [.s 54 5420824976081343619763451683109202933549448123420489001658971243258909320915900617908059274999453404486004143962284357208119603046, .s 2 15153, .i .u8 2, .s 0 0, .f .f64 0]
theorem ran0 : run Sd.sp 200 5 args0 (startH [(1, [.ii .i64])] 3) 3 (fun v h _ => bc (sameT v (sh2 (fun j => ids0.getD j 0) lit0)) (sameOs objs0.length (fun j => ids0.getD j 0) h 3 ids0 objs0) false) = true := by kernel_rfl

noncomputable def objs1 : List ObjL := []
noncomputable def lit1 : AV := (.b true)
noncomputable def ids1 : List Nat := []
noncomputable def args1 : List AV := [.s 2 15224, .s 0 0, .i .u8 3, .s 4 1701667182, .f .f64 0]
theorem ran1 : run Sd.sp 200 5 args1 (startH [(1, [.ii .i64])] 3) 3 (fun v h _ => bc (sameT v (sh2 (fun j => ids1.getD j 0) lit1)) (sameOs objs1.length (fun j => ids1.getD j 0) h 3 ids1 objs1) false) = true := by kernel_rfl

noncomputable def sp : Specs := fun g => match g with
  | 5 => some (Sd.selC args0 (memC (fun h b => someInt h 1 b) args0 lit0 objs0) (memC (fun h b => someInt h 1 b) args1 lit1 objs1))
  | g => Sd.sp g
end Go.Proofs.YtbmekbpgoakkbaaGreatDoor.Vd
