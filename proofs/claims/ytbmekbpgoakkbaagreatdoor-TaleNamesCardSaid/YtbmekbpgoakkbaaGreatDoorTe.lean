/- Calls whose answers are known, new memory too: each is a closed run of its own. No condition. -/
import Derived.Test.YtbmekbpgoakkbaaGreatDoorSd
import Derived.Test.YtbmekbpgoakkbaaGreatDoorVxY
import Derived.Test.YtbmekbpgoakkbaaGreatDoorVxZ
set_option linter.all false
set_option maxRecDepth 100000
namespace Go.Proofs.YtbmekbpgoakkbaaGreatDoor.Te
open Go Vx

noncomputable def objs0 : List ObjL := []
noncomputable def lit0 : AV := (.s 24 256826340853066259277254111780114706923746213582143646575)
noncomputable def ids0 : List Nat := []
noncomputable def args0 : List AV := [.s 40 837967983090994731192654729860014263829292928108454985509483326992123941674173183967238744007027]
theorem ran0 : run Sd.sp 200 15 args0 (startH [(1, [.ii .i64])] 3) 3 (fun v h _ => bc (sameT v (sh2 (fun j => ids0.getD j 0) lit0)) (sameOs objs0.length (fun j => ids0.getD j 0) h 3 ids0 objs0) false) = true := by kernel_rfl

noncomputable def sp : Specs := fun g => match g with
  | 15 => some (memC (fun h b => someInt h 1 b) args0 lit0 objs0)
  | g => Sd.sp g
end Go.Proofs.YtbmekbpgoakkbaaGreatDoor.Te
