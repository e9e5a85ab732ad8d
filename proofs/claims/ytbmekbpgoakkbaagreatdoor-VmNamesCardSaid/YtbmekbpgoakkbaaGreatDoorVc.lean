/- Calls whose answers are known, new memory too: each is a closed run of its own. No condition. -/
import Derived.Test.YtbmekbpgoakkbaaGreatDoorSd
import Derived.Test.YtbmekbpgoakkbaaGreatDoorVxY
import Derived.Test.YtbmekbpgoakkbaaGreatDoorVxZ
set_option linter.all false
set_option maxRecDepth 100000
namespace Go.Proofs.YtbmekbpgoakkbaaGreatDoor.Vc
open Go Vx

noncomputable def objs0 : List ObjL := []
noncomputable def lit0 : AV := (.b true)
noncomputable def ids0 : List Nat := []
noncomputable def args0 : List AV := [.s 61 390611605427880013275844587743021750601678782515277282328306511303966460271396878467451134951873886562014480717525626407253928459399225282674651764, .s 2 15206, .i .u8 2, .s 0 0, .f .f64 4611686018427387904]
theorem ran0 : run Sd.sp 200 5 args0 (startH [(1, [.ii .i64])] 3) 3 (fun v h _ => bc (sameT v (sh2 (fun j => ids0.getD j 0) lit0)) (sameOs objs0.length (fun j => ids0.getD j 0) h 3 ids0 objs0) false) = true := by kernel_rfl

noncomputable def objs1 : List ObjL := []
noncomputable def lit1 : AV := (.b true)
noncomputable def ids1 : List Nat := []
noncomputable def args1 : List AV := [.s 16 78710681802847840820856284223996785264, .s 2 15155, .i .u8 2, .s 0 0, .f .f64 4619567317775286272]
theorem ran1 : run Sd.sp 200 5 args1 (startH [(1, [.ii .i64])] 3) 3 (fun v h _ => bc (sameT v (sh2 (fun j => ids1.getD j 0) lit1)) (sameOs objs1.length (fun j => ids1.getD j 0) h 3 ids1 objs1) false) = true := by kernel_rfl

noncomputable def sp : Specs := fun g => match g with
  | 5 => some (Sd.selC args0 (memC (fun h b => someInt h 1 b) args0 lit0 objs0) (memC (fun h b => someInt h 1 b) args1 lit1 objs1))
  | g => Sd.sp g
end Go.Proofs.YtbmekbpgoakkbaaGreatDoor.Vc
