/- Calls whose answers are known, new memory too: each is a closed run of its own. No condition. -/
import Derived.Test.YtbmekbpgoakkbaaGreatDoorSd
import Derived.Test.YtbmekbpgoakkbaaGreatDoorVxY
import Derived.Test.YtbmekbpgoakkbaaGreatDoorVxZ
set_option linter.all false
set_option maxRecDepth 100000
namespace Go.Proofs.YtbmekbpgoakkbaaGreatDoor.Ts
open Go Vx

noncomputable def objs0 : List ObjL := []
noncomputable def lit0 : AV := (.s 10 49261412895625124842032)
noncomputable def ids0 : List Nat := []
noncomputable def args0 : List AV := [.s 12 3230776120801753149031212396]
theorem ran0 : run Sd.sp 200 15 args0 (startH [(1, [.ii .i64])] 3) 3 (fun v h _ => bc (sameT v (sh2 (fun j => ids0.getD j 0) lit0)) (sameOs objs0.length (fun j => ids0.getD j 0) h 3 ids0 objs0) false) = true := by kernel_rfl

noncomputable def objs1 : List ObjL := []
noncomputable def lit1 : AV := (.s 14 209034007104166571263017167161911)
noncomputable def ids1 : List Nat := []
noncomputable def args1 : List AV := [.s 29 3238610653189936619700178002053857198430888306689894546760623763322222]
theorem ran1 : run Sd.sp 200 15 args1 (startH [(1, [.ii .i64])] 3) 3 (fun v h _ => bc (sameT v (sh2 (fun j => ids1.getD j 0) lit1)) (sameOs objs1.length (fun j => ids1.getD j 0) h 3 ids1 objs1) false) = true := by kernel_rfl

noncomputable def objs2 : List ObjL := []
noncomputable def lit2 : AV := (.s 24 248498923834236581795729873248232911154625414288319275298)
noncomputable def ids2 : List Nat := []
noncomputable def args2 : List AV := [.s 32 52085688059384348835919823803187999727981284837094756645894418088858593881200]
theorem ran2 : run Sd.sp 200 15 args2 (startH [(1, [.ii .i64])] 3) 3 (fun v h _ => bc (sameT v (sh2 (fun j => ids2.getD j 0) lit2)) (sameOs objs2.length (fun j => ids2.getD j 0) h 3 ids2 objs2) false) = true := by kernel_rfl

noncomputable def objs3 : List ObjL := []
noncomputable def lit3 : AV := (.s 31 18368334166105031858121954109309455544617041254226503077034429987087609710)
noncomputable def ids3 : List Nat := []
noncomputable def args3 : List AV := [.s 29 3138424951853434098484886355156107522078315161831807601541400958498162]
theorem ran3 : run Sd.sp 200 15 args3 (startH [(1, [.ii .i64])] 3) 3 (fun v h _ => bc (sameT v (sh2 (fun j => ids3.getD j 0) lit3)) (sameOs objs3.length (fun j => ids3.getD j 0) h 3 ids3 objs3) false) = true := by kernel_rfl

noncomputable def objs4 : List ObjL := []
noncomputable def lit4 : AV := (.s 0 0)
noncomputable def ids4 : List Nat := []
noncomputable def args4 : List AV := [.s 0 0]
theorem ran4 : run Sd.sp 200 15 args4 (startH [(1, [.ii .i64])] 3) 3 (fun v h _ => bc (sameT v (sh2 (fun j => ids4.getD j 0) lit4)) (sameOs objs4.length (fun j => ids4.getD j 0) h 3 ids4 objs4) false) = true := by kernel_rfl

noncomputable def objs5 : List ObjL := []
noncomputable def lit5 : AV := (.s 27 4197525892474641595067329403877406570702692908648487243897006959)
noncomputable def ids5 : List Nat := []
noncomputable def args5 : List AV := [.s 19 1073264666343839777322613657783004127708143987]
theorem ran5 : run Sd.sp 200 15 args5 (startH [(1, [.ii .i64])] 3) 3 (fun v h _ => bc (sameT v (sh2 (fun j => ids5.getD j 0) lit5)) (sameOs objs5.length (fun j => ids5.getD j 0) h 3 ids5 objs5) false) = true := by kernel_rfl

noncomputable def objs6 : List ObjL := []
noncomputable def lit6 : AV := (.s 14 207191689189179195288953887026031)
noncomputable def ids6 : List Nat := []
noncomputable def args6 : List AV := [.s 22 37556843681839583799170401778687700352567091253567859]
theorem ran6 : run Sd.sp 200 15 args6 (startH [(1, [.ii .i64])] 3) 3 (fun v h _ => bc (sameT v (sh2 (fun j => ids6.getD j 0) lit6)) (sameOs objs6.length (fun j => ids6.getD j 0) h 3 ids6 objs6) false) = true := by kernel_rfl

noncomputable def sp : Specs := fun g => match g with
  | 15 => some (Sd.selC args0 (memC (fun h b => someInt h 1 b) args0 lit0 objs0) (Sd.selC args1 (memC (fun h b => someInt h 1 b) args1 lit1 objs1) (Sd.selC args2 (memC (fun h b => someInt h 1 b) args2 lit2 objs2) (Sd.selC args3 (memC (fun h b => someInt h 1 b) args3 lit3 objs3) (Sd.selC args4 (memC (fun h b => someInt h 1 b) args4 lit4 objs4) (Sd.selC args5 (memC (fun h b => someInt h 1 b) args5 lit5 objs5) (memC (fun h b => someInt h 1 b) args6 lit6 objs6)))))))
  | g => Sd.sp g
end Go.Proofs.YtbmekbpgoakkbaaGreatDoor.Ts
