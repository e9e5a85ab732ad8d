/- A session that sorts and counts: a call that is known. No condition. -/
import Derived.Test.YtbmekbpgoakkbaaGreatDoorSe
import Derived.Test.YtbmekbpgoakkbaaGreatDoorKg
set_option linter.all false
set_option maxRecDepth 100000
namespace Go.Proofs.YtbmekbpgoakkbaaGreatDoor.Tf
open Go Vx
noncomputable def pw : List AV := [.i .u64 1, .i .u64 10, .i .u64 100, .i .u64 1000, .i .u64 10000, .i .u64 100000, .i .u64 1000000, .i .u64 10000000, .i .u64 100000000, .i .u64 1000000000, .i .u64 10000000000, .i .u64 100000000000, .i .u64 1000000000000, .i .u64 10000000000000, .i .u64 100000000000000, .i .u64 1000000000000000, .i .u64 10000000000000000, .i .u64 100000000000000000, .i .u64 1000000000000000000, .i .u64 10000000000000000000]
noncomputable def lit0 : AV := (.s 32 4702342235616055830570380844769858223114486436009968253532502261306665087522)
noncomputable def objs0 : List ObjL := []
noncomputable def ids0 : List Nat := []
noncomputable def args0 : List AV := [.s 37 24462333093391317423467998127259185832846109288075926887487358552005906730870192289903215]
noncomputable def okP (h : Heap) (b : Bool) : Bool := someInt h 1 (tabIs h 2 pw b)
theorem ran0 : run Se.sp 200 15 args0 (startH [(1, [.ii .i64]), (2, pw)] 4) 4 (fun v h _ => bc (sameT v (sh2 (fun j => ids0.getD j 0) lit0)) (sameOs objs0.length (fun j => ids0.getD j 0) h 4 ids0 objs0) false) = true := by kernel_rfl
end Go.Proofs.YtbmekbpgoakkbaaGreatDoor.Tf
