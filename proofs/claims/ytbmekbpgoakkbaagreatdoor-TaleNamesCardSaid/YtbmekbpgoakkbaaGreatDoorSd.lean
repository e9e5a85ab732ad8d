/- Library functions, the first objects and op.Names by their contracts: the table. No condition. -/
import Derived.Test.YtbmekbpgoakkbaaGreatDoorRm
import Derived.Test.YtbmekbpgoakkbaaGreatDoorVxZ
set_option linter.all false
namespace Go.Proofs.YtbmekbpgoakkbaaGreatDoor.Sd
open Go Vx
/-- one contract where the call is given this, another where not: nothing that follows stands inside a choice -/
noncomputable def selC (a0 : List AV) (C D : Ct) : Ct := fun args h nxt k => bc (sameL args a0) (C args h nxt k) (D args h nxt k)
noncomputable def lits : List AV := [.s 1 33, .s 2 15649, .s 3 4013345, .s 1 37, .s 1 38, .s 1 42, .s 1 43, .s 1 45, .s 1 47, .s 1 60, .s 2 15420, .s 2 15676, .s 2 15677, .s 3 4013373, .s 1 62, .s 2 15678, .s 2 15934, .s 3 4079166, .s 1 94, .s 6 111550592214372, .s 3 7628135, .s 2 28265, .s 10 483736275649270941707881, .s 4 1937335659, .s 6 114849160783212, .s 3 6776174, .s 3 7565168, .s 3 7628147, .s 6 112628629272948, .s 1 124, .s 1 126]
noncomputable def sp : Specs := fun g => match g with
  | 19 => some (memC (fun _ b => b) [] Rm.lit0 Rm.objs0)
  | 63 => some (rowC 9 lits 31)
  | 103 => some (indexC 1 (fun r => .i .i64 r))
  | _ => none
end Go.Proofs.YtbmekbpgoakkbaaGreatDoor.Sd
