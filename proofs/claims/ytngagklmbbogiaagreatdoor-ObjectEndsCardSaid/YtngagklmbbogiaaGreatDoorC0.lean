/- inner.Fields runs to a slice, whatever the descriptor. No condition. -/
import Derived.Test.YtngagklmbbogiaaGreatDoorB1
set_option linter.all false
namespace Go.Proofs.YtngagklmbbogiaaGreatDoor.Ob
open Go Go.RowKit Vx
set_option maxRecDepth 100000
noncomputable section
def dsS(q:Nat):List AV:=.x (.i .u8) (.sy q)::vS (Nat.add q 1)++vS (Nat.add q 5)++vS (Nat.add q 9)++[bS (Nat.add q 13),bS (Nat.add q 14),bS (Nat.add q 15)]
def isSl(v:AV):Bool:=match v with
 |.sn=>true
 |.so _ _ n _=>Nat.ble n 64
 |_=>false
theorem flds0:bQ [] (dY [] 1) (fun h=>c0 215 [.ag (dsS 1)] h 17 (fun v _ _=>isSl v))=true:=by kernel_rfl
end
end Go.Proofs.YtngagklmbbogiaaGreatDoor.Ob
