/- A descriptor's check, run for some of its bits. No condition. -/
import Derived.Test.YtngagklmbbogiaaGreatDoorA7
set_option linter.all false
namespace Go.Proofs.YtngagklmbbogiaaGreatDoor.Rf
open Go Vx Con
set_option maxRecDepth 100000
theorem d0:((List.range' 0 16).all fun c=>D c2 179 c)=true:=by kernel_rfl
theorem d1:((List.range' 16 16).all fun c=>D c2 179 c)=true:=by kernel_rfl
theorem d2:((List.range' 32 16).all fun c=>D c2 179 c)=true:=by kernel_rfl
theorem d3:((List.range' 48 16).all fun c=>D c2 179 c)=true:=by kernel_rfl
theorem d4:((List.range' 64 16).all fun c=>D c2 179 c)=true:=by kernel_rfl
theorem d5:((List.range' 80 16).all fun c=>D c2 179 c)=true:=by kernel_rfl
theorem d6:((List.range' 96 16).all fun c=>D c2 179 c)=true:=by kernel_rfl
theorem d7:((List.range' 112 16).all fun c=>D c2 179 c)=true:=by kernel_rfl
end Go.Proofs.YtngagklmbbogiaaGreatDoor.Rf
