/- A descriptor's check, run for some of its bits. No condition. -/
import Derived.Test.YtngagklmbbogiaaGreatDoorA7
set_option linter.all false
namespace Go.Proofs.YtngagklmbbogiaaGreatDoor.Rf
open Go Vx Con
set_option maxRecDepth 100000
theorem d8:((List.range' 128 16).all fun c=>D c2 179 c)=true:=by kernel_rfl
theorem d9:((List.range' 144 16).all fun c=>D c2 179 c)=true:=by kernel_rfl
theorem d10:((List.range' 160 16).all fun c=>D c2 179 c)=true:=by kernel_rfl
theorem d11:((List.range' 176 16).all fun c=>D c2 179 c)=true:=by kernel_rfl
theorem d12:((List.range' 192 16).all fun c=>D c2 179 c)=true:=by kernel_rfl
theorem d13:((List.range' 208 16).all fun c=>D c2 179 c)=true:=by kernel_rfl
theorem d14:((List.range' 224 16).all fun c=>D c2 179 c)=true:=by kernel_rfl
theorem d15:((List.range' 240 16).all fun c=>D c2 179 c)=true:=by kernel_rfl
end Go.Proofs.YtngagklmbbogiaaGreatDoor.Rf
