/- A descriptor's check as a contract: run for each of its bits. No condition. -/
import Derived.Test.YtngagklmbbogiaaGreatDoorD7
import Derived.Test.YtngagklmbbogiaaGreatDoorE0
set_option linter.all false
namespace Go.Proofs.YtngagklmbbogiaaGreatDoor.Rf
open Go Vx Con
set_option maxRecDepth 100000
theorem dAll(c:Nat)(hc:c<256):D c2 179 c=true:=by
 have key:∀j,((List.range' (16*j) 16).all fun c=>D c2 179 c)=true->16*j<=c->c<16*j+16->D c2 179 c=true:=fun j h h1 h2=>Aad.1 h c (List.mem_range'_1.2 ⟨h1,h2⟩)
 rcases gC c 16 with h|h
 ·exact key 0 d0 (by omega) (by omega)
 rcases gC c 32 with h|h
 ·exact key 1 d1 (by omega) (by omega)
 rcases gC c 48 with h|h
 ·exact key 2 d2 (by omega) (by omega)
 rcases gC c 64 with h|h
 ·exact key 3 d3 (by omega) (by omega)
 rcases gC c 80 with h|h
 ·exact key 4 d4 (by omega) (by omega)
 rcases gC c 96 with h|h
 ·exact key 5 d5 (by omega) (by omega)
 rcases gC c 112 with h|h
 ·exact key 6 d6 (by omega) (by omega)
 rcases gC c 128 with h|h
 ·exact key 7 d7 (by omega) (by omega)
 rcases gC c 144 with h|h
 ·exact key 8 d8 (by omega) (by omega)
 rcases gC c 160 with h|h
 ·exact key 9 d9 (by omega) (by omega)
 rcases gC c 176 with h|h
 ·exact key 10 d10 (by omega) (by omega)
 rcases gC c 192 with h|h
 ·exact key 11 d11 (by omega) (by omega)
 rcases gC c 208 with h|h
 ·exact key 12 d12 (by omega) (by omega)
 rcases gC c 224 with h|h
 ·exact key 13 d13 (by omega) (by omega)
 rcases gC c 240 with h|h
 ·exact key 14 d14 (by omega) (by omega)
 ·exact key 15 d15 (by omega) (by omega)
theorem yp:KG P 179:=ofDesc yq dAll
end Go.Proofs.YtngagklmbbogiaaGreatDoor.Rf
