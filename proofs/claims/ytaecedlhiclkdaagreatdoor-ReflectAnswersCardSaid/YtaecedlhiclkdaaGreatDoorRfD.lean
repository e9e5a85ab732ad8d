/- A descriptor's check as a contract: run for each of its bits. No condition. -/
import Derived.Test.YtaecedlhiclkdaaGreatDoorCon
import Derived.Test.YtaecedlhiclkdaaGreatDoorVxZh
namespace Go.Proofs.YtaecedlhiclkdaaGreatDoor.Rf
open Go Vx Con
set_option linter.unusedVariables false
set_option linter.constructorNameAsVariable false
set_option maxRecDepth 100000

theorem d0 : ((List.range' 0 64).all fun c => D c2 115 c) = true := by kernel_rfl
theorem d1 : ((List.range' 64 64).all fun c => D c2 115 c) = true := by kernel_rfl
theorem d2 : ((List.range' 128 64).all fun c => D c2 115 c) = true := by kernel_rfl
theorem d3 : ((List.range' 192 64).all fun c => D c2 115 c) = true := by kernel_rfl
theorem dAll (c : Nat) (hc : c < 256) : D c2 115 c = true := by
  have key : ∀ j, ((List.range' (64 * j) 64).all fun c => D c2 115 c) = true → 64 * j ≤ c → c < 64 * j + 64 → D c2 115 c = true := fun j h h1 h2 => List.all_eq_true.1 h c (List.mem_range'_1.2 ⟨h1, h2⟩)
  rcases Nat.lt_or_ge c 64 with h | h
  · exact key 0 d0 (by omega) (by omega)
  rcases Nat.lt_or_ge c 128 with h | h
  · exact key 1 d1 (by omega) (by omega)
  rcases Nat.lt_or_ge c 192 with h | h
  · exact key 2 d2 (by omega) (by omega)
  · exact key 3 d3 (by omega) (by omega)
theorem chk : OfDesc P 115 := ofDesc c2_ok dAll
end Go.Proofs.YtaecedlhiclkdaaGreatDoor.Rf
