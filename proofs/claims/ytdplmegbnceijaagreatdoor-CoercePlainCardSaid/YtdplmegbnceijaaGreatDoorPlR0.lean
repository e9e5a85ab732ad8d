/- CoercePlain: runs. No condition. -/
import Derived.Test.YtdplmegbnceijaaGreatDoorPlB
namespace Go.Proofs.YtdplmegbnceijaaGreatDoor.Pl
open Go Vx Con
set_option linter.unusedVariables false
set_option linter.constructorNameAsVariable false
set_option maxRecDepth 100000

theorem g0_0 : G 0 0 = true := by kernel_rfl
theorem g0_1 : G 0 1 = true := by kernel_rfl
theorem g0_2 : G 0 2 = true := by kernel_rfl
theorem g0_3 : G 0 3 = true := by kernel_rfl
theorem g0_4 : G 0 4 = true := by kernel_rfl
theorem g0_5 : G 0 5 = true := by kernel_rfl
theorem g0_6 : G 0 6 = true := by kernel_rfl
theorem g0_7 : G 0 7 = true := by kernel_rfl
theorem g0_8 : G 0 8 = true := by kernel_rfl
theorem g0_9 : G 0 9 = true := by kernel_rfl
theorem b1 : B [(m1, false)] = true := by kernel_rfl
theorem b2 : B [(m1, true), (m2, false)] = true := by kernel_rfl
theorem ga0 : AllFrom (fun j => G 0 j = true) 0 10 := ⟨g0_0, g0_1, g0_2, g0_3, g0_4, g0_5, g0_6, g0_7, g0_8, g0_9, trivial⟩
end Go.Proofs.YtdplmegbnceijaaGreatDoor.Pl
