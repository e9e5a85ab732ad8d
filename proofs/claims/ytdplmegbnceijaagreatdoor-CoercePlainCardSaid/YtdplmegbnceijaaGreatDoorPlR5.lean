/- CoercePlain: runs. No condition. -/
import Derived.Test.YtdplmegbnceijaaGreatDoorPlB
namespace Go.Proofs.YtdplmegbnceijaaGreatDoor.Pl
open Go Vx Con
set_option linter.unusedVariables false
set_option linter.constructorNameAsVariable false
set_option maxRecDepth 100000

theorem g5_0 : G 5 0 = true := by kernel_rfl
theorem g5_1 : G 5 1 = true := by kernel_rfl
theorem g5_2 : G 5 2 = true := by kernel_rfl
theorem g5_3 : G 5 3 = true := by kernel_rfl
theorem g5_4 : G 5 4 = true := by kernel_rfl
theorem g5_5 : G 5 5 = true := by kernel_rfl
theorem g5_6 : G 5 6 = true := by kernel_rfl
theorem g5_7 : G 5 7 = true := by kernel_rfl
theorem g5_8 : G 5 8 = true := by kernel_rfl
theorem g5_9 : G 5 9 = true := by kernel_rfl
theorem ga5 : AllFrom (fun j => G 5 j = true) 0 10 := ⟨g5_0, g5_1, g5_2, g5_3, g5_4, g5_5, g5_6, g5_7, g5_8, g5_9, trivial⟩
end Go.Proofs.YtdplmegbnceijaaGreatDoor.Pl
