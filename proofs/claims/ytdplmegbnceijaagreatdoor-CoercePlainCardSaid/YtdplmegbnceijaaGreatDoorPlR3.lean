/- CoercePlain: runs. No condition. -/
import Derived.Test.YtdplmegbnceijaaGreatDoorPlB
namespace Go.Proofs.YtdplmegbnceijaaGreatDoor.Pl
open Go Vx Con
set_option linter.unusedVariables false
set_option linter.constructorNameAsVariable false
set_option maxRecDepth 100000

theorem g3_0 : G 3 0 = true := by kernel_rfl
theorem g3_1 : G 3 1 = true := by kernel_rfl
theorem g3_2 : G 3 2 = true := by kernel_rfl
theorem g3_3 : G 3 3 = true := by kernel_rfl
theorem g3_4 : G 3 4 = true := by kernel_rfl
theorem g3_5 : G 3 5 = true := by kernel_rfl
theorem g3_6 : G 3 6 = true := by kernel_rfl
theorem g3_7 : G 3 7 = true := by kernel_rfl
theorem g3_8 : G 3 8 = true := by kernel_rfl
theorem g3_9 : G 3 9 = true := by kernel_rfl
theorem ga3 : AllFrom (fun j => G 3 j = true) 0 10 := ⟨g3_0, g3_1, g3_2, g3_3, g3_4, g3_5, g3_6, g3_7, g3_8, g3_9, trivial⟩
end Go.Proofs.YtdplmegbnceijaaGreatDoor.Pl
