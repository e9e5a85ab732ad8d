/- CoercePlain: runs. No condition. -/
import Derived.Test.YtdplmegbnceijaaGreatDoorPlB
namespace Go.Proofs.YtdplmegbnceijaaGreatDoor.Pl
open Go Vx Con
set_option linter.unusedVariables false
set_option linter.constructorNameAsVariable false
set_option maxRecDepth 100000

theorem g1_0 : G 1 0 = true := by kernel_rfl
theorem g1_1 : G 1 1 = true := by kernel_rfl
theorem g1_2 : G 1 2 = true := by kernel_rfl
theorem g1_3 : G 1 3 = true := by kernel_rfl
theorem g1_4 : G 1 4 = true := by kernel_rfl
theorem g1_5 : G 1 5 = true := by kernel_rfl
theorem g1_6 : G 1 6 = true := by kernel_rfl
theorem g1_7 : G 1 7 = true := by kernel_rfl
theorem g1_8 : G 1 8 = true := by kernel_rfl
theorem g1_9 : G 1 9 = true := by kernel_rfl
theorem ga1 : AllFrom (fun j => G 1 j = true) 0 10 := ⟨g1_0, g1_1, g1_2, g1_3, g1_4, g1_5, g1_6, g1_7, g1_8, g1_9, trivial⟩
end Go.Proofs.YtdplmegbnceijaaGreatDoor.Pl
