/- CoercePlain: runs. No condition. -/
import Derived.Test.YtdplmegbnceijaaGreatDoorPlB
namespace Go.Proofs.YtdplmegbnceijaaGreatDoor.Pl
open Go Vx Con
set_option linter.unusedVariables false
set_option linter.constructorNameAsVariable false
set_option maxRecDepth 100000

theorem g4_0 : G 4 0 = true := by kernel_rfl
theorem g4_1 : G 4 1 = true := by kernel_rfl
theorem g4_2 : G 4 2 = true := by kernel_rfl
theorem g4_3 : G 4 3 = true := by kernel_rfl
theorem g4_4 : G 4 4 = true := by kernel_rfl
theorem g4_5 : G 4 5 = true := by kernel_rfl
theorem g4_6 : G 4 6 = true := by kernel_rfl
theorem g4_7 : G 4 7 = true := by kernel_rfl
theorem g4_8 : G 4 8 = true := by kernel_rfl
theorem g4_9 : G 4 9 = true := by kernel_rfl
theorem ga4 : AllFrom (fun j => G 4 j = true) 0 10 := ⟨g4_0, g4_1, g4_2, g4_3, g4_4, g4_5, g4_6, g4_7, g4_8, g4_9, trivial⟩
end Go.Proofs.YtdplmegbnceijaaGreatDoor.Pl
