/- CoercePlain: runs. No condition. -/
import Derived.Test.YtdplmegbnceijaaGreatDoorPlB
namespace Go.Proofs.YtdplmegbnceijaaGreatDoor.Pl
open Go Vx Con
set_option linter.unusedVariables false
set_option linter.constructorNameAsVariable false
set_option maxRecDepth 100000

theorem g2_0 : G 2 0 = true := by kernel_rfl
theorem g2_1 : G 2 1 = true := by kernel_rfl
theorem g2_2 : G 2 2 = true := by kernel_rfl
theorem g2_3 : G 2 3 = true := by kernel_rfl
theorem g2_4 : G 2 4 = true := by kernel_rfl
theorem g2_5 : G 2 5 = true := by kernel_rfl
theorem g2_6 : G 2 6 = true := by kernel_rfl
theorem g2_7 : G 2 7 = true := by kernel_rfl
theorem g2_8 : G 2 8 = true := by kernel_rfl
theorem g2_9 : G 2 9 = true := by kernel_rfl
theorem ga2 : AllFrom (fun j => G 2 j = true) 0 10 := ⟨g2_0, g2_1, g2_2, g2_3, g2_4, g2_5, g2_6, g2_7, g2_8, g2_9, trivial⟩
end Go.Proofs.YtdplmegbnceijaaGreatDoor.Pl
