/- CoercePlain: runs. No condition. -/
import Derived.Test.YtdplmegbnceijaaGreatDoorPlB
namespace Go.Proofs.YtdplmegbnceijaaGreatDoor.Pl
open Go Vx Con
set_option linter.unusedVariables false
set_option linter.constructorNameAsVariable false
set_option maxRecDepth 100000

theorem g6_0 : G 6 0 = true := by kernel_rfl
theorem g6_1 : G 6 1 = true := by kernel_rfl
theorem g6_2 : G 6 2 = true := by kernel_rfl
theorem g6_3 : G 6 3 = true := by kernel_rfl
theorem g6_4 : G 6 4 = true := by kernel_rfl
theorem g6_5 : G 6 5 = true := by kernel_rfl
theorem g6_6 : G 6 6 = true := by kernel_rfl
theorem g6_7 : G 6 7 = true := by kernel_rfl
theorem g6_8 : G 6 8 = true := by kernel_rfl
theorem g6_9 : G 6 9 = true := by kernel_rfl
theorem ga6 : AllFrom (fun j => G 6 j = true) 0 10 := ⟨g6_0, g6_1, g6_2, g6_3, g6_4, g6_5, g6_6, g6_7, g6_8, g6_9, trivial⟩
end Go.Proofs.YtdplmegbnceijaaGreatDoor.Pl
