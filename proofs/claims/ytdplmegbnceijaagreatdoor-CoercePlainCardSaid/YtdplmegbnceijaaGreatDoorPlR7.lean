/- CoercePlain: runs. No condition. -/
import Derived.Test.YtdplmegbnceijaaGreatDoorPlB
namespace Go.Proofs.YtdplmegbnceijaaGreatDoor.Pl
open Go Vx Con
set_option linter.unusedVariables false
set_option linter.constructorNameAsVariable false
set_option maxRecDepth 100000

theorem g7_0 : G 7 0 = true := by kernel_rfl
theorem g7_1 : G 7 1 = true := by kernel_rfl
theorem g7_2 : G 7 2 = true := by kernel_rfl
theorem g7_3 : G 7 3 = true := by kernel_rfl
theorem g7_4 : G 7 4 = true := by kernel_rfl
theorem g7_5 : G 7 5 = true := by kernel_rfl
theorem g7_6 : G 7 6 = true := by kernel_rfl
theorem g7_7 : G 7 7 = true := by kernel_rfl
theorem g7_8 : G 7 8 = true := by kernel_rfl
theorem g7_9 : G 7 9 = true := by kernel_rfl
theorem ga7 : AllFrom (fun j => G 7 j = true) 0 10 := ⟨g7_0, g7_1, g7_2, g7_3, g7_4, g7_5, g7_6, g7_7, g7_8, g7_9, trivial⟩
theorem g8_0 : G 8 0 = true := by kernel_rfl
theorem g8_1 : G 8 1 = true := by kernel_rfl
theorem g8_2 : G 8 2 = true := by kernel_rfl
theorem g8_3 : G 8 3 = true := by kernel_rfl
theorem g8_4 : G 8 4 = true := by kernel_rfl
theorem g8_5 : G 8 5 = true := by kernel_rfl
theorem g8_6 : G 8 6 = true := by kernel_rfl
theorem g8_7 : G 8 7 = true := by kernel_rfl
theorem g8_8 : G 8 8 = true := by kernel_rfl
theorem g8_9 : G 8 9 = true := by kernel_rfl
theorem ga8 : AllFrom (fun j => G 8 j = true) 0 10 := ⟨g8_0, g8_1, g8_2, g8_3, g8_4, g8_5, g8_6, g8_7, g8_8, g8_9, trivial⟩
theorem g9_0 : G 9 0 = true := by kernel_rfl
theorem g9_1 : G 9 1 = true := by kernel_rfl
theorem g9_2 : G 9 2 = true := by kernel_rfl
theorem g9_3 : G 9 3 = true := by kernel_rfl
theorem g9_4 : G 9 4 = true := by kernel_rfl
theorem g9_5 : G 9 5 = true := by kernel_rfl
theorem g9_6 : G 9 6 = true := by kernel_rfl
theorem g9_7 : G 9 7 = true := by kernel_rfl
theorem g9_8 : G 9 8 = true := by kernel_rfl
theorem g9_9 : G 9 9 = true := by kernel_rfl
theorem ga9 : AllFrom (fun j => G 9 j = true) 0 10 := ⟨g9_0, g9_1, g9_2, g9_3, g9_4, g9_5, g9_6, g9_7, g9_8, g9_9, trivial⟩
end Go.Proofs.YtdplmegbnceijaaGreatDoor.Pl
