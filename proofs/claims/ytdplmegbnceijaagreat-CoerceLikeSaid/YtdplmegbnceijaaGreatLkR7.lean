/- CoerceLike: runs. No condition. -/
import Derived.Test.YtdplmegbnceijaaGreatLkB
namespace Go.Proofs.YtdplmegbnceijaaGreat.Lk
open Go Vx Con
set_option linter.unusedVariables false
set_option linter.constructorNameAsVariable false
set_option maxRecDepth 100000

theorem g7_0 : G 7 0 = true := by kernel_rfl
theorem g7_1 : G 7 1 = true := by kernel_rfl
theorem g7_2 : G 7 2 = true := by kernel_rfl
theorem g7_3 : G 7 3 = true := by kernel_rfl
theorem g7_4 : G 7 4 = true := by kernel_rfl
theorem g7_5 : G 7 5 = true := by kernel_rfl
theorem g7_6 : G 7 6 = true := by kernel_rfl
theorem g7_7 : G 7 7 = true := by kernel_rfl
theorem g7_8 : G 7 8 = true := by kernel_rfl
theorem g7_9 : G 7 9 = true := by kernel_rfl
theorem ga7 : AllFrom (fun j => G 7 j = true) 0 10 := ⟨g7_0, g7_1, g7_2, g7_3, g7_4, g7_5, g7_6, g7_7, g7_8, g7_9, trivial⟩
end Go.Proofs.YtdplmegbnceijaaGreat.Lk
