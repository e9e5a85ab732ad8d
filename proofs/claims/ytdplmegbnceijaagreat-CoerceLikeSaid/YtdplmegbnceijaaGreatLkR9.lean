/- CoerceLike: runs. No condition. -/
import Derived.Test.YtdplmegbnceijaaGreatLkB
namespace Go.Proofs.YtdplmegbnceijaaGreat.Lk
open Go Vx Con
set_option linter.unusedVariables false
set_option linter.constructorNameAsVariable false
set_option maxRecDepth 100000

theorem g9_0 : G 9 0 = true := by kernel_rfl
theorem g9_1 : G 9 1 = true := by kernel_rfl
theorem g9_2 : G 9 2 = true := by kernel_rfl
theorem g9_3 : G 9 3 = true := by kernel_rfl
theorem g9_4 : G 9 4 = true := by kernel_rfl
theorem g9_5 : G 9 5 = true := by kernel_rfl
theorem g9_6 : G 9 6 = true := by kernel_rfl
theorem g9_7 : G 9 7 = true := by kernel_rfl
theorem g9_8 : G 9 8 = true := by kernel_rfl
theorem g9_9 : G 9 9 = true := by kernel_rfl
theorem ga9 : AllFrom (fun j => G 9 j = true) 0 10 := ⟨g9_0, g9_1, g9_2, g9_3, g9_4, g9_5, g9_6, g9_7, g9_8, g9_9, trivial⟩
end Go.Proofs.YtdplmegbnceijaaGreat.Lk
