/- CoerceLike: runs. No condition. -/
import Derived.Test.YtdplmegbnceijaaGreatLkB
namespace Go.Proofs.YtdplmegbnceijaaGreat.Lk
open Go Vx Con
set_option linter.unusedVariables false
set_option linter.constructorNameAsVariable false
set_option maxRecDepth 100000

theorem g8_0 : G 8 0 = true := by kernel_rfl
theorem g8_1 : G 8 1 = true := by kernel_rfl
theorem g8_2 : G 8 2 = true := by kernel_rfl
theorem g8_3 : G 8 3 = true := by kernel_rfl
theorem g8_4 : G 8 4 = true := by kernel_rfl
theorem g8_5 : G 8 5 = true := by kernel_rfl
theorem g8_6 : G 8 6 = true := by kernel_rfl
theorem g8_7 : G 8 7 = true := by kernel_rfl
theorem g8_8 : G 8 8 = true := by kernel_rfl
theorem g8_9 : G 8 9 = true := by kernel_rfl
theorem ga8 : AllFrom (fun j => G 8 j = true) 0 10 := ⟨g8_0, g8_1, g8_2, g8_3, g8_4, g8_5, g8_6, g8_7, g8_8, g8_9, trivial⟩
end Go.Proofs.YtdplmegbnceijaaGreat.Lk
