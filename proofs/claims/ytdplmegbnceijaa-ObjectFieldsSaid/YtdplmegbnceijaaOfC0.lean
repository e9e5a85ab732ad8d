/- A descriptor's check, run for each of its bits. No condition. -/
import Derived.Test.YtdplmegbnceijaaCon
import Derived.Test.YtdplmegbnceijaaVxZh
namespace Go.Proofs.Ytdplmegbnceijaa.Of
open Go Vx Con
set_option linter.unusedVariables false
set_option linter.constructorNameAsVariable false
set_option maxRecDepth 100000

theorem d7_0 : D c2 7 0 = true := by kernel_rfl
theorem d7_1 : D c2 7 1 = true := by kernel_rfl
theorem d7_2 : D c2 7 2 = true := by kernel_rfl
theorem d7_3 : D c2 7 3 = true := by kernel_rfl
theorem d7_4 : D c2 7 4 = true := by kernel_rfl
theorem d7_5 : D c2 7 5 = true := by kernel_rfl
theorem d7_6 : D c2 7 6 = true := by kernel_rfl
theorem d7_7 : D c2 7 7 = true := by kernel_rfl
theorem d7_8 : D c2 7 8 = true := by kernel_rfl
theorem d7_9 : D c2 7 9 = true := by kernel_rfl
theorem d7_10 : D c2 7 10 = true := by kernel_rfl
theorem d7_11 : D c2 7 11 = true := by kernel_rfl
theorem d7_12 : D c2 7 12 = true := by kernel_rfl
theorem d7_13 : D c2 7 13 = true := by kernel_rfl
theorem d7_14 : D c2 7 14 = true := by kernel_rfl
theorem d7_15 : D c2 7 15 = true := by kernel_rfl
theorem a7_0 : AllFrom (fun c => D c2 7 c = true) 0 16 := ⟨d7_0, d7_1, d7_2, d7_3, d7_4, d7_5, d7_6, d7_7, d7_8, d7_9, d7_10, d7_11, d7_12, d7_13, d7_14, d7_15, trivial⟩
theorem d9_0 : D c2 9 0 = true := by kernel_rfl
theorem d9_1 : D c2 9 1 = true := by kernel_rfl
theorem d9_2 : D c2 9 2 = true := by kernel_rfl
theorem d9_3 : D c2 9 3 = true := by kernel_rfl
theorem d9_4 : D c2 9 4 = true := by kernel_rfl
theorem d9_5 : D c2 9 5 = true := by kernel_rfl
theorem d9_6 : D c2 9 6 = true := by kernel_rfl
theorem d9_7 : D c2 9 7 = true := by kernel_rfl
theorem d9_8 : D c2 9 8 = true := by kernel_rfl
theorem d9_9 : D c2 9 9 = true := by kernel_rfl
theorem d9_10 : D c2 9 10 = true := by kernel_rfl
theorem d9_11 : D c2 9 11 = true := by kernel_rfl
theorem d9_12 : D c2 9 12 = true := by kernel_rfl
theorem d9_13 : D c2 9 13 = true := by kernel_rfl
theorem d9_14 : D c2 9 14 = true := by kernel_rfl
theorem d9_15 : D c2 9 15 = true := by kernel_rfl
theorem a9_0 : AllFrom (fun c => D c2 9 c = true) 0 16 := ⟨d9_0, d9_1, d9_2, d9_3, d9_4, d9_5, d9_6, d9_7, d9_8, d9_9, d9_10, d9_11, d9_12, d9_13, d9_14, d9_15, trivial⟩
end Go.Proofs.Ytdplmegbnceijaa.Of
