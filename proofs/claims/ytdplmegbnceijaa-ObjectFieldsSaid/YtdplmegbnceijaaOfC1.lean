/- A descriptor's check, run for each of its bits. No condition. -/
import Derived.Test.YtdplmegbnceijaaCon
import Derived.Test.YtdplmegbnceijaaVxZh
namespace Go.Proofs.Ytdplmegbnceijaa.Of
open Go Vx Con
set_option linter.unusedVariables false
set_option linter.constructorNameAsVariable false
set_option maxRecDepth 100000

theorem d7_16 : D c2 7 16 = true := by kernel_rfl
theorem d7_17 : D c2 7 17 = true := by kernel_rfl
theorem d7_18 : D c2 7 18 = true := by kernel_rfl
theorem d7_19 : D c2 7 19 = true := by kernel_rfl
theorem d7_20 : D c2 7 20 = true := by kernel_rfl
theorem d7_21 : D c2 7 21 = true := by kernel_rfl
theorem d7_22 : D c2 7 22 = true := by kernel_rfl
theorem d7_23 : D c2 7 23 = true := by kernel_rfl
theorem d7_24 : D c2 7 24 = true := by kernel_rfl
theorem d7_25 : D c2 7 25 = true := by kernel_rfl
theorem d7_26 : D c2 7 26 = true := by kernel_rfl
theorem d7_27 : D c2 7 27 = true := by kernel_rfl
theorem d7_28 : D c2 7 28 = true := by kernel_rfl
theorem d7_29 : D c2 7 29 = true := by kernel_rfl
theorem d7_30 : D c2 7 30 = true := by kernel_rfl
theorem d7_31 : D c2 7 31 = true := by kernel_rfl
theorem a7_1 : AllFrom (fun c => D c2 7 c = true) 16 16 := ⟨d7_16, d7_17, d7_18, d7_19, d7_20, d7_21, d7_22, d7_23, d7_24, d7_25, d7_26, d7_27, d7_28, d7_29, d7_30, d7_31, trivial⟩
theorem d9_16 : D c2 9 16 = true := by kernel_rfl
theorem d9_17 : D c2 9 17 = true := by kernel_rfl
theorem d9_18 : D c2 9 18 = true := by kernel_rfl
theorem d9_19 : D c2 9 19 = true := by kernel_rfl
theorem d9_20 : D c2 9 20 = true := by kernel_rfl
theorem d9_21 : D c2 9 21 = true := by kernel_rfl
theorem d9_22 : D c2 9 22 = true := by kernel_rfl
theorem d9_23 : D c2 9 23 = true := by kernel_rfl
theorem d9_24 : D c2 9 24 = true := by kernel_rfl
theorem d9_25 : D c2 9 25 = true := by kernel_rfl
theorem d9_26 : D c2 9 26 = true := by kernel_rfl
theorem d9_27 : D c2 9 27 = true := by kernel_rfl
theorem d9_28 : D c2 9 28 = true := by kernel_rfl
theorem d9_29 : D c2 9 29 = true := by kernel_rfl
theorem d9_30 : D c2 9 30 = true := by kernel_rfl
theorem d9_31 : D c2 9 31 = true := by kernel_rfl
theorem a9_1 : AllFrom (fun c => D c2 9 c = true) 16 16 := ⟨d9_16, d9_17, d9_18, d9_19, d9_20, d9_21, d9_22, d9_23, d9_24, d9_25, d9_26, d9_27, d9_28, d9_29, d9_30, d9_31, trivial⟩
end Go.Proofs.Ytdplmegbnceijaa.Of
