/- A descriptor's check, run for each of its bits. No condition. -/
import Derived.Test.YtdplmegbnceijaaCon
import Derived.Test.YtdplmegbnceijaaVxZh
namespace Go.Proofs.Ytdplmegbnceijaa.Of
open Go Vx Con
set_option linter.unusedVariables false
set_option linter.constructorNameAsVariable false
set_option maxRecDepth 100000

theorem d7_48 : D c2 7 48 = true := by kernel_rfl
theorem d7_49 : D c2 7 49 = true := by kernel_rfl
theorem d7_50 : D c2 7 50 = true := by kernel_rfl
theorem d7_51 : D c2 7 51 = true := by kernel_rfl
theorem d7_52 : D c2 7 52 = true := by kernel_rfl
theorem d7_53 : D c2 7 53 = true := by kernel_rfl
theorem d7_54 : D c2 7 54 = true := by kernel_rfl
theorem d7_55 : D c2 7 55 = true := by kernel_rfl
theorem d7_56 : D c2 7 56 = true := by kernel_rfl
theorem d7_57 : D c2 7 57 = true := by kernel_rfl
theorem d7_58 : D c2 7 58 = true := by kernel_rfl
theorem d7_59 : D c2 7 59 = true := by kernel_rfl
theorem d7_60 : D c2 7 60 = true := by kernel_rfl
theorem d7_61 : D c2 7 61 = true := by kernel_rfl
theorem d7_62 : D c2 7 62 = true := by kernel_rfl
theorem d7_63 : D c2 7 63 = true := by kernel_rfl
theorem a7_3 : AllFrom (fun c => D c2 7 c = true) 48 16 := ⟨d7_48, d7_49, d7_50, d7_51, d7_52, d7_53, d7_54, d7_55, d7_56, d7_57, d7_58, d7_59, d7_60, d7_61, d7_62, d7_63, trivial⟩
theorem d9_48 : D c2 9 48 = true := by kernel_rfl
theorem d9_49 : D c2 9 49 = true := by kernel_rfl
theorem d9_50 : D c2 9 50 = true := by kernel_rfl
theorem d9_51 : D c2 9 51 = true := by kernel_rfl
theorem d9_52 : D c2 9 52 = true := by kernel_rfl
theorem d9_53 : D c2 9 53 = true := by kernel_rfl
theorem d9_54 : D c2 9 54 = true := by kernel_rfl
theorem d9_55 : D c2 9 55 = true := by kernel_rfl
theorem d9_56 : D c2 9 56 = true := by kernel_rfl
theorem d9_57 : D c2 9 57 = true := by kernel_rfl
theorem d9_58 : D c2 9 58 = true := by kernel_rfl
theorem d9_59 : D c2 9 59 = true := by kernel_rfl
theorem d9_60 : D c2 9 60 = true := by kernel_rfl
theorem d9_61 : D c2 9 61 = true := by kernel_rfl
theorem d9_62 : D c2 9 62 = true := by kernel_rfl
theorem d9_63 : D c2 9 63 = true := by kernel_rfl
theorem a9_3 : AllFrom (fun c => D c2 9 c = true) 48 16 := ⟨d9_48, d9_49, d9_50, d9_51, d9_52, d9_53, d9_54, d9_55, d9_56, d9_57, d9_58, d9_59, d9_60, d9_61, d9_62, d9_63, trivial⟩
end Go.Proofs.Ytdplmegbnceijaa.Of
