/- A descriptor's check, run for each of its bits. No condition. -/
import Derived.Test.YtdplmegbnceijaaCon
import Derived.Test.YtdplmegbnceijaaVxZh
namespace Go.Proofs.Ytdplmegbnceijaa.Of
open Go Vx Con
set_option linter.unusedVariables false
set_option linter.constructorNameAsVariable false
set_option maxRecDepth 100000

theorem d7_32 : D c2 7 32 = true := by kernel_rfl
theorem d7_33 : D c2 7 33 = true := by kernel_rfl
theorem d7_34 : D c2 7 34 = true := by kernel_rfl
theorem d7_35 : D c2 7 35 = true := by kernel_rfl
theorem d7_36 : D c2 7 36 = true := by kernel_rfl
theorem d7_37 : D c2 7 37 = true := by kernel_rfl
theorem d7_38 : D c2 7 38 = true := by kernel_rfl
theorem d7_39 : D c2 7 39 = true := by kernel_rfl
theorem d7_40 : D c2 7 40 = true := by kernel_rfl
theorem d7_41 : D c2 7 41 = true := by kernel_rfl
theorem d7_42 : D c2 7 42 = true := by kernel_rfl
theorem d7_43 : D c2 7 43 = true := by kernel_rfl
theorem d7_44 : D c2 7 44 = true := by kernel_rfl
theorem d7_45 : D c2 7 45 = true := by kernel_rfl
theorem d7_46 : D c2 7 46 = true := by kernel_rfl
theorem d7_47 : D c2 7 47 = true := by kernel_rfl
theorem a7_2 : AllFrom (fun c => D c2 7 c = true) 32 16 := ⟨d7_32, d7_33, d7_34, d7_35, d7_36, d7_37, d7_38, d7_39, d7_40, d7_41, d7_42, d7_43, d7_44, d7_45, d7_46, d7_47, trivial⟩
theorem d9_32 : D c2 9 32 = true := by kernel_rfl
theorem d9_33 : D c2 9 33 = true := by kernel_rfl
theorem d9_34 : D c2 9 34 = true := by kernel_rfl
theorem d9_35 : D c2 9 35 = true := by kernel_rfl
theorem d9_36 : D c2 9 36 = true := by kernel_rfl
theorem d9_37 : D c2 9 37 = true := by kernel_rfl
theorem d9_38 : D c2 9 38 = true := by kernel_rfl
theorem d9_39 : D c2 9 39 = true := by kernel_rfl
theorem d9_40 : D c2 9 40 = true := by kernel_rfl
theorem d9_41 : D c2 9 41 = true := by kernel_rfl
theorem d9_42 : D c2 9 42 = true := by kernel_rfl
theorem d9_43 : D c2 9 43 = true := by kernel_rfl
theorem d9_44 : D c2 9 44 = true := by kernel_rfl
theorem d9_45 : D c2 9 45 = true := by kernel_rfl
theorem d9_46 : D c2 9 46 = true := by kernel_rfl
theorem d9_47 : D c2 9 47 = true := by kernel_rfl
theorem a9_2 : AllFrom (fun c => D c2 9 c = true) 32 16 := ⟨d9_32, d9_33, d9_34, d9_35, d9_36, d9_37, d9_38, d9_39, d9_40, d9_41, d9_42, d9_43, d9_44, d9_45, d9_46, d9_47, trivial⟩
end Go.Proofs.Ytdplmegbnceijaa.Of
