/- OpInstances: the loop's calls. No condition. -/
import Derived.Test.YtanfkimchoeckaaGreatInB
namespace Go.Proofs.YtanfkimchoeckaaGreat.Ins
open Go Vx
set_option linter.unusedVariables false
set_option linter.constructorNameAsVariable false
set_option maxRecDepth 100000

theorem s1 : step 1 102 136 153 194 = true := by kernel_rfl
theorem s6 : step 6 427 496 513 589 = true := by kernel_rfl
theorem s9 : step 9 706 796 813 910 = true := by kernel_rfl
theorem s14 : step 14 1311 1436 1453 1585 = true := by kernel_rfl
theorem s17 : step 17 1758 1904 1921 2074 = true := by kernel_rfl
theorem s22 : step 22 2643 2824 2841 3029 = true := by kernel_rfl
theorem s25 : step 25 3258 3460 3477 3686 = true := by kernel_rfl
theorem s30 : step 30 4423 4660 4677 4921 = true := by kernel_rfl
theorem s33 : step 33 5206 5464 5481 5746 = true := by kernel_rfl
theorem s38 : step 38 6651 6944 6961 7261 = true := by kernel_rfl
theorem s41 : step 41 7602 7916 7933 8254 = true := by kernel_rfl
theorem s46 : step 46 9327 9676 9693 10049 = true := by kernel_rfl
theorem s49 : step 49 10446 10816 10833 11210 = true := by kernel_rfl
theorem s54 : step 54 12451 12856 12873 13285 = true := by kernel_rfl
theorem s57 : step 57 13738 14164 14181 14614 = true := by kernel_rfl
theorem s62 : step 62 16023 16484 16501 16969 = true := by kernel_rfl
end Go.Proofs.YtanfkimchoeckaaGreat.Ins
