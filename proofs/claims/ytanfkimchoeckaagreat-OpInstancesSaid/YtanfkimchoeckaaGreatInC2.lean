/- OpInstances: the loop's calls. No condition. -/
import Derived.Test.YtanfkimchoeckaaGreatInB
namespace Go.Proofs.YtanfkimchoeckaaGreat.Ins
open Go Vx
set_option linter.unusedVariables false
set_option linter.constructorNameAsVariable false
set_option maxRecDepth 100000

theorem s2 : step 2 153 194 211 259 = true := by kernel_rfl
theorem s5 : step 5 348 410 427 496 = true := by kernel_rfl
theorem s10 : step 10 813 910 927 1031 = true := by kernel_rfl
theorem s13 : step 13 1176 1294 1311 1436 = true := by kernel_rfl
theorem s18 : step 18 1921 2074 2091 2251 = true := by kernel_rfl
theorem s21 : step 21 2452 2626 2643 2824 = true := by kernel_rfl
theorem s26 : step 26 3477 3686 3703 3919 = true := by kernel_rfl
theorem s29 : step 29 4176 4406 4423 4660 = true := by kernel_rfl
theorem s34 : step 34 5481 5746 5763 6035 = true := by kernel_rfl
theorem s37 : step 37 6348 6634 6651 6944 = true := by kernel_rfl
theorem s42 : step 42 7933 8254 8271 8599 = true := by kernel_rfl
theorem s45 : step 45 8968 9310 9327 9676 = true := by kernel_rfl
theorem s50 : step 50 10833 11210 11227 11611 = true := by kernel_rfl
theorem s53 : step 53 12036 12434 12451 12856 = true := by kernel_rfl
theorem s58 : step 58 14181 14614 14631 15071 = true := by kernel_rfl
theorem s61 : step 61 15552 16006 16023 16484 = true := by kernel_rfl
end Go.Proofs.YtanfkimchoeckaaGreat.Ins
