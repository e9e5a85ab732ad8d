/- OpInstances: the loop's calls. No condition. -/
import Derived.Test.YtanfkimchoeckaaGreatInB
namespace Go.Proofs.YtanfkimchoeckaaGreat.Ins
open Go Vx
set_option linter.unusedVariables false
set_option linter.constructorNameAsVariable false
set_option maxRecDepth 100000

theorem s3 : step 3 211 259 276 331 = true := by kernel_rfl
theorem s4 : step 4 276 331 348 410 = true := by kernel_rfl
theorem s11 : step 11 927 1031 1048 1159 = true := by kernel_rfl
theorem s12 : step 12 1048 1159 1176 1294 = true := by kernel_rfl
theorem s19 : step 19 2091 2251 2268 2435 = true := by kernel_rfl
theorem s20 : step 20 2268 2435 2452 2626 = true := by kernel_rfl
theorem s27 : step 27 3703 3919 3936 4159 = true := by kernel_rfl
theorem s28 : step 28 3936 4159 4176 4406 = true := by kernel_rfl
theorem s35 : step 35 5763 6035 6052 6331 = true := by kernel_rfl
theorem s36 : step 36 6052 6331 6348 6634 = true := by kernel_rfl
theorem s43 : step 43 8271 8599 8616 8951 = true := by kernel_rfl
theorem s44 : step 44 8616 8951 8968 9310 = true := by kernel_rfl
theorem s51 : step 51 11227 11611 11628 12019 = true := by kernel_rfl
theorem s52 : step 52 11628 12019 12036 12434 = true := by kernel_rfl
theorem s59 : step 59 14631 15071 15088 15535 = true := by kernel_rfl
theorem s60 : step 60 15088 15535 15552 16006 = true := by kernel_rfl
end Go.Proofs.YtanfkimchoeckaaGreat.Ins
