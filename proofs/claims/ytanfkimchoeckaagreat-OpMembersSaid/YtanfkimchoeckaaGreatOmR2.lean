/- OpMembers: runs. No condition. -/
import Derived.Test.YtanfkimchoeckaaGreatOmB
namespace Go.Proofs.YtanfkimchoeckaaGreat.Mem
open Go Vx
set_option linter.unusedVariables false
set_option linter.constructorNameAsVariable false
set_option maxRecDepth 100000

theorem n2true : G (fsN 2) true = true := by kernel_rfl
theorem k5true : G (fs0 5) true = true := by kernel_rfl
theorem btrue : G (fsB) true = true := by kernel_rfl
theorem m2false : G (fsM 2) false = true := by kernel_rfl
theorem k6false : G (fs0 6) false = true := by kernel_rfl
end Go.Proofs.YtanfkimchoeckaaGreat.Mem
