/- OpMembers: runs. No condition. -/
import Derived.Test.YtanfkimchoeckaaGreatOmB
namespace Go.Proofs.YtanfkimchoeckaaGreat.Mem
open Go Vx
set_option linter.unusedVariables false
set_option linter.constructorNameAsVariable false
set_option maxRecDepth 100000

theorem m2true : G (fsM 2) true = true := by kernel_rfl
theorem k6true : G (fs0 6) true = true := by kernel_rfl
theorem k0false : G (fs0 0) false = true := by kernel_rfl
theorem k3false : G (fs0 3) false = true := by kernel_rfl
theorem k7false : G (fs0 7) false = true := by kernel_rfl
end Go.Proofs.YtanfkimchoeckaaGreat.Mem
