/- OpMembers: runs. No condition. -/
import Derived.Test.YtanfkimchoeckaaGreatOmB
namespace Go.Proofs.YtanfkimchoeckaaGreat.Mem
open Go Vx
set_option linter.unusedVariables false
set_option linter.constructorNameAsVariable false
set_option maxRecDepth 100000

theorem k0true : G (fs0 0) true = true := by kernel_rfl
theorem k3true : G (fs0 3) true = true := by kernel_rfl
theorem k7true : G (fs0 7) true = true := by kernel_rfl
theorem k1false : G (fs0 1) false = true := by kernel_rfl
theorem k4false : G (fs0 4) false = true := by kernel_rfl
theorem k8false : G (fs0 8) false = true := by kernel_rfl
end Go.Proofs.YtanfkimchoeckaaGreat.Mem
