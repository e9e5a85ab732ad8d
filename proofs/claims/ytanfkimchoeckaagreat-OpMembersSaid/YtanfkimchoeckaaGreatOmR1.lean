/- OpMembers: runs. No condition. -/
import Derived.Test.YtanfkimchoeckaaGreatOmB
namespace Go.Proofs.YtanfkimchoeckaaGreat.Mem
open Go Vx
set_option linter.unusedVariables false
set_option linter.constructorNameAsVariable false
set_option maxRecDepth 100000

theorem k1true : G (fs0 1) true = true := by kernel_rfl
theorem k4true : G (fs0 4) true = true := by kernel_rfl
theorem k8true : G (fs0 8) true = true := by kernel_rfl
theorem n2false : G (fsN 2) false = true := by kernel_rfl
theorem k5false : G (fs0 5) false = true := by kernel_rfl
theorem bfalse : G (fsB) false = true := by kernel_rfl
end Go.Proofs.YtanfkimchoeckaaGreat.Mem
