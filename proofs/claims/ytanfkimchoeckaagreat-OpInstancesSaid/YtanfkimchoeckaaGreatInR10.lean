/- OpInstances: a run. No condition. -/
import Derived.Test.YtanfkimchoeckaaGreatInB
namespace Go.Proofs.YtanfkimchoeckaaGreat.Ins
open Go Vx
set_option linter.unusedVariables false
set_option linter.constructorNameAsVariable false
set_option maxRecDepth 100000

theorem r10 : G (54) 56 = true := by kernel_rfl
end Go.Proofs.YtanfkimchoeckaaGreat.Ins
