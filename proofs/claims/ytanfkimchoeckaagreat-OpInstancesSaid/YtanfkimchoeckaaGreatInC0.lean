/- OpInstances: the loop's calls. No condition. -/
import Derived.Test.YtanfkimchoeckaaGreatInB
namespace Go.Proofs.YtanfkimchoeckaaGreat.Ins
open Go Vx
set_option linter.unusedVariables false
set_option linter.constructorNameAsVariable false
set_option maxRecDepth 100000

theorem s0 : step 0 58 85 102 136 = true := by kernel_rfl
theorem s7 : step 7 513 589 606 689 = true := by kernel_rfl
theorem s8 : step 8 606 689 706 796 = true := by kernel_rfl
theorem s15 : step 15 1453 1585 1602 1741 = true := by kernel_rfl
theorem s16 : step 16 1602 1741 1758 1904 = true := by kernel_rfl
theorem s23 : step 23 2841 3029 3046 3241 = true := by kernel_rfl
theorem s24 : step 24 3046 3241 3258 3460 = true := by kernel_rfl
theorem s31 : step 31 4677 4921 4938 5189 = true := by kernel_rfl
theorem s32 : step 32 4938 5189 5206 5464 = true := by kernel_rfl
theorem s39 : step 39 6961 7261 7278 7585 = true := by kernel_rfl
theorem s40 : step 40 7278 7585 7602 7916 = true := by kernel_rfl
theorem s47 : step 47 9693 10049 10066 10429 = true := by kernel_rfl
theorem s48 : step 48 10066 10429 10446 10816 = true := by kernel_rfl
theorem s55 : step 55 12873 13285 13302 13721 = true := by kernel_rfl
theorem s56 : step 56 13302 13721 13738 14164 = true := by kernel_rfl
theorem aliveRan : run (fun _ => none) 40 7 [] (T.full .gone 20) 1 (fun v _ _ => match v with | .b y => (y == true) | _ => false) = true := by kernel_rfl
end Go.Proofs.YtanfkimchoeckaaGreat.Ins
