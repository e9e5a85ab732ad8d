/- OpPlain: runs. No condition. -/
import Derived.Test.YtaecedlhiclkdaaGreatOpB
namespace Go.Proofs.YtaecedlhiclkdaaGreat.Opl
open Go Vx Con
set_option linter.unusedVariables false
set_option linter.constructorNameAsVariable false
set_option maxRecDepth 100000

theorem f5_5 : first 32 5 5 = true := by kernel_rfl
theorem r5_5_0 : round 32 5 5 0 = true := by kernel_rfl
theorem r5_5_1 : round 32 5 5 1 = true := by kernel_rfl
theorem r5_5_2 : round 32 5 5 2 = true := by kernel_rfl
theorem r5_5_3 : round 32 5 5 3 = true := by kernel_rfl
theorem r5_5_4 : round 32 5 5 4 = true := by kernel_rfl
theorem r5_5_5 : round 32 5 5 5 = true := by kernel_rfl
theorem r5_5_6 : round 32 5 5 6 = true := by kernel_rfl
theorem r5_5_7 : round 32 5 5 7 = true := by kernel_rfl
theorem r5_5_8 : round 32 5 5 8 = true := by kernel_rfl
theorem r5_5_9 : round 32 5 5 9 = true := by kernel_rfl
theorem r5_5_10 : round 32 5 5 10 = true := by kernel_rfl
theorem r5_5_11 : round 32 5 5 11 = true := by kernel_rfl
theorem r5_5_12 : round 32 5 5 12 = true := by kernel_rfl
theorem r5_5_13 : round 32 5 5 13 = true := by kernel_rfl
theorem r5_5_14 : round 32 5 5 14 = true := by kernel_rfl
theorem r5_5_15 : round 32 5 5 15 = true := by kernel_rfl
theorem r5_5_16 : round 32 5 5 16 = true := by kernel_rfl
theorem r5_5_17 : round 32 5 5 17 = true := by kernel_rfl
theorem r5_5_18 : round 32 5 5 18 = true := by kernel_rfl
theorem r5_5_19 : round 32 5 5 19 = true := by kernel_rfl
theorem l5_5_0 : last (fE (.sy 6) (.sy 7) false true false) 32 5 5 = true := by kernel_rfl
theorem l5_5_1 : last (fE (.sy 6) (.sy 7) true false false) 32 5 5 = true := by kernel_rfl
theorem l5_5_2 : last (fE (.sy 6) (.sy 7) false false true) 32 5 5 = true := by kernel_rfl
theorem f0_0 : first 36 0 0 = true := by kernel_rfl
theorem r0_0_0 : round 36 0 0 0 = true := by kernel_rfl
theorem r0_0_1 : round 36 0 0 1 = true := by kernel_rfl
theorem r0_0_2 : round 36 0 0 2 = true := by kernel_rfl
theorem r0_0_3 : round 36 0 0 3 = true := by kernel_rfl
theorem r0_0_4 : round 36 0 0 4 = true := by kernel_rfl
theorem r0_0_5 : round 36 0 0 5 = true := by kernel_rfl
theorem r0_0_6 : round 36 0 0 6 = true := by kernel_rfl
theorem r0_0_7 : round 36 0 0 7 = true := by kernel_rfl
theorem r0_0_8 : round 36 0 0 8 = true := by kernel_rfl
theorem r0_0_9 : round 36 0 0 9 = true := by kernel_rfl
theorem r0_0_10 : round 36 0 0 10 = true := by kernel_rfl
theorem r0_0_11 : round 36 0 0 11 = true := by kernel_rfl
theorem r0_0_12 : round 36 0 0 12 = true := by kernel_rfl
theorem r0_0_13 : round 36 0 0 13 = true := by kernel_rfl
theorem r0_0_14 : round 36 0 0 14 = true := by kernel_rfl
theorem r0_0_15 : round 36 0 0 15 = true := by kernel_rfl
theorem r0_0_16 : round 36 0 0 16 = true := by kernel_rfl
theorem r0_0_17 : round 36 0 0 17 = true := by kernel_rfl
theorem r0_0_18 : round 36 0 0 18 = true := by kernel_rfl
theorem r0_0_19 : round 36 0 0 19 = true := by kernel_rfl
theorem l0_0_0 : last ([]) 36 0 0 = true := by kernel_rfl
theorem f2_6 : first 34 2 6 = true := by kernel_rfl
theorem r2_6_0 : round 34 2 6 0 = true := by kernel_rfl
theorem r2_6_1 : round 34 2 6 1 = true := by kernel_rfl
theorem r2_6_2 : round 34 2 6 2 = true := by kernel_rfl
theorem r2_6_3 : round 34 2 6 3 = true := by kernel_rfl
theorem r2_6_4 : round 34 2 6 4 = true := by kernel_rfl
theorem r2_6_5 : round 34 2 6 5 = true := by kernel_rfl
theorem r2_6_6 : round 34 2 6 6 = true := by kernel_rfl
theorem r2_6_7 : round 34 2 6 7 = true := by kernel_rfl
theorem r2_6_8 : round 34 2 6 8 = true := by kernel_rfl
theorem r2_6_9 : round 34 2 6 9 = true := by kernel_rfl
theorem r2_6_10 : round 34 2 6 10 = true := by kernel_rfl
theorem r2_6_11 : round 34 2 6 11 = true := by kernel_rfl
theorem r2_6_12 : round 34 2 6 12 = true := by kernel_rfl
theorem r2_6_13 : round 34 2 6 13 = true := by kernel_rfl
theorem r2_6_14 : round 34 2 6 14 = true := by kernel_rfl
theorem r2_6_15 : round 34 2 6 15 = true := by kernel_rfl
theorem r2_6_16 : round 34 2 6 16 = true := by kernel_rfl
theorem r2_6_17 : round 34 2 6 17 = true := by kernel_rfl
theorem r2_6_18 : round 34 2 6 18 = true := by kernel_rfl
theorem l2_6_0 : last ([]) 34 2 6 = true := by kernel_rfl
theorem f6_6 : first 32 6 6 = true := by kernel_rfl
theorem r6_6_0 : round 32 6 6 0 = true := by kernel_rfl
theorem r6_6_1 : round 32 6 6 1 = true := by kernel_rfl
theorem r6_6_2 : round 32 6 6 2 = true := by kernel_rfl
theorem r6_6_3 : round 32 6 6 3 = true := by kernel_rfl
theorem r6_6_4 : round 32 6 6 4 = true := by kernel_rfl
theorem r6_6_5 : round 32 6 6 5 = true := by kernel_rfl
theorem r6_6_6 : round 32 6 6 6 = true := by kernel_rfl
theorem r6_6_7 : round 32 6 6 7 = true := by kernel_rfl
theorem r6_6_8 : round 32 6 6 8 = true := by kernel_rfl
theorem r6_6_9 : round 32 6 6 9 = true := by kernel_rfl
theorem r6_6_10 : round 32 6 6 10 = true := by kernel_rfl
theorem r6_6_11 : round 32 6 6 11 = true := by kernel_rfl
theorem r6_6_12 : round 32 6 6 12 = true := by kernel_rfl
theorem r6_6_13 : round 32 6 6 13 = true := by kernel_rfl
theorem r6_6_14 : round 32 6 6 14 = true := by kernel_rfl
theorem r6_6_15 : round 32 6 6 15 = true := by kernel_rfl
theorem r6_6_16 : round 32 6 6 16 = true := by kernel_rfl
theorem r6_6_17 : round 32 6 6 17 = true := by kernel_rfl
theorem r6_6_18 : round 32 6 6 18 = true := by kernel_rfl
theorem l6_6_0 : last ([]) 32 6 6 = true := by kernel_rfl
end Go.Proofs.YtaecedlhiclkdaaGreat.Opl
