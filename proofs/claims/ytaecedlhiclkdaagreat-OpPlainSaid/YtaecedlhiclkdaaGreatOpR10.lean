/- OpPlain: runs. No condition. -/
import Derived.Test.YtaecedlhiclkdaaGreatOpB
namespace Go.Proofs.YtaecedlhiclkdaaGreat.Opl
open Go Vx Con
set_option linter.unusedVariables false
set_option linter.constructorNameAsVariable false
set_option maxRecDepth 100000

theorem f2_4 : first 34 2 4 = true := by kernel_rfl
theorem r2_4_0 : round 34 2 4 0 = true := by kernel_rfl
theorem r2_4_1 : round 34 2 4 1 = true := by kernel_rfl
theorem r2_4_2 : round 34 2 4 2 = true := by kernel_rfl
theorem r2_4_3 : round 34 2 4 3 = true := by kernel_rfl
theorem r2_4_4 : round 34 2 4 4 = true := by kernel_rfl
theorem r2_4_5 : round 34 2 4 5 = true := by kernel_rfl
theorem r2_4_6 : round 34 2 4 6 = true := by kernel_rfl
theorem r2_4_7 : round 34 2 4 7 = true := by kernel_rfl
theorem r2_4_8 : round 34 2 4 8 = true := by kernel_rfl
theorem r2_4_9 : round 34 2 4 9 = true := by kernel_rfl
theorem r2_4_10 : round 34 2 4 10 = true := by kernel_rfl
theorem r2_4_11 : round 34 2 4 11 = true := by kernel_rfl
theorem r2_4_12 : round 34 2 4 12 = true := by kernel_rfl
theorem r2_4_13 : round 34 2 4 13 = true := by kernel_rfl
theorem r2_4_14 : round 34 2 4 14 = true := by kernel_rfl
theorem r2_4_15 : round 34 2 4 15 = true := by kernel_rfl
theorem r2_4_16 : round 34 2 4 16 = true := by kernel_rfl
theorem r2_4_17 : round 34 2 4 17 = true := by kernel_rfl
theorem r2_4_18 : round 34 2 4 18 = true := by kernel_rfl
theorem r2_4_19 : round 34 2 4 19 = true := by kernel_rfl
theorem l2_4_0 : last ([fN (.sy 7) false]) 34 2 4 = true := by kernel_rfl
theorem l2_4_1 : last ([fN (.sy 7) true] ++ fE (cst 2) (.sy 7) false true false) 34 2 4 = true := by kernel_rfl
theorem l2_4_2 : last ([fN (.sy 7) true] ++ fE (cst 2) (.sy 7) true false false) 34 2 4 = true := by kernel_rfl
theorem l2_4_3 : last ([fN (.sy 7) true] ++ fE (cst 2) (.sy 7) false false true) 34 2 4 = true := by kernel_rfl
theorem f0_2 : first 36 0 2 = true := by kernel_rfl
theorem r0_2_0 : round 36 0 2 0 = true := by kernel_rfl
theorem r0_2_1 : round 36 0 2 1 = true := by kernel_rfl
theorem r0_2_2 : round 36 0 2 2 = true := by kernel_rfl
theorem r0_2_3 : round 36 0 2 3 = true := by kernel_rfl
theorem r0_2_4 : round 36 0 2 4 = true := by kernel_rfl
theorem r0_2_5 : round 36 0 2 5 = true := by kernel_rfl
theorem r0_2_6 : round 36 0 2 6 = true := by kernel_rfl
theorem r0_2_7 : round 36 0 2 7 = true := by kernel_rfl
theorem r0_2_8 : round 36 0 2 8 = true := by kernel_rfl
theorem r0_2_9 : round 36 0 2 9 = true := by kernel_rfl
theorem r0_2_10 : round 36 0 2 10 = true := by kernel_rfl
theorem r0_2_11 : round 36 0 2 11 = true := by kernel_rfl
theorem r0_2_12 : round 36 0 2 12 = true := by kernel_rfl
theorem r0_2_13 : round 36 0 2 13 = true := by kernel_rfl
theorem r0_2_14 : round 36 0 2 14 = true := by kernel_rfl
theorem r0_2_15 : round 36 0 2 15 = true := by kernel_rfl
theorem r0_2_16 : round 36 0 2 16 = true := by kernel_rfl
theorem r0_2_17 : round 36 0 2 17 = true := by kernel_rfl
theorem r0_2_18 : round 36 0 2 18 = true := by kernel_rfl
theorem r0_2_19 : round 36 0 2 19 = true := by kernel_rfl
theorem l0_2_0 : last ([]) 36 0 2 = true := by kernel_rfl
theorem f3_1 : first 36 3 1 = true := by kernel_rfl
theorem r3_1_0 : round 36 3 1 0 = true := by kernel_rfl
theorem r3_1_1 : round 36 3 1 1 = true := by kernel_rfl
theorem r3_1_2 : round 36 3 1 2 = true := by kernel_rfl
theorem r3_1_3 : round 36 3 1 3 = true := by kernel_rfl
theorem r3_1_4 : round 36 3 1 4 = true := by kernel_rfl
theorem r3_1_5 : round 36 3 1 5 = true := by kernel_rfl
theorem r3_1_6 : round 36 3 1 6 = true := by kernel_rfl
theorem r3_1_7 : round 36 3 1 7 = true := by kernel_rfl
theorem r3_1_8 : round 36 3 1 8 = true := by kernel_rfl
theorem r3_1_9 : round 36 3 1 9 = true := by kernel_rfl
theorem r3_1_10 : round 36 3 1 10 = true := by kernel_rfl
theorem r3_1_11 : round 36 3 1 11 = true := by kernel_rfl
theorem r3_1_12 : round 36 3 1 12 = true := by kernel_rfl
theorem r3_1_13 : round 36 3 1 13 = true := by kernel_rfl
theorem r3_1_14 : round 36 3 1 14 = true := by kernel_rfl
theorem r3_1_15 : round 36 3 1 15 = true := by kernel_rfl
theorem r3_1_16 : round 36 3 1 16 = true := by kernel_rfl
theorem r3_1_17 : round 36 3 1 17 = true := by kernel_rfl
theorem r3_1_18 : round 36 3 1 18 = true := by kernel_rfl
theorem r3_1_19 : round 36 3 1 19 = true := by kernel_rfl
theorem l3_1_0 : last ([]) 36 3 1 = true := by kernel_rfl
end Go.Proofs.YtaecedlhiclkdaaGreat.Opl
