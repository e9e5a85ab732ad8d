/- OpPlain: runs. No condition. -/
import Derived.Test.YtaecedlhiclkdaaGreatOpB
namespace Go.Proofs.YtaecedlhiclkdaaGreat.Opl
open Go Vx Con
set_option linter.unusedVariables false
set_option linter.constructorNameAsVariable false
set_option maxRecDepth 100000

theorem f4_1 : first 34 4 1 = true := by kernel_rfl
theorem r4_1_0 : round 34 4 1 0 = true := by kernel_rfl
theorem r4_1_1 : round 34 4 1 1 = true := by kernel_rfl
theorem r4_1_2 : round 34 4 1 2 = true := by kernel_rfl
theorem r4_1_3 : round 34 4 1 3 = true := by kernel_rfl
theorem r4_1_4 : round 34 4 1 4 = true := by kernel_rfl
theorem r4_1_5 : round 34 4 1 5 = true := by kernel_rfl
theorem r4_1_6 : round 34 4 1 6 = true := by kernel_rfl
theorem r4_1_7 : round 34 4 1 7 = true := by kernel_rfl
theorem r4_1_8 : round 34 4 1 8 = true := by kernel_rfl
theorem r4_1_9 : round 34 4 1 9 = true := by kernel_rfl
theorem r4_1_10 : round 34 4 1 10 = true := by kernel_rfl
theorem r4_1_11 : round 34 4 1 11 = true := by kernel_rfl
theorem r4_1_12 : round 34 4 1 12 = true := by kernel_rfl
theorem r4_1_13 : round 34 4 1 13 = true := by kernel_rfl
theorem r4_1_14 : round 34 4 1 14 = true := by kernel_rfl
theorem r4_1_15 : round 34 4 1 15 = true := by kernel_rfl
theorem r4_1_16 : round 34 4 1 16 = true := by kernel_rfl
theorem r4_1_17 : round 34 4 1 17 = true := by kernel_rfl
theorem r4_1_18 : round 34 4 1 18 = true := by kernel_rfl
theorem r4_1_19 : round 34 4 1 19 = true := by kernel_rfl
theorem l4_1_0 : last ([fN (.sy 6) false]) 34 4 1 = true := by kernel_rfl
theorem l4_1_1 : last ([fN (.sy 6) true] ++ fE (.sy 6) (cst 1) false true false) 34 4 1 = true := by kernel_rfl
theorem l4_1_2 : last ([fN (.sy 6) true] ++ fE (.sy 6) (cst 1) true false false) 34 4 1 = true := by kernel_rfl
theorem l4_1_3 : last ([fN (.sy 6) true] ++ fE (.sy 6) (cst 1) false false true) 34 4 1 = true := by kernel_rfl
theorem f0_4 : first 34 0 4 = true := by kernel_rfl
theorem r0_4_0 : round 34 0 4 0 = true := by kernel_rfl
theorem r0_4_1 : round 34 0 4 1 = true := by kernel_rfl
theorem r0_4_2 : round 34 0 4 2 = true := by kernel_rfl
theorem r0_4_3 : round 34 0 4 3 = true := by kernel_rfl
theorem r0_4_4 : round 34 0 4 4 = true := by kernel_rfl
theorem r0_4_5 : round 34 0 4 5 = true := by kernel_rfl
theorem r0_4_6 : round 34 0 4 6 = true := by kernel_rfl
theorem r0_4_7 : round 34 0 4 7 = true := by kernel_rfl
theorem r0_4_8 : round 34 0 4 8 = true := by kernel_rfl
theorem r0_4_9 : round 34 0 4 9 = true := by kernel_rfl
theorem r0_4_10 : round 34 0 4 10 = true := by kernel_rfl
theorem r0_4_11 : round 34 0 4 11 = true := by kernel_rfl
theorem r0_4_12 : round 34 0 4 12 = true := by kernel_rfl
theorem r0_4_13 : round 34 0 4 13 = true := by kernel_rfl
theorem r0_4_14 : round 34 0 4 14 = true := by kernel_rfl
theorem r0_4_15 : round 34 0 4 15 = true := by kernel_rfl
theorem r0_4_16 : round 34 0 4 16 = true := by kernel_rfl
theorem r0_4_17 : round 34 0 4 17 = true := by kernel_rfl
theorem r0_4_18 : round 34 0 4 18 = true := by kernel_rfl
theorem r0_4_19 : round 34 0 4 19 = true := by kernel_rfl
theorem l0_4_0 : last ([]) 34 0 4 = true := by kernel_rfl
theorem f3_3 : first 36 3 3 = true := by kernel_rfl
theorem r3_3_0 : round 36 3 3 0 = true := by kernel_rfl
theorem r3_3_1 : round 36 3 3 1 = true := by kernel_rfl
theorem r3_3_2 : round 36 3 3 2 = true := by kernel_rfl
theorem r3_3_3 : round 36 3 3 3 = true := by kernel_rfl
theorem r3_3_4 : round 36 3 3 4 = true := by kernel_rfl
theorem r3_3_5 : round 36 3 3 5 = true := by kernel_rfl
theorem r3_3_6 : round 36 3 3 6 = true := by kernel_rfl
theorem r3_3_7 : round 36 3 3 7 = true := by kernel_rfl
theorem r3_3_8 : round 36 3 3 8 = true := by kernel_rfl
theorem r3_3_9 : round 36 3 3 9 = true := by kernel_rfl
theorem r3_3_10 : round 36 3 3 10 = true := by kernel_rfl
theorem r3_3_11 : round 36 3 3 11 = true := by kernel_rfl
theorem r3_3_12 : round 36 3 3 12 = true := by kernel_rfl
theorem r3_3_13 : round 36 3 3 13 = true := by kernel_rfl
theorem r3_3_14 : round 36 3 3 14 = true := by kernel_rfl
theorem r3_3_15 : round 36 3 3 15 = true := by kernel_rfl
theorem r3_3_16 : round 36 3 3 16 = true := by kernel_rfl
theorem r3_3_17 : round 36 3 3 17 = true := by kernel_rfl
theorem r3_3_18 : round 36 3 3 18 = true := by kernel_rfl
theorem r3_3_19 : round 36 3 3 19 = true := by kernel_rfl
theorem l3_3_0 : last ([]) 36 3 3 = true := by kernel_rfl
end Go.Proofs.YtaecedlhiclkdaaGreat.Opl
