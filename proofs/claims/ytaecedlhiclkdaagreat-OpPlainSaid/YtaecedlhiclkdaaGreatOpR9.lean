/- OpPlain: runs. No condition. -/
import Derived.Test.YtaecedlhiclkdaaGreatOpB
namespace Go.Proofs.YtaecedlhiclkdaaGreat.Opl
open Go Vx Con
set_option linter.unusedVariables false
set_option linter.constructorNameAsVariable false
set_option maxRecDepth 100000

theorem f1_4 : first 34 1 4 = true := by kernel_rfl
theorem r1_4_0 : round 34 1 4 0 = true := by kernel_rfl
theorem r1_4_1 : round 34 1 4 1 = true := by kernel_rfl
theorem r1_4_2 : round 34 1 4 2 = true := by kernel_rfl
theorem r1_4_3 : round 34 1 4 3 = true := by kernel_rfl
theorem r1_4_4 : round 34 1 4 4 = true := by kernel_rfl
theorem r1_4_5 : round 34 1 4 5 = true := by kernel_rfl
theorem r1_4_6 : round 34 1 4 6 = true := by kernel_rfl
theorem r1_4_7 : round 34 1 4 7 = true := by kernel_rfl
theorem r1_4_8 : round 34 1 4 8 = true := by kernel_rfl
theorem r1_4_9 : round 34 1 4 9 = true := by kernel_rfl
theorem r1_4_10 : round 34 1 4 10 = true := by kernel_rfl
theorem r1_4_11 : round 34 1 4 11 = true := by kernel_rfl
theorem r1_4_12 : round 34 1 4 12 = true := by kernel_rfl
theorem r1_4_13 : round 34 1 4 13 = true := by kernel_rfl
theorem r1_4_14 : round 34 1 4 14 = true := by kernel_rfl
theorem r1_4_15 : round 34 1 4 15 = true := by kernel_rfl
theorem r1_4_16 : round 34 1 4 16 = true := by kernel_rfl
theorem r1_4_17 : round 34 1 4 17 = true := by kernel_rfl
theorem r1_4_18 : round 34 1 4 18 = true := by kernel_rfl
theorem r1_4_19 : round 34 1 4 19 = true := by kernel_rfl
theorem l1_4_0 : last ([fN (.sy 7) false]) 34 1 4 = true := by kernel_rfl
theorem l1_4_1 : last ([fN (.sy 7) true] ++ fE (cst 1) (.sy 7) false true false) 34 1 4 = true := by kernel_rfl
theorem l1_4_2 : last ([fN (.sy 7) true] ++ fE (cst 1) (.sy 7) true false false) 34 1 4 = true := by kernel_rfl
theorem l1_4_3 : last ([fN (.sy 7) true] ++ fE (cst 1) (.sy 7) false false true) 34 1 4 = true := by kernel_rfl
theorem f0_1 : first 36 0 1 = true := by kernel_rfl
theorem r0_1_0 : round 36 0 1 0 = true := by kernel_rfl
theorem r0_1_1 : round 36 0 1 1 = true := by kernel_rfl
theorem r0_1_2 : round 36 0 1 2 = true := by kernel_rfl
theorem r0_1_3 : round 36 0 1 3 = true := by kernel_rfl
theorem r0_1_4 : round 36 0 1 4 = true := by kernel_rfl
theorem r0_1_5 : round 36 0 1 5 = true := by kernel_rfl
theorem r0_1_6 : round 36 0 1 6 = true := by kernel_rfl
theorem r0_1_7 : round 36 0 1 7 = true := by kernel_rfl
theorem r0_1_8 : round 36 0 1 8 = true := by kernel_rfl
theorem r0_1_9 : round 36 0 1 9 = true := by kernel_rfl
theorem r0_1_10 : round 36 0 1 10 = true := by kernel_rfl
theorem r0_1_11 : round 36 0 1 11 = true := by kernel_rfl
theorem r0_1_12 : round 36 0 1 12 = true := by kernel_rfl
theorem r0_1_13 : round 36 0 1 13 = true := by kernel_rfl
theorem r0_1_14 : round 36 0 1 14 = true := by kernel_rfl
theorem r0_1_15 : round 36 0 1 15 = true := by kernel_rfl
theorem r0_1_16 : round 36 0 1 16 = true := by kernel_rfl
theorem r0_1_17 : round 36 0 1 17 = true := by kernel_rfl
theorem r0_1_18 : round 36 0 1 18 = true := by kernel_rfl
theorem r0_1_19 : round 36 0 1 19 = true := by kernel_rfl
theorem l0_1_0 : last ([]) 36 0 1 = true := by kernel_rfl
theorem f3_0 : first 36 3 0 = true := by kernel_rfl
theorem r3_0_0 : round 36 3 0 0 = true := by kernel_rfl
theorem r3_0_1 : round 36 3 0 1 = true := by kernel_rfl
theorem r3_0_2 : round 36 3 0 2 = true := by kernel_rfl
theorem r3_0_3 : round 36 3 0 3 = true := by kernel_rfl
theorem r3_0_4 : round 36 3 0 4 = true := by kernel_rfl
theorem r3_0_5 : round 36 3 0 5 = true := by kernel_rfl
theorem r3_0_6 : round 36 3 0 6 = true := by kernel_rfl
theorem r3_0_7 : round 36 3 0 7 = true := by kernel_rfl
theorem r3_0_8 : round 36 3 0 8 = true := by kernel_rfl
theorem r3_0_9 : round 36 3 0 9 = true := by kernel_rfl
theorem r3_0_10 : round 36 3 0 10 = true := by kernel_rfl
theorem r3_0_11 : round 36 3 0 11 = true := by kernel_rfl
theorem r3_0_12 : round 36 3 0 12 = true := by kernel_rfl
theorem r3_0_13 : round 36 3 0 13 = true := by kernel_rfl
theorem r3_0_14 : round 36 3 0 14 = true := by kernel_rfl
theorem r3_0_15 : round 36 3 0 15 = true := by kernel_rfl
theorem r3_0_16 : round 36 3 0 16 = true := by kernel_rfl
theorem r3_0_17 : round 36 3 0 17 = true := by kernel_rfl
theorem r3_0_18 : round 36 3 0 18 = true := by kernel_rfl
theorem r3_0_19 : round 36 3 0 19 = true := by kernel_rfl
theorem l3_0_0 : last ([]) 36 3 0 = true := by kernel_rfl
end Go.Proofs.YtaecedlhiclkdaaGreat.Opl
