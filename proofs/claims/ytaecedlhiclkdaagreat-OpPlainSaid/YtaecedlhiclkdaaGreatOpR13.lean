/- OpPlain: runs. No condition. -/
import Derived.Test.YtaecedlhiclkdaaGreatOpB
namespace Go.Proofs.YtaecedlhiclkdaaGreat.Opl
open Go Vx Con
set_option linter.unusedVariables false
set_option linter.constructorNameAsVariable false
set_option maxRecDepth 100000

theorem f4_2 : first 34 4 2 = true := by kernel_rfl
theorem r4_2_0 : round 34 4 2 0 = true := by kernel_rfl
theorem r4_2_1 : round 34 4 2 1 = true := by kernel_rfl
theorem r4_2_2 : round 34 4 2 2 = true := by kernel_rfl
theorem r4_2_3 : round 34 4 2 3 = true := by kernel_rfl
theorem r4_2_4 : round 34 4 2 4 = true := by kernel_rfl
theorem r4_2_5 : round 34 4 2 5 = true := by kernel_rfl
theorem r4_2_6 : round 34 4 2 6 = true := by kernel_rfl
theorem r4_2_7 : round 34 4 2 7 = true := by kernel_rfl
theorem r4_2_8 : round 34 4 2 8 = true := by kernel_rfl
theorem r4_2_9 : round 34 4 2 9 = true := by kernel_rfl
theorem r4_2_10 : round 34 4 2 10 = true := by kernel_rfl
theorem r4_2_11 : round 34 4 2 11 = true := by kernel_rfl
theorem r4_2_12 : round 34 4 2 12 = true := by kernel_rfl
theorem r4_2_13 : round 34 4 2 13 = true := by kernel_rfl
theorem r4_2_14 : round 34 4 2 14 = true := by kernel_rfl
theorem r4_2_15 : round 34 4 2 15 = true := by kernel_rfl
theorem r4_2_16 : round 34 4 2 16 = true := by kernel_rfl
theorem r4_2_17 : round 34 4 2 17 = true := by kernel_rfl
theorem r4_2_18 : round 34 4 2 18 = true := by kernel_rfl
theorem r4_2_19 : round 34 4 2 19 = true := by kernel_rfl
theorem l4_2_0 : last ([fN (.sy 6) false]) 34 4 2 = true := by kernel_rfl
theorem l4_2_1 : last ([fN (.sy 6) true] ++ fE (.sy 6) (cst 2) false true false) 34 4 2 = true := by kernel_rfl
theorem l4_2_2 : last ([fN (.sy 6) true] ++ fE (.sy 6) (cst 2) true false false) 34 4 2 = true := by kernel_rfl
theorem l4_2_3 : last ([fN (.sy 6) true] ++ fE (.sy 6) (cst 2) false false true) 34 4 2 = true := by kernel_rfl
theorem f0_5 : first 34 0 5 = true := by kernel_rfl
theorem r0_5_0 : round 34 0 5 0 = true := by kernel_rfl
theorem r0_5_1 : round 34 0 5 1 = true := by kernel_rfl
theorem r0_5_2 : round 34 0 5 2 = true := by kernel_rfl
theorem r0_5_3 : round 34 0 5 3 = true := by kernel_rfl
theorem r0_5_4 : round 34 0 5 4 = true := by kernel_rfl
theorem r0_5_5 : round 34 0 5 5 = true := by kernel_rfl
theorem r0_5_6 : round 34 0 5 6 = true := by kernel_rfl
theorem r0_5_7 : round 34 0 5 7 = true := by kernel_rfl
theorem r0_5_8 : round 34 0 5 8 = true := by kernel_rfl
theorem r0_5_9 : round 34 0 5 9 = true := by kernel_rfl
theorem r0_5_10 : round 34 0 5 10 = true := by kernel_rfl
theorem r0_5_11 : round 34 0 5 11 = true := by kernel_rfl
theorem r0_5_12 : round 34 0 5 12 = true := by kernel_rfl
theorem r0_5_13 : round 34 0 5 13 = true := by kernel_rfl
theorem r0_5_14 : round 34 0 5 14 = true := by kernel_rfl
theorem r0_5_15 : round 34 0 5 15 = true := by kernel_rfl
theorem r0_5_16 : round 34 0 5 16 = true := by kernel_rfl
theorem r0_5_17 : round 34 0 5 17 = true := by kernel_rfl
theorem r0_5_18 : round 34 0 5 18 = true := by kernel_rfl
theorem r0_5_19 : round 34 0 5 19 = true := by kernel_rfl
theorem l0_5_0 : last ([]) 34 0 5 = true := by kernel_rfl
theorem f3_6 : first 34 3 6 = true := by kernel_rfl
theorem r3_6_0 : round 34 3 6 0 = true := by kernel_rfl
theorem r3_6_1 : round 34 3 6 1 = true := by kernel_rfl
theorem r3_6_2 : round 34 3 6 2 = true := by kernel_rfl
theorem r3_6_3 : round 34 3 6 3 = true := by kernel_rfl
theorem r3_6_4 : round 34 3 6 4 = true := by kernel_rfl
theorem r3_6_5 : round 34 3 6 5 = true := by kernel_rfl
theorem r3_6_6 : round 34 3 6 6 = true := by kernel_rfl
theorem r3_6_7 : round 34 3 6 7 = true := by kernel_rfl
theorem r3_6_8 : round 34 3 6 8 = true := by kernel_rfl
theorem r3_6_9 : round 34 3 6 9 = true := by kernel_rfl
theorem r3_6_10 : round 34 3 6 10 = true := by kernel_rfl
theorem r3_6_11 : round 34 3 6 11 = true := by kernel_rfl
theorem r3_6_12 : round 34 3 6 12 = true := by kernel_rfl
theorem r3_6_13 : round 34 3 6 13 = true := by kernel_rfl
theorem r3_6_14 : round 34 3 6 14 = true := by kernel_rfl
theorem r3_6_15 : round 34 3 6 15 = true := by kernel_rfl
theorem r3_6_16 : round 34 3 6 16 = true := by kernel_rfl
theorem r3_6_17 : round 34 3 6 17 = true := by kernel_rfl
theorem r3_6_18 : round 34 3 6 18 = true := by kernel_rfl
theorem l3_6_0 : last ([]) 34 3 6 = true := by kernel_rfl
end Go.Proofs.YtaecedlhiclkdaaGreat.Opl
