/- OpPlain: runs. No condition. -/
import Derived.Test.YtaecedlhiclkdaaGreatOpB
namespace Go.Proofs.YtaecedlhiclkdaaGreat.Opl
open Go Vx Con
set_option linter.unusedVariables false
set_option linter.constructorNameAsVariable false
set_option maxRecDepth 100000

theorem f4_3 : first 34 4 3 = true := by kernel_rfl
theorem r4_3_0 : round 34 4 3 0 = true := by kernel_rfl
theorem r4_3_1 : round 34 4 3 1 = true := by kernel_rfl
theorem r4_3_2 : round 34 4 3 2 = true := by kernel_rfl
theorem r4_3_3 : round 34 4 3 3 = true := by kernel_rfl
theorem r4_3_4 : round 34 4 3 4 = true := by kernel_rfl
theorem r4_3_5 : round 34 4 3 5 = true := by kernel_rfl
theorem r4_3_6 : round 34 4 3 6 = true := by kernel_rfl
theorem r4_3_7 : round 34 4 3 7 = true := by kernel_rfl
theorem r4_3_8 : round 34 4 3 8 = true := by kernel_rfl
theorem r4_3_9 : round 34 4 3 9 = true := by kernel_rfl
theorem r4_3_10 : round 34 4 3 10 = true := by kernel_rfl
theorem r4_3_11 : round 34 4 3 11 = true := by kernel_rfl
theorem r4_3_12 : round 34 4 3 12 = true := by kernel_rfl
theorem r4_3_13 : round 34 4 3 13 = true := by kernel_rfl
theorem r4_3_14 : round 34 4 3 14 = true := by kernel_rfl
theorem r4_3_15 : round 34 4 3 15 = true := by kernel_rfl
theorem r4_3_16 : round 34 4 3 16 = true := by kernel_rfl
theorem r4_3_17 : round 34 4 3 17 = true := by kernel_rfl
theorem r4_3_18 : round 34 4 3 18 = true := by kernel_rfl
theorem r4_3_19 : round 34 4 3 19 = true := by kernel_rfl
theorem l4_3_0 : last ([fN (.sy 6) false]) 34 4 3 = true := by kernel_rfl
theorem l4_3_1 : last ([fN (.sy 6) true] ++ fE (.sy 6) (cst 3) false true false) 34 4 3 = true := by kernel_rfl
theorem l4_3_2 : last ([fN (.sy 6) true] ++ fE (.sy 6) (cst 3) true false false) 34 4 3 = true := by kernel_rfl
theorem l4_3_3 : last ([fN (.sy 6) true] ++ fE (.sy 6) (cst 3) false false true) 34 4 3 = true := by kernel_rfl
theorem f0_6 : first 34 0 6 = true := by kernel_rfl
theorem r0_6_0 : round 34 0 6 0 = true := by kernel_rfl
theorem r0_6_1 : round 34 0 6 1 = true := by kernel_rfl
theorem r0_6_2 : round 34 0 6 2 = true := by kernel_rfl
theorem r0_6_3 : round 34 0 6 3 = true := by kernel_rfl
theorem r0_6_4 : round 34 0 6 4 = true := by kernel_rfl
theorem r0_6_5 : round 34 0 6 5 = true := by kernel_rfl
theorem r0_6_6 : round 34 0 6 6 = true := by kernel_rfl
theorem r0_6_7 : round 34 0 6 7 = true := by kernel_rfl
theorem r0_6_8 : round 34 0 6 8 = true := by kernel_rfl
theorem r0_6_9 : round 34 0 6 9 = true := by kernel_rfl
theorem r0_6_10 : round 34 0 6 10 = true := by kernel_rfl
theorem r0_6_11 : round 34 0 6 11 = true := by kernel_rfl
theorem r0_6_12 : round 34 0 6 12 = true := by kernel_rfl
theorem r0_6_13 : round 34 0 6 13 = true := by kernel_rfl
theorem r0_6_14 : round 34 0 6 14 = true := by kernel_rfl
theorem r0_6_15 : round 34 0 6 15 = true := by kernel_rfl
theorem r0_6_16 : round 34 0 6 16 = true := by kernel_rfl
theorem r0_6_17 : round 34 0 6 17 = true := by kernel_rfl
theorem r0_6_18 : round 34 0 6 18 = true := by kernel_rfl
theorem r0_6_19 : round 34 0 6 19 = true := by kernel_rfl
theorem l0_6_0 : last ([]) 34 0 6 = true := by kernel_rfl
theorem f4_0 : first 34 4 0 = true := by kernel_rfl
theorem r4_0_0 : round 34 4 0 0 = true := by kernel_rfl
theorem r4_0_1 : round 34 4 0 1 = true := by kernel_rfl
theorem r4_0_2 : round 34 4 0 2 = true := by kernel_rfl
theorem r4_0_3 : round 34 4 0 3 = true := by kernel_rfl
theorem r4_0_4 : round 34 4 0 4 = true := by kernel_rfl
theorem r4_0_5 : round 34 4 0 5 = true := by kernel_rfl
theorem r4_0_6 : round 34 4 0 6 = true := by kernel_rfl
theorem r4_0_7 : round 34 4 0 7 = true := by kernel_rfl
theorem r4_0_8 : round 34 4 0 8 = true := by kernel_rfl
theorem r4_0_9 : round 34 4 0 9 = true := by kernel_rfl
theorem r4_0_10 : round 34 4 0 10 = true := by kernel_rfl
theorem r4_0_11 : round 34 4 0 11 = true := by kernel_rfl
theorem r4_0_12 : round 34 4 0 12 = true := by kernel_rfl
theorem r4_0_13 : round 34 4 0 13 = true := by kernel_rfl
theorem r4_0_14 : round 34 4 0 14 = true := by kernel_rfl
theorem r4_0_15 : round 34 4 0 15 = true := by kernel_rfl
theorem r4_0_16 : round 34 4 0 16 = true := by kernel_rfl
theorem r4_0_17 : round 34 4 0 17 = true := by kernel_rfl
theorem r4_0_18 : round 34 4 0 18 = true := by kernel_rfl
theorem r4_0_19 : round 34 4 0 19 = true := by kernel_rfl
theorem l4_0_0 : last ([]) 34 4 0 = true := by kernel_rfl
end Go.Proofs.YtaecedlhiclkdaaGreat.Opl
