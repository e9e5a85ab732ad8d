/- OpPlain: runs. No condition. -/
import Derived.Test.YtaecedlhiclkdaaGreatOpB
namespace Go.Proofs.YtaecedlhiclkdaaGreat.Opl
open Go Vx Con
set_option linter.unusedVariables false
set_option linter.constructorNameAsVariable false
set_option maxRecDepth 100000

theorem f3_4 : first 34 3 4 = true := by kernel_rfl
theorem r3_4_0 : round 34 3 4 0 = true := by kernel_rfl
theorem r3_4_1 : round 34 3 4 1 = true := by kernel_rfl
theorem r3_4_2 : round 34 3 4 2 = true := by kernel_rfl
theorem r3_4_3 : round 34 3 4 3 = true := by kernel_rfl
theorem r3_4_4 : round 34 3 4 4 = true := by kernel_rfl
theorem r3_4_5 : round 34 3 4 5 = true := by kernel_rfl
theorem r3_4_6 : round 34 3 4 6 = true := by kernel_rfl
theorem r3_4_7 : round 34 3 4 7 = true := by kernel_rfl
theorem r3_4_8 : round 34 3 4 8 = true := by kernel_rfl
theorem r3_4_9 : round 34 3 4 9 = true := by kernel_rfl
theorem r3_4_10 : round 34 3 4 10 = true := by kernel_rfl
theorem r3_4_11 : round 34 3 4 11 = true := by kernel_rfl
theorem r3_4_12 : round 34 3 4 12 = true := by kernel_rfl
theorem r3_4_13 : round 34 3 4 13 = true := by kernel_rfl
theorem r3_4_14 : round 34 3 4 14 = true := by kernel_rfl
theorem r3_4_15 : round 34 3 4 15 = true := by kernel_rfl
theorem r3_4_16 : round 34 3 4 16 = true := by kernel_rfl
theorem r3_4_17 : round 34 3 4 17 = true := by kernel_rfl
theorem r3_4_18 : round 34 3 4 18 = true := by kernel_rfl
theorem r3_4_19 : round 34 3 4 19 = true := by kernel_rfl
theorem l3_4_0 : last ([fN (.sy 7) false]) 34 3 4 = true := by kernel_rfl
theorem l3_4_1 : last ([fN (.sy 7) true] ++ fE (cst 3) (.sy 7) false true false) 34 3 4 = true := by kernel_rfl
theorem l3_4_2 : last ([fN (.sy 7) true] ++ fE (cst 3) (.sy 7) true false false) 34 3 4 = true := by kernel_rfl
theorem l3_4_3 : last ([fN (.sy 7) true] ++ fE (cst 3) (.sy 7) false false true) 34 3 4 = true := by kernel_rfl
theorem f0_3 : first 36 0 3 = true := by kernel_rfl
theorem r0_3_0 : round 36 0 3 0 = true := by kernel_rfl
theorem r0_3_1 : round 36 0 3 1 = true := by kernel_rfl
theorem r0_3_2 : round 36 0 3 2 = true := by kernel_rfl
theorem r0_3_3 : round 36 0 3 3 = true := by kernel_rfl
theorem r0_3_4 : round 36 0 3 4 = true := by kernel_rfl
theorem r0_3_5 : round 36 0 3 5 = true := by kernel_rfl
theorem r0_3_6 : round 36 0 3 6 = true := by kernel_rfl
theorem r0_3_7 : round 36 0 3 7 = true := by kernel_rfl
theorem r0_3_8 : round 36 0 3 8 = true := by kernel_rfl
theorem r0_3_9 : round 36 0 3 9 = true := by kernel_rfl
theorem r0_3_10 : round 36 0 3 10 = true := by kernel_rfl
theorem r0_3_11 : round 36 0 3 11 = true := by kernel_rfl
theorem r0_3_12 : round 36 0 3 12 = true := by kernel_rfl
theorem r0_3_13 : round 36 0 3 13 = true := by kernel_rfl
theorem r0_3_14 : round 36 0 3 14 = true := by kernel_rfl
theorem r0_3_15 : round 36 0 3 15 = true := by kernel_rfl
theorem r0_3_16 : round 36 0 3 16 = true := by kernel_rfl
theorem r0_3_17 : round 36 0 3 17 = true := by kernel_rfl
theorem r0_3_18 : round 36 0 3 18 = true := by kernel_rfl
theorem r0_3_19 : round 36 0 3 19 = true := by kernel_rfl
theorem l0_3_0 : last ([]) 36 0 3 = true := by kernel_rfl
theorem f3_2 : first 36 3 2 = true := by kernel_rfl
theorem r3_2_0 : round 36 3 2 0 = true := by kernel_rfl
theorem r3_2_1 : round 36 3 2 1 = true := by kernel_rfl
theorem r3_2_2 : round 36 3 2 2 = true := by kernel_rfl
theorem r3_2_3 : round 36 3 2 3 = true := by kernel_rfl
theorem r3_2_4 : round 36 3 2 4 = true := by kernel_rfl
theorem r3_2_5 : round 36 3 2 5 = true := by kernel_rfl
theorem r3_2_6 : round 36 3 2 6 = true := by kernel_rfl
theorem r3_2_7 : round 36 3 2 7 = true := by kernel_rfl
theorem r3_2_8 : round 36 3 2 8 = true := by kernel_rfl
theorem r3_2_9 : round 36 3 2 9 = true := by kernel_rfl
theorem r3_2_10 : round 36 3 2 10 = true := by kernel_rfl
theorem r3_2_11 : round 36 3 2 11 = true := by kernel_rfl
theorem r3_2_12 : round 36 3 2 12 = true := by kernel_rfl
theorem r3_2_13 : round 36 3 2 13 = true := by kernel_rfl
theorem r3_2_14 : round 36 3 2 14 = true := by kernel_rfl
theorem r3_2_15 : round 36 3 2 15 = true := by kernel_rfl
theorem r3_2_16 : round 36 3 2 16 = true := by kernel_rfl
theorem r3_2_17 : round 36 3 2 17 = true := by kernel_rfl
theorem r3_2_18 : round 36 3 2 18 = true := by kernel_rfl
theorem r3_2_19 : round 36 3 2 19 = true := by kernel_rfl
theorem l3_2_0 : last ([]) 36 3 2 = true := by kernel_rfl
end Go.Proofs.YtaecedlhiclkdaaGreat.Opl
