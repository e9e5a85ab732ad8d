/- OpPlain: runs. No condition. -/
import Derived.Test.YtaecedlhiclkdaaGreatOpB
namespace Go.Proofs.YtaecedlhiclkdaaGreat.Opl
open Go Vx Con
set_option linter.unusedVariables false
set_option linter.constructorNameAsVariable false
set_option maxRecDepth 100000

theorem f4_4 : first 32 4 4 = true := by kernel_rfl
theorem r4_4_0 : round 32 4 4 0 = true := by kernel_rfl
theorem r4_4_1 : round 32 4 4 1 = true := by kernel_rfl
theorem r4_4_2 : round 32 4 4 2 = true := by kernel_rfl
theorem r4_4_3 : round 32 4 4 3 = true := by kernel_rfl
theorem r4_4_4 : round 32 4 4 4 = true := by kernel_rfl
theorem r4_4_5 : round 32 4 4 5 = true := by kernel_rfl
theorem r4_4_6 : round 32 4 4 6 = true := by kernel_rfl
theorem r4_4_7 : round 32 4 4 7 = true := by kernel_rfl
theorem r4_4_8 : round 32 4 4 8 = true := by kernel_rfl
theorem r4_4_9 : round 32 4 4 9 = true := by kernel_rfl
theorem r4_4_10 : round 32 4 4 10 = true := by kernel_rfl
theorem r4_4_11 : round 32 4 4 11 = true := by kernel_rfl
theorem r4_4_12 : round 32 4 4 12 = true := by kernel_rfl
theorem r4_4_13 : round 32 4 4 13 = true := by kernel_rfl
theorem r4_4_14 : round 32 4 4 14 = true := by kernel_rfl
theorem r4_4_15 : round 32 4 4 15 = true := by kernel_rfl
theorem r4_4_16 : round 32 4 4 16 = true := by kernel_rfl
theorem r4_4_17 : round 32 4 4 17 = true := by kernel_rfl
theorem r4_4_18 : round 32 4 4 18 = true := by kernel_rfl
theorem r4_4_19 : round 32 4 4 19 = true := by kernel_rfl
theorem l4_4_0 : last ([fN (.sy 6) false]) 32 4 4 = true := by kernel_rfl
theorem l4_4_1 : last ([fN (.sy 6) true, fN (.sy 7) false]) 32 4 4 = true := by kernel_rfl
theorem l4_4_2 : last ([fN (.sy 6) true, fN (.sy 7) true] ++ fE (.sy 6) (.sy 7) false true false) 32 4 4 = true := by kernel_rfl
theorem l4_4_3 : last ([fN (.sy 6) true, fN (.sy 7) true] ++ fE (.sy 6) (.sy 7) true false false) 32 4 4 = true := by kernel_rfl
theorem l4_4_4 : last ([fN (.sy 6) true, fN (.sy 7) true] ++ fE (.sy 6) (.sy 7) false false true) 32 4 4 = true := by kernel_rfl
theorem f1_3 : first 36 1 3 = true := by kernel_rfl
theorem r1_3_0 : round 36 1 3 0 = true := by kernel_rfl
theorem r1_3_1 : round 36 1 3 1 = true := by kernel_rfl
theorem r1_3_2 : round 36 1 3 2 = true := by kernel_rfl
theorem r1_3_3 : round 36 1 3 3 = true := by kernel_rfl
theorem r1_3_4 : round 36 1 3 4 = true := by kernel_rfl
theorem r1_3_5 : round 36 1 3 5 = true := by kernel_rfl
theorem r1_3_6 : round 36 1 3 6 = true := by kernel_rfl
theorem r1_3_7 : round 36 1 3 7 = true := by kernel_rfl
theorem r1_3_8 : round 36 1 3 8 = true := by kernel_rfl
theorem r1_3_9 : round 36 1 3 9 = true := by kernel_rfl
theorem r1_3_10 : round 36 1 3 10 = true := by kernel_rfl
theorem r1_3_11 : round 36 1 3 11 = true := by kernel_rfl
theorem r1_3_12 : round 36 1 3 12 = true := by kernel_rfl
theorem r1_3_13 : round 36 1 3 13 = true := by kernel_rfl
theorem r1_3_14 : round 36 1 3 14 = true := by kernel_rfl
theorem r1_3_15 : round 36 1 3 15 = true := by kernel_rfl
theorem r1_3_16 : round 36 1 3 16 = true := by kernel_rfl
theorem r1_3_17 : round 36 1 3 17 = true := by kernel_rfl
theorem r1_3_18 : round 36 1 3 18 = true := by kernel_rfl
theorem r1_3_19 : round 36 1 3 19 = true := by kernel_rfl
theorem l1_3_0 : last ([]) 36 1 3 = true := by kernel_rfl
theorem f6_0 : first 34 6 0 = true := by kernel_rfl
theorem r6_0_0 : round 34 6 0 0 = true := by kernel_rfl
theorem r6_0_1 : round 34 6 0 1 = true := by kernel_rfl
theorem r6_0_2 : round 34 6 0 2 = true := by kernel_rfl
theorem r6_0_3 : round 34 6 0 3 = true := by kernel_rfl
theorem r6_0_4 : round 34 6 0 4 = true := by kernel_rfl
theorem r6_0_5 : round 34 6 0 5 = true := by kernel_rfl
theorem r6_0_6 : round 34 6 0 6 = true := by kernel_rfl
theorem r6_0_7 : round 34 6 0 7 = true := by kernel_rfl
theorem r6_0_8 : round 34 6 0 8 = true := by kernel_rfl
theorem r6_0_9 : round 34 6 0 9 = true := by kernel_rfl
theorem r6_0_10 : round 34 6 0 10 = true := by kernel_rfl
theorem r6_0_11 : round 34 6 0 11 = true := by kernel_rfl
theorem r6_0_12 : round 34 6 0 12 = true := by kernel_rfl
theorem r6_0_13 : round 34 6 0 13 = true := by kernel_rfl
theorem r6_0_14 : round 34 6 0 14 = true := by kernel_rfl
theorem r6_0_15 : round 34 6 0 15 = true := by kernel_rfl
theorem r6_0_16 : round 34 6 0 16 = true := by kernel_rfl
theorem r6_0_17 : round 34 6 0 17 = true := by kernel_rfl
theorem r6_0_18 : round 34 6 0 18 = true := by kernel_rfl
theorem r6_0_19 : round 34 6 0 19 = true := by kernel_rfl
theorem l6_0_0 : last ([]) 34 6 0 = true := by kernel_rfl
end Go.Proofs.YtaecedlhiclkdaaGreat.Opl
