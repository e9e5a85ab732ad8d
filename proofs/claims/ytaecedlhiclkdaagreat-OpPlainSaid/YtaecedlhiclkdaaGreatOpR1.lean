/- OpPlain: runs. No condition. -/
import Derived.Test.YtaecedlhiclkdaaGreatOpB
namespace Go.Proofs.YtaecedlhiclkdaaGreat.Opl
open Go Vx Con
set_option linter.unusedVariables false
set_option linter.constructorNameAsVariable false
set_option maxRecDepth 100000

theorem f5_4 : first 32 5 4 = true := by kernel_rfl
theorem r5_4_0 : round 32 5 4 0 = true := by kernel_rfl
theorem r5_4_1 : round 32 5 4 1 = true := by kernel_rfl
theorem r5_4_2 : round 32 5 4 2 = true := by kernel_rfl
theorem r5_4_3 : round 32 5 4 3 = true := by kernel_rfl
theorem r5_4_4 : round 32 5 4 4 = true := by kernel_rfl
theorem r5_4_5 : round 32 5 4 5 = true := by kernel_rfl
theorem r5_4_6 : round 32 5 4 6 = true := by kernel_rfl
theorem r5_4_7 : round 32 5 4 7 = true := by kernel_rfl
theorem r5_4_8 : round 32 5 4 8 = true := by kernel_rfl
theorem r5_4_9 : round 32 5 4 9 = true := by kernel_rfl
theorem r5_4_10 : round 32 5 4 10 = true := by kernel_rfl
theorem r5_4_11 : round 32 5 4 11 = true := by kernel_rfl
theorem r5_4_12 : round 32 5 4 12 = true := by kernel_rfl
theorem r5_4_13 : round 32 5 4 13 = true := by kernel_rfl
theorem r5_4_14 : round 32 5 4 14 = true := by kernel_rfl
theorem r5_4_15 : round 32 5 4 15 = true := by kernel_rfl
theorem r5_4_16 : round 32 5 4 16 = true := by kernel_rfl
theorem r5_4_17 : round 32 5 4 17 = true := by kernel_rfl
theorem r5_4_18 : round 32 5 4 18 = true := by kernel_rfl
theorem r5_4_19 : round 32 5 4 19 = true := by kernel_rfl
theorem l5_4_0 : last ([fR 6 false]) 32 5 4 = true := by kernel_rfl
theorem l5_4_1 : last ([fR 6 true, fN (rd 6) false]) 32 5 4 = true := by kernel_rfl
theorem l5_4_2 : last ([fR 6 true, fN (rd 6) true, fN (.sy 7) false]) 32 5 4 = true := by kernel_rfl
theorem l5_4_3 : last ([fR 6 true, fN (rd 6) true, fN (.sy 7) true] ++ fE (rd 6) (.sy 7) false true false) 32 5 4 = true := by kernel_rfl
theorem l5_4_4 : last ([fR 6 true, fN (rd 6) true, fN (.sy 7) true] ++ fE (rd 6) (.sy 7) true false false) 32 5 4 = true := by kernel_rfl
theorem l5_4_5 : last ([fR 6 true, fN (rd 6) true, fN (.sy 7) true] ++ fE (rd 6) (.sy 7) false false true) 32 5 4 = true := by kernel_rfl
theorem f2_3 : first 36 2 3 = true := by kernel_rfl
theorem r2_3_0 : round 36 2 3 0 = true := by kernel_rfl
theorem r2_3_1 : round 36 2 3 1 = true := by kernel_rfl
theorem r2_3_2 : round 36 2 3 2 = true := by kernel_rfl
theorem r2_3_3 : round 36 2 3 3 = true := by kernel_rfl
theorem r2_3_4 : round 36 2 3 4 = true := by kernel_rfl
theorem r2_3_5 : round 36 2 3 5 = true := by kernel_rfl
theorem r2_3_6 : round 36 2 3 6 = true := by kernel_rfl
theorem r2_3_7 : round 36 2 3 7 = true := by kernel_rfl
theorem r2_3_8 : round 36 2 3 8 = true := by kernel_rfl
theorem r2_3_9 : round 36 2 3 9 = true := by kernel_rfl
theorem r2_3_10 : round 36 2 3 10 = true := by kernel_rfl
theorem r2_3_11 : round 36 2 3 11 = true := by kernel_rfl
theorem r2_3_12 : round 36 2 3 12 = true := by kernel_rfl
theorem r2_3_13 : round 36 2 3 13 = true := by kernel_rfl
theorem r2_3_14 : round 36 2 3 14 = true := by kernel_rfl
theorem r2_3_15 : round 36 2 3 15 = true := by kernel_rfl
theorem r2_3_16 : round 36 2 3 16 = true := by kernel_rfl
theorem r2_3_17 : round 36 2 3 17 = true := by kernel_rfl
theorem r2_3_18 : round 36 2 3 18 = true := by kernel_rfl
theorem r2_3_19 : round 36 2 3 19 = true := by kernel_rfl
theorem l2_3_0 : last ([]) 36 2 3 = true := by kernel_rfl
theorem f6_5 : first 32 6 5 = true := by kernel_rfl
theorem r6_5_0 : round 32 6 5 0 = true := by kernel_rfl
theorem r6_5_1 : round 32 6 5 1 = true := by kernel_rfl
theorem r6_5_2 : round 32 6 5 2 = true := by kernel_rfl
theorem r6_5_3 : round 32 6 5 3 = true := by kernel_rfl
theorem r6_5_4 : round 32 6 5 4 = true := by kernel_rfl
theorem r6_5_5 : round 32 6 5 5 = true := by kernel_rfl
theorem r6_5_6 : round 32 6 5 6 = true := by kernel_rfl
theorem r6_5_7 : round 32 6 5 7 = true := by kernel_rfl
theorem r6_5_8 : round 32 6 5 8 = true := by kernel_rfl
theorem r6_5_9 : round 32 6 5 9 = true := by kernel_rfl
theorem r6_5_10 : round 32 6 5 10 = true := by kernel_rfl
theorem r6_5_11 : round 32 6 5 11 = true := by kernel_rfl
theorem r6_5_12 : round 32 6 5 12 = true := by kernel_rfl
theorem r6_5_13 : round 32 6 5 13 = true := by kernel_rfl
theorem r6_5_14 : round 32 6 5 14 = true := by kernel_rfl
theorem r6_5_15 : round 32 6 5 15 = true := by kernel_rfl
theorem r6_5_16 : round 32 6 5 16 = true := by kernel_rfl
theorem r6_5_17 : round 32 6 5 17 = true := by kernel_rfl
theorem r6_5_18 : round 32 6 5 18 = true := by kernel_rfl
theorem r6_5_19 : round 32 6 5 19 = true := by kernel_rfl
theorem l6_5_0 : last ([]) 32 6 5 = true := by kernel_rfl
end Go.Proofs.YtaecedlhiclkdaaGreat.Opl
