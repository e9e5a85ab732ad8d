/- OpPlain: runs. No condition. -/
import Derived.Test.YtaecedlhiclkdaaGreatOpB
namespace Go.Proofs.YtaecedlhiclkdaaGreat.Opl
open Go Vx Con
set_option linter.unusedVariables false
set_option linter.constructorNameAsVariable false
set_option maxRecDepth 100000

theorem f5_3 : first 34 5 3 = true := by kernel_rfl
theorem r5_3_0 : round 34 5 3 0 = true := by kernel_rfl
theorem r5_3_1 : round 34 5 3 1 = true := by kernel_rfl
theorem r5_3_2 : round 34 5 3 2 = true := by kernel_rfl
theorem r5_3_3 : round 34 5 3 3 = true := by kernel_rfl
theorem r5_3_4 : round 34 5 3 4 = true := by kernel_rfl
theorem r5_3_5 : round 34 5 3 5 = true := by kernel_rfl
theorem r5_3_6 : round 34 5 3 6 = true := by kernel_rfl
theorem r5_3_7 : round 34 5 3 7 = true := by kernel_rfl
theorem r5_3_8 : round 34 5 3 8 = true := by kernel_rfl
theorem r5_3_9 : round 34 5 3 9 = true := by kernel_rfl
theorem r5_3_10 : round 34 5 3 10 = true := by kernel_rfl
theorem r5_3_11 : round 34 5 3 11 = true := by kernel_rfl
theorem r5_3_12 : round 34 5 3 12 = true := by kernel_rfl
theorem r5_3_13 : round 34 5 3 13 = true := by kernel_rfl
theorem r5_3_14 : round 34 5 3 14 = true := by kernel_rfl
theorem r5_3_15 : round 34 5 3 15 = true := by kernel_rfl
theorem r5_3_16 : round 34 5 3 16 = true := by kernel_rfl
theorem r5_3_17 : round 34 5 3 17 = true := by kernel_rfl
theorem r5_3_18 : round 34 5 3 18 = true := by kernel_rfl
theorem r5_3_19 : round 34 5 3 19 = true := by kernel_rfl
theorem l5_3_0 : last ([fR 6 false]) 34 5 3 = true := by kernel_rfl
theorem l5_3_1 : last ([fR 6 true, fN (rd 6) false]) 34 5 3 = true := by kernel_rfl
theorem l5_3_2 : last ([fR 6 true, fN (rd 6) true] ++ fE (rd 6) (cst 3) false true false) 34 5 3 = true := by kernel_rfl
theorem l5_3_3 : last ([fR 6 true, fN (rd 6) true] ++ fE (rd 6) (cst 3) true false false) 34 5 3 = true := by kernel_rfl
theorem l5_3_4 : last ([fR 6 true, fN (rd 6) true] ++ fE (rd 6) (cst 3) false false true) 34 5 3 = true := by kernel_rfl
theorem f2_1 : first 36 2 1 = true := by kernel_rfl
theorem r2_1_0 : round 36 2 1 0 = true := by kernel_rfl
theorem r2_1_1 : round 36 2 1 1 = true := by kernel_rfl
theorem r2_1_2 : round 36 2 1 2 = true := by kernel_rfl
theorem r2_1_3 : round 36 2 1 3 = true := by kernel_rfl
theorem r2_1_4 : round 36 2 1 4 = true := by kernel_rfl
theorem r2_1_5 : round 36 2 1 5 = true := by kernel_rfl
theorem r2_1_6 : round 36 2 1 6 = true := by kernel_rfl
theorem r2_1_7 : round 36 2 1 7 = true := by kernel_rfl
theorem r2_1_8 : round 36 2 1 8 = true := by kernel_rfl
theorem r2_1_9 : round 36 2 1 9 = true := by kernel_rfl
theorem r2_1_10 : round 36 2 1 10 = true := by kernel_rfl
theorem r2_1_11 : round 36 2 1 11 = true := by kernel_rfl
theorem r2_1_12 : round 36 2 1 12 = true := by kernel_rfl
theorem r2_1_13 : round 36 2 1 13 = true := by kernel_rfl
theorem r2_1_14 : round 36 2 1 14 = true := by kernel_rfl
theorem r2_1_15 : round 36 2 1 15 = true := by kernel_rfl
theorem r2_1_16 : round 36 2 1 16 = true := by kernel_rfl
theorem r2_1_17 : round 36 2 1 17 = true := by kernel_rfl
theorem r2_1_18 : round 36 2 1 18 = true := by kernel_rfl
theorem r2_1_19 : round 36 2 1 19 = true := by kernel_rfl
theorem l2_1_0 : last ([]) 36 2 1 = true := by kernel_rfl
theorem f6_3 : first 34 6 3 = true := by kernel_rfl
theorem r6_3_0 : round 34 6 3 0 = true := by kernel_rfl
theorem r6_3_1 : round 34 6 3 1 = true := by kernel_rfl
theorem r6_3_2 : round 34 6 3 2 = true := by kernel_rfl
theorem r6_3_3 : round 34 6 3 3 = true := by kernel_rfl
theorem r6_3_4 : round 34 6 3 4 = true := by kernel_rfl
theorem r6_3_5 : round 34 6 3 5 = true := by kernel_rfl
theorem r6_3_6 : round 34 6 3 6 = true := by kernel_rfl
theorem r6_3_7 : round 34 6 3 7 = true := by kernel_rfl
theorem r6_3_8 : round 34 6 3 8 = true := by kernel_rfl
theorem r6_3_9 : round 34 6 3 9 = true := by kernel_rfl
theorem r6_3_10 : round 34 6 3 10 = true := by kernel_rfl
theorem r6_3_11 : round 34 6 3 11 = true := by kernel_rfl
theorem r6_3_12 : round 34 6 3 12 = true := by kernel_rfl
theorem r6_3_13 : round 34 6 3 13 = true := by kernel_rfl
theorem r6_3_14 : round 34 6 3 14 = true := by kernel_rfl
theorem r6_3_15 : round 34 6 3 15 = true := by kernel_rfl
theorem r6_3_16 : round 34 6 3 16 = true := by kernel_rfl
theorem r6_3_17 : round 34 6 3 17 = true := by kernel_rfl
theorem r6_3_18 : round 34 6 3 18 = true := by kernel_rfl
theorem r6_3_19 : round 34 6 3 19 = true := by kernel_rfl
theorem l6_3_0 : last ([]) 34 6 3 = true := by kernel_rfl
end Go.Proofs.YtaecedlhiclkdaaGreat.Opl
