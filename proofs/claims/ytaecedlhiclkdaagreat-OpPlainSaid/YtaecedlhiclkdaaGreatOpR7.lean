/- OpPlain: runs. No condition. -/
import Derived.Test.YtaecedlhiclkdaaGreatOpB
namespace Go.Proofs.YtaecedlhiclkdaaGreat.Opl
open Go Vx Con
set_option linter.unusedVariables false
set_option linter.constructorNameAsVariable false
set_option maxRecDepth 100000

theorem f5_2 : first 34 5 2 = true := by kernel_rfl
theorem r5_2_0 : round 34 5 2 0 = true := by kernel_rfl
theorem r5_2_1 : round 34 5 2 1 = true := by kernel_rfl
theorem r5_2_2 : round 34 5 2 2 = true := by kernel_rfl
theorem r5_2_3 : round 34 5 2 3 = true := by kernel_rfl
theorem r5_2_4 : round 34 5 2 4 = true := by kernel_rfl
theorem r5_2_5 : round 34 5 2 5 = true := by kernel_rfl
theorem r5_2_6 : round 34 5 2 6 = true := by kernel_rfl
theorem r5_2_7 : round 34 5 2 7 = true := by kernel_rfl
theorem r5_2_8 : round 34 5 2 8 = true := by kernel_rfl
theorem r5_2_9 : round 34 5 2 9 = true := by kernel_rfl
theorem r5_2_10 : round 34 5 2 10 = true := by kernel_rfl
theorem r5_2_11 : round 34 5 2 11 = true := by kernel_rfl
theorem r5_2_12 : round 34 5 2 12 = true := by kernel_rfl
theorem r5_2_13 : round 34 5 2 13 = true := by kernel_rfl
theorem r5_2_14 : round 34 5 2 14 = true := by kernel_rfl
theorem r5_2_15 : round 34 5 2 15 = true := by kernel_rfl
theorem r5_2_16 : round 34 5 2 16 = true := by kernel_rfl
theorem r5_2_17 : round 34 5 2 17 = true := by kernel_rfl
theorem r5_2_18 : round 34 5 2 18 = true := by kernel_rfl
theorem r5_2_19 : round 34 5 2 19 = true := by kernel_rfl
theorem l5_2_0 : last ([fR 6 false]) 34 5 2 = true := by kernel_rfl
theorem l5_2_1 : last ([fR 6 true, fN (rd 6) false]) 34 5 2 = true := by kernel_rfl
theorem l5_2_2 : last ([fR 6 true, fN (rd 6) true] ++ fE (rd 6) (cst 2) false true false) 34 5 2 = true := by kernel_rfl
theorem l5_2_3 : last ([fR 6 true, fN (rd 6) true] ++ fE (rd 6) (cst 2) true false false) 34 5 2 = true := by kernel_rfl
theorem l5_2_4 : last ([fR 6 true, fN (rd 6) true] ++ fE (rd 6) (cst 2) false false true) 34 5 2 = true := by kernel_rfl
theorem f2_0 : first 36 2 0 = true := by kernel_rfl
theorem r2_0_0 : round 36 2 0 0 = true := by kernel_rfl
theorem r2_0_1 : round 36 2 0 1 = true := by kernel_rfl
theorem r2_0_2 : round 36 2 0 2 = true := by kernel_rfl
theorem r2_0_3 : round 36 2 0 3 = true := by kernel_rfl
theorem r2_0_4 : round 36 2 0 4 = true := by kernel_rfl
theorem r2_0_5 : round 36 2 0 5 = true := by kernel_rfl
theorem r2_0_6 : round 36 2 0 6 = true := by kernel_rfl
theorem r2_0_7 : round 36 2 0 7 = true := by kernel_rfl
theorem r2_0_8 : round 36 2 0 8 = true := by kernel_rfl
theorem r2_0_9 : round 36 2 0 9 = true := by kernel_rfl
theorem r2_0_10 : round 36 2 0 10 = true := by kernel_rfl
theorem r2_0_11 : round 36 2 0 11 = true := by kernel_rfl
theorem r2_0_12 : round 36 2 0 12 = true := by kernel_rfl
theorem r2_0_13 : round 36 2 0 13 = true := by kernel_rfl
theorem r2_0_14 : round 36 2 0 14 = true := by kernel_rfl
theorem r2_0_15 : round 36 2 0 15 = true := by kernel_rfl
theorem r2_0_16 : round 36 2 0 16 = true := by kernel_rfl
theorem r2_0_17 : round 36 2 0 17 = true := by kernel_rfl
theorem r2_0_18 : round 36 2 0 18 = true := by kernel_rfl
theorem r2_0_19 : round 36 2 0 19 = true := by kernel_rfl
theorem l2_0_0 : last ([]) 36 2 0 = true := by kernel_rfl
theorem f6_2 : first 34 6 2 = true := by kernel_rfl
theorem r6_2_0 : round 34 6 2 0 = true := by kernel_rfl
theorem r6_2_1 : round 34 6 2 1 = true := by kernel_rfl
theorem r6_2_2 : round 34 6 2 2 = true := by kernel_rfl
theorem r6_2_3 : round 34 6 2 3 = true := by kernel_rfl
theorem r6_2_4 : round 34 6 2 4 = true := by kernel_rfl
theorem r6_2_5 : round 34 6 2 5 = true := by kernel_rfl
theorem r6_2_6 : round 34 6 2 6 = true := by kernel_rfl
theorem r6_2_7 : round 34 6 2 7 = true := by kernel_rfl
theorem r6_2_8 : round 34 6 2 8 = true := by kernel_rfl
theorem r6_2_9 : round 34 6 2 9 = true := by kernel_rfl
theorem r6_2_10 : round 34 6 2 10 = true := by kernel_rfl
theorem r6_2_11 : round 34 6 2 11 = true := by kernel_rfl
theorem r6_2_12 : round 34 6 2 12 = true := by kernel_rfl
theorem r6_2_13 : round 34 6 2 13 = true := by kernel_rfl
theorem r6_2_14 : round 34 6 2 14 = true := by kernel_rfl
theorem r6_2_15 : round 34 6 2 15 = true := by kernel_rfl
theorem r6_2_16 : round 34 6 2 16 = true := by kernel_rfl
theorem r6_2_17 : round 34 6 2 17 = true := by kernel_rfl
theorem r6_2_18 : round 34 6 2 18 = true := by kernel_rfl
theorem r6_2_19 : round 34 6 2 19 = true := by kernel_rfl
theorem l6_2_0 : last ([]) 34 6 2 = true := by kernel_rfl
end Go.Proofs.YtaecedlhiclkdaaGreat.Opl
