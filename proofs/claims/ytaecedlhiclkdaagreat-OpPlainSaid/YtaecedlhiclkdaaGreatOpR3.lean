/- OpPlain: runs. No condition. -/
import Derived.Test.YtaecedlhiclkdaaGreatOpB
namespace Go.Proofs.YtaecedlhiclkdaaGreat.Opl
open Go Vx Con
set_option linter.unusedVariables false
set_option linter.constructorNameAsVariable false
set_option maxRecDepth 100000

theorem f2_5 : first 34 2 5 = true := by kernel_rfl
theorem r2_5_0 : round 34 2 5 0 = true := by kernel_rfl
theorem r2_5_1 : round 34 2 5 1 = true := by kernel_rfl
theorem r2_5_2 : round 34 2 5 2 = true := by kernel_rfl
theorem r2_5_3 : round 34 2 5 3 = true := by kernel_rfl
theorem r2_5_4 : round 34 2 5 4 = true := by kernel_rfl
theorem r2_5_5 : round 34 2 5 5 = true := by kernel_rfl
theorem r2_5_6 : round 34 2 5 6 = true := by kernel_rfl
theorem r2_5_7 : round 34 2 5 7 = true := by kernel_rfl
theorem r2_5_8 : round 34 2 5 8 = true := by kernel_rfl
theorem r2_5_9 : round 34 2 5 9 = true := by kernel_rfl
theorem r2_5_10 : round 34 2 5 10 = true := by kernel_rfl
theorem r2_5_11 : round 34 2 5 11 = true := by kernel_rfl
theorem r2_5_12 : round 34 2 5 12 = true := by kernel_rfl
theorem r2_5_13 : round 34 2 5 13 = true := by kernel_rfl
theorem r2_5_14 : round 34 2 5 14 = true := by kernel_rfl
theorem r2_5_15 : round 34 2 5 15 = true := by kernel_rfl
theorem r2_5_16 : round 34 2 5 16 = true := by kernel_rfl
theorem r2_5_17 : round 34 2 5 17 = true := by kernel_rfl
theorem r2_5_18 : round 34 2 5 18 = true := by kernel_rfl
theorem r2_5_19 : round 34 2 5 19 = true := by kernel_rfl
theorem l2_5_0 : last ([fR 7 false]) 34 2 5 = true := by kernel_rfl
theorem l2_5_1 : last ([fR 7 true, fN (rd 7) false]) 34 2 5 = true := by kernel_rfl
theorem l2_5_2 : last ([fR 7 true, fN (rd 7) true] ++ fE (cst 2) (rd 7) false true false) 34 2 5 = true := by kernel_rfl
theorem l2_5_3 : last ([fR 7 true, fN (rd 7) true] ++ fE (cst 2) (rd 7) true false false) 34 2 5 = true := by kernel_rfl
theorem l2_5_4 : last ([fR 7 true, fN (rd 7) true] ++ fE (cst 2) (rd 7) false false true) 34 2 5 = true := by kernel_rfl
theorem f1_1 : first 36 1 1 = true := by kernel_rfl
theorem r1_1_0 : round 36 1 1 0 = true := by kernel_rfl
theorem r1_1_1 : round 36 1 1 1 = true := by kernel_rfl
theorem r1_1_2 : round 36 1 1 2 = true := by kernel_rfl
theorem r1_1_3 : round 36 1 1 3 = true := by kernel_rfl
theorem r1_1_4 : round 36 1 1 4 = true := by kernel_rfl
theorem r1_1_5 : round 36 1 1 5 = true := by kernel_rfl
theorem r1_1_6 : round 36 1 1 6 = true := by kernel_rfl
theorem r1_1_7 : round 36 1 1 7 = true := by kernel_rfl
theorem r1_1_8 : round 36 1 1 8 = true := by kernel_rfl
theorem r1_1_9 : round 36 1 1 9 = true := by kernel_rfl
theorem r1_1_10 : round 36 1 1 10 = true := by kernel_rfl
theorem r1_1_11 : round 36 1 1 11 = true := by kernel_rfl
theorem r1_1_12 : round 36 1 1 12 = true := by kernel_rfl
theorem r1_1_13 : round 36 1 1 13 = true := by kernel_rfl
theorem r1_1_14 : round 36 1 1 14 = true := by kernel_rfl
theorem r1_1_15 : round 36 1 1 15 = true := by kernel_rfl
theorem r1_1_16 : round 36 1 1 16 = true := by kernel_rfl
theorem r1_1_17 : round 36 1 1 17 = true := by kernel_rfl
theorem r1_1_18 : round 36 1 1 18 = true := by kernel_rfl
theorem r1_1_19 : round 36 1 1 19 = true := by kernel_rfl
theorem l1_1_0 : last ([]) 36 1 1 = true := by kernel_rfl
theorem f5_0 : first 34 5 0 = true := by kernel_rfl
theorem r5_0_0 : round 34 5 0 0 = true := by kernel_rfl
theorem r5_0_1 : round 34 5 0 1 = true := by kernel_rfl
theorem r5_0_2 : round 34 5 0 2 = true := by kernel_rfl
theorem r5_0_3 : round 34 5 0 3 = true := by kernel_rfl
theorem r5_0_4 : round 34 5 0 4 = true := by kernel_rfl
theorem r5_0_5 : round 34 5 0 5 = true := by kernel_rfl
theorem r5_0_6 : round 34 5 0 6 = true := by kernel_rfl
theorem r5_0_7 : round 34 5 0 7 = true := by kernel_rfl
theorem r5_0_8 : round 34 5 0 8 = true := by kernel_rfl
theorem r5_0_9 : round 34 5 0 9 = true := by kernel_rfl
theorem r5_0_10 : round 34 5 0 10 = true := by kernel_rfl
theorem r5_0_11 : round 34 5 0 11 = true := by kernel_rfl
theorem r5_0_12 : round 34 5 0 12 = true := by kernel_rfl
theorem r5_0_13 : round 34 5 0 13 = true := by kernel_rfl
theorem r5_0_14 : round 34 5 0 14 = true := by kernel_rfl
theorem r5_0_15 : round 34 5 0 15 = true := by kernel_rfl
theorem r5_0_16 : round 34 5 0 16 = true := by kernel_rfl
theorem r5_0_17 : round 34 5 0 17 = true := by kernel_rfl
theorem r5_0_18 : round 34 5 0 18 = true := by kernel_rfl
theorem r5_0_19 : round 34 5 0 19 = true := by kernel_rfl
theorem l5_0_0 : last ([]) 34 5 0 = true := by kernel_rfl
end Go.Proofs.YtaecedlhiclkdaaGreat.Opl
