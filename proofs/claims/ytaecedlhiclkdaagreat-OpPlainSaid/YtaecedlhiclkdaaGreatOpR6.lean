/- OpPlain: runs. No condition. -/
import Derived.Test.YtaecedlhiclkdaaGreatOpB
namespace Go.Proofs.YtaecedlhiclkdaaGreat.Opl
open Go Vx Con
set_option linter.unusedVariables false
set_option linter.constructorNameAsVariable false
set_option maxRecDepth 100000

theorem f5_1 : first 34 5 1 = true := by kernel_rfl
theorem r5_1_0 : round 34 5 1 0 = true := by kernel_rfl
theorem r5_1_1 : round 34 5 1 1 = true := by kernel_rfl
theorem r5_1_2 : round 34 5 1 2 = true := by kernel_rfl
theorem r5_1_3 : round 34 5 1 3 = true := by kernel_rfl
theorem r5_1_4 : round 34 5 1 4 = true := by kernel_rfl
theorem r5_1_5 : round 34 5 1 5 = true := by kernel_rfl
theorem r5_1_6 : round 34 5 1 6 = true := by kernel_rfl
theorem r5_1_7 : round 34 5 1 7 = true := by kernel_rfl
theorem r5_1_8 : round 34 5 1 8 = true := by kernel_rfl
theorem r5_1_9 : round 34 5 1 9 = true := by kernel_rfl
theorem r5_1_10 : round 34 5 1 10 = true := by kernel_rfl
theorem r5_1_11 : round 34 5 1 11 = true := by kernel_rfl
theorem r5_1_12 : round 34 5 1 12 = true := by kernel_rfl
theorem r5_1_13 : round 34 5 1 13 = true := by kernel_rfl
theorem r5_1_14 : round 34 5 1 14 = true := by kernel_rfl
theorem r5_1_15 : round 34 5 1 15 = true := by kernel_rfl
theorem r5_1_16 : round 34 5 1 16 = true := by kernel_rfl
theorem r5_1_17 : round 34 5 1 17 = true := by kernel_rfl
theorem r5_1_18 : round 34 5 1 18 = true := by kernel_rfl
theorem r5_1_19 : round 34 5 1 19 = true := by kernel_rfl
theorem l5_1_0 : last ([fR 6 false]) 34 5 1 = true := by kernel_rfl
theorem l5_1_1 : last ([fR 6 true, fN (rd 6) false]) 34 5 1 = true := by kernel_rfl
theorem l5_1_2 : last ([fR 6 true, fN (rd 6) true] ++ fE (rd 6) (cst 1) false true false) 34 5 1 = true := by kernel_rfl
theorem l5_1_3 : last ([fR 6 true, fN (rd 6) true] ++ fE (rd 6) (cst 1) true false false) 34 5 1 = true := by kernel_rfl
theorem l5_1_4 : last ([fR 6 true, fN (rd 6) true] ++ fE (rd 6) (cst 1) false false true) 34 5 1 = true := by kernel_rfl
theorem f1_6 : first 34 1 6 = true := by kernel_rfl
theorem r1_6_0 : round 34 1 6 0 = true := by kernel_rfl
theorem r1_6_1 : round 34 1 6 1 = true := by kernel_rfl
theorem r1_6_2 : round 34 1 6 2 = true := by kernel_rfl
theorem r1_6_3 : round 34 1 6 3 = true := by kernel_rfl
theorem r1_6_4 : round 34 1 6 4 = true := by kernel_rfl
theorem r1_6_5 : round 34 1 6 5 = true := by kernel_rfl
theorem r1_6_6 : round 34 1 6 6 = true := by kernel_rfl
theorem r1_6_7 : round 34 1 6 7 = true := by kernel_rfl
theorem r1_6_8 : round 34 1 6 8 = true := by kernel_rfl
theorem r1_6_9 : round 34 1 6 9 = true := by kernel_rfl
theorem r1_6_10 : round 34 1 6 10 = true := by kernel_rfl
theorem r1_6_11 : round 34 1 6 11 = true := by kernel_rfl
theorem r1_6_12 : round 34 1 6 12 = true := by kernel_rfl
theorem r1_6_13 : round 34 1 6 13 = true := by kernel_rfl
theorem r1_6_14 : round 34 1 6 14 = true := by kernel_rfl
theorem r1_6_15 : round 34 1 6 15 = true := by kernel_rfl
theorem r1_6_16 : round 34 1 6 16 = true := by kernel_rfl
theorem r1_6_17 : round 34 1 6 17 = true := by kernel_rfl
theorem r1_6_18 : round 34 1 6 18 = true := by kernel_rfl
theorem r1_6_19 : round 34 1 6 19 = true := by kernel_rfl
theorem l1_6_0 : last ([]) 34 1 6 = true := by kernel_rfl
theorem f6_1 : first 34 6 1 = true := by kernel_rfl
theorem r6_1_0 : round 34 6 1 0 = true := by kernel_rfl
theorem r6_1_1 : round 34 6 1 1 = true := by kernel_rfl
theorem r6_1_2 : round 34 6 1 2 = true := by kernel_rfl
theorem r6_1_3 : round 34 6 1 3 = true := by kernel_rfl
theorem r6_1_4 : round 34 6 1 4 = true := by kernel_rfl
theorem r6_1_5 : round 34 6 1 5 = true := by kernel_rfl
theorem r6_1_6 : round 34 6 1 6 = true := by kernel_rfl
theorem r6_1_7 : round 34 6 1 7 = true := by kernel_rfl
theorem r6_1_8 : round 34 6 1 8 = true := by kernel_rfl
theorem r6_1_9 : round 34 6 1 9 = true := by kernel_rfl
theorem r6_1_10 : round 34 6 1 10 = true := by kernel_rfl
theorem r6_1_11 : round 34 6 1 11 = true := by kernel_rfl
theorem r6_1_12 : round 34 6 1 12 = true := by kernel_rfl
theorem r6_1_13 : round 34 6 1 13 = true := by kernel_rfl
theorem r6_1_14 : round 34 6 1 14 = true := by kernel_rfl
theorem r6_1_15 : round 34 6 1 15 = true := by kernel_rfl
theorem r6_1_16 : round 34 6 1 16 = true := by kernel_rfl
theorem r6_1_17 : round 34 6 1 17 = true := by kernel_rfl
theorem r6_1_18 : round 34 6 1 18 = true := by kernel_rfl
theorem r6_1_19 : round 34 6 1 19 = true := by kernel_rfl
theorem l6_1_0 : last ([]) 34 6 1 = true := by kernel_rfl
end Go.Proofs.YtaecedlhiclkdaaGreat.Opl
