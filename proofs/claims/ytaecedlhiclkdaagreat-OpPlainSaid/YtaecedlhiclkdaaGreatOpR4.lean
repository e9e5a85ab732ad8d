/- OpPlain: runs. No condition. -/
import Derived.Test.YtaecedlhiclkdaaGreatOpB
namespace Go.Proofs.YtaecedlhiclkdaaGreat.Opl
open Go Vx Con
set_option linter.unusedVariables false
set_option linter.constructorNameAsVariable false
set_option maxRecDepth 100000

theorem f3_5 : first 34 3 5 = true := by kernel_rfl
theorem r3_5_0 : round 34 3 5 0 = true := by kernel_rfl
theorem r3_5_1 : round 34 3 5 1 = true := by kernel_rfl
theorem r3_5_2 : round 34 3 5 2 = true := by kernel_rfl
theorem r3_5_3 : round 34 3 5 3 = true := by kernel_rfl
theorem r3_5_4 : round 34 3 5 4 = true := by kernel_rfl
theorem r3_5_5 : round 34 3 5 5 = true := by kernel_rfl
theorem r3_5_6 : round 34 3 5 6 = true := by kernel_rfl
theorem r3_5_7 : round 34 3 5 7 = true := by kernel_rfl
theorem r3_5_8 : round 34 3 5 8 = true := by kernel_rfl
theorem r3_5_9 : round 34 3 5 9 = true := by kernel_rfl
theorem r3_5_10 : round 34 3 5 10 = true := by kernel_rfl
theorem r3_5_11 : round 34 3 5 11 = true := by kernel_rfl
theorem r3_5_12 : round 34 3 5 12 = true := by kernel_rfl
theorem r3_5_13 : round 34 3 5 13 = true := by kernel_rfl
theorem r3_5_14 : round 34 3 5 14 = true := by kernel_rfl
theorem r3_5_15 : round 34 3 5 15 = true := by kernel_rfl
theorem r3_5_16 : round 34 3 5 16 = true := by kernel_rfl
theorem r3_5_17 : round 34 3 5 17 = true := by kernel_rfl
theorem r3_5_18 : round 34 3 5 18 = true := by kernel_rfl
theorem r3_5_19 : round 34 3 5 19 = true := by kernel_rfl
theorem l3_5_0 : last ([fR 7 false]) 34 3 5 = true := by kernel_rfl
theorem l3_5_1 : last ([fR 7 true, fN (rd 7) false]) 34 3 5 = true := by kernel_rfl
theorem l3_5_2 : last ([fR 7 true, fN (rd 7) true] ++ fE (cst 3) (rd 7) false true false) 34 3 5 = true := by kernel_rfl
theorem l3_5_3 : last ([fR 7 true, fN (rd 7) true] ++ fE (cst 3) (rd 7) true false false) 34 3 5 = true := by kernel_rfl
theorem l3_5_4 : last ([fR 7 true, fN (rd 7) true] ++ fE (cst 3) (rd 7) false false true) 34 3 5 = true := by kernel_rfl
theorem f1_2 : first 36 1 2 = true := by kernel_rfl
theorem r1_2_0 : round 36 1 2 0 = true := by kernel_rfl
theorem r1_2_1 : round 36 1 2 1 = true := by kernel_rfl
theorem r1_2_2 : round 36 1 2 2 = true := by kernel_rfl
theorem r1_2_3 : round 36 1 2 3 = true := by kernel_rfl
theorem r1_2_4 : round 36 1 2 4 = true := by kernel_rfl
theorem r1_2_5 : round 36 1 2 5 = true := by kernel_rfl
theorem r1_2_6 : round 36 1 2 6 = true := by kernel_rfl
theorem r1_2_7 : round 36 1 2 7 = true := by kernel_rfl
theorem r1_2_8 : round 36 1 2 8 = true := by kernel_rfl
theorem r1_2_9 : round 36 1 2 9 = true := by kernel_rfl
theorem r1_2_10 : round 36 1 2 10 = true := by kernel_rfl
theorem r1_2_11 : round 36 1 2 11 = true := by kernel_rfl
theorem r1_2_12 : round 36 1 2 12 = true := by kernel_rfl
theorem r1_2_13 : round 36 1 2 13 = true := by kernel_rfl
theorem r1_2_14 : round 36 1 2 14 = true := by kernel_rfl
theorem r1_2_15 : round 36 1 2 15 = true := by kernel_rfl
theorem r1_2_16 : round 36 1 2 16 = true := by kernel_rfl
theorem r1_2_17 : round 36 1 2 17 = true := by kernel_rfl
theorem r1_2_18 : round 36 1 2 18 = true := by kernel_rfl
theorem r1_2_19 : round 36 1 2 19 = true := by kernel_rfl
theorem l1_2_0 : last ([]) 36 1 2 = true := by kernel_rfl
theorem f5_6 : first 32 5 6 = true := by kernel_rfl
theorem r5_6_0 : round 32 5 6 0 = true := by kernel_rfl
theorem r5_6_1 : round 32 5 6 1 = true := by kernel_rfl
theorem r5_6_2 : round 32 5 6 2 = true := by kernel_rfl
theorem r5_6_3 : round 32 5 6 3 = true := by kernel_rfl
theorem r5_6_4 : round 32 5 6 4 = true := by kernel_rfl
theorem r5_6_5 : round 32 5 6 5 = true := by kernel_rfl
theorem r5_6_6 : round 32 5 6 6 = true := by kernel_rfl
theorem r5_6_7 : round 32 5 6 7 = true := by kernel_rfl
theorem r5_6_8 : round 32 5 6 8 = true := by kernel_rfl
theorem r5_6_9 : round 32 5 6 9 = true := by kernel_rfl
theorem r5_6_10 : round 32 5 6 10 = true := by kernel_rfl
theorem r5_6_11 : round 32 5 6 11 = true := by kernel_rfl
theorem r5_6_12 : round 32 5 6 12 = true := by kernel_rfl
theorem r5_6_13 : round 32 5 6 13 = true := by kernel_rfl
theorem r5_6_14 : round 32 5 6 14 = true := by kernel_rfl
theorem r5_6_15 : round 32 5 6 15 = true := by kernel_rfl
theorem r5_6_16 : round 32 5 6 16 = true := by kernel_rfl
theorem r5_6_17 : round 32 5 6 17 = true := by kernel_rfl
theorem r5_6_18 : round 32 5 6 18 = true := by kernel_rfl
theorem l5_6_0 : last ([]) 32 5 6 = true := by kernel_rfl
end Go.Proofs.YtaecedlhiclkdaaGreat.Opl
