/- OpPlain: runs. No condition. -/
import Derived.Test.YtaecedlhiclkdaaGreatOpB
namespace Go.Proofs.YtaecedlhiclkdaaGreat.Opl
open Go Vx Con
set_option linter.unusedVariables false
set_option linter.constructorNameAsVariable false
set_option maxRecDepth 100000

theorem f1_5 : first 34 1 5 = true := by kernel_rfl
theorem r1_5_0 : round 34 1 5 0 = true := by kernel_rfl
theorem r1_5_1 : round 34 1 5 1 = true := by kernel_rfl
theorem r1_5_2 : round 34 1 5 2 = true := by kernel_rfl
theorem r1_5_3 : round 34 1 5 3 = true := by kernel_rfl
theorem r1_5_4 : round 34 1 5 4 = true := by kernel_rfl
theorem r1_5_5 : round 34 1 5 5 = true := by kernel_rfl
theorem r1_5_6 : round 34 1 5 6 = true := by kernel_rfl
theorem r1_5_7 : round 34 1 5 7 = true := by kernel_rfl
theorem r1_5_8 : round 34 1 5 8 = true := by kernel_rfl
theorem r1_5_9 : round 34 1 5 9 = true := by kernel_rfl
theorem r1_5_10 : round 34 1 5 10 = true := by kernel_rfl
theorem r1_5_11 : round 34 1 5 11 = true := by kernel_rfl
theorem r1_5_12 : round 34 1 5 12 = true := by kernel_rfl
theorem r1_5_13 : round 34 1 5 13 = true := by kernel_rfl
theorem r1_5_14 : round 34 1 5 14 = true := by kernel_rfl
theorem r1_5_15 : round 34 1 5 15 = true := by kernel_rfl
theorem r1_5_16 : round 34 1 5 16 = true := by kernel_rfl
theorem r1_5_17 : round 34 1 5 17 = true := by kernel_rfl
theorem r1_5_18 : round 34 1 5 18 = true := by kernel_rfl
theorem r1_5_19 : round 34 1 5 19 = true := by kernel_rfl
theorem l1_5_0 : last ([fR 7 false]) 34 1 5 = true := by kernel_rfl
theorem l1_5_1 : last ([fR 7 true, fN (rd 7) false]) 34 1 5 = true := by kernel_rfl
theorem l1_5_2 : last ([fR 7 true, fN (rd 7) true] ++ fE (cst 1) (rd 7) false true false) 34 1 5 = true := by kernel_rfl
theorem l1_5_3 : last ([fR 7 true, fN (rd 7) true] ++ fE (cst 1) (rd 7) true false false) 34 1 5 = true := by kernel_rfl
theorem l1_5_4 : last ([fR 7 true, fN (rd 7) true] ++ fE (cst 1) (rd 7) false false true) 34 1 5 = true := by kernel_rfl
theorem f1_0 : first 36 1 0 = true := by kernel_rfl
theorem r1_0_0 : round 36 1 0 0 = true := by kernel_rfl
theorem r1_0_1 : round 36 1 0 1 = true := by kernel_rfl
theorem r1_0_2 : round 36 1 0 2 = true := by kernel_rfl
theorem r1_0_3 : round 36 1 0 3 = true := by kernel_rfl
theorem r1_0_4 : round 36 1 0 4 = true := by kernel_rfl
theorem r1_0_5 : round 36 1 0 5 = true := by kernel_rfl
theorem r1_0_6 : round 36 1 0 6 = true := by kernel_rfl
theorem r1_0_7 : round 36 1 0 7 = true := by kernel_rfl
theorem r1_0_8 : round 36 1 0 8 = true := by kernel_rfl
theorem r1_0_9 : round 36 1 0 9 = true := by kernel_rfl
theorem r1_0_10 : round 36 1 0 10 = true := by kernel_rfl
theorem r1_0_11 : round 36 1 0 11 = true := by kernel_rfl
theorem r1_0_12 : round 36 1 0 12 = true := by kernel_rfl
theorem r1_0_13 : round 36 1 0 13 = true := by kernel_rfl
theorem r1_0_14 : round 36 1 0 14 = true := by kernel_rfl
theorem r1_0_15 : round 36 1 0 15 = true := by kernel_rfl
theorem r1_0_16 : round 36 1 0 16 = true := by kernel_rfl
theorem r1_0_17 : round 36 1 0 17 = true := by kernel_rfl
theorem r1_0_18 : round 36 1 0 18 = true := by kernel_rfl
theorem r1_0_19 : round 36 1 0 19 = true := by kernel_rfl
theorem l1_0_0 : last ([]) 36 1 0 = true := by kernel_rfl
theorem f4_6 : first 32 4 6 = true := by kernel_rfl
theorem r4_6_0 : round 32 4 6 0 = true := by kernel_rfl
theorem r4_6_1 : round 32 4 6 1 = true := by kernel_rfl
theorem r4_6_2 : round 32 4 6 2 = true := by kernel_rfl
theorem r4_6_3 : round 32 4 6 3 = true := by kernel_rfl
theorem r4_6_4 : round 32 4 6 4 = true := by kernel_rfl
theorem r4_6_5 : round 32 4 6 5 = true := by kernel_rfl
theorem r4_6_6 : round 32 4 6 6 = true := by kernel_rfl
theorem r4_6_7 : round 32 4 6 7 = true := by kernel_rfl
theorem r4_6_8 : round 32 4 6 8 = true := by kernel_rfl
theorem r4_6_9 : round 32 4 6 9 = true := by kernel_rfl
theorem r4_6_10 : round 32 4 6 10 = true := by kernel_rfl
theorem r4_6_11 : round 32 4 6 11 = true := by kernel_rfl
theorem r4_6_12 : round 32 4 6 12 = true := by kernel_rfl
theorem r4_6_13 : round 32 4 6 13 = true := by kernel_rfl
theorem r4_6_14 : round 32 4 6 14 = true := by kernel_rfl
theorem r4_6_15 : round 32 4 6 15 = true := by kernel_rfl
theorem r4_6_16 : round 32 4 6 16 = true := by kernel_rfl
theorem r4_6_17 : round 32 4 6 17 = true := by kernel_rfl
theorem r4_6_18 : round 32 4 6 18 = true := by kernel_rfl
theorem l4_6_0 : last ([]) 32 4 6 = true := by kernel_rfl
end Go.Proofs.YtaecedlhiclkdaaGreat.Opl
