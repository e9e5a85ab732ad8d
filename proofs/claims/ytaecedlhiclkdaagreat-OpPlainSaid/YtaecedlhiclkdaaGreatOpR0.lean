/- OpPlain: runs. No condition. -/
import Derived.Test.YtaecedlhiclkdaaGreatOpB
namespace Go.Proofs.YtaecedlhiclkdaaGreat.Opl
open Go Vx Con
set_option linter.unusedVariables false
set_option linter.constructorNameAsVariable false
set_option maxRecDepth 100000

theorem f4_5 : first 32 4 5 = true := by kernel_rfl
theorem r4_5_0 : round 32 4 5 0 = true := by kernel_rfl
theorem r4_5_1 : round 32 4 5 1 = true := by kernel_rfl
theorem r4_5_2 : round 32 4 5 2 = true := by kernel_rfl
theorem r4_5_3 : round 32 4 5 3 = true := by kernel_rfl
theorem r4_5_4 : round 32 4 5 4 = true := by kernel_rfl
theorem r4_5_5 : round 32 4 5 5 = true := by kernel_rfl
theorem r4_5_6 : round 32 4 5 6 = true := by kernel_rfl
theorem r4_5_7 : round 32 4 5 7 = true := by kernel_rfl
theorem r4_5_8 : round 32 4 5 8 = true := by kernel_rfl
theorem r4_5_9 : round 32 4 5 9 = true := by kernel_rfl
theorem r4_5_10 : round 32 4 5 10 = true := by kernel_rfl
theorem r4_5_11 : round 32 4 5 11 = true := by kernel_rfl
theorem r4_5_12 : round 32 4 5 12 = true := by kernel_rfl
theorem r4_5_13 : round 32 4 5 13 = true := by kernel_rfl
theorem r4_5_14 : round 32 4 5 14 = true := by kernel_rfl
theorem r4_5_15 : round 32 4 5 15 = true := by kernel_rfl
theorem r4_5_16 : round 32 4 5 16 = true := by kernel_rfl
theorem r4_5_17 : round 32 4 5 17 = true := by kernel_rfl
theorem r4_5_18 : round 32 4 5 18 = true := by kernel_rfl
theorem r4_5_19 : round 32 4 5 19 = true := by kernel_rfl
theorem l4_5_0 : last ([fR 7 false]) 32 4 5 = true := by kernel_rfl
theorem l4_5_1 : last ([fR 7 true, fN (.sy 6) false]) 32 4 5 = true := by kernel_rfl
theorem l4_5_2 : last ([fR 7 true, fN (.sy 6) true, fN (rd 7) false]) 32 4 5 = true := by kernel_rfl
theorem l4_5_3 : last ([fR 7 true, fN (.sy 6) true, fN (rd 7) true] ++ fE (.sy 6) (rd 7) false true false) 32 4 5 = true := by kernel_rfl
theorem l4_5_4 : last ([fR 7 true, fN (.sy 6) true, fN (rd 7) true] ++ fE (.sy 6) (rd 7) true false false) 32 4 5 = true := by kernel_rfl
theorem l4_5_5 : last ([fR 7 true, fN (.sy 6) true, fN (rd 7) true] ++ fE (.sy 6) (rd 7) false false true) 32 4 5 = true := by kernel_rfl
theorem f2_2 : first 36 2 2 = true := by kernel_rfl
theorem r2_2_0 : round 36 2 2 0 = true := by kernel_rfl
theorem r2_2_1 : round 36 2 2 1 = true := by kernel_rfl
theorem r2_2_2 : round 36 2 2 2 = true := by kernel_rfl
theorem r2_2_3 : round 36 2 2 3 = true := by kernel_rfl
theorem r2_2_4 : round 36 2 2 4 = true := by kernel_rfl
theorem r2_2_5 : round 36 2 2 5 = true := by kernel_rfl
theorem r2_2_6 : round 36 2 2 6 = true := by kernel_rfl
theorem r2_2_7 : round 36 2 2 7 = true := by kernel_rfl
theorem r2_2_8 : round 36 2 2 8 = true := by kernel_rfl
theorem r2_2_9 : round 36 2 2 9 = true := by kernel_rfl
theorem r2_2_10 : round 36 2 2 10 = true := by kernel_rfl
theorem r2_2_11 : round 36 2 2 11 = true := by kernel_rfl
theorem r2_2_12 : round 36 2 2 12 = true := by kernel_rfl
theorem r2_2_13 : round 36 2 2 13 = true := by kernel_rfl
theorem r2_2_14 : round 36 2 2 14 = true := by kernel_rfl
theorem r2_2_15 : round 36 2 2 15 = true := by kernel_rfl
theorem r2_2_16 : round 36 2 2 16 = true := by kernel_rfl
theorem r2_2_17 : round 36 2 2 17 = true := by kernel_rfl
theorem r2_2_18 : round 36 2 2 18 = true := by kernel_rfl
theorem r2_2_19 : round 36 2 2 19 = true := by kernel_rfl
theorem l2_2_0 : last ([]) 36 2 2 = true := by kernel_rfl
theorem f6_4 : first 32 6 4 = true := by kernel_rfl
theorem r6_4_0 : round 32 6 4 0 = true := by kernel_rfl
theorem r6_4_1 : round 32 6 4 1 = true := by kernel_rfl
theorem r6_4_2 : round 32 6 4 2 = true := by kernel_rfl
theorem r6_4_3 : round 32 6 4 3 = true := by kernel_rfl
theorem r6_4_4 : round 32 6 4 4 = true := by kernel_rfl
theorem r6_4_5 : round 32 6 4 5 = true := by kernel_rfl
theorem r6_4_6 : round 32 6 4 6 = true := by kernel_rfl
theorem r6_4_7 : round 32 6 4 7 = true := by kernel_rfl
theorem r6_4_8 : round 32 6 4 8 = true := by kernel_rfl
theorem r6_4_9 : round 32 6 4 9 = true := by kernel_rfl
theorem r6_4_10 : round 32 6 4 10 = true := by kernel_rfl
theorem r6_4_11 : round 32 6 4 11 = true := by kernel_rfl
theorem r6_4_12 : round 32 6 4 12 = true := by kernel_rfl
theorem r6_4_13 : round 32 6 4 13 = true := by kernel_rfl
theorem r6_4_14 : round 32 6 4 14 = true := by kernel_rfl
theorem r6_4_15 : round 32 6 4 15 = true := by kernel_rfl
theorem r6_4_16 : round 32 6 4 16 = true := by kernel_rfl
theorem r6_4_17 : round 32 6 4 17 = true := by kernel_rfl
theorem r6_4_18 : round 32 6 4 18 = true := by kernel_rfl
theorem r6_4_19 : round 32 6 4 19 = true := by kernel_rfl
theorem l6_4_0 : last ([]) 32 6 4 = true := by kernel_rfl
theorem g0_7 : G 0 7 = true := by kernel_rfl
theorem g0_8 : G 0 8 = true := by kernel_rfl
theorem g0_9 : G 0 9 = true := by kernel_rfl
theorem g1_7 : G 1 7 = true := by kernel_rfl
theorem g1_8 : G 1 8 = true := by kernel_rfl
theorem g1_9 : G 1 9 = true := by kernel_rfl
theorem g2_7 : G 2 7 = true := by kernel_rfl
theorem g2_8 : G 2 8 = true := by kernel_rfl
theorem g2_9 : G 2 9 = true := by kernel_rfl
theorem g3_7 : G 3 7 = true := by kernel_rfl
theorem g3_8 : G 3 8 = true := by kernel_rfl
theorem g3_9 : G 3 9 = true := by kernel_rfl
theorem g4_7 : G 4 7 = true := by kernel_rfl
theorem g4_8 : G 4 8 = true := by kernel_rfl
theorem g4_9 : G 4 9 = true := by kernel_rfl
theorem g5_7 : G 5 7 = true := by kernel_rfl
theorem g5_8 : G 5 8 = true := by kernel_rfl
theorem g5_9 : G 5 9 = true := by kernel_rfl
theorem g6_7 : G 6 7 = true := by kernel_rfl
theorem g6_8 : G 6 8 = true := by kernel_rfl
theorem g6_9 : G 6 9 = true := by kernel_rfl
theorem g7_0 : G 7 0 = true := by kernel_rfl
theorem g7_1 : G 7 1 = true := by kernel_rfl
theorem g7_2 : G 7 2 = true := by kernel_rfl
theorem g7_3 : G 7 3 = true := by kernel_rfl
theorem g7_4 : G 7 4 = true := by kernel_rfl
theorem g7_5 : G 7 5 = true := by kernel_rfl
theorem g7_6 : G 7 6 = true := by kernel_rfl
theorem g7_7 : G 7 7 = true := by kernel_rfl
theorem g7_8 : G 7 8 = true := by kernel_rfl
theorem g7_9 : G 7 9 = true := by kernel_rfl
theorem g8_0 : G 8 0 = true := by kernel_rfl
theorem g8_1 : G 8 1 = true := by kernel_rfl
theorem g8_2 : G 8 2 = true := by kernel_rfl
theorem g8_3 : G 8 3 = true := by kernel_rfl
theorem g8_4 : G 8 4 = true := by kernel_rfl
theorem g8_5 : G 8 5 = true := by kernel_rfl
theorem g8_6 : G 8 6 = true := by kernel_rfl
theorem g8_7 : G 8 7 = true := by kernel_rfl
theorem g8_8 : G 8 8 = true := by kernel_rfl
theorem g8_9 : G 8 9 = true := by kernel_rfl
theorem g9_0 : G 9 0 = true := by kernel_rfl
theorem g9_1 : G 9 1 = true := by kernel_rfl
theorem g9_2 : G 9 2 = true := by kernel_rfl
theorem g9_3 : G 9 3 = true := by kernel_rfl
theorem g9_4 : G 9 4 = true := by kernel_rfl
theorem g9_5 : G 9 5 = true := by kernel_rfl
theorem g9_6 : G 9 6 = true := by kernel_rfl
theorem g9_7 : G 9 7 = true := by kernel_rfl
theorem g9_8 : G 9 8 = true := by kernel_rfl
theorem g9_9 : G 9 9 = true := by kernel_rfl
theorem b1 : B [(m1, false)] = true := by kernel_rfl
theorem b2 : B [(m1, true), (m2, false)] = true := by kernel_rfl
end Go.Proofs.YtaecedlhiclkdaaGreat.Opl
