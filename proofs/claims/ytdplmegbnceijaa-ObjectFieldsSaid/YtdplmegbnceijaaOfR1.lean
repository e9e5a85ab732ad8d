/- ObjectFields: runs. No condition. -/
import Derived.Test.YtdplmegbnceijaaOfS
namespace Go.Proofs.Ytdplmegbnceijaa.Of
open Go Vx Con
set_option linter.unusedVariables false
set_option linter.constructorNameAsVariable false
set_option maxRecDepth 100000

theorem r16 : G 16 = true := by kernel_rfl
theorem r17 : G 17 = true := by kernel_rfl
theorem r18 : G 18 = true := by kernel_rfl
theorem r19 : G 19 = true := by kernel_rfl
theorem r20 : G 20 = true := by kernel_rfl
theorem r21 : G 21 = true := by kernel_rfl
theorem r22 : G 22 = true := by kernel_rfl
theorem r23 : G 23 = true := by kernel_rfl
theorem r24 : G 24 = true := by kernel_rfl
theorem r25 : G 25 = true := by kernel_rfl
theorem r26 : G 26 = true := by kernel_rfl
theorem r27 : G 27 = true := by kernel_rfl
theorem r28 : G 28 = true := by kernel_rfl
theorem r29 : G 29 = true := by kernel_rfl
theorem r30 : G 30 = true := by kernel_rfl
theorem r31 : G 31 = true := by kernel_rfl
theorem r112 : G 112 = true := by kernel_rfl
theorem r113 : G 113 = true := by kernel_rfl
theorem r114 : G 114 = true := by kernel_rfl
theorem r115 : G 115 = true := by kernel_rfl
theorem r116 : G 116 = true := by kernel_rfl
theorem r117 : G 117 = true := by kernel_rfl
theorem r118 : G 118 = true := by kernel_rfl
theorem r119 : G 119 = true := by kernel_rfl
theorem r120 : G 120 = true := by kernel_rfl
theorem r121 : G 121 = true := by kernel_rfl
theorem r122 : G 122 = true := by kernel_rfl
theorem r123 : G 123 = true := by kernel_rfl
theorem r124 : G 124 = true := by kernel_rfl
theorem r125 : G 125 = true := by kernel_rfl
theorem r126 : G 126 = true := by kernel_rfl
theorem r127 : G 127 = true := by kernel_rfl
theorem r128 : G 128 = true := by kernel_rfl
theorem r129 : G 129 = true := by kernel_rfl
theorem r130 : G 130 = true := by kernel_rfl
theorem r131 : G 131 = true := by kernel_rfl
theorem r132 : G 132 = true := by kernel_rfl
theorem r133 : G 133 = true := by kernel_rfl
theorem r134 : G 134 = true := by kernel_rfl
theorem r135 : G 135 = true := by kernel_rfl
theorem r136 : G 136 = true := by kernel_rfl
theorem r137 : G 137 = true := by kernel_rfl
theorem r138 : G 138 = true := by kernel_rfl
theorem r139 : G 139 = true := by kernel_rfl
theorem r140 : G 140 = true := by kernel_rfl
theorem r141 : G 141 = true := by kernel_rfl
theorem r142 : G 142 = true := by kernel_rfl
theorem r143 : G 143 = true := by kernel_rfl
theorem r144 : G 144 = true := by kernel_rfl
theorem r145 : G 145 = true := by kernel_rfl
theorem r146 : G 146 = true := by kernel_rfl
theorem r147 : G 147 = true := by kernel_rfl
theorem r148 : G 148 = true := by kernel_rfl
theorem r149 : G 149 = true := by kernel_rfl
theorem r150 : G 150 = true := by kernel_rfl
theorem r151 : G 151 = true := by kernel_rfl
theorem r152 : G 152 = true := by kernel_rfl
theorem r153 : G 153 = true := by kernel_rfl
theorem r154 : G 154 = true := by kernel_rfl
theorem r155 : G 155 = true := by kernel_rfl
theorem r156 : G 156 = true := by kernel_rfl
theorem r157 : G 157 = true := by kernel_rfl
theorem r158 : G 158 = true := by kernel_rfl
theorem r159 : G 159 = true := by kernel_rfl
theorem ra1 : AllFrom (fun c => G c = true) 16 16 := ⟨r16, r17, r18, r19, r20, r21, r22, r23, r24, r25, r26, r27, r28, r29, r30, r31, trivial⟩
theorem rb1 : AllFrom (fun c => G c = true) 112 48 := ⟨r112, r113, r114, r115, r116, r117, r118, r119, r120, r121, r122, r123, r124, r125, r126, r127, r128, r129, r130, r131, r132, r133, r134, r135, r136, r137, r138, r139, r140, r141, r142, r143, r144, r145, r146, r147, r148, r149, r150, r151, r152, r153, r154, r155, r156, r157, r158, r159, trivial⟩
end Go.Proofs.Ytdplmegbnceijaa.Of
