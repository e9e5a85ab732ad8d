/- A descriptor's check, run for each of its bits. No condition. -/
import Derived.Test.YtdplmegbnceijaaCon
import Derived.Test.YtdplmegbnceijaaVxZh
namespace Go.Proofs.Ytdplmegbnceijaa.Of
open Go Vx Con
set_option linter.unusedVariables false
set_option linter.constructorNameAsVariable false
set_option maxRecDepth 100000

theorem d7_112 : D c2 7 112 = true := by kernel_rfl
theorem d7_113 : D c2 7 113 = true := by kernel_rfl
theorem d7_114 : D c2 7 114 = true := by kernel_rfl
theorem d7_115 : D c2 7 115 = true := by kernel_rfl
theorem d7_116 : D c2 7 116 = true := by kernel_rfl
theorem d7_117 : D c2 7 117 = true := by kernel_rfl
theorem d7_118 : D c2 7 118 = true := by kernel_rfl
theorem d7_119 : D c2 7 119 = true := by kernel_rfl
theorem d7_120 : D c2 7 120 = true := by kernel_rfl
theorem d7_121 : D c2 7 121 = true := by kernel_rfl
theorem d7_122 : D c2 7 122 = true := by kernel_rfl
theorem d7_123 : D c2 7 123 = true := by kernel_rfl
theorem d7_124 : D c2 7 124 = true := by kernel_rfl
theorem d7_125 : D c2 7 125 = true := by kernel_rfl
theorem d7_126 : D c2 7 126 = true := by kernel_rfl
theorem d7_127 : D c2 7 127 = true := by kernel_rfl
theorem d7_128 : D c2 7 128 = true := by kernel_rfl
theorem d7_129 : D c2 7 129 = true := by kernel_rfl
theorem d7_130 : D c2 7 130 = true := by kernel_rfl
theorem d7_131 : D c2 7 131 = true := by kernel_rfl
theorem d7_132 : D c2 7 132 = true := by kernel_rfl
theorem d7_133 : D c2 7 133 = true := by kernel_rfl
theorem d7_134 : D c2 7 134 = true := by kernel_rfl
theorem d7_135 : D c2 7 135 = true := by kernel_rfl
theorem d7_136 : D c2 7 136 = true := by kernel_rfl
theorem d7_137 : D c2 7 137 = true := by kernel_rfl
theorem d7_138 : D c2 7 138 = true := by kernel_rfl
theorem d7_139 : D c2 7 139 = true := by kernel_rfl
theorem d7_140 : D c2 7 140 = true := by kernel_rfl
theorem d7_141 : D c2 7 141 = true := by kernel_rfl
theorem d7_142 : D c2 7 142 = true := by kernel_rfl
theorem d7_143 : D c2 7 143 = true := by kernel_rfl
theorem d7_144 : D c2 7 144 = true := by kernel_rfl
theorem d7_145 : D c2 7 145 = true := by kernel_rfl
theorem d7_146 : D c2 7 146 = true := by kernel_rfl
theorem d7_147 : D c2 7 147 = true := by kernel_rfl
theorem d7_148 : D c2 7 148 = true := by kernel_rfl
theorem d7_149 : D c2 7 149 = true := by kernel_rfl
theorem d7_150 : D c2 7 150 = true := by kernel_rfl
theorem d7_151 : D c2 7 151 = true := by kernel_rfl
theorem d7_152 : D c2 7 152 = true := by kernel_rfl
theorem d7_153 : D c2 7 153 = true := by kernel_rfl
theorem d7_154 : D c2 7 154 = true := by kernel_rfl
theorem d7_155 : D c2 7 155 = true := by kernel_rfl
theorem d7_156 : D c2 7 156 = true := by kernel_rfl
theorem d7_157 : D c2 7 157 = true := by kernel_rfl
theorem d7_158 : D c2 7 158 = true := by kernel_rfl
theorem d7_159 : D c2 7 159 = true := by kernel_rfl
theorem a7_5 : AllFrom (fun c => D c2 7 c = true) 112 48 := ⟨d7_112, d7_113, d7_114, d7_115, d7_116, d7_117, d7_118, d7_119, d7_120, d7_121, d7_122, d7_123, d7_124, d7_125, d7_126, d7_127, d7_128, d7_129, d7_130, d7_131, d7_132, d7_133, d7_134, d7_135, d7_136, d7_137, d7_138, d7_139, d7_140, d7_141, d7_142, d7_143, d7_144, d7_145, d7_146, d7_147, d7_148, d7_149, d7_150, d7_151, d7_152, d7_153, d7_154, d7_155, d7_156, d7_157, d7_158, d7_159, trivial⟩
theorem d9_112 : D c2 9 112 = true := by kernel_rfl
theorem d9_113 : D c2 9 113 = true := by kernel_rfl
theorem d9_114 : D c2 9 114 = true := by kernel_rfl
theorem d9_115 : D c2 9 115 = true := by kernel_rfl
theorem d9_116 : D c2 9 116 = true := by kernel_rfl
theorem d9_117 : D c2 9 117 = true := by kernel_rfl
theorem d9_118 : D c2 9 118 = true := by kernel_rfl
theorem d9_119 : D c2 9 119 = true := by kernel_rfl
theorem d9_120 : D c2 9 120 = true := by kernel_rfl
theorem d9_121 : D c2 9 121 = true := by kernel_rfl
theorem d9_122 : D c2 9 122 = true := by kernel_rfl
theorem d9_123 : D c2 9 123 = true := by kernel_rfl
theorem d9_124 : D c2 9 124 = true := by kernel_rfl
theorem d9_125 : D c2 9 125 = true := by kernel_rfl
theorem d9_126 : D c2 9 126 = true := by kernel_rfl
theorem d9_127 : D c2 9 127 = true := by kernel_rfl
theorem d9_128 : D c2 9 128 = true := by kernel_rfl
theorem d9_129 : D c2 9 129 = true := by kernel_rfl
theorem d9_130 : D c2 9 130 = true := by kernel_rfl
theorem d9_131 : D c2 9 131 = true := by kernel_rfl
theorem d9_132 : D c2 9 132 = true := by kernel_rfl
theorem d9_133 : D c2 9 133 = true := by kernel_rfl
theorem d9_134 : D c2 9 134 = true := by kernel_rfl
theorem d9_135 : D c2 9 135 = true := by kernel_rfl
theorem d9_136 : D c2 9 136 = true := by kernel_rfl
theorem d9_137 : D c2 9 137 = true := by kernel_rfl
theorem d9_138 : D c2 9 138 = true := by kernel_rfl
theorem d9_139 : D c2 9 139 = true := by kernel_rfl
theorem d9_140 : D c2 9 140 = true := by kernel_rfl
theorem d9_141 : D c2 9 141 = true := by kernel_rfl
theorem d9_142 : D c2 9 142 = true := by kernel_rfl
theorem d9_143 : D c2 9 143 = true := by kernel_rfl
theorem d9_144 : D c2 9 144 = true := by kernel_rfl
theorem d9_145 : D c2 9 145 = true := by kernel_rfl
theorem d9_146 : D c2 9 146 = true := by kernel_rfl
theorem d9_147 : D c2 9 147 = true := by kernel_rfl
theorem d9_148 : D c2 9 148 = true := by kernel_rfl
theorem d9_149 : D c2 9 149 = true := by kernel_rfl
theorem d9_150 : D c2 9 150 = true := by kernel_rfl
theorem d9_151 : D c2 9 151 = true := by kernel_rfl
theorem d9_152 : D c2 9 152 = true := by kernel_rfl
theorem d9_153 : D c2 9 153 = true := by kernel_rfl
theorem d9_154 : D c2 9 154 = true := by kernel_rfl
theorem d9_155 : D c2 9 155 = true := by kernel_rfl
theorem d9_156 : D c2 9 156 = true := by kernel_rfl
theorem d9_157 : D c2 9 157 = true := by kernel_rfl
theorem d9_158 : D c2 9 158 = true := by kernel_rfl
theorem d9_159 : D c2 9 159 = true := by kernel_rfl
theorem a9_5 : AllFrom (fun c => D c2 9 c = true) 112 48 := ⟨d9_112, d9_113, d9_114, d9_115, d9_116, d9_117, d9_118, d9_119, d9_120, d9_121, d9_122, d9_123, d9_124, d9_125, d9_126, d9_127, d9_128, d9_129, d9_130, d9_131, d9_132, d9_133, d9_134, d9_135, d9_136, d9_137, d9_138, d9_139, d9_140, d9_141, d9_142, d9_143, d9_144, d9_145, d9_146, d9_147, d9_148, d9_149, d9_150, d9_151, d9_152, d9_153, d9_154, d9_155, d9_156, d9_157, d9_158, d9_159, trivial⟩
end Go.Proofs.Ytdplmegbnceijaa.Of
