/- A descriptor's check, run for each of its bits. No condition. -/
import Derived.Test.YtdplmegbnceijaaCon
import Derived.Test.YtdplmegbnceijaaVxZh
namespace Go.Proofs.Ytdplmegbnceijaa.Of
open Go Vx Con
set_option linter.unusedVariables false
set_option linter.constructorNameAsVariable false
set_option maxRecDepth 100000

theorem d7_160 : D c2 7 160 = true := by kernel_rfl
theorem d7_161 : D c2 7 161 = true := by kernel_rfl
theorem d7_162 : D c2 7 162 = true := by kernel_rfl
theorem d7_163 : D c2 7 163 = true := by kernel_rfl
theorem d7_164 : D c2 7 164 = true := by kernel_rfl
theorem d7_165 : D c2 7 165 = true := by kernel_rfl
theorem d7_166 : D c2 7 166 = true := by kernel_rfl
theorem d7_167 : D c2 7 167 = true := by kernel_rfl
theorem d7_168 : D c2 7 168 = true := by kernel_rfl
theorem d7_169 : D c2 7 169 = true := by kernel_rfl
theorem d7_170 : D c2 7 170 = true := by kernel_rfl
theorem d7_171 : D c2 7 171 = true := by kernel_rfl
theorem d7_172 : D c2 7 172 = true := by kernel_rfl
theorem d7_173 : D c2 7 173 = true := by kernel_rfl
theorem d7_174 : D c2 7 174 = true := by kernel_rfl
theorem d7_175 : D c2 7 175 = true := by kernel_rfl
theorem d7_176 : D c2 7 176 = true := by kernel_rfl
theorem d7_177 : D c2 7 177 = true := by kernel_rfl
theorem d7_178 : D c2 7 178 = true := by kernel_rfl
theorem d7_179 : D c2 7 179 = true := by kernel_rfl
theorem d7_180 : D c2 7 180 = true := by kernel_rfl
theorem d7_181 : D c2 7 181 = true := by kernel_rfl
theorem d7_182 : D c2 7 182 = true := by kernel_rfl
theorem d7_183 : D c2 7 183 = true := by kernel_rfl
theorem d7_184 : D c2 7 184 = true := by kernel_rfl
theorem d7_185 : D c2 7 185 = true := by kernel_rfl
theorem d7_186 : D c2 7 186 = true := by kernel_rfl
theorem d7_187 : D c2 7 187 = true := by kernel_rfl
theorem d7_188 : D c2 7 188 = true := by kernel_rfl
theorem d7_189 : D c2 7 189 = true := by kernel_rfl
theorem d7_190 : D c2 7 190 = true := by kernel_rfl
theorem d7_191 : D c2 7 191 = true := by kernel_rfl
theorem d7_192 : D c2 7 192 = true := by kernel_rfl
theorem d7_193 : D c2 7 193 = true := by kernel_rfl
theorem d7_194 : D c2 7 194 = true := by kernel_rfl
theorem d7_195 : D c2 7 195 = true := by kernel_rfl
theorem d7_196 : D c2 7 196 = true := by kernel_rfl
theorem d7_197 : D c2 7 197 = true := by kernel_rfl
theorem d7_198 : D c2 7 198 = true := by kernel_rfl
theorem d7_199 : D c2 7 199 = true := by kernel_rfl
theorem d7_200 : D c2 7 200 = true := by kernel_rfl
theorem d7_201 : D c2 7 201 = true := by kernel_rfl
theorem d7_202 : D c2 7 202 = true := by kernel_rfl
theorem d7_203 : D c2 7 203 = true := by kernel_rfl
theorem d7_204 : D c2 7 204 = true := by kernel_rfl
theorem d7_205 : D c2 7 205 = true := by kernel_rfl
theorem d7_206 : D c2 7 206 = true := by kernel_rfl
theorem d7_207 : D c2 7 207 = true := by kernel_rfl
theorem a7_6 : AllFrom (fun c => D c2 7 c = true) 160 48 := ⟨d7_160, d7_161, d7_162, d7_163, d7_164, d7_165, d7_166, d7_167, d7_168, d7_169, d7_170, d7_171, d7_172, d7_173, d7_174, d7_175, d7_176, d7_177, d7_178, d7_179, d7_180, d7_181, d7_182, d7_183, d7_184, d7_185, d7_186, d7_187, d7_188, d7_189, d7_190, d7_191, d7_192, d7_193, d7_194, d7_195, d7_196, d7_197, d7_198, d7_199, d7_200, d7_201, d7_202, d7_203, d7_204, d7_205, d7_206, d7_207, trivial⟩
theorem d9_160 : D c2 9 160 = true := by kernel_rfl
theorem d9_161 : D c2 9 161 = true := by kernel_rfl
theorem d9_162 : D c2 9 162 = true := by kernel_rfl
theorem d9_163 : D c2 9 163 = true := by kernel_rfl
theorem d9_164 : D c2 9 164 = true := by kernel_rfl
theorem d9_165 : D c2 9 165 = true := by kernel_rfl
theorem d9_166 : D c2 9 166 = true := by kernel_rfl
theorem d9_167 : D c2 9 167 = true := by kernel_rfl
theorem d9_168 : D c2 9 168 = true := by kernel_rfl
theorem d9_169 : D c2 9 169 = true := by kernel_rfl
theorem d9_170 : D c2 9 170 = true := by kernel_rfl
theorem d9_171 : D c2 9 171 = true := by kernel_rfl
theorem d9_172 : D c2 9 172 = true := by kernel_rfl
theorem d9_173 : D c2 9 173 = true := by kernel_rfl
theorem d9_174 : D c2 9 174 = true := by kernel_rfl
theorem d9_175 : D c2 9 175 = true := by kernel_rfl
theorem d9_176 : D c2 9 176 = true := by kernel_rfl
theorem d9_177 : D c2 9 177 = true := by kernel_rfl
theorem d9_178 : D c2 9 178 = true := by kernel_rfl
theorem d9_179 : D c2 9 179 = true := by kernel_rfl
theorem d9_180 : D c2 9 180 = true := by kernel_rfl
theorem d9_181 : D c2 9 181 = true := by kernel_rfl
theorem d9_182 : D c2 9 182 = true := by kernel_rfl
theorem d9_183 : D c2 9 183 = true := by kernel_rfl
theorem d9_184 : D c2 9 184 = true := by kernel_rfl
theorem d9_185 : D c2 9 185 = true := by kernel_rfl
theorem d9_186 : D c2 9 186 = true := by kernel_rfl
theorem d9_187 : D c2 9 187 = true := by kernel_rfl
theorem d9_188 : D c2 9 188 = true := by kernel_rfl
theorem d9_189 : D c2 9 189 = true := by kernel_rfl
theorem d9_190 : D c2 9 190 = true := by kernel_rfl
theorem d9_191 : D c2 9 191 = true := by kernel_rfl
theorem d9_192 : D c2 9 192 = true := by kernel_rfl
theorem d9_193 : D c2 9 193 = true := by kernel_rfl
theorem d9_194 : D c2 9 194 = true := by kernel_rfl
theorem d9_195 : D c2 9 195 = true := by kernel_rfl
theorem d9_196 : D c2 9 196 = true := by kernel_rfl
theorem d9_197 : D c2 9 197 = true := by kernel_rfl
theorem d9_198 : D c2 9 198 = true := by kernel_rfl
theorem d9_199 : D c2 9 199 = true := by kernel_rfl
theorem d9_200 : D c2 9 200 = true := by kernel_rfl
theorem d9_201 : D c2 9 201 = true := by kernel_rfl
theorem d9_202 : D c2 9 202 = true := by kernel_rfl
theorem d9_203 : D c2 9 203 = true := by kernel_rfl
theorem d9_204 : D c2 9 204 = true := by kernel_rfl
theorem d9_205 : D c2 9 205 = true := by kernel_rfl
theorem d9_206 : D c2 9 206 = true := by kernel_rfl
theorem d9_207 : D c2 9 207 = true := by kernel_rfl
theorem a9_6 : AllFrom (fun c => D c2 9 c = true) 160 48 := ⟨d9_160, d9_161, d9_162, d9_163, d9_164, d9_165, d9_166, d9_167, d9_168, d9_169, d9_170, d9_171, d9_172, d9_173, d9_174, d9_175, d9_176, d9_177, d9_178, d9_179, d9_180, d9_181, d9_182, d9_183, d9_184, d9_185, d9_186, d9_187, d9_188, d9_189, d9_190, d9_191, d9_192, d9_193, d9_194, d9_195, d9_196, d9_197, d9_198, d9_199, d9_200, d9_201, d9_202, d9_203, d9_204, d9_205, d9_206, d9_207, trivial⟩
end Go.Proofs.Ytdplmegbnceijaa.Of
