/- A descriptor's check, run for each of its bits. No condition. -/
import Derived.Test.YtdplmegbnceijaaCon
import Derived.Test.YtdplmegbnceijaaVxZh
namespace Go.Proofs.Ytdplmegbnceijaa.Of
open Go Vx Con
set_option linter.unusedVariables false
set_option linter.constructorNameAsVariable false
set_option maxRecDepth 100000

theorem d7_208 : D c2 7 208 = true := by kernel_rfl
theorem d7_209 : D c2 7 209 = true := by kernel_rfl
theorem d7_210 : D c2 7 210 = true := by kernel_rfl
theorem d7_211 : D c2 7 211 = true := by kernel_rfl
theorem d7_212 : D c2 7 212 = true := by kernel_rfl
theorem d7_213 : D c2 7 213 = true := by kernel_rfl
theorem d7_214 : D c2 7 214 = true := by kernel_rfl
theorem d7_215 : D c2 7 215 = true := by kernel_rfl
theorem d7_216 : D c2 7 216 = true := by kernel_rfl
theorem d7_217 : D c2 7 217 = true := by kernel_rfl
theorem d7_218 : D c2 7 218 = true := by kernel_rfl
theorem d7_219 : D c2 7 219 = true := by kernel_rfl
theorem d7_220 : D c2 7 220 = true := by kernel_rfl
theorem d7_221 : D c2 7 221 = true := by kernel_rfl
theorem d7_222 : D c2 7 222 = true := by kernel_rfl
theorem d7_223 : D c2 7 223 = true := by kernel_rfl
theorem d7_224 : D c2 7 224 = true := by kernel_rfl
theorem d7_225 : D c2 7 225 = true := by kernel_rfl
theorem d7_226 : D c2 7 226 = true := by kernel_rfl
theorem d7_227 : D c2 7 227 = true := by kernel_rfl
theorem d7_228 : D c2 7 228 = true := by kernel_rfl
theorem d7_229 : D c2 7 229 = true := by kernel_rfl
theorem d7_230 : D c2 7 230 = true := by kernel_rfl
theorem d7_231 : D c2 7 231 = true := by kernel_rfl
theorem d7_232 : D c2 7 232 = true := by kernel_rfl
theorem d7_233 : D c2 7 233 = true := by kernel_rfl
theorem d7_234 : D c2 7 234 = true := by kernel_rfl
theorem d7_235 : D c2 7 235 = true := by kernel_rfl
theorem d7_236 : D c2 7 236 = true := by kernel_rfl
theorem d7_237 : D c2 7 237 = true := by kernel_rfl
theorem d7_238 : D c2 7 238 = true := by kernel_rfl
theorem d7_239 : D c2 7 239 = true := by kernel_rfl
theorem d7_240 : D c2 7 240 = true := by kernel_rfl
theorem d7_241 : D c2 7 241 = true := by kernel_rfl
theorem d7_242 : D c2 7 242 = true := by kernel_rfl
theorem d7_243 : D c2 7 243 = true := by kernel_rfl
theorem d7_244 : D c2 7 244 = true := by kernel_rfl
theorem d7_245 : D c2 7 245 = true := by kernel_rfl
theorem d7_246 : D c2 7 246 = true := by kernel_rfl
theorem d7_247 : D c2 7 247 = true := by kernel_rfl
theorem d7_248 : D c2 7 248 = true := by kernel_rfl
theorem d7_249 : D c2 7 249 = true := by kernel_rfl
theorem d7_250 : D c2 7 250 = true := by kernel_rfl
theorem d7_251 : D c2 7 251 = true := by kernel_rfl
theorem d7_252 : D c2 7 252 = true := by kernel_rfl
theorem d7_253 : D c2 7 253 = true := by kernel_rfl
theorem d7_254 : D c2 7 254 = true := by kernel_rfl
theorem d7_255 : D c2 7 255 = true := by kernel_rfl
theorem a7_7 : AllFrom (fun c => D c2 7 c = true) 208 48 := ⟨d7_208, d7_209, d7_210, d7_211, d7_212, d7_213, d7_214, d7_215, d7_216, d7_217, d7_218, d7_219, d7_220, d7_221, d7_222, d7_223, d7_224, d7_225, d7_226, d7_227, d7_228, d7_229, d7_230, d7_231, d7_232, d7_233, d7_234, d7_235, d7_236, d7_237, d7_238, d7_239, d7_240, d7_241, d7_242, d7_243, d7_244, d7_245, d7_246, d7_247, d7_248, d7_249, d7_250, d7_251, d7_252, d7_253, d7_254, d7_255, trivial⟩
theorem d9_208 : D c2 9 208 = true := by kernel_rfl
theorem d9_209 : D c2 9 209 = true := by kernel_rfl
theorem d9_210 : D c2 9 210 = true := by kernel_rfl
theorem d9_211 : D c2 9 211 = true := by kernel_rfl
theorem d9_212 : D c2 9 212 = true := by kernel_rfl
theorem d9_213 : D c2 9 213 = true := by kernel_rfl
theorem d9_214 : D c2 9 214 = true := by kernel_rfl
theorem d9_215 : D c2 9 215 = true := by kernel_rfl
theorem d9_216 : D c2 9 216 = true := by kernel_rfl
theorem d9_217 : D c2 9 217 = true := by kernel_rfl
theorem d9_218 : D c2 9 218 = true := by kernel_rfl
theorem d9_219 : D c2 9 219 = true := by kernel_rfl
theorem d9_220 : D c2 9 220 = true := by kernel_rfl
theorem d9_221 : D c2 9 221 = true := by kernel_rfl
theorem d9_222 : D c2 9 222 = true := by kernel_rfl
theorem d9_223 : D c2 9 223 = true := by kernel_rfl
theorem d9_224 : D c2 9 224 = true := by kernel_rfl
theorem d9_225 : D c2 9 225 = true := by kernel_rfl
theorem d9_226 : D c2 9 226 = true := by kernel_rfl
theorem d9_227 : D c2 9 227 = true := by kernel_rfl
theorem d9_228 : D c2 9 228 = true := by kernel_rfl
theorem d9_229 : D c2 9 229 = true := by kernel_rfl
theorem d9_230 : D c2 9 230 = true := by kernel_rfl
theorem d9_231 : D c2 9 231 = true := by kernel_rfl
theorem d9_232 : D c2 9 232 = true := by kernel_rfl
theorem d9_233 : D c2 9 233 = true := by kernel_rfl
theorem d9_234 : D c2 9 234 = true := by kernel_rfl
theorem d9_235 : D c2 9 235 = true := by kernel_rfl
theorem d9_236 : D c2 9 236 = true := by kernel_rfl
theorem d9_237 : D c2 9 237 = true := by kernel_rfl
theorem d9_238 : D c2 9 238 = true := by kernel_rfl
theorem d9_239 : D c2 9 239 = true := by kernel_rfl
theorem d9_240 : D c2 9 240 = true := by kernel_rfl
theorem d9_241 : D c2 9 241 = true := by kernel_rfl
theorem d9_242 : D c2 9 242 = true := by kernel_rfl
theorem d9_243 : D c2 9 243 = true := by kernel_rfl
theorem d9_244 : D c2 9 244 = true := by kernel_rfl
theorem d9_245 : D c2 9 245 = true := by kernel_rfl
theorem d9_246 : D c2 9 246 = true := by kernel_rfl
theorem d9_247 : D c2 9 247 = true := by kernel_rfl
theorem d9_248 : D c2 9 248 = true := by kernel_rfl
theorem d9_249 : D c2 9 249 = true := by kernel_rfl
theorem d9_250 : D c2 9 250 = true := by kernel_rfl
theorem d9_251 : D c2 9 251 = true := by kernel_rfl
theorem d9_252 : D c2 9 252 = true := by kernel_rfl
theorem d9_253 : D c2 9 253 = true := by kernel_rfl
theorem d9_254 : D c2 9 254 = true := by kernel_rfl
theorem d9_255 : D c2 9 255 = true := by kernel_rfl
theorem a9_7 : AllFrom (fun c => D c2 9 c = true) 208 48 := ⟨d9_208, d9_209, d9_210, d9_211, d9_212, d9_213, d9_214, d9_215, d9_216, d9_217, d9_218, d9_219, d9_220, d9_221, d9_222, d9_223, d9_224, d9_225, d9_226, d9_227, d9_228, d9_229, d9_230, d9_231, d9_232, d9_233, d9_234, d9_235, d9_236, d9_237, d9_238, d9_239, d9_240, d9_241, d9_242, d9_243, d9_244, d9_245, d9_246, d9_247, d9_248, d9_249, d9_250, d9_251, d9_252, d9_253, d9_254, d9_255, trivial⟩
end Go.Proofs.Ytdplmegbnceijaa.Of
