/- ObjectFields: runs. No condition. -/
import Derived.Test.YtdplmegbnceijaaOfS
namespace Go.Proofs.Ytdplmegbnceijaa.Of
open Go Vx Con
set_option linter.unusedVariables false
set_option linter.constructorNameAsVariable false
set_option maxRecDepth 100000

theorem r48 : G 48 = true := by kernel_rfl
theorem r49 : G 49 = true := by kernel_rfl
theorem r50 : G 50 = true := by kernel_rfl
theorem r51 : G 51 = true := by kernel_rfl
theorem r52 : G 52 = true := by kernel_rfl
theorem r53 : G 53 = true := by kernel_rfl
theorem r54 : G 54 = true := by kernel_rfl
theorem r55 : G 55 = true := by kernel_rfl
theorem r56 : G 56 = true := by kernel_rfl
theorem r57 : G 57 = true := by kernel_rfl
theorem r58 : G 58 = true := by kernel_rfl
theorem r59 : G 59 = true := by kernel_rfl
theorem r60 : G 60 = true := by kernel_rfl
theorem r61 : G 61 = true := by kernel_rfl
theorem r62 : G 62 = true := by kernel_rfl
theorem r63 : G 63 = true := by kernel_rfl
theorem r208 : G 208 = true := by kernel_rfl
theorem r209 : G 209 = true := by kernel_rfl
theorem r210 : G 210 = true := by kernel_rfl
theorem r211 : G 211 = true := by kernel_rfl
theorem r212 : G 212 = true := by kernel_rfl
theorem r213 : G 213 = true := by kernel_rfl
theorem r214 : G 214 = true := by kernel_rfl
theorem r215 : G 215 = true := by kernel_rfl
theorem r216 : G 216 = true := by kernel_rfl
theorem r217 : G 217 = true := by kernel_rfl
theorem r218 : G 218 = true := by kernel_rfl
theorem r219 : G 219 = true := by kernel_rfl
theorem r220 : G 220 = true := by kernel_rfl
theorem r221 : G 221 = true := by kernel_rfl
theorem r222 : G 222 = true := by kernel_rfl
theorem r223 : G 223 = true := by kernel_rfl
theorem r224 : G 224 = true := by kernel_rfl
theorem r225 : G 225 = true := by kernel_rfl
theorem r226 : G 226 = true := by kernel_rfl
theorem r227 : G 227 = true := by kernel_rfl
theorem r228 : G 228 = true := by kernel_rfl
theorem r229 : G 229 = true := by kernel_rfl
theorem r230 : G 230 = true := by kernel_rfl
theorem r231 : G 231 = true := by kernel_rfl
theorem r232 : G 232 = true := by kernel_rfl
theorem r233 : G 233 = true := by kernel_rfl
theorem r234 : G 234 = true := by kernel_rfl
theorem r235 : G 235 = true := by kernel_rfl
theorem r236 : G 236 = true := by kernel_rfl
theorem r237 : G 237 = true := by kernel_rfl
theorem r238 : G 238 = true := by kernel_rfl
theorem r239 : G 239 = true := by kernel_rfl
theorem r240 : G 240 = true := by kernel_rfl
theorem r241 : G 241 = true := by kernel_rfl
theorem r242 : G 242 = true := by kernel_rfl
theorem r243 : G 243 = true := by kernel_rfl
theorem r244 : G 244 = true := by kernel_rfl
theorem r245 : G 245 = true := by kernel_rfl
theorem r246 : G 246 = true := by kernel_rfl
theorem r247 : G 247 = true := by kernel_rfl
theorem r248 : G 248 = true := by kernel_rfl
theorem r249 : G 249 = true := by kernel_rfl
theorem r250 : G 250 = true := by kernel_rfl
theorem r251 : G 251 = true := by kernel_rfl
theorem r252 : G 252 = true := by kernel_rfl
theorem r253 : G 253 = true := by kernel_rfl
theorem r254 : G 254 = true := by kernel_rfl
theorem r255 : G 255 = true := by kernel_rfl
theorem ra3 : AllFrom (fun c => G c = true) 48 16 := ⟨r48, r49, r50, r51, r52, r53, r54, r55, r56, r57, r58, r59, r60, r61, r62, r63, trivial⟩
theorem rb3 : AllFrom (fun c => G c = true) 208 48 := ⟨r208, r209, r210, r211, r212, r213, r214, r215, r216, r217, r218, r219, r220, r221, r222, r223, r224, r225, r226, r227, r228, r229, r230, r231, r232, r233, r234, r235, r236, r237, r238, r239, r240, r241, r242, r243, r244, r245, r246, r247, r248, r249, r250, r251, r252, r253, r254, r255, trivial⟩
end Go.Proofs.Ytdplmegbnceijaa.Of
