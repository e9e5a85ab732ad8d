/- ObjectFields: runs. No condition. -/
import Derived.Test.YtdplmegbnceijaaOfS
namespace Go.Proofs.Ytdplmegbnceijaa.Of
open Go Vx Con
set_option linter.unusedVariables false
set_option linter.constructorNameAsVariable false
set_option maxRecDepth 100000

theorem r32 : G 32 = true := by kernel_rfl
theorem r33 : G 33 = true := by kernel_rfl
theorem r34 : G 34 = true := by kernel_rfl
theorem r35 : G 35 = true := by kernel_rfl
theorem r36 : G 36 = true := by kernel_rfl
theorem r37 : G 37 = true := by kernel_rfl
theorem r38 : G 38 = true := by kernel_rfl
theorem r39 : G 39 = true := by kernel_rfl
theorem r40 : G 40 = true := by kernel_rfl
theorem r41 : G 41 = true := by kernel_rfl
theorem r42 : G 42 = true := by kernel_rfl
theorem r43 : G 43 = true := by kernel_rfl
theorem r44 : G 44 = true := by kernel_rfl
theorem r45 : G 45 = true := by kernel_rfl
theorem r46 : G 46 = true := by kernel_rfl
theorem r47 : G 47 = true := by kernel_rfl
theorem r160 : G 160 = true := by kernel_rfl
theorem r161 : G 161 = true := by kernel_rfl
theorem r162 : G 162 = true := by kernel_rfl
theorem r163 : G 163 = true := by kernel_rfl
theorem r164 : G 164 = true := by kernel_rfl
theorem r165 : G 165 = true := by kernel_rfl
theorem r166 : G 166 = true := by kernel_rfl
theorem r167 : G 167 = true := by kernel_rfl
theorem r168 : G 168 = true := by kernel_rfl
theorem r169 : G 169 = true := by kernel_rfl
theorem r170 : G 170 = true := by kernel_rfl
theorem r171 : G 171 = true := by kernel_rfl
theorem r172 : G 172 = true := by kernel_rfl
theorem r173 : G 173 = true := by kernel_rfl
theorem r174 : G 174 = true := by kernel_rfl
theorem r175 : G 175 = true := by kernel_rfl
theorem r176 : G 176 = true := by kernel_rfl
theorem r177 : G 177 = true := by kernel_rfl
theorem r178 : G 178 = true := by kernel_rfl
theorem r179 : G 179 = true := by kernel_rfl
theorem r180 : G 180 = true := by kernel_rfl
theorem r181 : G 181 = true := by kernel_rfl
theorem r182 : G 182 = true := by kernel_rfl
theorem r183 : G 183 = true := by kernel_rfl
theorem r184 : G 184 = true := by kernel_rfl
theorem r185 : G 185 = true := by kernel_rfl
theorem r186 : G 186 = true := by kernel_rfl
theorem r187 : G 187 = true := by kernel_rfl
theorem r188 : G 188 = true := by kernel_rfl
theorem r189 : G 189 = true := by kernel_rfl
theorem r190 : G 190 = true := by kernel_rfl
theorem r191 : G 191 = true := by kernel_rfl
theorem r192 : G 192 = true := by kernel_rfl
theorem r193 : G 193 = true := by kernel_rfl
theorem r194 : G 194 = true := by kernel_rfl
theorem r195 : G 195 = true := by kernel_rfl
theorem r196 : G 196 = true := by kernel_rfl
theorem r197 : G 197 = true := by kernel_rfl
theorem r198 : G 198 = true := by kernel_rfl
theorem r199 : G 199 = true := by kernel_rfl
theorem r200 : G 200 = true := by kernel_rfl
theorem r201 : G 201 = true := by kernel_rfl
theorem r202 : G 202 = true := by kernel_rfl
theorem r203 : G 203 = true := by kernel_rfl
theorem r204 : G 204 = true := by kernel_rfl
theorem r205 : G 205 = true := by kernel_rfl
theorem r206 : G 206 = true := by kernel_rfl
theorem r207 : G 207 = true := by kernel_rfl
theorem ra2 : AllFrom (fun c => G c = true) 32 16 := ⟨r32, r33, r34, r35, r36, r37, r38, r39, r40, r41, r42, r43, r44, r45, r46, r47, trivial⟩
theorem rb2 : AllFrom (fun c => G c = true) 160 48 := ⟨r160, r161, r162, r163, r164, r165, r166, r167, r168, r169, r170, r171, r172, r173, r174, r175, r176, r177, r178, r179, r180, r181, r182, r183, r184, r185, r186, r187, r188, r189, r190, r191, r192, r193, r194, r195, r196, r197, r198, r199, r200, r201, r202, r203, r204, r205, r206, r207, trivial⟩
end Go.Proofs.Ytdplmegbnceijaa.Of
