/- ObjectFields: runs. No condition. -/
import Derived.Test.YtdplmegbnceijaaOfS
namespace Go.Proofs.Ytdplmegbnceijaa.Of
open Go Vx Con
set_option linter.unusedVariables false
set_option linter.constructorNameAsVariable false
set_option maxRecDepth 100000

theorem r0 : G 0 = true := by kernel_rfl
theorem r1 : G 1 = true := by kernel_rfl
theorem r2 : G 2 = true := by kernel_rfl
theorem r3 : G 3 = true := by kernel_rfl
theorem r4 : G 4 = true := by kernel_rfl
theorem r5 : G 5 = true := by kernel_rfl
theorem r6 : G 6 = true := by kernel_rfl
theorem r7 : G 7 = true := by kernel_rfl
theorem r8 : G 8 = true := by kernel_rfl
theorem r9 : G 9 = true := by kernel_rfl
theorem r10 : G 10 = true := by kernel_rfl
theorem r11 : G 11 = true := by kernel_rfl
theorem r12 : G 12 = true := by kernel_rfl
theorem r13 : G 13 = true := by kernel_rfl
theorem r14 : G 14 = true := by kernel_rfl
theorem r15 : G 15 = true := by kernel_rfl
theorem r64 : G 64 = true := by kernel_rfl
theorem r65 : G 65 = true := by kernel_rfl
theorem r66 : G 66 = true := by kernel_rfl
theorem r67 : G 67 = true := by kernel_rfl
theorem r68 : G 68 = true := by kernel_rfl
theorem r69 : G 69 = true := by kernel_rfl
theorem r70 : G 70 = true := by kernel_rfl
theorem r71 : G 71 = true := by kernel_rfl
theorem r72 : G 72 = true := by kernel_rfl
theorem r73 : G 73 = true := by kernel_rfl
theorem r74 : G 74 = true := by kernel_rfl
theorem r75 : G 75 = true := by kernel_rfl
theorem r76 : G 76 = true := by kernel_rfl
theorem r77 : G 77 = true := by kernel_rfl
theorem r78 : G 78 = true := by kernel_rfl
theorem r79 : G 79 = true := by kernel_rfl
theorem r80 : G 80 = true := by kernel_rfl
theorem r81 : G 81 = true := by kernel_rfl
theorem r82 : G 82 = true := by kernel_rfl
theorem r83 : G 83 = true := by kernel_rfl
theorem r84 : G 84 = true := by kernel_rfl
theorem r85 : G 85 = true := by kernel_rfl
theorem r86 : G 86 = true := by kernel_rfl
theorem r87 : G 87 = true := by kernel_rfl
theorem r88 : G 88 = true := by kernel_rfl
theorem r89 : G 89 = true := by kernel_rfl
theorem r90 : G 90 = true := by kernel_rfl
theorem r91 : G 91 = true := by kernel_rfl
theorem r92 : G 92 = true := by kernel_rfl
theorem r93 : G 93 = true := by kernel_rfl
theorem r94 : G 94 = true := by kernel_rfl
theorem r95 : G 95 = true := by kernel_rfl
theorem r96 : G 96 = true := by kernel_rfl
theorem r97 : G 97 = true := by kernel_rfl
theorem r98 : G 98 = true := by kernel_rfl
theorem r99 : G 99 = true := by kernel_rfl
theorem r100 : G 100 = true := by kernel_rfl
theorem r101 : G 101 = true := by kernel_rfl
theorem r102 : G 102 = true := by kernel_rfl
theorem r103 : G 103 = true := by kernel_rfl
theorem r104 : G 104 = true := by kernel_rfl
theorem r105 : G 105 = true := by kernel_rfl
theorem r106 : G 106 = true := by kernel_rfl
theorem r107 : G 107 = true := by kernel_rfl
theorem r108 : G 108 = true := by kernel_rfl
theorem r109 : G 109 = true := by kernel_rfl
theorem r110 : G 110 = true := by kernel_rfl
theorem r111 : G 111 = true := by kernel_rfl
theorem ra0 : AllFrom (fun c => G c = true) 0 16 := ⟨r0, r1, r2, r3, r4, r5, r6, r7, r8, r9, r10, r11, r12, r13, r14, r15, trivial⟩
theorem rb0 : AllFrom (fun c => G c = true) 64 48 := ⟨r64, r65, r66, r67, r68, r69, r70, r71, r72, r73, r74, r75, r76, r77, r78, r79, r80, r81, r82, r83, r84, r85, r86, r87, r88, r89, r90, r91, r92, r93, r94, r95, r96, r97, r98, r99, r100, r101, r102, r103, r104, r105, r106, r107, r108, r109, r110, r111, trivial⟩
end Go.Proofs.Ytdplmegbnceijaa.Of
