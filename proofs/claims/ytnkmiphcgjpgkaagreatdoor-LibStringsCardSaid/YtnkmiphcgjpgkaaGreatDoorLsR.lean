/- LibStrings: the runs. No condition. -/
import Derived.Test.YtnkmiphcgjpgkaaGreatDoorLsB
namespace Go.Proofs.YtnkmiphcgjpgkaaGreatDoor.Ls
open Go Vx Con
set_option linter.unusedVariables false
set_option linter.constructorNameAsVariable false
set_option maxRecDepth 100000

theorem r0 : G [] (.s 0 0) (.s 0 0) = true := by kernel_rfl
theorem r1 : G [(mayStr t, true), le lT 4096 true, le lT 0 false, le ES (-1) true, le ES (-2) false] (.s 0 0) (.x .s t) = true := by kernel_rfl
theorem r2 : G (f0 ++ f1 ++ fB) (.x .s s) (.x .s t) = true := by kernel_rfl
theorem r3 : G (f0 ++ f1 ++ fA1) (.x .s s) (.x .s t) = true := by kernel_rfl
theorem r4 : G (f0 ++ f1 ++ fA2) (.x .s s) (.x .s t) = true := by kernel_rfl
theorem r5 : G [le lS 4096 false] (.x .s s) (.x .s t) = true := by kernel_rfl
theorem r6 : G [le lS 4096 true, le lT 4096 false] (.x .s s) (.x .s t) = true := by kernel_rfl
end Go.Proofs.YtnkmiphcgjpgkaaGreatDoor.Ls
