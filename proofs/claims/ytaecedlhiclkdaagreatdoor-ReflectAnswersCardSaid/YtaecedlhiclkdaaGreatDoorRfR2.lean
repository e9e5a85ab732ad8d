/- ReflectAnswers: Fits, its rounds. No condition. -/
import Derived.Test.YtaecedlhiclkdaaGreatDoorRfB
namespace Go.Proofs.YtaecedlhiclkdaaGreatDoor.Rf
open Go Vx Con
set_option linter.unusedVariables false
set_option linter.constructorNameAsVariable false
set_option maxRecDepth 100000
theorem p8 : ((List.range' 512 64).all fun k => rfP k) = true := by kernel_rfl
theorem l8 : ((List.range' 512 64).all fun k => rfL k) = true := by kernel_rfl
theorem p9 : ((List.range' 576 64).all fun k => rfP k) = true := by kernel_rfl
theorem l9 : ((List.range' 576 64).all fun k => rfL k) = true := by kernel_rfl
theorem p10 : ((List.range' 640 64).all fun k => rfP k) = true := by kernel_rfl
theorem l10 : ((List.range' 640 64).all fun k => rfL k) = true := by kernel_rfl
theorem p11 : ((List.range' 704 64).all fun k => rfP k) = true := by kernel_rfl
theorem l11 : ((List.range' 704 64).all fun k => rfL k) = true := by kernel_rfl
theorem nilR : nilF = true := by kernel_rfl
theorem fstR : fstF = true := by kernel_rfl
end Go.Proofs.YtaecedlhiclkdaaGreatDoor.Rf
