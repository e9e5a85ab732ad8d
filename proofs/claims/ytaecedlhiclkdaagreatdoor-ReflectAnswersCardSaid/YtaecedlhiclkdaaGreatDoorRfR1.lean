/- ReflectAnswers: Fits, its rounds. No condition. -/
import Derived.Test.YtaecedlhiclkdaaGreatDoorRfB
namespace Go.Proofs.YtaecedlhiclkdaaGreatDoor.Rf
open Go Vx Con
set_option linter.unusedVariables false
set_option linter.constructorNameAsVariable false
set_option maxRecDepth 100000
theorem p4 : ((List.range' 256 64).all fun k => rfP k) = true := by kernel_rfl
theorem l4 : ((List.range' 256 64).all fun k => rfL k) = true := by kernel_rfl
theorem p5 : ((List.range' 320 64).all fun k => rfP k) = true := by kernel_rfl
theorem l5 : ((List.range' 320 64).all fun k => rfL k) = true := by kernel_rfl
theorem p6 : ((List.range' 384 64).all fun k => rfP k) = true := by kernel_rfl
theorem l6 : ((List.range' 384 64).all fun k => rfL k) = true := by kernel_rfl
theorem p7 : ((List.range' 448 64).all fun k => rfP k) = true := by kernel_rfl
theorem l7 : ((List.range' 448 64).all fun k => rfL k) = true := by kernel_rfl
end Go.Proofs.YtaecedlhiclkdaaGreatDoor.Rf
