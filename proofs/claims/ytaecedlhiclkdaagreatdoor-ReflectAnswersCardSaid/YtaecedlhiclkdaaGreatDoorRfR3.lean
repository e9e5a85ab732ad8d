/- ReflectAnswers: Fits, its rounds. No condition. -/
import Derived.Test.YtaecedlhiclkdaaGreatDoorRfB
namespace Go.Proofs.YtaecedlhiclkdaaGreatDoor.Rf
open Go Vx Con
set_option linter.unusedVariables false
set_option linter.constructorNameAsVariable false
set_option maxRecDepth 100000
theorem p12 : ((List.range' 768 64).all fun k => rfP k) = true := by kernel_rfl
theorem l12 : ((List.range' 768 64).all fun k => rfL k) = true := by kernel_rfl
theorem p13 : ((List.range' 832 64).all fun k => rfP k) = true := by kernel_rfl
theorem l13 : ((List.range' 832 64).all fun k => rfL k) = true := by kernel_rfl
theorem p14 : ((List.range' 896 64).all fun k => rfP k) = true := by kernel_rfl
theorem l14 : ((List.range' 896 64).all fun k => rfL k) = true := by kernel_rfl
theorem p15 : ((List.range' 960 64).all fun k => rfP k) = true := by kernel_rfl
theorem l15 : ((List.range' 960 64).all fun k => rfL k) = true := by kernel_rfl
theorem l16 : rfL 1024 = true := by kernel_rfl
end Go.Proofs.YtaecedlhiclkdaaGreatDoor.Rf
