/- ReflectAnswers: Fits, its rounds. No condition. -/
import Derived.Test.YtaecedlhiclkdaaGreatDoorRfB
namespace Go.Proofs.YtaecedlhiclkdaaGreatDoor.Rf
open Go Vx Con
set_option linter.unusedVariables false
set_option linter.constructorNameAsVariable false
set_option maxRecDepth 100000
theorem p0 : ((List.range' 0 64).all fun k => rfP k) = true := by kernel_rfl
theorem l0 : ((List.range' 0 64).all fun k => rfL k) = true := by kernel_rfl
theorem p1 : ((List.range' 64 64).all fun k => rfP k) = true := by kernel_rfl
theorem l1 : ((List.range' 64 64).all fun k => rfL k) = true := by kernel_rfl
theorem p2 : ((List.range' 128 64).all fun k => rfP k) = true := by kernel_rfl
theorem l2 : ((List.range' 128 64).all fun k => rfL k) = true := by kernel_rfl
theorem p3 : ((List.range' 192 64).all fun k => rfP k) = true := by kernel_rfl
theorem l3 : ((List.range' 192 64).all fun k => rfL k) = true := by kernel_rfl
end Go.Proofs.YtaecedlhiclkdaaGreatDoor.Rf
