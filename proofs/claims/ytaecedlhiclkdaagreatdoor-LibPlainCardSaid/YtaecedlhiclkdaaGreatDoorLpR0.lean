/- LibPlain: the functions by their names: runs. No condition. -/
import Derived.Test.YtaecedlhiclkdaaGreatDoorLpD
namespace Go.Proofs.YtaecedlhiclkdaaGreatDoor.Lp
open Go Vx Con
set_option linter.unusedVariables false
set_option linter.constructorNameAsVariable false
set_option maxRecDepth 100000

theorem doA0_0 : ((List.range' 0 17).all fun c => doR c 0) = true := by kernel_rfl
theorem doA0_1 : ((List.range' 0 17).all fun c => doR c 1) = true := by kernel_rfl
theorem doA0_2 : ((List.range' 0 17).all fun c => doR c 2) = true := by kernel_rfl
theorem doA0_3 : ((List.range' 0 17).all fun c => doR c 3) = true := by kernel_rfl
theorem doA0_4 : ((List.range' 0 17).all fun c => doR c 4) = true := by kernel_rfl
theorem doA0_5 : ((List.range' 0 17).all fun c => doR c 5) = true := by kernel_rfl
theorem doA0_6 : ((List.range' 0 17).all fun c => doR c 6) = true := by kernel_rfl
theorem doA0_7 : ((List.range' 0 17).all fun c => doR c 7) = true := by kernel_rfl
theorem doA0_8 : ((List.range' 0 17).all fun c => doR c 8) = true := by kernel_rfl
theorem doA0_9 : ((List.range' 0 17).all fun c => doR c 9) = true := by kernel_rfl
theorem doA0_10 : ((List.range' 0 17).all fun c => doR c 10) = true := by kernel_rfl
theorem doA0_11 : ((List.range' 0 17).all fun c => doR c 11) = true := by kernel_rfl
theorem doA0_12 : ((List.range' 0 17).all fun c => doR c 12) = true := by kernel_rfl
theorem doA0_13 : ((List.range' 0 17).all fun c => doR c 13) = true := by kernel_rfl
theorem doA0_14 : ((List.range' 0 17).all fun c => doR c 14) = true := by kernel_rfl
theorem doA0_15 : ((List.range' 0 17).all fun c => doR c 15) = true := by kernel_rfl
theorem doA0_16 : ((List.range' 0 17).all fun c => doR c 16) = true := by kernel_rfl
theorem doA0_17 : ((List.range' 0 17).all fun c => doR c 17) = true := by kernel_rfl
theorem doA0_18 : ((List.range' 0 17).all fun c => doR c 18) = true := by kernel_rfl
theorem doA0_19 : ((List.range' 0 17).all fun c => doR c 19) = true := by kernel_rfl
theorem doA0 (c : Nat) (h1 : 0 ≤ c) (h2 : c < 17) : ∀ i, i ≤ 19 → doR c i = true
  | 0, _ => List.all_eq_true.1 doA0_0 c (List.mem_range'_1.2 ⟨h1, h2⟩)
  | 1, _ => List.all_eq_true.1 doA0_1 c (List.mem_range'_1.2 ⟨h1, h2⟩)
  | 2, _ => List.all_eq_true.1 doA0_2 c (List.mem_range'_1.2 ⟨h1, h2⟩)
  | 3, _ => List.all_eq_true.1 doA0_3 c (List.mem_range'_1.2 ⟨h1, h2⟩)
  | 4, _ => List.all_eq_true.1 doA0_4 c (List.mem_range'_1.2 ⟨h1, h2⟩)
  | 5, _ => List.all_eq_true.1 doA0_5 c (List.mem_range'_1.2 ⟨h1, h2⟩)
  | 6, _ => List.all_eq_true.1 doA0_6 c (List.mem_range'_1.2 ⟨h1, h2⟩)
  | 7, _ => List.all_eq_true.1 doA0_7 c (List.mem_range'_1.2 ⟨h1, h2⟩)
  | 8, _ => List.all_eq_true.1 doA0_8 c (List.mem_range'_1.2 ⟨h1, h2⟩)
  | 9, _ => List.all_eq_true.1 doA0_9 c (List.mem_range'_1.2 ⟨h1, h2⟩)
  | 10, _ => List.all_eq_true.1 doA0_10 c (List.mem_range'_1.2 ⟨h1, h2⟩)
  | 11, _ => List.all_eq_true.1 doA0_11 c (List.mem_range'_1.2 ⟨h1, h2⟩)
  | 12, _ => List.all_eq_true.1 doA0_12 c (List.mem_range'_1.2 ⟨h1, h2⟩)
  | 13, _ => List.all_eq_true.1 doA0_13 c (List.mem_range'_1.2 ⟨h1, h2⟩)
  | 14, _ => List.all_eq_true.1 doA0_14 c (List.mem_range'_1.2 ⟨h1, h2⟩)
  | 15, _ => List.all_eq_true.1 doA0_15 c (List.mem_range'_1.2 ⟨h1, h2⟩)
  | 16, _ => List.all_eq_true.1 doA0_16 c (List.mem_range'_1.2 ⟨h1, h2⟩)
  | 17, _ => List.all_eq_true.1 doA0_17 c (List.mem_range'_1.2 ⟨h1, h2⟩)
  | 18, _ => List.all_eq_true.1 doA0_18 c (List.mem_range'_1.2 ⟨h1, h2⟩)
  | 19, _ => List.all_eq_true.1 doA0_19 c (List.mem_range'_1.2 ⟨h1, h2⟩)
  | _ + 20, h => absurd h (by omega)
end Go.Proofs.YtaecedlhiclkdaaGreatDoor.Lp
