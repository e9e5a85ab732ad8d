/- LibPlain: the law's own run, by the number of arguments. No condition. -/
import Derived.Test.YtaecedlhiclkdaaGreatDoorLpL
namespace Go.Proofs.YtaecedlhiclkdaaGreatDoor.Lp
open Go Vx Con
set_option linter.unusedVariables false
set_option linter.constructorNameAsVariable false
set_option maxRecDepth 100000

theorem law_1 : ∀ C, lawR 1 C = true := fun C => by kernel_rfl
theorem law_2 : ∀ C, lawR 2 C = true := fun C => by kernel_rfl
theorem law_3 : ∀ C, lawR 3 C = true := fun C => by kernel_rfl
theorem law_4 : ∀ C, lawR 4 C = true := fun C => by kernel_rfl
theorem law_5 : ∀ C, lawR 5 C = true := fun C => by kernel_rfl
theorem law_6 : ∀ C, lawR 6 C = true := fun C => by kernel_rfl
theorem law_7 : ∀ C, lawR 7 C = true := fun C => by kernel_rfl
theorem law_8 : ∀ C, lawR 8 C = true := fun C => by kernel_rfl
theorem law_9 : ∀ C, lawR 9 C = true := fun C => by kernel_rfl
theorem law_10 : ∀ C, lawR 10 C = true := fun C => by kernel_rfl
theorem law_11 : ∀ C, lawR 11 C = true := fun C => by kernel_rfl
theorem law_12 : ∀ C, lawR 12 C = true := fun C => by kernel_rfl
theorem law_13 : ∀ C, lawR 13 C = true := fun C => by kernel_rfl
theorem law_14 : ∀ C, lawR 14 C = true := fun C => by kernel_rfl
theorem law_15 : ∀ C, lawR 15 C = true := fun C => by kernel_rfl
theorem law_16 : ∀ C, lawR 16 C = true := fun C => by kernel_rfl
theorem law_17 : ∀ C, lawR 17 C = true := fun C => by kernel_rfl
theorem law_18 : ∀ C, lawR 18 C = true := fun C => by kernel_rfl
theorem law_19 : ∀ C, lawR 19 C = true := fun C => by kernel_rfl
theorem law_20 : ∀ C, lawR 20 C = true := fun C => by kernel_rfl
theorem law_21 : ∀ C, lawR 21 C = true := fun C => by kernel_rfl
theorem law_22 : ∀ C, lawR 22 C = true := fun C => by kernel_rfl
theorem law_23 : ∀ C, lawR 23 C = true := fun C => by kernel_rfl
theorem law_24 : ∀ C, lawR 24 C = true := fun C => by kernel_rfl
theorem law_25 : ∀ C, lawR 25 C = true := fun C => by kernel_rfl
theorem law_26 : ∀ C, lawR 26 C = true := fun C => by kernel_rfl
theorem law_27 : ∀ C, lawR 27 C = true := fun C => by kernel_rfl
theorem law_28 : ∀ C, lawR 28 C = true := fun C => by kernel_rfl
theorem law_29 : ∀ C, lawR 29 C = true := fun C => by kernel_rfl
theorem law_30 : ∀ C, lawR 30 C = true := fun C => by kernel_rfl
theorem law_31 : ∀ C, lawR 31 C = true := fun C => by kernel_rfl
theorem law_32 : ∀ C, lawR 32 C = true := fun C => by kernel_rfl
theorem law_33 : ∀ C, lawR 33 C = true := fun C => by kernel_rfl
theorem law_34 : ∀ C, lawR 34 C = true := fun C => by kernel_rfl
theorem law_35 : ∀ C, lawR 35 C = true := fun C => by kernel_rfl
theorem law_0 : ∀ C, lawR 0 C = true := fun C => by kernel_rfl
theorem law_nil : lawN = true := by kernel_rfl
theorem law_many : lawM = true := by kernel_rfl
theorem lawQ0 (n C : Nat) (h1 : 1 ≤ n) (h2 : n < 36) : lawR n C = true := by
  obtain ⟨k, rfl⟩ : ∃ k, n = k + 1 := ⟨n - 1, by omega⟩
  match k, h2 with
  | 0, _ => exact law_1 C
  | 1, _ => exact law_2 C
  | 2, _ => exact law_3 C
  | 3, _ => exact law_4 C
  | 4, _ => exact law_5 C
  | 5, _ => exact law_6 C
  | 6, _ => exact law_7 C
  | 7, _ => exact law_8 C
  | 8, _ => exact law_9 C
  | 9, _ => exact law_10 C
  | 10, _ => exact law_11 C
  | 11, _ => exact law_12 C
  | 12, _ => exact law_13 C
  | 13, _ => exact law_14 C
  | 14, _ => exact law_15 C
  | 15, _ => exact law_16 C
  | 16, _ => exact law_17 C
  | 17, _ => exact law_18 C
  | 18, _ => exact law_19 C
  | 19, _ => exact law_20 C
  | 20, _ => exact law_21 C
  | 21, _ => exact law_22 C
  | 22, _ => exact law_23 C
  | 23, _ => exact law_24 C
  | 24, _ => exact law_25 C
  | 25, _ => exact law_26 C
  | 26, _ => exact law_27 C
  | 27, _ => exact law_28 C
  | 28, _ => exact law_29 C
  | 29, _ => exact law_30 C
  | 30, _ => exact law_31 C
  | 31, _ => exact law_32 C
  | 32, _ => exact law_33 C
  | 33, _ => exact law_34 C
  | 34, _ => exact law_35 C
  | k + 35, h => omega
end Go.Proofs.YtaecedlhiclkdaaGreatDoor.Lp
