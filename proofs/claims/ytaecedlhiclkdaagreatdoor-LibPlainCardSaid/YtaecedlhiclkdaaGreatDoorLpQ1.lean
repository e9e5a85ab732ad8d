/- LibPlain: the law's own run, by the number of arguments. No condition. -/
import Derived.Test.YtaecedlhiclkdaaGreatDoorLpL
namespace Go.Proofs.YtaecedlhiclkdaaGreatDoor.Lp
open Go Vx Con
set_option linter.unusedVariables false
set_option linter.constructorNameAsVariable false
set_option maxRecDepth 100000

theorem law_36 : ∀ C, lawR 36 C = true := fun C => by kernel_rfl
theorem law_37 : ∀ C, lawR 37 C = true := fun C => by kernel_rfl
theorem law_38 : ∀ C, lawR 38 C = true := fun C => by kernel_rfl
theorem law_39 : ∀ C, lawR 39 C = true := fun C => by kernel_rfl
theorem law_40 : ∀ C, lawR 40 C = true := fun C => by kernel_rfl
theorem law_41 : ∀ C, lawR 41 C = true := fun C => by kernel_rfl
theorem law_42 : ∀ C, lawR 42 C = true := fun C => by kernel_rfl
theorem law_43 : ∀ C, lawR 43 C = true := fun C => by kernel_rfl
theorem law_44 : ∀ C, lawR 44 C = true := fun C => by kernel_rfl
theorem law_45 : ∀ C, lawR 45 C = true := fun C => by kernel_rfl
theorem law_46 : ∀ C, lawR 46 C = true := fun C => by kernel_rfl
theorem law_47 : ∀ C, lawR 47 C = true := fun C => by kernel_rfl
theorem law_48 : ∀ C, lawR 48 C = true := fun C => by kernel_rfl
theorem law_49 : ∀ C, lawR 49 C = true := fun C => by kernel_rfl
theorem law_50 : ∀ C, lawR 50 C = true := fun C => by kernel_rfl
theorem law_51 : ∀ C, lawR 51 C = true := fun C => by kernel_rfl
theorem law_52 : ∀ C, lawR 52 C = true := fun C => by kernel_rfl
theorem law_53 : ∀ C, lawR 53 C = true := fun C => by kernel_rfl
theorem lawQ1 (n C : Nat) (h1 : 36 ≤ n) (h2 : n < 54) : lawR n C = true := by
  obtain ⟨k, rfl⟩ : ∃ k, n = k + 36 := ⟨n - 36, by omega⟩
  match k, h2 with
  | 0, _ => exact law_36 C
  | 1, _ => exact law_37 C
  | 2, _ => exact law_38 C
  | 3, _ => exact law_39 C
  | 4, _ => exact law_40 C
  | 5, _ => exact law_41 C
  | 6, _ => exact law_42 C
  | 7, _ => exact law_43 C
  | 8, _ => exact law_44 C
  | 9, _ => exact law_45 C
  | 10, _ => exact law_46 C
  | 11, _ => exact law_47 C
  | 12, _ => exact law_48 C
  | 13, _ => exact law_49 C
  | 14, _ => exact law_50 C
  | 15, _ => exact law_51 C
  | 16, _ => exact law_52 C
  | 17, _ => exact law_53 C
  | k + 18, h => omega
end Go.Proofs.YtaecedlhiclkdaaGreatDoor.Lp
