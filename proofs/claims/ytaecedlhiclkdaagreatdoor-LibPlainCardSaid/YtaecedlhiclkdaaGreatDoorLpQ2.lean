/- LibPlain: the law's own run, by the number of arguments. No condition. -/
import Derived.Test.YtaecedlhiclkdaaGreatDoorLpL
namespace Go.Proofs.YtaecedlhiclkdaaGreatDoor.Lp
open Go Vx Con
set_option linter.unusedVariables false
set_option linter.constructorNameAsVariable false
set_option maxRecDepth 100000

theorem law_54 : ∀ C, lawR 54 C = true := fun C => by kernel_rfl
theorem law_55 : ∀ C, lawR 55 C = true := fun C => by kernel_rfl
theorem law_56 : ∀ C, lawR 56 C = true := fun C => by kernel_rfl
theorem law_57 : ∀ C, lawR 57 C = true := fun C => by kernel_rfl
theorem law_58 : ∀ C, lawR 58 C = true := fun C => by kernel_rfl
theorem law_59 : ∀ C, lawR 59 C = true := fun C => by kernel_rfl
theorem law_60 : ∀ C, lawR 60 C = true := fun C => by kernel_rfl
theorem law_61 : ∀ C, lawR 61 C = true := fun C => by kernel_rfl
theorem law_62 : ∀ C, lawR 62 C = true := fun C => by kernel_rfl
theorem law_63 : ∀ C, lawR 63 C = true := fun C => by kernel_rfl
theorem law_64 : ∀ C, lawR 64 C = true := fun C => by kernel_rfl
theorem lawQ2 (n C : Nat) (h1 : 54 ≤ n) (h2 : n < 65) : lawR n C = true := by
  obtain ⟨k, rfl⟩ : ∃ k, n = k + 54 := ⟨n - 54, by omega⟩
  match k, h2 with
  | 0, _ => exact law_54 C
  | 1, _ => exact law_55 C
  | 2, _ => exact law_56 C
  | 3, _ => exact law_57 C
  | 4, _ => exact law_58 C
  | 5, _ => exact law_59 C
  | 6, _ => exact law_60 C
  | 7, _ => exact law_61 C
  | 8, _ => exact law_62 C
  | 9, _ => exact law_63 C
  | 10, _ => exact law_64 C
  | k + 11, h => omega
end Go.Proofs.YtaecedlhiclkdaaGreatDoor.Lp
