/- ReflectAnswers: the runs of one function. No condition. -/
import Derived.Test.YtaecedlhiclkdaaGreatDoorRfS
namespace Go.Proofs.YtaecedlhiclkdaaGreatDoor.Rf
open Go Vx Con
set_option linter.unusedVariables false
set_option linter.constructorNameAsVariable false
set_option maxRecDepth 100000

theorem fstA13_0 : ∀ C, ((List.range' 2 8).all fun n => fstL true 3 n C) = true := fun C => by kernel_rfl
theorem fstA13_1 : ∀ C, ((List.range' 10 8).all fun n => fstL true 3 n C) = true := fun C => by kernel_rfl
theorem fstA13_2 : ∀ C, ((List.range' 18 8).all fun n => fstL true 3 n C) = true := fun C => by kernel_rfl
theorem fstA13_3 : ∀ C, ((List.range' 26 8).all fun n => fstL true 3 n C) = true := fun C => by kernel_rfl
theorem fstA13_4 : ∀ C, ((List.range' 34 8).all fun n => fstL true 3 n C) = true := fun C => by kernel_rfl
theorem fstA13_5 : ∀ C, ((List.range' 42 8).all fun n => fstL true 3 n C) = true := fun C => by kernel_rfl
theorem fstA13_6 : ∀ C, ((List.range' 50 8).all fun n => fstL true 3 n C) = true := fun C => by kernel_rfl
theorem fstA13_7 : ∀ C, ((List.range' 58 7).all fun n => fstL true 3 n C) = true := fun C => by kernel_rfl
theorem rlpA13_0 : ∀ C, ((List.range' 0 32).all fun n => rlP true 3 n C) = true := fun C => by kernel_rfl
theorem rlpA13_1 : ∀ C, ((List.range' 32 32).all fun n => rlP true 3 n C) = true := fun C => by kernel_rfl
theorem rllA13 : ((List.range' 2 63).all fun n => rlL true 3 n) = true := by kernel_rfl
theorem fst13 (n C : Nat) (h2 : 2 ≤ n) (h64 : n ≤ 64) : fstL true 3 n C = true := by
  rcases Nat.lt_or_ge n 10 with h | h
  · exact List.all_eq_true.1 (fstA13_0 C) n (List.mem_range'_1.2 ⟨by omega, by omega⟩)
  · skip
    rcases Nat.lt_or_ge n 18 with h | h
    · exact List.all_eq_true.1 (fstA13_1 C) n (List.mem_range'_1.2 ⟨by omega, by omega⟩)
    · skip
      rcases Nat.lt_or_ge n 26 with h | h
      · exact List.all_eq_true.1 (fstA13_2 C) n (List.mem_range'_1.2 ⟨by omega, by omega⟩)
      · skip
        rcases Nat.lt_or_ge n 34 with h | h
        · exact List.all_eq_true.1 (fstA13_3 C) n (List.mem_range'_1.2 ⟨by omega, by omega⟩)
        · skip
          rcases Nat.lt_or_ge n 42 with h | h
          · exact List.all_eq_true.1 (fstA13_4 C) n (List.mem_range'_1.2 ⟨by omega, by omega⟩)
          · skip
            rcases Nat.lt_or_ge n 50 with h | h
            · exact List.all_eq_true.1 (fstA13_5 C) n (List.mem_range'_1.2 ⟨by omega, by omega⟩)
            · skip
              rcases Nat.lt_or_ge n 58 with h | h
              · exact List.all_eq_true.1 (fstA13_6 C) n (List.mem_range'_1.2 ⟨by omega, by omega⟩)
              · skip
                exact List.all_eq_true.1 (fstA13_7 C) n (List.mem_range'_1.2 ⟨by omega, by omega⟩)
theorem rlp13 (n C : Nat) (h64 : n < 64) : rlP true 3 n C = true := by
  rcases Nat.lt_or_ge n 32 with h | h
  · exact List.all_eq_true.1 (rlpA13_0 C) n (List.mem_range'_1.2 ⟨by omega, by omega⟩)
  · skip
    exact List.all_eq_true.1 (rlpA13_1 C) n (List.mem_range'_1.2 ⟨by omega, by omega⟩)
theorem rll13 (n : Nat) (h2 : 2 ≤ n) (h64 : n ≤ 64) : rlL true 3 n = true := List.all_eq_true.1 rllA13 n (List.mem_range'_1.2 ⟨by omega, by omega⟩)
end Go.Proofs.YtaecedlhiclkdaaGreatDoor.Rf
