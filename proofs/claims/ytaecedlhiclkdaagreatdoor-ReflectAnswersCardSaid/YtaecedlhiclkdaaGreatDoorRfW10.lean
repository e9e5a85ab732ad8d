/- ReflectAnswers: the runs of one function. No condition. -/
import Derived.Test.YtaecedlhiclkdaaGreatDoorRfS
namespace Go.Proofs.YtaecedlhiclkdaaGreatDoor.Rf
open Go Vx Con
set_option linter.unusedVariables false
set_option linter.constructorNameAsVariable false
set_option maxRecDepth 100000

theorem fstA10_0 : ∀ C, ((List.range' 2 3).all fun n => fstL true 0 n C) = true := fun C => by kernel_rfl
theorem fstA10_1 : ∀ C, ((List.range' 5 3).all fun n => fstL true 0 n C) = true := fun C => by kernel_rfl
theorem fstA10_2 : ∀ C, ((List.range' 8 3).all fun n => fstL true 0 n C) = true := fun C => by kernel_rfl
theorem fstA10_3 : ∀ C, ((List.range' 11 3).all fun n => fstL true 0 n C) = true := fun C => by kernel_rfl
theorem fstA10_4 : ∀ C, ((List.range' 14 3).all fun n => fstL true 0 n C) = true := fun C => by kernel_rfl
theorem fstA10_5 : ∀ C, ((List.range' 17 3).all fun n => fstL true 0 n C) = true := fun C => by kernel_rfl
theorem fstA10_6 : ∀ C, ((List.range' 20 3).all fun n => fstL true 0 n C) = true := fun C => by kernel_rfl
theorem fstA10_7 : ∀ C, ((List.range' 23 3).all fun n => fstL true 0 n C) = true := fun C => by kernel_rfl
theorem fstA10_8 : ∀ C, ((List.range' 26 3).all fun n => fstL true 0 n C) = true := fun C => by kernel_rfl
theorem fstA10_9 : ∀ C, ((List.range' 29 3).all fun n => fstL true 0 n C) = true := fun C => by kernel_rfl
theorem fstA10_10 : ∀ C, ((List.range' 32 3).all fun n => fstL true 0 n C) = true := fun C => by kernel_rfl
theorem fstA10_11 : ∀ C, ((List.range' 35 3).all fun n => fstL true 0 n C) = true := fun C => by kernel_rfl
theorem fstA10_12 : ∀ C, ((List.range' 38 3).all fun n => fstL true 0 n C) = true := fun C => by kernel_rfl
theorem fstA10_13 : ∀ C, ((List.range' 41 3).all fun n => fstL true 0 n C) = true := fun C => by kernel_rfl
theorem fstA10_14 : ∀ C, ((List.range' 44 3).all fun n => fstL true 0 n C) = true := fun C => by kernel_rfl
theorem fstA10_15 : ∀ C, ((List.range' 47 3).all fun n => fstL true 0 n C) = true := fun C => by kernel_rfl
theorem fstA10_16 : ∀ C, ((List.range' 50 3).all fun n => fstL true 0 n C) = true := fun C => by kernel_rfl
theorem fstA10_17 : ∀ C, ((List.range' 53 3).all fun n => fstL true 0 n C) = true := fun C => by kernel_rfl
theorem fstA10_18 : ∀ C, ((List.range' 56 3).all fun n => fstL true 0 n C) = true := fun C => by kernel_rfl
theorem fstA10_19 : ∀ C, ((List.range' 59 3).all fun n => fstL true 0 n C) = true := fun C => by kernel_rfl
theorem fstA10_20 : ∀ C, ((List.range' 62 3).all fun n => fstL true 0 n C) = true := fun C => by kernel_rfl
theorem rlpA10_0 : ∀ C, ((List.range' 0 32).all fun n => rlP true 0 n C) = true := fun C => by kernel_rfl
theorem rlpA10_1 : ∀ C, ((List.range' 32 32).all fun n => rlP true 0 n C) = true := fun C => by kernel_rfl
theorem rllA10 : ((List.range' 2 63).all fun n => rlL true 0 n) = true := by kernel_rfl
theorem fst10 (n C : Nat) (h2 : 2 ≤ n) (h64 : n ≤ 64) : fstL true 0 n C = true := by
  rcases Nat.lt_or_ge n 5 with h | h
  · exact List.all_eq_true.1 (fstA10_0 C) n (List.mem_range'_1.2 ⟨by omega, by omega⟩)
  · skip
    rcases Nat.lt_or_ge n 8 with h | h
    · exact List.all_eq_true.1 (fstA10_1 C) n (List.mem_range'_1.2 ⟨by omega, by omega⟩)
    · skip
      rcases Nat.lt_or_ge n 11 with h | h
      · exact List.all_eq_true.1 (fstA10_2 C) n (List.mem_range'_1.2 ⟨by omega, by omega⟩)
      · skip
        rcases Nat.lt_or_ge n 14 with h | h
        · exact List.all_eq_true.1 (fstA10_3 C) n (List.mem_range'_1.2 ⟨by omega, by omega⟩)
        · skip
          rcases Nat.lt_or_ge n 17 with h | h
          · exact List.all_eq_true.1 (fstA10_4 C) n (List.mem_range'_1.2 ⟨by omega, by omega⟩)
          · skip
            rcases Nat.lt_or_ge n 20 with h | h
            · exact List.all_eq_true.1 (fstA10_5 C) n (List.mem_range'_1.2 ⟨by omega, by omega⟩)
            · skip
              rcases Nat.lt_or_ge n 23 with h | h
              · exact List.all_eq_true.1 (fstA10_6 C) n (List.mem_range'_1.2 ⟨by omega, by omega⟩)
              · skip
                rcases Nat.lt_or_ge n 26 with h | h
                · exact List.all_eq_true.1 (fstA10_7 C) n (List.mem_range'_1.2 ⟨by omega, by omega⟩)
                · skip
                  rcases Nat.lt_or_ge n 29 with h | h
                  · exact List.all_eq_true.1 (fstA10_8 C) n (List.mem_range'_1.2 ⟨by omega, by omega⟩)
                  · skip
                    rcases Nat.lt_or_ge n 32 with h | h
                    · exact List.all_eq_true.1 (fstA10_9 C) n (List.mem_range'_1.2 ⟨by omega, by omega⟩)
                    · skip
                      rcases Nat.lt_or_ge n 35 with h | h
                      · exact List.all_eq_true.1 (fstA10_10 C) n (List.mem_range'_1.2 ⟨by omega, by omega⟩)
                      · skip
                        rcases Nat.lt_or_ge n 38 with h | h
                        · exact List.all_eq_true.1 (fstA10_11 C) n (List.mem_range'_1.2 ⟨by omega, by omega⟩)
                        · skip
                          rcases Nat.lt_or_ge n 41 with h | h
                          · exact List.all_eq_true.1 (fstA10_12 C) n (List.mem_range'_1.2 ⟨by omega, by omega⟩)
                          · skip
                            rcases Nat.lt_or_ge n 44 with h | h
                            · exact List.all_eq_true.1 (fstA10_13 C) n (List.mem_range'_1.2 ⟨by omega, by omega⟩)
                            · skip
                              rcases Nat.lt_or_ge n 47 with h | h
                              · exact List.all_eq_true.1 (fstA10_14 C) n (List.mem_range'_1.2 ⟨by omega, by omega⟩)
                              · skip
                                rcases Nat.lt_or_ge n 50 with h | h
                                · exact List.all_eq_true.1 (fstA10_15 C) n (List.mem_range'_1.2 ⟨by omega, by omega⟩)
                                · skip
                                  rcases Nat.lt_or_ge n 53 with h | h
                                  · exact List.all_eq_true.1 (fstA10_16 C) n (List.mem_range'_1.2 ⟨by omega, by omega⟩)
                                  · skip
                                    rcases Nat.lt_or_ge n 56 with h | h
                                    · exact List.all_eq_true.1 (fstA10_17 C) n (List.mem_range'_1.2 ⟨by omega, by omega⟩)
                                    · skip
                                      rcases Nat.lt_or_ge n 59 with h | h
                                      · exact List.all_eq_true.1 (fstA10_18 C) n (List.mem_range'_1.2 ⟨by omega, by omega⟩)
                                      · skip
                                        rcases Nat.lt_or_ge n 62 with h | h
                                        · exact List.all_eq_true.1 (fstA10_19 C) n (List.mem_range'_1.2 ⟨by omega, by omega⟩)
                                        · skip
                                          exact List.all_eq_true.1 (fstA10_20 C) n (List.mem_range'_1.2 ⟨by omega, by omega⟩)
theorem rlp10 (n C : Nat) (h64 : n < 64) : rlP true 0 n C = true := by
  rcases Nat.lt_or_ge n 32 with h | h
  · exact List.all_eq_true.1 (rlpA10_0 C) n (List.mem_range'_1.2 ⟨by omega, by omega⟩)
  · skip
    exact List.all_eq_true.1 (rlpA10_1 C) n (List.mem_range'_1.2 ⟨by omega, by omega⟩)
theorem rll10 (n : Nat) (h2 : 2 ≤ n) (h64 : n ≤ 64) : rlL true 0 n = true := List.all_eq_true.1 rllA10 n (List.mem_range'_1.2 ⟨by omega, by omega⟩)
end Go.Proofs.YtaecedlhiclkdaaGreatDoor.Rf
