/- ReflectAnswers: the runs of one function. No condition. -/
import Derived.Test.YtaecedlhiclkdaaGreatDoorRfS
namespace Go.Proofs.YtaecedlhiclkdaaGreatDoor.Rf
open Go Vx Con
set_option linter.unusedVariables false
set_option linter.constructorNameAsVariable false
set_option maxRecDepth 100000

theorem fstA01_0 : ∀ C, ((List.range' 2 3).all fun n => fstL false 1 n C) = true := fun C => by kernel_rfl
theorem fstA01_1 : ∀ C, ((List.range' 5 3).all fun n => fstL false 1 n C) = true := fun C => by kernel_rfl
theorem fstA01_2 : ∀ C, ((List.range' 8 3).all fun n => fstL false 1 n C) = true := fun C => by kernel_rfl
theorem fstA01_3 : ∀ C, ((List.range' 11 3).all fun n => fstL false 1 n C) = true := fun C => by kernel_rfl
theorem fstA01_4 : ∀ C, ((List.range' 14 3).all fun n => fstL false 1 n C) = true := fun C => by kernel_rfl
theorem fstA01_5 : ∀ C, ((List.range' 17 3).all fun n => fstL false 1 n C) = true := fun C => by kernel_rfl
theorem fstA01_6 : ∀ C, ((List.range' 20 3).all fun n => fstL false 1 n C) = true := fun C => by kernel_rfl
theorem fstA01_7 : ∀ C, ((List.range' 23 3).all fun n => fstL false 1 n C) = true := fun C => by kernel_rfl
theorem fstA01_8 : ∀ C, ((List.range' 26 3).all fun n => fstL false 1 n C) = true := fun C => by kernel_rfl
theorem fstA01_9 : ∀ C, ((List.range' 29 3).all fun n => fstL false 1 n C) = true := fun C => by kernel_rfl
theorem fstA01_10 : ∀ C, ((List.range' 32 3).all fun n => fstL false 1 n C) = true := fun C => by kernel_rfl
theorem fstA01_11 : ∀ C, ((List.range' 35 3).all fun n => fstL false 1 n C) = true := fun C => by kernel_rfl
theorem fstA01_12 : ∀ C, ((List.range' 38 3).all fun n => fstL false 1 n C) = true := fun C => by kernel_rfl
theorem fstA01_13 : ∀ C, ((List.range' 41 3).all fun n => fstL false 1 n C) = true := fun C => by kernel_rfl
theorem fstA01_14 : ∀ C, ((List.range' 44 3).all fun n => fstL false 1 n C) = true := fun C => by kernel_rfl
theorem fstA01_15 : ∀ C, ((List.range' 47 3).all fun n => fstL false 1 n C) = true := fun C => by kernel_rfl
theorem fstA01_16 : ∀ C, ((List.range' 50 3).all fun n => fstL false 1 n C) = true := fun C => by kernel_rfl
theorem fstA01_17 : ∀ C, ((List.range' 53 3).all fun n => fstL false 1 n C) = true := fun C => by kernel_rfl
theorem fstA01_18 : ∀ C, ((List.range' 56 3).all fun n => fstL false 1 n C) = true := fun C => by kernel_rfl
theorem fstA01_19 : ∀ C, ((List.range' 59 3).all fun n => fstL false 1 n C) = true := fun C => by kernel_rfl
theorem fstA01_20 : ∀ C, ((List.range' 62 3).all fun n => fstL false 1 n C) = true := fun C => by kernel_rfl
theorem rlpA01_0 : ∀ C, ((List.range' 0 32).all fun n => rlP false 1 n C) = true := fun C => by kernel_rfl
theorem rlpA01_1 : ∀ C, ((List.range' 32 32).all fun n => rlP false 1 n C) = true := fun C => by kernel_rfl
theorem rllA01 : ((List.range' 2 63).all fun n => rlL false 1 n) = true := by kernel_rfl
theorem fst01 (n C : Nat) (h2 : 2 ≤ n) (h64 : n ≤ 64) : fstL false 1 n C = true := by
  rcases Nat.lt_or_ge n 5 with h | h
  · exact List.all_eq_true.1 (fstA01_0 C) n (List.mem_range'_1.2 ⟨by omega, by omega⟩)
  · skip
    rcases Nat.lt_or_ge n 8 with h | h
    · exact List.all_eq_true.1 (fstA01_1 C) n (List.mem_range'_1.2 ⟨by omega, by omega⟩)
    · skip
      rcases Nat.lt_or_ge n 11 with h | h
      · exact List.all_eq_true.1 (fstA01_2 C) n (List.mem_range'_1.2 ⟨by omega, by omega⟩)
      · skip
        rcases Nat.lt_or_ge n 14 with h | h
        · exact List.all_eq_true.1 (fstA01_3 C) n (List.mem_range'_1.2 ⟨by omega, by omega⟩)
        · skip
          rcases Nat.lt_or_ge n 17 with h | h
          · exact List.all_eq_true.1 (fstA01_4 C) n (List.mem_range'_1.2 ⟨by omega, by omega⟩)
          · skip
            rcases Nat.lt_or_ge n 20 with h | h
            · exact List.all_eq_true.1 (fstA01_5 C) n (List.mem_range'_1.2 ⟨by omega, by omega⟩)
            · skip
              rcases Nat.lt_or_ge n 23 with h | h
              · exact List.all_eq_true.1 (fstA01_6 C) n (List.mem_range'_1.2 ⟨by omega, by omega⟩)
              · skip
                rcases Nat.lt_or_ge n 26 with h | h
                · exact List.all_eq_true.1 (fstA01_7 C) n (List.mem_range'_1.2 ⟨by omega, by omega⟩)
                · skip
                  rcases Nat.lt_or_ge n 29 with h | h
                  · exact List.all_eq_true.1 (fstA01_8 C) n (List.mem_range'_1.2 ⟨by omega, by omega⟩)
                  · skip
                    rcases Nat.lt_or_ge n 32 with h | h
                    · exact List.all_eq_true.1 (fstA01_9 C) n (List.mem_range'_1.2 ⟨by omega, by omega⟩)
                    · skip
                      rcases Nat.lt_or_ge n 35 with h | h
                      · exact List.all_eq_true.1 (fstA01_10 C) n (List.mem_range'_1.2 ⟨by omega, by omega⟩)
                      · skip
                        rcases Nat.lt_or_ge n 38 with h | h
                        · exact List.all_eq_true.1 (fstA01_11 C) n (List.mem_range'_1.2 ⟨by omega, by omega⟩)
                        · skip
                          rcases Nat.lt_or_ge n 41 with h | h
                          · exact List.all_eq_true.1 (fstA01_12 C) n (List.mem_range'_1.2 ⟨by omega, by omega⟩)
                          · skip
                            rcases Nat.lt_or_ge n 44 with h | h
                            · exact List.all_eq_true.1 (fstA01_13 C) n (List.mem_range'_1.2 ⟨by omega, by omega⟩)
                            · skip
                              rcases Nat.lt_or_ge n 47 with h | h
                              · exact List.all_eq_true.1 (fstA01_14 C) n (List.mem_range'_1.2 ⟨by omega, by omega⟩)
                              · skip
                                rcases Nat.lt_or_ge n 50 with h | h
                                · exact List.all_eq_true.1 (fstA01_15 C) n (List.mem_range'_1.2 ⟨by omega, by omega⟩)
                                · skip
                                  rcases Nat.lt_or_ge n 53 with h | h
                                  · exact List.all_eq_true.1 (fstA01_16 C) n (List.mem_range'_1.2 ⟨by omega, by omega⟩)
                                  · skip
                                    rcases Nat.lt_or_ge n 56 with h | h
                                    · exact List.all_eq_true.1 (fstA01_17 C) n (List.mem_range'_1.2 ⟨by omega, by omega⟩)
                                    · skip
                                      rcases Nat.lt_or_ge n 59 with h | h
                                      · exact List.all_eq_true.1 (fstA01_18 C) n (List.mem_range'_1.2 ⟨by omega, by omega⟩)
                                      · skip
                                        rcases Nat.lt_or_ge n 62 with h | h
                                        · exact List.all_eq_true.1 (fstA01_19 C) n (List.mem_range'_1.2 ⟨by omega, by omega⟩)
                                        · skip
                                          exact List.all_eq_true.1 (fstA01_20 C) n (List.mem_range'_1.2 ⟨by omega, by omega⟩)
theorem rlp01 (n C : Nat) (h64 : n < 64) : rlP false 1 n C = true := by
  rcases Nat.lt_or_ge n 32 with h | h
  · exact List.all_eq_true.1 (rlpA01_0 C) n (List.mem_range'_1.2 ⟨by omega, by omega⟩)
  · skip
    exact List.all_eq_true.1 (rlpA01_1 C) n (List.mem_range'_1.2 ⟨by omega, by omega⟩)
theorem rll01 (n : Nat) (h2 : 2 ≤ n) (h64 : n ≤ 64) : rlL false 1 n = true := List.all_eq_true.1 rllA01 n (List.mem_range'_1.2 ⟨by omega, by omega⟩)
theorem few1 : offR 1 [(.cmp .leq (.sy 8) (.li .i64 1), true)] = true := by kernel_rfl
theorem many1 : offR 1 [(.cmp .leq (.sy 8) (.li .i64 64), false)] = true := by kernel_rfl
theorem nil1 : nilA 1 = true := by kernel_rfl
theorem fstA14_0 : ∀ C, ((List.range' 2 3).all fun n => fstL true 4 n C) = true := fun C => by kernel_rfl
theorem fstA14_1 : ∀ C, ((List.range' 5 3).all fun n => fstL true 4 n C) = true := fun C => by kernel_rfl
theorem fstA14_2 : ∀ C, ((List.range' 8 3).all fun n => fstL true 4 n C) = true := fun C => by kernel_rfl
theorem fstA14_3 : ∀ C, ((List.range' 11 3).all fun n => fstL true 4 n C) = true := fun C => by kernel_rfl
theorem fstA14_4 : ∀ C, ((List.range' 14 3).all fun n => fstL true 4 n C) = true := fun C => by kernel_rfl
theorem fstA14_5 : ∀ C, ((List.range' 17 3).all fun n => fstL true 4 n C) = true := fun C => by kernel_rfl
theorem fstA14_6 : ∀ C, ((List.range' 20 3).all fun n => fstL true 4 n C) = true := fun C => by kernel_rfl
theorem fstA14_7 : ∀ C, ((List.range' 23 3).all fun n => fstL true 4 n C) = true := fun C => by kernel_rfl
theorem fstA14_8 : ∀ C, ((List.range' 26 3).all fun n => fstL true 4 n C) = true := fun C => by kernel_rfl
theorem fstA14_9 : ∀ C, ((List.range' 29 3).all fun n => fstL true 4 n C) = true := fun C => by kernel_rfl
theorem fstA14_10 : ∀ C, ((List.range' 32 3).all fun n => fstL true 4 n C) = true := fun C => by kernel_rfl
theorem fstA14_11 : ∀ C, ((List.range' 35 3).all fun n => fstL true 4 n C) = true := fun C => by kernel_rfl
theorem fstA14_12 : ∀ C, ((List.range' 38 3).all fun n => fstL true 4 n C) = true := fun C => by kernel_rfl
theorem fstA14_13 : ∀ C, ((List.range' 41 3).all fun n => fstL true 4 n C) = true := fun C => by kernel_rfl
theorem fstA14_14 : ∀ C, ((List.range' 44 3).all fun n => fstL true 4 n C) = true := fun C => by kernel_rfl
theorem fstA14_15 : ∀ C, ((List.range' 47 3).all fun n => fstL true 4 n C) = true := fun C => by kernel_rfl
theorem fstA14_16 : ∀ C, ((List.range' 50 3).all fun n => fstL true 4 n C) = true := fun C => by kernel_rfl
theorem fstA14_17 : ∀ C, ((List.range' 53 3).all fun n => fstL true 4 n C) = true := fun C => by kernel_rfl
theorem fstA14_18 : ∀ C, ((List.range' 56 3).all fun n => fstL true 4 n C) = true := fun C => by kernel_rfl
theorem fstA14_19 : ∀ C, ((List.range' 59 3).all fun n => fstL true 4 n C) = true := fun C => by kernel_rfl
theorem fstA14_20 : ∀ C, ((List.range' 62 3).all fun n => fstL true 4 n C) = true := fun C => by kernel_rfl
theorem rlpA14_0 : ∀ C, ((List.range' 0 32).all fun n => rlP true 4 n C) = true := fun C => by kernel_rfl
theorem rlpA14_1 : ∀ C, ((List.range' 32 32).all fun n => rlP true 4 n C) = true := fun C => by kernel_rfl
theorem rllA14 : ((List.range' 2 63).all fun n => rlL true 4 n) = true := by kernel_rfl
theorem fst14 (n C : Nat) (h2 : 2 ≤ n) (h64 : n ≤ 64) : fstL true 4 n C = true := by
  rcases Nat.lt_or_ge n 5 with h | h
  · exact List.all_eq_true.1 (fstA14_0 C) n (List.mem_range'_1.2 ⟨by omega, by omega⟩)
  · skip
    rcases Nat.lt_or_ge n 8 with h | h
    · exact List.all_eq_true.1 (fstA14_1 C) n (List.mem_range'_1.2 ⟨by omega, by omega⟩)
    · skip
      rcases Nat.lt_or_ge n 11 with h | h
      · exact List.all_eq_true.1 (fstA14_2 C) n (List.mem_range'_1.2 ⟨by omega, by omega⟩)
      · skip
        rcases Nat.lt_or_ge n 14 with h | h
        · exact List.all_eq_true.1 (fstA14_3 C) n (List.mem_range'_1.2 ⟨by omega, by omega⟩)
        · skip
          rcases Nat.lt_or_ge n 17 with h | h
          · exact List.all_eq_true.1 (fstA14_4 C) n (List.mem_range'_1.2 ⟨by omega, by omega⟩)
          · skip
            rcases Nat.lt_or_ge n 20 with h | h
            · exact List.all_eq_true.1 (fstA14_5 C) n (List.mem_range'_1.2 ⟨by omega, by omega⟩)
            · skip
              rcases Nat.lt_or_ge n 23 with h | h
              · exact List.all_eq_true.1 (fstA14_6 C) n (List.mem_range'_1.2 ⟨by omega, by omega⟩)
              · skip
                rcases Nat.lt_or_ge n 26 with h | h
                · exact List.all_eq_true.1 (fstA14_7 C) n (List.mem_range'_1.2 ⟨by omega, by omega⟩)
                · skip
                  rcases Nat.lt_or_ge n 29 with h | h
                  · exact List.all_eq_true.1 (fstA14_8 C) n (List.mem_range'_1.2 ⟨by omega, by omega⟩)
                  · skip
                    rcases Nat.lt_or_ge n 32 with h | h
                    · exact List.all_eq_true.1 (fstA14_9 C) n (List.mem_range'_1.2 ⟨by omega, by omega⟩)
                    · skip
                      rcases Nat.lt_or_ge n 35 with h | h
                      · exact List.all_eq_true.1 (fstA14_10 C) n (List.mem_range'_1.2 ⟨by omega, by omega⟩)
                      · skip
                        rcases Nat.lt_or_ge n 38 with h | h
                        · exact List.all_eq_true.1 (fstA14_11 C) n (List.mem_range'_1.2 ⟨by omega, by omega⟩)
                        · skip
                          rcases Nat.lt_or_ge n 41 with h | h
                          · exact List.all_eq_true.1 (fstA14_12 C) n (List.mem_range'_1.2 ⟨by omega, by omega⟩)
                          · skip
                            rcases Nat.lt_or_ge n 44 with h | h
                            · exact List.all_eq_true.1 (fstA14_13 C) n (List.mem_range'_1.2 ⟨by omega, by omega⟩)
                            · skip
                              rcases Nat.lt_or_ge n 47 with h | h
                              · exact List.all_eq_true.1 (fstA14_14 C) n (List.mem_range'_1.2 ⟨by omega, by omega⟩)
                              · skip
                                rcases Nat.lt_or_ge n 50 with h | h
                                · exact List.all_eq_true.1 (fstA14_15 C) n (List.mem_range'_1.2 ⟨by omega, by omega⟩)
                                · skip
                                  rcases Nat.lt_or_ge n 53 with h | h
                                  · exact List.all_eq_true.1 (fstA14_16 C) n (List.mem_range'_1.2 ⟨by omega, by omega⟩)
                                  · skip
                                    rcases Nat.lt_or_ge n 56 with h | h
                                    · exact List.all_eq_true.1 (fstA14_17 C) n (List.mem_range'_1.2 ⟨by omega, by omega⟩)
                                    · skip
                                      rcases Nat.lt_or_ge n 59 with h | h
                                      · exact List.all_eq_true.1 (fstA14_18 C) n (List.mem_range'_1.2 ⟨by omega, by omega⟩)
                                      · skip
                                        rcases Nat.lt_or_ge n 62 with h | h
                                        · exact List.all_eq_true.1 (fstA14_19 C) n (List.mem_range'_1.2 ⟨by omega, by omega⟩)
                                        · skip
                                          exact List.all_eq_true.1 (fstA14_20 C) n (List.mem_range'_1.2 ⟨by omega, by omega⟩)
theorem rlp14 (n C : Nat) (h64 : n < 64) : rlP true 4 n C = true := by
  rcases Nat.lt_or_ge n 32 with h | h
  · exact List.all_eq_true.1 (rlpA14_0 C) n (List.mem_range'_1.2 ⟨by omega, by omega⟩)
  · skip
    exact List.all_eq_true.1 (rlpA14_1 C) n (List.mem_range'_1.2 ⟨by omega, by omega⟩)
theorem rll14 (n : Nat) (h2 : 2 ≤ n) (h64 : n ≤ 64) : rlL true 4 n = true := List.all_eq_true.1 rllA14 n (List.mem_range'_1.2 ⟨by omega, by omega⟩)
end Go.Proofs.YtaecedlhiclkdaaGreatDoor.Rf
