/- ReflectAnswers: the runs of one function. No condition. -/
import Derived.Test.YtaecedlhiclkdaaGreatDoorRfS
namespace Go.Proofs.YtaecedlhiclkdaaGreatDoor.Rf
open Go Vx Con
set_option linter.unusedVariables false
set_option linter.constructorNameAsVariable false
set_option maxRecDepth 100000

theorem fstA00_0 : ∀ C, ((List.range' 2 3).all fun n => fstL false 0 n C) = true := fun C => by kernel_rfl
theorem fstA00_1 : ∀ C, ((List.range' 5 3).all fun n => fstL false 0 n C) = true := fun C => by kernel_rfl
theorem fstA00_2 : ∀ C, ((List.range' 8 3).all fun n => fstL false 0 n C) = true := fun C => by kernel_rfl
theorem fstA00_3 : ∀ C, ((List.range' 11 3).all fun n => fstL false 0 n C) = true := fun C => by kernel_rfl
theorem fstA00_4 : ∀ C, ((List.range' 14 3).all fun n => fstL false 0 n C) = true := fun C => by kernel_rfl
theorem fstA00_5 : ∀ C, ((List.range' 17 3).all fun n => fstL false 0 n C) = true := fun C => by kernel_rfl
theorem fstA00_6 : ∀ C, ((List.range' 20 3).all fun n => fstL false 0 n C) = true := fun C => by kernel_rfl
theorem fstA00_7 : ∀ C, ((List.range' 23 3).all fun n => fstL false 0 n C) = true := fun C => by kernel_rfl
theorem fstA00_8 : ∀ C, ((List.range' 26 3).all fun n => fstL false 0 n C) = true := fun C => by kernel_rfl
theorem fstA00_9 : ∀ C, ((List.range' 29 3).all fun n => fstL false 0 n C) = true := fun C => by kernel_rfl
theorem fstA00_10 : ∀ C, ((List.range' 32 3).all fun n => fstL false 0 n C) = true := fun C => by kernel_rfl
theorem fstA00_11 : ∀ C, ((List.range' 35 3).all fun n => fstL false 0 n C) = true := fun C => by kernel_rfl
theorem fstA00_12 : ∀ C, ((List.range' 38 3).all fun n => fstL false 0 n C) = true := fun C => by kernel_rfl
theorem fstA00_13 : ∀ C, ((List.range' 41 3).all fun n => fstL false 0 n C) = true := fun C => by kernel_rfl
theorem fstA00_14 : ∀ C, ((List.range' 44 3).all fun n => fstL false 0 n C) = true := fun C => by kernel_rfl
theorem fstA00_15 : ∀ C, ((List.range' 47 3).all fun n => fstL false 0 n C) = true := fun C => by kernel_rfl
theorem fstA00_16 : ∀ C, ((List.range' 50 3).all fun n => fstL false 0 n C) = true := fun C => by kernel_rfl
theorem fstA00_17 : ∀ C, ((List.range' 53 3).all fun n => fstL false 0 n C) = true := fun C => by kernel_rfl
theorem fstA00_18 : ∀ C, ((List.range' 56 3).all fun n => fstL false 0 n C) = true := fun C => by kernel_rfl
theorem fstA00_19 : ∀ C, ((List.range' 59 3).all fun n => fstL false 0 n C) = true := fun C => by kernel_rfl
theorem fstA00_20 : ∀ C, ((List.range' 62 3).all fun n => fstL false 0 n C) = true := fun C => by kernel_rfl
theorem rlpA00_0 : ∀ C, ((List.range' 0 32).all fun n => rlP false 0 n C) = true := fun C => by kernel_rfl
theorem rlpA00_1 : ∀ C, ((List.range' 32 32).all fun n => rlP false 0 n C) = true := fun C => by kernel_rfl
theorem rllA00 : ((List.range' 2 63).all fun n => rlL false 0 n) = true := by kernel_rfl
theorem fst00 (n C : Nat) (h2 : 2 ≤ n) (h64 : n ≤ 64) : fstL false 0 n C = true := by
  rcases Nat.lt_or_ge n 5 with h | h
  · exact List.all_eq_true.1 (fstA00_0 C) n (List.mem_range'_1.2 ⟨by omega, by omega⟩)
  · skip
    rcases Nat.lt_or_ge n 8 with h | h
    · exact List.all_eq_true.1 (fstA00_1 C) n (List.mem_range'_1.2 ⟨by omega, by omega⟩)
    · skip
      rcases Nat.lt_or_ge n 11 with h | h
      · exact List.all_eq_true.1 (fstA00_2 C) n (List.mem_range'_1.2 ⟨by omega, by omega⟩)
      · skip
        rcases Nat.lt_or_ge n 14 with h | h
        · exact List.all_eq_true.1 (fstA00_3 C) n (List.mem_range'_1.2 ⟨by omega, by omega⟩)
        · skip
          rcases Nat.lt_or_ge n 17 with h | h
          · exact List.all_eq_true.1 (fstA00_4 C) n (List.mem_range'_1.2 ⟨by omega, by omega⟩)
          · skip
            rcases Nat.lt_or_ge n 20 with h | h
            · exact List.all_eq_true.1 (fstA00_5 C) n (List.mem_range'_1.2 ⟨by omega, by omega⟩)
            · skip
              rcases Nat.lt_or_ge n 23 with h | h
              · exact List.all_eq_true.1 (fstA00_6 C) n (List.mem_range'_1.2 ⟨by omega, by omega⟩)
              · skip
                rcases Nat.lt_or_ge n 26 with h | h
                · exact List.all_eq_true.1 (fstA00_7 C) n (List.mem_range'_1.2 ⟨by omega, by omega⟩)
                · skip
                  rcases Nat.lt_or_ge n 29 with h | h
                  · exact List.all_eq_true.1 (fstA00_8 C) n (List.mem_range'_1.2 ⟨by omega, by omega⟩)
                  · skip
                    rcases Nat.lt_or_ge n 32 with h | h
                    · exact List.all_eq_true.1 (fstA00_9 C) n (List.mem_range'_1.2 ⟨by omega, by omega⟩)
                    · skip
                      rcases Nat.lt_or_ge n 35 with h | h
                      · exact List.all_eq_true.1 (fstA00_10 C) n (List.mem_range'_1.2 ⟨by omega, by omega⟩)
                      · skip
                        rcases Nat.lt_or_ge n 38 with h | h
                        · exact List.all_eq_true.1 (fstA00_11 C) n (List.mem_range'_1.2 ⟨by omega, by omega⟩)
                        · skip
                          rcases Nat.lt_or_ge n 41 with h | h
                          · exact List.all_eq_true.1 (fstA00_12 C) n (List.mem_range'_1.2 ⟨by omega, by omega⟩)
                          · skip
                            rcases Nat.lt_or_ge n 44 with h | h
                            · exact List.all_eq_true.1 (fstA00_13 C) n (List.mem_range'_1.2 ⟨by omega, by omega⟩)
                            · skip
                              rcases Nat.lt_or_ge n 47 with h | h
                              · exact List.all_eq_true.1 (fstA00_14 C) n (List.mem_range'_1.2 ⟨by omega, by omega⟩)
                              · skip
                                rcases Nat.lt_or_ge n 50 with h | h
                                · exact List.all_eq_true.1 (fstA00_15 C) n (List.mem_range'_1.2 ⟨by omega, by omega⟩)
                                · skip
                                  rcases Nat.lt_or_ge n 53 with h | h
                                  · exact List.all_eq_true.1 (fstA00_16 C) n (List.mem_range'_1.2 ⟨by omega, by omega⟩)
                                  · skip
                                    rcases Nat.lt_or_ge n 56 with h | h
                                    · exact List.all_eq_true.1 (fstA00_17 C) n (List.mem_range'_1.2 ⟨by omega, by omega⟩)
                                    · skip
                                      rcases Nat.lt_or_ge n 59 with h | h
                                      · exact List.all_eq_true.1 (fstA00_18 C) n (List.mem_range'_1.2 ⟨by omega, by omega⟩)
                                      · skip
                                        rcases Nat.lt_or_ge n 62 with h | h
                                        · exact List.all_eq_true.1 (fstA00_19 C) n (List.mem_range'_1.2 ⟨by omega, by omega⟩)
                                        · skip
                                          exact List.all_eq_true.1 (fstA00_20 C) n (List.mem_range'_1.2 ⟨by omega, by omega⟩)
theorem rlp00 (n C : Nat) (h64 : n < 64) : rlP false 0 n C = true := by
  rcases Nat.lt_or_ge n 32 with h | h
  · exact List.all_eq_true.1 (rlpA00_0 C) n (List.mem_range'_1.2 ⟨by omega, by omega⟩)
  · skip
    exact List.all_eq_true.1 (rlpA00_1 C) n (List.mem_range'_1.2 ⟨by omega, by omega⟩)
theorem rll00 (n : Nat) (h2 : 2 ≤ n) (h64 : n ≤ 64) : rlL false 0 n = true := List.all_eq_true.1 rllA00 n (List.mem_range'_1.2 ⟨by omega, by omega⟩)
theorem few0 : offR 0 [(.cmp .leq (.sy 8) (.li .i64 1), true)] = true := by kernel_rfl
theorem many0 : offR 0 [(.cmp .leq (.sy 8) (.li .i64 64), false)] = true := by kernel_rfl
theorem nil0 : nilA 0 = true := by kernel_rfl
theorem name0 : nameR = true := by kernel_rfl
end Go.Proofs.YtaecedlhiclkdaaGreatDoor.Rf
