/- ReflectAnswers: the runs of one function. No condition. -/
import Derived.Test.YtaecedlhiclkdaaGreatDoorRfS
namespace Go.Proofs.YtaecedlhiclkdaaGreatDoor.Rf
open Go Vx Con
set_option linter.unusedVariables false
set_option linter.constructorNameAsVariable false
set_option maxRecDepth 100000

theorem fstA02_0 : ∀ C, ((List.range' 2 8).all fun n => fstL false 2 n C) = true := fun C => by kernel_rfl
theorem fstA02_1 : ∀ C, ((List.range' 10 8).all fun n => fstL false 2 n C) = true := fun C => by kernel_rfl
theorem fstA02_2 : ∀ C, ((List.range' 18 8).all fun n => fstL false 2 n C) = true := fun C => by kernel_rfl
theorem fstA02_3 : ∀ C, ((List.range' 26 8).all fun n => fstL false 2 n C) = true := fun C => by kernel_rfl
theorem fstA02_4 : ∀ C, ((List.range' 34 8).all fun n => fstL false 2 n C) = true := fun C => by kernel_rfl
theorem fstA02_5 : ∀ C, ((List.range' 42 8).all fun n => fstL false 2 n C) = true := fun C => by kernel_rfl
theorem fstA02_6 : ∀ C, ((List.range' 50 8).all fun n => fstL false 2 n C) = true := fun C => by kernel_rfl
theorem fstA02_7 : ∀ C, ((List.range' 58 7).all fun n => fstL false 2 n C) = true := fun C => by kernel_rfl
theorem rlpA02_0 : ∀ C, ((List.range' 0 32).all fun n => rlP false 2 n C) = true := fun C => by kernel_rfl
theorem rlpA02_1 : ∀ C, ((List.range' 32 32).all fun n => rlP false 2 n C) = true := fun C => by kernel_rfl
theorem rllA02 : ((List.range' 2 63).all fun n => rlL false 2 n) = true := by kernel_rfl
theorem fst02 (n C : Nat) (h2 : 2 ≤ n) (h64 : n ≤ 64) : fstL false 2 n C = true := by
  rcases Nat.lt_or_ge n 10 with h | h
  · exact List.all_eq_true.1 (fstA02_0 C) n (List.mem_range'_1.2 ⟨by omega, by omega⟩)
  · skip
    rcases Nat.lt_or_ge n 18 with h | h
    · exact List.all_eq_true.1 (fstA02_1 C) n (List.mem_range'_1.2 ⟨by omega, by omega⟩)
    · skip
      rcases Nat.lt_or_ge n 26 with h | h
      · exact List.all_eq_true.1 (fstA02_2 C) n (List.mem_range'_1.2 ⟨by omega, by omega⟩)
      · skip
        rcases Nat.lt_or_ge n 34 with h | h
        · exact List.all_eq_true.1 (fstA02_3 C) n (List.mem_range'_1.2 ⟨by omega, by omega⟩)
        · skip
          rcases Nat.lt_or_ge n 42 with h | h
          · exact List.all_eq_true.1 (fstA02_4 C) n (List.mem_range'_1.2 ⟨by omega, by omega⟩)
          · skip
            rcases Nat.lt_or_ge n 50 with h | h
            · exact List.all_eq_true.1 (fstA02_5 C) n (List.mem_range'_1.2 ⟨by omega, by omega⟩)
            · skip
              rcases Nat.lt_or_ge n 58 with h | h
              · exact List.all_eq_true.1 (fstA02_6 C) n (List.mem_range'_1.2 ⟨by omega, by omega⟩)
              · skip
                exact List.all_eq_true.1 (fstA02_7 C) n (List.mem_range'_1.2 ⟨by omega, by omega⟩)
theorem rlp02 (n C : Nat) (h64 : n < 64) : rlP false 2 n C = true := by
  rcases Nat.lt_or_ge n 32 with h | h
  · exact List.all_eq_true.1 (rlpA02_0 C) n (List.mem_range'_1.2 ⟨by omega, by omega⟩)
  · skip
    exact List.all_eq_true.1 (rlpA02_1 C) n (List.mem_range'_1.2 ⟨by omega, by omega⟩)
theorem rll02 (n : Nat) (h2 : 2 ≤ n) (h64 : n ≤ 64) : rlL false 2 n = true := List.all_eq_true.1 rllA02 n (List.mem_range'_1.2 ⟨by omega, by omega⟩)
theorem few2 : offR 2 [(.cmp .leq (.sy 8) (.li .i64 1), true)] = true := by kernel_rfl
theorem many2 : offR 2 [(.cmp .leq (.sy 8) (.li .i64 64), false)] = true := by kernel_rfl
theorem nil2 : nilA 2 = true := by kernel_rfl
theorem fstA03_0 : ∀ C, ((List.range' 2 8).all fun n => fstL false 3 n C) = true := fun C => by kernel_rfl
theorem fstA03_1 : ∀ C, ((List.range' 10 8).all fun n => fstL false 3 n C) = true := fun C => by kernel_rfl
theorem fstA03_2 : ∀ C, ((List.range' 18 8).all fun n => fstL false 3 n C) = true := fun C => by kernel_rfl
theorem fstA03_3 : ∀ C, ((List.range' 26 8).all fun n => fstL false 3 n C) = true := fun C => by kernel_rfl
theorem fstA03_4 : ∀ C, ((List.range' 34 8).all fun n => fstL false 3 n C) = true := fun C => by kernel_rfl
theorem fstA03_5 : ∀ C, ((List.range' 42 8).all fun n => fstL false 3 n C) = true := fun C => by kernel_rfl
theorem fstA03_6 : ∀ C, ((List.range' 50 8).all fun n => fstL false 3 n C) = true := fun C => by kernel_rfl
theorem fstA03_7 : ∀ C, ((List.range' 58 7).all fun n => fstL false 3 n C) = true := fun C => by kernel_rfl
theorem rlpA03_0 : ∀ C, ((List.range' 0 32).all fun n => rlP false 3 n C) = true := fun C => by kernel_rfl
theorem rlpA03_1 : ∀ C, ((List.range' 32 32).all fun n => rlP false 3 n C) = true := fun C => by kernel_rfl
theorem rllA03 : ((List.range' 2 63).all fun n => rlL false 3 n) = true := by kernel_rfl
theorem fst03 (n C : Nat) (h2 : 2 ≤ n) (h64 : n ≤ 64) : fstL false 3 n C = true := by
  rcases Nat.lt_or_ge n 10 with h | h
  · exact List.all_eq_true.1 (fstA03_0 C) n (List.mem_range'_1.2 ⟨by omega, by omega⟩)
  · skip
    rcases Nat.lt_or_ge n 18 with h | h
    · exact List.all_eq_true.1 (fstA03_1 C) n (List.mem_range'_1.2 ⟨by omega, by omega⟩)
    · skip
      rcases Nat.lt_or_ge n 26 with h | h
      · exact List.all_eq_true.1 (fstA03_2 C) n (List.mem_range'_1.2 ⟨by omega, by omega⟩)
      · skip
        rcases Nat.lt_or_ge n 34 with h | h
        · exact List.all_eq_true.1 (fstA03_3 C) n (List.mem_range'_1.2 ⟨by omega, by omega⟩)
        · skip
          rcases Nat.lt_or_ge n 42 with h | h
          · exact List.all_eq_true.1 (fstA03_4 C) n (List.mem_range'_1.2 ⟨by omega, by omega⟩)
          · skip
            rcases Nat.lt_or_ge n 50 with h | h
            · exact List.all_eq_true.1 (fstA03_5 C) n (List.mem_range'_1.2 ⟨by omega, by omega⟩)
            · skip
              rcases Nat.lt_or_ge n 58 with h | h
              · exact List.all_eq_true.1 (fstA03_6 C) n (List.mem_range'_1.2 ⟨by omega, by omega⟩)
              · skip
                exact List.all_eq_true.1 (fstA03_7 C) n (List.mem_range'_1.2 ⟨by omega, by omega⟩)
theorem rlp03 (n C : Nat) (h64 : n < 64) : rlP false 3 n C = true := by
  rcases Nat.lt_or_ge n 32 with h | h
  · exact List.all_eq_true.1 (rlpA03_0 C) n (List.mem_range'_1.2 ⟨by omega, by omega⟩)
  · skip
    exact List.all_eq_true.1 (rlpA03_1 C) n (List.mem_range'_1.2 ⟨by omega, by omega⟩)
theorem rll03 (n : Nat) (h2 : 2 ≤ n) (h64 : n ≤ 64) : rlL false 3 n = true := List.all_eq_true.1 rllA03 n (List.mem_range'_1.2 ⟨by omega, by omega⟩)
theorem few3 : offR 3 [(.cmp .leq (.sy 8) (.li .i64 1), true)] = true := by kernel_rfl
theorem many3 : offR 3 [(.cmp .leq (.sy 8) (.li .i64 64), false)] = true := by kernel_rfl
theorem nil3 : nilA 3 = true := by kernel_rfl
theorem fstA05_0 : ∀ C, ((List.range' 2 8).all fun n => fstL false 5 n C) = true := fun C => by kernel_rfl
theorem fstA05_1 : ∀ C, ((List.range' 10 8).all fun n => fstL false 5 n C) = true := fun C => by kernel_rfl
theorem fstA05_2 : ∀ C, ((List.range' 18 8).all fun n => fstL false 5 n C) = true := fun C => by kernel_rfl
theorem fstA05_3 : ∀ C, ((List.range' 26 8).all fun n => fstL false 5 n C) = true := fun C => by kernel_rfl
theorem fstA05_4 : ∀ C, ((List.range' 34 8).all fun n => fstL false 5 n C) = true := fun C => by kernel_rfl
theorem fstA05_5 : ∀ C, ((List.range' 42 8).all fun n => fstL false 5 n C) = true := fun C => by kernel_rfl
theorem fstA05_6 : ∀ C, ((List.range' 50 8).all fun n => fstL false 5 n C) = true := fun C => by kernel_rfl
theorem fstA05_7 : ∀ C, ((List.range' 58 7).all fun n => fstL false 5 n C) = true := fun C => by kernel_rfl
theorem rlpA05_0 : ∀ C, ((List.range' 0 32).all fun n => rlP false 5 n C) = true := fun C => by kernel_rfl
theorem rlpA05_1 : ∀ C, ((List.range' 32 32).all fun n => rlP false 5 n C) = true := fun C => by kernel_rfl
theorem rllA05 : ((List.range' 2 63).all fun n => rlL false 5 n) = true := by kernel_rfl
theorem fst05 (n C : Nat) (h2 : 2 ≤ n) (h64 : n ≤ 64) : fstL false 5 n C = true := by
  rcases Nat.lt_or_ge n 10 with h | h
  · exact List.all_eq_true.1 (fstA05_0 C) n (List.mem_range'_1.2 ⟨by omega, by omega⟩)
  · skip
    rcases Nat.lt_or_ge n 18 with h | h
    · exact List.all_eq_true.1 (fstA05_1 C) n (List.mem_range'_1.2 ⟨by omega, by omega⟩)
    · skip
      rcases Nat.lt_or_ge n 26 with h | h
      · exact List.all_eq_true.1 (fstA05_2 C) n (List.mem_range'_1.2 ⟨by omega, by omega⟩)
      · skip
        rcases Nat.lt_or_ge n 34 with h | h
        · exact List.all_eq_true.1 (fstA05_3 C) n (List.mem_range'_1.2 ⟨by omega, by omega⟩)
        · skip
          rcases Nat.lt_or_ge n 42 with h | h
          · exact List.all_eq_true.1 (fstA05_4 C) n (List.mem_range'_1.2 ⟨by omega, by omega⟩)
          · skip
            rcases Nat.lt_or_ge n 50 with h | h
            · exact List.all_eq_true.1 (fstA05_5 C) n (List.mem_range'_1.2 ⟨by omega, by omega⟩)
            · skip
              rcases Nat.lt_or_ge n 58 with h | h
              · exact List.all_eq_true.1 (fstA05_6 C) n (List.mem_range'_1.2 ⟨by omega, by omega⟩)
              · skip
                exact List.all_eq_true.1 (fstA05_7 C) n (List.mem_range'_1.2 ⟨by omega, by omega⟩)
theorem rlp05 (n C : Nat) (h64 : n < 64) : rlP false 5 n C = true := by
  rcases Nat.lt_or_ge n 32 with h | h
  · exact List.all_eq_true.1 (rlpA05_0 C) n (List.mem_range'_1.2 ⟨by omega, by omega⟩)
  · skip
    exact List.all_eq_true.1 (rlpA05_1 C) n (List.mem_range'_1.2 ⟨by omega, by omega⟩)
theorem rll05 (n : Nat) (h2 : 2 ≤ n) (h64 : n ≤ 64) : rlL false 5 n = true := List.all_eq_true.1 rllA05 n (List.mem_range'_1.2 ⟨by omega, by omega⟩)
theorem few5 : offR 5 [(.cmp .leq (.sy 8) (.li .i64 1), true)] = true := by kernel_rfl
theorem many5 : offR 5 [(.cmp .leq (.sy 8) (.li .i64 64), false)] = true := by kernel_rfl
theorem nil5 : nilA 5 = true := by kernel_rfl
end Go.Proofs.YtaecedlhiclkdaaGreatDoor.Rf
