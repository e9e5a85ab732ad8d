/- The types' rows are as they should be, looked at in parts. No condition. -/
import Derived.Test.YtbmekbpgoakkbaaGreatDoorFc
import Derived.JoinedOf
import Derived.KernelRfl
set_option linter.all false
set_option maxRecDepth 100000
namespace Go.Proofs.YtbmekbpgoakkbaaGreatDoor.Fct
open Go
theorem l0 : (List.range' 0 80).all (rowFine Tryz.prog) = true := by kernel_rfl
theorem l80 : (List.range' 80 80).all (rowFine Tryz.prog) = true := by kernel_rfl
theorem l160 : (List.range' 160 80).all (rowFine Tryz.prog) = true := by kernel_rfl
theorem l240 : (List.range' 240 80).all (rowFine Tryz.prog) = true := by kernel_rfl
theorem l320 : (List.range' 320 80).all (rowFine Tryz.prog) = true := by kernel_rfl
theorem l400 : (List.range' 400 80).all (rowFine Tryz.prog) = true := by kernel_rfl
theorem l480 : (List.range' 480 80).all (rowFine Tryz.prog) = true := by kernel_rfl
theorem l560 : (List.range' 560 80).all (rowFine Tryz.prog) = true := by kernel_rfl
theorem l640 : (List.range' 640 79).all (rowFine Tryz.prog) = true := by kernel_rfl
theorem lsz : Tryz.prog.types.size = 719 := by kernel_rfl
theorem at_of {f : Nat → Bool} {a m : Nat} (h : (List.range' a m).all f = true) {x : Nat} (h1 : a ≤ x) (h2 : x < a + m) : f x = true :=
  List.all_eq_true.1 h x (List.mem_range'_1.2 ⟨h1, h2⟩)
theorem lall : (List.range Tryz.prog.types.size).all (rowFine Tryz.prog) = true := by
  rw [lsz, List.all_eq_true]
  intro x hx
  rw [List.mem_range] at hx
  by_cases h0 : x < 80
  · exact at_of l0 (by omega) (by omega)
  by_cases h80 : x < 160
  · exact at_of l80 (by omega) (by omega)
  by_cases h160 : x < 240
  · exact at_of l160 (by omega) (by omega)
  by_cases h240 : x < 320
  · exact at_of l240 (by omega) (by omega)
  by_cases h320 : x < 400
  · exact at_of l320 (by omega) (by omega)
  by_cases h400 : x < 480
  · exact at_of l400 (by omega) (by omega)
  by_cases h480 : x < 560
  · exact at_of l480 (by omega) (by omega)
  by_cases h560 : x < 640
  · exact at_of l560 (by omega) (by omega)
  exact at_of l640 (by omega) (by omega)
theorem l2 : Tryz.prog.globals.all (fun g => decide (g.type < Tryz.prog.types.size)) = true := by kernel_rfl
theorem l3 : Tryz.prog.funcs.all (fun f => f.params.all fun t => decide (t < Tryz.prog.types.size)) = true := by rw [lsz]; kernel_rfl
theorem and3 {a b c : Bool} (h : a = true) (g : b = true) (k : c = true) : (a && b && c) = true := by rw [h, g, k]; rfl
theorem laid_mk {P : Program} (h : (List.range P.types.size).all (rowFine P) = true) (g : P.globals.all (fun g => decide (g.type < P.types.size)) = true) (k : P.funcs.all (fun f => f.params.all fun t => decide (t < P.types.size)) = true) : laidOutB P = true := by
  unfold laidOutB
  exact and3 h g k
theorem t1 : (laidOutB Tryz.prog) = true := laid_mk lall l2 l3
end Go.Proofs.YtbmekbpgoakkbaaGreatDoor.Fct
