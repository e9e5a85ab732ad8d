/- Closed facts of the row. No condition. -/
import Derived.Test.YtedamhpjfcddkaaGreatDoorFc
import Derived.JoinedOf
import Derived.KernelRfl
set_option linter.all false
set_option maxRecDepth 100000
namespace Go.Proofs.YtedamhpjfcddkaaGreatDoor.Fct
open Go
theorem t0 : (Rows.hostNamesRow.wf (OpenSpec.ofChange Rows.hostNamesSpec)) = true := by kernel_rfl
theorem t2 : (mapsRowed Tryz.prog) = true := by kernel_rfl
theorem t3 : (Tryz.f3.params.all (Tryz.prog.readableRec ·)) = true := by kernel_rfl
theorem t4 : (namedTie Tryz.prog Rows.hostNamesRow.named Rows.hostNamesSpec.vars) = true := by kernel_rfl
theorem t5 : (Rows.hostNamesRow.stops == []) = true := by kernel_rfl
theorem t6 : (Tryz.prog.stops == []) = true := by kernel_rfl
theorem t7 : (Rows.hostNamesRow.knobs == []) = true := by kernel_rfl
theorem t8 : (Tryz.prog.stopKnobs == []) = true := by kernel_rfl
end Go.Proofs.YtedamhpjfcddkaaGreatDoor.Fct
