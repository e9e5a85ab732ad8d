/- Closed facts of the row. No condition. -/
import Derived.Test.YtbmekbpgoakkbaaGreatDoorFc
import Derived.JoinedOf
import Derived.KernelRfl
set_option linter.all false
set_option maxRecDepth 100000
namespace Go.Proofs.YtbmekbpgoakkbaaGreatDoor.Fct
open Go
theorem t0 : (Rows.taleNamesRow.wf (OpenSpec.ofChange Rows.taleNamesSpec)) = true := by kernel_rfl
theorem t2 : (mapsRowed Tryz.prog) = true := by kernel_rfl
theorem t3 : (Tryz.f4.params.all (Tryz.prog.readableRec ·)) = true := by kernel_rfl
theorem t4 : (namedTie Tryz.prog Rows.taleNamesRow.named Rows.taleNamesSpec.vars) = true := by kernel_rfl
theorem t5 : (Rows.taleNamesRow.stops == []) = true := by kernel_rfl
theorem t6 : (Tryz.prog.stops == []) = true := by kernel_rfl
theorem t7 : (Rows.taleNamesRow.knobs == []) = true := by kernel_rfl
theorem t8 : (Tryz.prog.stopKnobs == []) = true := by kernel_rfl
end Go.Proofs.YtbmekbpgoakkbaaGreatDoor.Fct
