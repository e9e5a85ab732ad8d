/- Closed facts of the row. No condition. -/
import Derived.Test.YtbmekbpgoakkbaaGreatDoorFc
import Derived.JoinedOf
import Derived.KernelRfl
set_option linter.all false
set_option maxRecDepth 100000
namespace Go.Proofs.YtbmekbpgoakkbaaGreatDoor.Fct
open Go
theorem t9 : (Rows.vmNamesRow.inPlace == Tryz.prog.inPlace 3) = true := by unfold Program.inPlace; rw [clo]; kernel_rfl
theorem t10 : (Rows.vmNamesRow.unfollowed == Tryz.prog.unfollowed 3) = true := by unfold Program.unfollowed; rw [clo]; kernel_rfl
theorem t11 : (Rows.vmNamesRow.recurses == Tryz.prog.recurses 3) = true := by unfold Program.recurses Program.unfollowed; rw [clo]; kernel_rfl
theorem t12 : (Rows.vmNamesRow.named == Tryz.prog.varsNamed 3) = true := by unfold Program.varsNamed; rw [clo]; kernel_rfl
theorem t13 : (Rows.vmNamesRow.maps == (Tryz.f3.params.toList ++ Rows.vmNamesSpec.plain.varTypes Tryz.prog).any (Tryz.prog.mapsRec ·)) = true := by kernel_rfl
theorem t14 : (Rows.vmNamesRow.ifaces == (Tryz.f3.params.toList ++ Rows.vmNamesSpec.plain.varTypes Tryz.prog).any (Tryz.prog.ifacesRec ·)) = true := by kernel_rfl
theorem t15 : (Rows.vmNamesRow.mapsOut == Tryz.prog.mapsAmong Tryz.f3.resultTypes.toList) = true := by kernel_rfl
theorem t16 : (Rows.vmNamesRow.loops == (Tryz.f3.params.toList ++ Rows.vmNamesSpec.plain.varTypes Tryz.prog).any (Tryz.prog.loopsFrom ·)) = true := by kernel_rfl
end Go.Proofs.YtbmekbpgoakkbaaGreatDoor.Fct
