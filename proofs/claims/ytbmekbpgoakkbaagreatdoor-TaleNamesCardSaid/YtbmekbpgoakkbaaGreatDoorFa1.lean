/- Closed facts of the row. No condition. -/
import Derived.Test.YtbmekbpgoakkbaaGreatDoorFc
import Derived.JoinedOf
import Derived.KernelRfl
set_option linter.all false
set_option maxRecDepth 100000
namespace Go.Proofs.YtbmekbpgoakkbaaGreatDoor.Fct
open Go
theorem t9 : (Rows.taleNamesRow.inPlace == Tryz.prog.inPlace 4) = true := by unfold Program.inPlace; rw [clo]; kernel_rfl
theorem t10 : (Rows.taleNamesRow.unfollowed == Tryz.prog.unfollowed 4) = true := by unfold Program.unfollowed; rw [clo]; kernel_rfl
theorem t11 : (Rows.taleNamesRow.recurses == Tryz.prog.recurses 4) = true := by unfold Program.recurses Program.unfollowed; rw [clo]; kernel_rfl
theorem t12 : (Rows.taleNamesRow.named == Tryz.prog.varsNamed 4) = true := by unfold Program.varsNamed; rw [clo]; kernel_rfl
theorem t13 : (Rows.taleNamesRow.maps == (Tryz.f4.params.toList ++ Rows.taleNamesSpec.plain.varTypes Tryz.prog).any (Tryz.prog.mapsRec ·)) = true := by kernel_rfl
theorem t14 : (Rows.taleNamesRow.ifaces == (Tryz.f4.params.toList ++ Rows.taleNamesSpec.plain.varTypes Tryz.prog).any (Tryz.prog.ifacesRec ·)) = true := by kernel_rfl
theorem t15 : (Rows.taleNamesRow.mapsOut == Tryz.prog.mapsAmong Tryz.f4.resultTypes.toList) = true := by kernel_rfl
theorem t16 : (Rows.taleNamesRow.loops == (Tryz.f4.params.toList ++ Rows.taleNamesSpec.plain.varTypes Tryz.prog).any (Tryz.prog.loopsFrom ·)) = true := by kernel_rfl
end Go.Proofs.YtbmekbpgoakkbaaGreatDoor.Fct
