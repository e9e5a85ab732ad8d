/- Closed facts of the row. No condition. -/
import Derived.Test.YtbmekbpgoakkbaaGreatDoorFc
import Derived.JoinedOf
import Derived.KernelRfl
set_option linter.all false
set_option maxRecDepth 100000
namespace Go.Proofs.YtbmekbpgoakkbaaGreatDoor.Fct
open Go
theorem t25 : (Tryz.prog.mayEnter) = true := by kernel_rfl
theorem t26 : (Rows.vmNamesRow.lifted == Tryz.prog.liftsFinal) = true := by kernel_rfl
theorem t27 : (Tryz.prog.make == some Rows.vmNamesRow.make) = true := by kernel_rfl
theorem t28 : (Rows.vmNamesRow.kinds == (if Rows.vmNamesRow.domain.isEmpty then [] else Tryz.f3.params.toList.map fun t => match Tryz.prog.underlying t with | some (.int k) => some k | _ => none)) = true := by kernel_rfl
theorem t29 : (Rows.vmNamesRow.pinned == Rows.vmNamesRow.pinnedBy) = true := by kernel_rfl
theorem t30 : (Rows.vmNamesRow.veiled == (Tryz.f3.params.toList ++ Rows.vmNamesSpec.plain.varTypes Tryz.prog ++ Tryz.f3.resultTypes.toList).any (Tryz.prog.veiledRec ·)) = true := by kernel_rfl
theorem t31 : (Rows.vmNamesRow.veiledFits Tryz.prog Tryz.f3.params.toList (Tryz.f3.params.toList ++ Rows.vmNamesSpec.plain.varTypes Tryz.prog ++ Tryz.f3.resultTypes.toList)) = true := by kernel_rfl
end Go.Proofs.YtbmekbpgoakkbaaGreatDoor.Fct
