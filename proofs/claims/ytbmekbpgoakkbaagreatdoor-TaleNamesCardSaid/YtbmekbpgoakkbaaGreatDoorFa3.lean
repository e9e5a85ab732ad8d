/- Closed facts of the row. No condition. -/
import Derived.Test.YtbmekbpgoakkbaaGreatDoorFc
import Derived.JoinedOf
import Derived.KernelRfl
set_option linter.all false
set_option maxRecDepth 100000
namespace Go.Proofs.YtbmekbpgoakkbaaGreatDoor.Fct
open Go
theorem t25 : (Tryz.prog.mayEnter) = true := by kernel_rfl
theorem t26 : (Rows.taleNamesRow.lifted == Tryz.prog.liftsFinal) = true := by kernel_rfl
theorem t27 : (Tryz.prog.make == some Rows.taleNamesRow.make) = true := by kernel_rfl
theorem t28 : (Rows.taleNamesRow.kinds == (if Rows.taleNamesRow.domain.isEmpty then [] else Tryz.f4.params.toList.map fun t => match Tryz.prog.underlying t with | some (.int k) => some k | _ => none)) = true := by kernel_rfl
theorem t29 : (Rows.taleNamesRow.pinned == Rows.taleNamesRow.pinnedBy) = true := by kernel_rfl
theorem t30 : (Rows.taleNamesRow.veiled == (Tryz.f4.params.toList ++ Rows.taleNamesSpec.plain.varTypes Tryz.prog ++ Tryz.f4.resultTypes.toList).any (Tryz.prog.veiledRec ·)) = true := by kernel_rfl
theorem t31 : (Rows.taleNamesRow.veiledFits Tryz.prog Tryz.f4.params.toList (Tryz.f4.params.toList ++ Rows.taleNamesSpec.plain.varTypes Tryz.prog ++ Tryz.f4.resultTypes.toList)) = true := by kernel_rfl
end Go.Proofs.YtbmekbpgoakkbaaGreatDoor.Fct
