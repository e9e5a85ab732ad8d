/- Closed facts of the card. No condition. -/
import Derived.Test.YtbmekbpgoakkbaaGreatDoorCards
import Derived.Test.YtbmekbpgoakkbaaGreatDoorFc
import Derived.KernelRfl
set_option linter.all false
set_option maxRecDepth 100000
namespace Go.Proofs.YtbmekbpgoakkbaaGreatDoor.Hq
open Go
theorem pw : Rows.vmNamesRow.wfByText (OpenSpec.ofChange Rows.vmNamesSpec) = true := by kernel_rfl
theorem pm : Tryz.pinned.checked.prog.mainIs = some (true, "29c78592f9098d7f3768cb0ae8417696a306020743dbf74f1759c3f22bbdd71e".toList) := by kernel_rfl
theorem g0 : Tryz.prog.funcs.toList.any Func.goes = false := by kernel_rfl
theorem goes_of {P : Program} (h : P.funcs.toList.any Func.goes = false) (f : FuncId) : P.goes f = false := by
  have h2 : P.funcs.any Func.goes = false := by rw [← Array.any_toList]; exact h
  unfold Program.goes
  rw [h2, Bool.and_false, Bool.or_false, List.any_eq_false]
  intro g _
  cases e : P.funcs[g]? with
  | none => simp
  | some fn =>
    have hm : fn ∈ P.funcs.toList := Array.mem_toList_iff.2 (Array.mem_of_getElem? e)
    have := List.any_eq_false.1 h fn hm
    simpa using this
theorem g1 : Tryz.prog.goes 3 = false := goes_of g0 3
theorem g2 : Tryz.pinned.checked.prog.funcNamed Rows.vmNamesRow.func = some 3 := by kernel_rfl
theorem gb_mk {P : Program} {c : OpenClaim} {k : FuncId} (hs : c.start = .entering) (hn : P.funcNamed c.func = some k) (hg : P.goes k = false) : false = c.goesBy P := by
  unfold OpenClaim.goesBy Program.goesAt Program.goesFrom
  rw [hs, hn]
  show false = (P.goes k || false)
  rw [hg]; rfl
theorem gby : false = Rows.vmNamesRow.goesBy Tryz.pinned.checked.prog := gb_mk rfl g2 g1
end Go.Proofs.YtbmekbpgoakkbaaGreatDoor.Hq
