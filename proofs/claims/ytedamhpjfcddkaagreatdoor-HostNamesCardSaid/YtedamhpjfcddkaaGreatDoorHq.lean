/- Closed facts of the card. No condition. -/
import Derived.Test.YtedamhpjfcddkaaGreatDoorCards
import Derived.Test.YtedamhpjfcddkaaGreatDoorFc
import Derived.KernelRfl
set_option linter.all false
set_option maxRecDepth 100000
namespace Go.Proofs.YtedamhpjfcddkaaGreatDoor.Hq
open Go
theorem pw : Rows.hostNamesRow.wfByText (OpenSpec.ofChange Rows.hostNamesSpec) = true := by kernel_rfl
theorem pm : Tryz.pinned.checked.prog.mainIs = some (true, "c93d659fa70a68034a4e51ef02b640c89bf841eed1165e3531931a525812f5d0".toList) := by kernel_rfl
theorem g1 : Tryz.prog.goes 3 = false := by
  unfold Program.goes Program.unfollowed
  rw [Fct.clo]
  kernel_rfl
theorem g2 : Tryz.pinned.checked.prog.funcNamed Rows.hostNamesRow.func = some 3 := by kernel_rfl
theorem gb_mk {P : Program} {c : OpenClaim} {k : FuncId} (hs : c.start = .entering) (hn : P.funcNamed c.func = some k) (hg : P.goes k = false) : false = c.goesBy P := by
  unfold OpenClaim.goesBy Program.goesAt Program.goesFrom
  rw [hs, hn]
  show false = (P.goes k || false)
  rw [hg]; rfl
theorem gby : false = Rows.hostNamesRow.goesBy Tryz.pinned.checked.prog := gb_mk rfl g2 g1
end Go.Proofs.YtedamhpjfcddkaaGreatDoor.Hq
