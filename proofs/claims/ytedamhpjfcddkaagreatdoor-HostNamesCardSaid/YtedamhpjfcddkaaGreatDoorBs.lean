/- op.Names by its contract, for the evaluator. No condition. -/
import Derived.Test.YtedamhpjfcddkaaGreatDoorNames13
import Derived.Test.YtedamhpjfcddkaaGreatDoorLib0
set_option linter.all false
namespace Go.Proofs.YtedamhpjfcddkaaGreatDoor.Bs
open Go Go.Sort Go.Maps Go.Proofs Go.RowKit

noncomputable def lits : List Vx.AV := [.s 1 33, .s 2 15649, .s 3 4013345, .s 1 37, .s 1 38, .s 1 42, .s 1 43, .s 1 45, .s 1 47, .s 1 60, .s 2 15420, .s 2 15676, .s 2 15677, .s 3 4013373, .s 1 62, .s 2 15678, .s 2 15934, .s 3 4079166, .s 1 94, .s 6 111550592214372, .s 3 7628135, .s 2 28265, .s 10 483736275649270941707881, .s 4 1937335659, .s 6 114849160783212, .s 3 6776174, .s 3 7565168, .s 3 7628147, .s 6 112628629272948, .s 1 124, .s 1 126]
theorem lits_eq : lits = ((strKeys (Vx.mapD Names13.ks)).map encStr).map Vx.abs1 := by kernel_rfl
noncomputable def sp : Vx.Specs := fun g => match g with
  | 81 => some (Vx.rowC 9 lits 31)
  | g => Lib0.sp g
theorem sp_ok : Vx.SpecOK Tryz.prog sp := by
  intro g C hC
  unfold sp at hC
  split at hC
  · cases hC
    rw [lits_eq]
    exact Vx.CtOK.of fun args ARGS E h nxt w k he ra hr => Vx.rowC_ok (by decide +kernel) Names13.names args ARGS E h nxt w k he ra hr
  · exact Lib0.sp_ok _ _ hC
end Go.Proofs.YtedamhpjfcddkaaGreatDoor.Bs
