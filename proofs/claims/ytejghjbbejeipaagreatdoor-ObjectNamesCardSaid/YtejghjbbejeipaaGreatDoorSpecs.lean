/- object.Names by its contract, for the evaluator. No condition. -/
import Derived.Test.YtejghjbbejeipaaGreatDoorNames8
import Derived.Test.YtejghjbbejeipaaGreatDoorVxZ
namespace Go.Proofs.YtejghjbbejeipaaGreatDoor.Specs
open Go Go.Sort Go.Maps Go.Proofs Go.RowKit

noncomputable def lits : List Vx.AV := [.s 6 121390429860705, .s 6 111550524650083, .s 14 2463397432817095070742675148137828, .s 6 111576361562726, .s 24 2805947119396938920427194473873559009489280880887284917607, .s 19 2573421258830701972015807444801943604642997607, .s 21 168691743253275916479622775680962576023838596031847, .s 14 2075096198370335216509268027270503, .s 2 29545, .s 12 31389014717615377969513329513, .s 8 7954898935897027433, .s 8 7234307542008165225, .s 4 1937335659, .s 17 39279265759193974485341313937393999770224, .s 4 1818322291, .s 14 2075096198370335216509268027270515]
theorem lits_eq : lits = ((strKeys (Vx.mapD Names8.ks)).map encStr).map Vx.abs1 := by kernel_rfl
noncomputable def sp : Vx.Specs := fun g => match g with
  | 8 => some (Vx.rowC 9 lits 16)
  | _ => none
theorem sp_ok : Vx.SpecOK Tryz.prog sp := by
  intro g C hC
  unfold sp at hC
  split at hC <;> cases hC
  rw [lits_eq]
  exact Vx.rowC_ok (by decide +kernel) Names8.names
end Go.Proofs.YtejghjbbejeipaaGreatDoor.Specs
