/-
  DERIVED. GIVEN WITH THE SEED: THE CARDS: each row of YtdplmegbnceijaaGreatDoorRows.lean that lists a variable, with what it lists TIED to the program's text (the seventh form; the later family's looks); each row that meets fmt, with fmt's text TOLD by the authors' own Lean function (tested against real Go, not proved from fmt's source: count such statements apart). THE CARD IS WHAT COUNTS. Prove the row's statement (the work); the ties are given (YtdplmegbnceijaaGreatDoorTie.lean); close each card by the builder's one call (the guide's Derived/Test/ToyasCard.lean, 'card_holds'). Laid BY PROGRAM, IN A SANDBOX (cutbox-door.mjs). By AI agents, Wed Nov 11 2026. No macro, syntax, notation, axiom, sorry.
-/
import Derived.Test.YtdplmegbnceijaaGreatDoorRows
import GoSem.ClaimSeven
namespace Go.Proofs.YtdplmegbnceijaaGreatDoor
namespace Rows

/-- THE TIED CARD OF 'bailifflaw17.CoercePlain'. -/
def coercePlainCard : Claim7 := { stood := { row := coercePlainRow, standIns := [], harness := (true, "1f64abc3da0a063b3e8c5e1a323d49ac264614bcc2fda3072bc09dbb9ce5e1b2"), looks := false }, kinds := [], alts := [], laidByText := true, laidKinds := [.data, .pinned], laidTests := true, laidLooks := .later }
def CoercePlainCardSaid : Prop := Claim7.holds Tryz.pinned (.plain (OpenSpec.ofChange coercePlainSpec)) coercePlainCard

/-- THE SECOND FORM's CARD OF 'bailifflaw17.CoercePlain'. -/
def coercePlainUptoCard : Claim7 := { stood := { row := coercePlainUptoRow, standIns := [], harness := (true, "1f64abc3da0a063b3e8c5e1a323d49ac264614bcc2fda3072bc09dbb9ce5e1b2"), looks := false }, kinds := [], alts := [], laidByText := true, laidKinds := [.data, .pinned], laidTests := true, laidLooks := .later }
def CoercePlainUptoCardSaid : Prop := Claim7.holds Tryz.pinned (.plain (OpenSpec.upto coercePlainSpec)) coercePlainUptoCard
end Rows
end Go.Proofs.YtdplmegbnceijaaGreatDoor
