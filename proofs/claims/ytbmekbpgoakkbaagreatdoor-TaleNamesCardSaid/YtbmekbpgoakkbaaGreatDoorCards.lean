/-
  DERIVED. GIVEN WITH THE SEED: THE CARDS: each row of YtbmekbpgoakkbaaGreatDoorRows.lean that lists a variable, with what it lists TIED to the program's text (the seventh form; the later family's looks); each row that meets fmt, with fmt's text TOLD by the authors' own Lean function (tested against real Go, not proved from fmt's source: count such statements apart). THE CARD IS WHAT COUNTS. Prove the row's statement (the work); the ties are given (YtbmekbpgoakkbaaGreatDoorTie.lean); close each card by the builder's one call (the guide's Derived/Test/ToyasCard.lean, 'card_holds'). Laid BY PROGRAM, IN A SANDBOX (cutbox-door.mjs). By AI agents, Wed Nov 11 2026. No macro, syntax, notation, axiom, sorry.
-/
import Derived.Test.YtbmekbpgoakkbaaGreatDoorRows
import GoSem.ClaimSeven
namespace Go.Proofs.YtbmekbpgoakkbaaGreatDoor
namespace Rows

/-- THE TIED CARD OF 'bailifflaw26.VmNames'. -/
def vmNamesCard : Claim7 := { stood := { row := vmNamesRow, standIns := [], harness := (true, "29c78592f9098d7f3768cb0ae8417696a306020743dbf74f1759c3f22bbdd71e"), looks := true }, kinds := [], alts := [], laidByText := true, laidKinds := [.pinned, .data, .data, .data, .data], laidTests := true, laidLooks := .later }
def VmNamesCardSaid : Prop := Claim7.holds Tryz.pinned (.plain (OpenSpec.ofChange vmNamesSpec)) vmNamesCard

/-- THE TIED CARD OF 'bailifflaw28.TaleNames'. -/
def taleNamesCard : Claim7 := { stood := { row := taleNamesRow, standIns := [], harness := (true, "29c78592f9098d7f3768cb0ae8417696a306020743dbf74f1759c3f22bbdd71e"), looks := true }, kinds := [], alts := [], laidByText := true, laidKinds := [.pinned, .data, .data, .data, .data], laidTests := true, laidLooks := .later }
def TaleNamesCardSaid : Prop := Claim7.holds Tryz.pinned (.plain (OpenSpec.ofChange taleNamesSpec)) taleNamesCard

/-- THE SECOND FORM's CARD OF 'bailifflaw26.VmNames'. -/
def vmNamesUptoCard : Claim7 := { stood := { row := vmNamesUptoRow, standIns := [], harness := (true, "29c78592f9098d7f3768cb0ae8417696a306020743dbf74f1759c3f22bbdd71e"), looks := true }, kinds := [], alts := [], laidByText := true, laidKinds := [.pinned, .data, .data, .data, .data], laidTests := true, laidLooks := .later }
def VmNamesUptoCardSaid : Prop := Claim7.holds Tryz.pinned (.plain (OpenSpec.upto vmNamesSpec)) vmNamesUptoCard

/-- THE SECOND FORM's CARD OF 'bailifflaw28.TaleNames'. -/
def taleNamesUptoCard : Claim7 := { stood := { row := taleNamesUptoRow, standIns := [], harness := (true, "29c78592f9098d7f3768cb0ae8417696a306020743dbf74f1759c3f22bbdd71e"), looks := true }, kinds := [], alts := [], laidByText := true, laidKinds := [.pinned, .data, .data, .data, .data], laidTests := true, laidLooks := .later }
def TaleNamesUptoCardSaid : Prop := Claim7.holds Tryz.pinned (.plain (OpenSpec.upto taleNamesSpec)) taleNamesUptoCard
end Rows
end Go.Proofs.YtbmekbpgoakkbaaGreatDoor
