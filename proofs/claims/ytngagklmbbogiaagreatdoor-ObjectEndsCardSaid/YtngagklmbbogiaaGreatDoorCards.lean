/-
  DERIVED. GIVEN WITH THE SEED: THE CARDS: each row of YtngagklmbbogiaaGreatDoorRows.lean that lists a variable, with what it lists TIED to the program's text (the seventh form; the later family's looks); each row that meets fmt, with fmt's text TOLD by the authors' own Lean function (tested against real Go, not proved from fmt's source: count such statements apart). THE CARD IS WHAT COUNTS. Prove the row's statement (the work); the ties are given (YtngagklmbbogiaaGreatDoorTie.lean); close each card by the builder's one call (the guide's Derived/Test/ToyasCard.lean, 'card_holds'). Laid BY PROGRAM, IN A SANDBOX (cutbox-door.mjs). By AI agents, Wed Nov 11 2026. No macro, syntax, notation, axiom, sorry.
-/
import Derived.Test.YtngagklmbbogiaaGreatDoorRows
import GoSem.ClaimSeven
namespace Go.Proofs.YtngagklmbbogiaaGreatDoor
namespace Rows

/-- THE TIED CARD OF 'bailifflaw22.ReflectLeads'. -/
def reflectLeadsCard : Claim7 := { stood := { row := reflectLeadsRow, standIns := [], harness := (true, "fe9dc74371b771a255148b00c147c50c7862906f4bc87fa1dcb443d68ae4573c"), looks := false }, kinds := [], alts := [], laidByText := true, laidKinds := [.data, .data, .data], laidTests := true, laidLooks := .later }
def ReflectLeadsCardSaid : Prop := Claim7.holds Tryz.pinned (.plain (OpenSpec.ofChange reflectLeadsSpec)) reflectLeadsCard

/-- THE TIED CARD OF 'bailifflaw21.ObjectEnds'. -/
def objectEndsCard : Claim7 := { stood := { row := objectEndsRow, standIns := [], harness := (true, "fe9dc74371b771a255148b00c147c50c7862906f4bc87fa1dcb443d68ae4573c"), looks := false }, kinds := [], alts := [], laidByText := true, laidKinds := [.data, .data, .data], laidTests := true, laidLooks := .later }
def ObjectEndsCardSaid : Prop := Claim7.holds Tryz.pinned (.plain (OpenSpec.ofChange objectEndsSpec)) objectEndsCard

/-- THE TIED CARD OF 'bailifflaw23.LibLeads'. -/
def libLeadsCard : Claim7 := { stood := { row := libLeadsRow, standIns := [], harness := (true, "fe9dc74371b771a255148b00c147c50c7862906f4bc87fa1dcb443d68ae4573c"), looks := false }, kinds := [], alts := [], laidByText := true, laidKinds := [.data, .data, .data], laidTests := true, laidLooks := .later }
def LibLeadsCardSaid : Prop := Claim7.holds Tryz.pinned (.plain (OpenSpec.ofChange libLeadsSpec)) libLeadsCard

/-- THE SECOND FORM's CARD OF 'bailifflaw22.ReflectLeads'. -/
def reflectLeadsUptoCard : Claim7 := { stood := { row := reflectLeadsUptoRow, standIns := [], harness := (true, "fe9dc74371b771a255148b00c147c50c7862906f4bc87fa1dcb443d68ae4573c"), looks := false }, kinds := [], alts := [], laidByText := true, laidKinds := [.data, .data, .data], laidTests := true, laidLooks := .later }
def ReflectLeadsUptoCardSaid : Prop := Claim7.holds Tryz.pinned (.plain (OpenSpec.upto reflectLeadsSpec)) reflectLeadsUptoCard

/-- THE SECOND FORM's CARD OF 'bailifflaw21.ObjectEnds'. -/
def objectEndsUptoCard : Claim7 := { stood := { row := objectEndsUptoRow, standIns := [], harness := (true, "fe9dc74371b771a255148b00c147c50c7862906f4bc87fa1dcb443d68ae4573c"), looks := false }, kinds := [], alts := [], laidByText := true, laidKinds := [.data, .data, .data], laidTests := true, laidLooks := .later }
def ObjectEndsUptoCardSaid : Prop := Claim7.holds Tryz.pinned (.plain (OpenSpec.upto objectEndsSpec)) objectEndsUptoCard

/-- THE SECOND FORM's CARD OF 'bailifflaw23.LibLeads'. -/
def libLeadsUptoCard : Claim7 := { stood := { row := libLeadsUptoRow, standIns := [], harness := (true, "fe9dc74371b771a255148b00c147c50c7862906f4bc87fa1dcb443d68ae4573c"), looks := false }, kinds := [], alts := [], laidByText := true, laidKinds := [.data, .data, .data], laidTests := true, laidLooks := .later }
def LibLeadsUptoCardSaid : Prop := Claim7.holds Tryz.pinned (.plain (OpenSpec.upto libLeadsSpec)) libLeadsUptoCard
end Rows
end Go.Proofs.YtngagklmbbogiaaGreatDoor
