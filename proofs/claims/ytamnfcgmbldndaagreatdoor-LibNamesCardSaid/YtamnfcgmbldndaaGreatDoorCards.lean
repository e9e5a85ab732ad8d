/-
  DERIVED. GIVEN WITH THE SEED: THE CARDS: each row of YtamnfcgmbldndaaGreatDoorRows.lean that lists a variable, with what it lists TIED to the program's text (the seventh form; the later family's looks); each row that meets fmt, with fmt's text TOLD by the authors' own Lean function (tested against real Go, not proved from fmt's source: count such statements apart). THE CARD IS WHAT COUNTS. Prove the row's statement (the work); the ties are given (YtamnfcgmbldndaaGreatDoorTie.lean); close each card by the builder's one call (the guide's Derived/Test/ToyasCard.lean, 'card_holds'). Laid BY PROGRAM, IN A SANDBOX (cutbox-door.mjs). By AI agents, Wed Nov 11 2026. No macro, syntax, notation, axiom, sorry.
-/
import Derived.Test.YtamnfcgmbldndaaGreatDoorRows
import GoSem.ClaimSeven
namespace Go.Proofs.YtamnfcgmbldndaaGreatDoor
namespace Rows

/-- THE TIED CARD OF 'bailifflaw22.ReflectNames'. -/
def reflectNamesCard : Claim7 := { stood := { row := reflectNamesRow, standIns := [], harness := (true, "7b63b918246df5bca32278f444168d7a0f6d6c5f47c0a7a7e43fca4ccd7f7573"), looks := false }, kinds := [], alts := [], laidByText := true, laidKinds := [.data, .data, .data], laidTests := true, laidLooks := .later }
def ReflectNamesCardSaid : Prop := Claim7.holds Tryz.pinned (.plain (OpenSpec.ofChange reflectNamesSpec)) reflectNamesCard

/-- THE TIED CARD OF 'bailifflaw23.LibNames'. -/
def libNamesCard : Claim7 := { stood := { row := libNamesRow, standIns := [], harness := (true, "7b63b918246df5bca32278f444168d7a0f6d6c5f47c0a7a7e43fca4ccd7f7573"), looks := false }, kinds := [], alts := [], laidByText := true, laidKinds := [.data, .data, .data], laidTests := true, laidLooks := .later }
def LibNamesCardSaid : Prop := Claim7.holds Tryz.pinned (.plain (OpenSpec.ofChange libNamesSpec)) libNamesCard

/-- THE TIED CARD OF 'bailifflaw21.ObjectNames'. -/
def objectNamesCard : Claim7 := { stood := { row := objectNamesRow, standIns := [], harness := (true, "7b63b918246df5bca32278f444168d7a0f6d6c5f47c0a7a7e43fca4ccd7f7573"), looks := false }, kinds := [], alts := [], laidByText := true, laidKinds := [.data, .data, .data], laidTests := true, laidLooks := .later }
def ObjectNamesCardSaid : Prop := Claim7.holds Tryz.pinned (.plain (OpenSpec.ofChange objectNamesSpec)) objectNamesCard

/-- THE TIED CARD OF 'bailifflaw17.CoercePlain'. -/
def coercePlainCard : Claim7 := { stood := { row := coercePlainRow, standIns := [], harness := (true, "7b63b918246df5bca32278f444168d7a0f6d6c5f47c0a7a7e43fca4ccd7f7573"), looks := false }, kinds := [], alts := [], laidByText := true, laidKinds := [.data, .pinned], laidTests := true, laidLooks := .later }
def CoercePlainCardSaid : Prop := Claim7.holds Tryz.pinned (.plain (OpenSpec.ofChange coercePlainSpec)) coercePlainCard

/-- THE TIED CARD OF 'bailifflaw23.LibStrings'. -/
def libStringsCard : Claim7 := { stood := { row := libStringsRow, standIns := [], harness := (true, "7b63b918246df5bca32278f444168d7a0f6d6c5f47c0a7a7e43fca4ccd7f7573"), looks := false }, kinds := [], alts := [], laidByText := true, laidKinds := [.data, .data, .data], laidTests := true, laidLooks := .later }
def LibStringsCardSaid : Prop := Claim7.holds Tryz.pinned (.plain (OpenSpec.ofChange libStringsSpec)) libStringsCard

/-- THE SECOND FORM's CARD OF 'bailifflaw22.ReflectNames'. -/
def reflectNamesUptoCard : Claim7 := { stood := { row := reflectNamesUptoRow, standIns := [], harness := (true, "7b63b918246df5bca32278f444168d7a0f6d6c5f47c0a7a7e43fca4ccd7f7573"), looks := false }, kinds := [], alts := [], laidByText := true, laidKinds := [.data, .data, .data], laidTests := true, laidLooks := .later }
def ReflectNamesUptoCardSaid : Prop := Claim7.holds Tryz.pinned (.plain (OpenSpec.upto reflectNamesSpec)) reflectNamesUptoCard

/-- THE SECOND FORM's CARD OF 'bailifflaw23.LibNames'. -/
def libNamesUptoCard : Claim7 := { stood := { row := libNamesUptoRow, standIns := [], harness := (true, "7b63b918246df5bca32278f444168d7a0f6d6c5f47c0a7a7e43fca4ccd7f7573"), looks := false }, kinds := [], alts := [], laidByText := true, laidKinds := [.data, .data, .data], laidTests := true, laidLooks := .later }
def LibNamesUptoCardSaid : Prop := Claim7.holds Tryz.pinned (.plain (OpenSpec.upto libNamesSpec)) libNamesUptoCard

/-- THE SECOND FORM's CARD OF 'bailifflaw21.ObjectNames'. -/
def objectNamesUptoCard : Claim7 := { stood := { row := objectNamesUptoRow, standIns := [], harness := (true, "7b63b918246df5bca32278f444168d7a0f6d6c5f47c0a7a7e43fca4ccd7f7573"), looks := false }, kinds := [], alts := [], laidByText := true, laidKinds := [.data, .data, .data], laidTests := true, laidLooks := .later }
def ObjectNamesUptoCardSaid : Prop := Claim7.holds Tryz.pinned (.plain (OpenSpec.upto objectNamesSpec)) objectNamesUptoCard

/-- THE SECOND FORM's CARD OF 'bailifflaw17.CoercePlain'. -/
def coercePlainUptoCard : Claim7 := { stood := { row := coercePlainUptoRow, standIns := [], harness := (true, "7b63b918246df5bca32278f444168d7a0f6d6c5f47c0a7a7e43fca4ccd7f7573"), looks := false }, kinds := [], alts := [], laidByText := true, laidKinds := [.data, .pinned], laidTests := true, laidLooks := .later }
def CoercePlainUptoCardSaid : Prop := Claim7.holds Tryz.pinned (.plain (OpenSpec.upto coercePlainSpec)) coercePlainUptoCard

/-- THE SECOND FORM's CARD OF 'bailifflaw23.LibStrings'. -/
def libStringsUptoCard : Claim7 := { stood := { row := libStringsUptoRow, standIns := [], harness := (true, "7b63b918246df5bca32278f444168d7a0f6d6c5f47c0a7a7e43fca4ccd7f7573"), looks := false }, kinds := [], alts := [], laidByText := true, laidKinds := [.data, .data, .data], laidTests := true, laidLooks := .later }
def LibStringsUptoCardSaid : Prop := Claim7.holds Tryz.pinned (.plain (OpenSpec.upto libStringsSpec)) libStringsUptoCard
end Rows
end Go.Proofs.YtamnfcgmbldndaaGreatDoor
