/-
  DERIVED. GIVEN WITH THE SEED: THE CARDS: each row of YtaecedlhiclkdaaGreatDoorRows.lean that lists a variable, with what it lists TIED to the program's text (the seventh form; the later family's looks); each row that meets fmt, with fmt's text TOLD by the authors' own Lean function (tested against real Go, not proved from fmt's source: count such statements apart). THE CARD IS WHAT COUNTS. Prove the row's statement (the work); the ties are given (YtaecedlhiclkdaaGreatDoorTie.lean); close each card by the builder's one call (the guide's Derived/Test/ToyasCard.lean, 'card_holds'). Laid BY PROGRAM, IN A SANDBOX (cutbox-door.mjs). By AI agents, Wed Nov 11 2026. No macro, syntax, notation, axiom, sorry.
-/
import Derived.Test.YtaecedlhiclkdaaGreatDoorRows
import GoSem.ClaimSeven
namespace Go.Proofs.YtaecedlhiclkdaaGreatDoor
namespace Rows

/-- THE TIED CARD OF 'bailifflaw23.LibPlain'. -/
def libPlainCard : Claim7 := { stood := { row := libPlainRow, standIns := [], harness := (true, "9f1bd0960a69d79a51bed300c5e46f968c6176e68a3511b10f1bca38831e0ee7"), looks := false }, kinds := [], alts := [], laidByText := true, laidKinds := [.data, .data, .data], laidTests := true, laidLooks := .later }
def LibPlainCardSaid : Prop := Claim7.holds Tryz.pinned (.plain (OpenSpec.ofChange libPlainSpec)) libPlainCard

/-- THE TIED CARD OF 'bailifflaw22.ReflectAnswers'. -/
def reflectAnswersCard : Claim7 := { stood := { row := reflectAnswersRow, standIns := [], harness := (true, "9f1bd0960a69d79a51bed300c5e46f968c6176e68a3511b10f1bca38831e0ee7"), looks := false }, kinds := [], alts := [], laidByText := true, laidKinds := [.data, .data, .data], laidTests := true, laidLooks := .later }
def ReflectAnswersCardSaid : Prop := Claim7.holds Tryz.pinned (.plain (OpenSpec.ofChange reflectAnswersSpec)) reflectAnswersCard

/-- THE SECOND FORM's CARD OF 'bailifflaw23.LibPlain'. -/
def libPlainUptoCard : Claim7 := { stood := { row := libPlainUptoRow, standIns := [], harness := (true, "9f1bd0960a69d79a51bed300c5e46f968c6176e68a3511b10f1bca38831e0ee7"), looks := false }, kinds := [], alts := [], laidByText := true, laidKinds := [.data, .data, .data], laidTests := true, laidLooks := .later }
def LibPlainUptoCardSaid : Prop := Claim7.holds Tryz.pinned (.plain (OpenSpec.upto libPlainSpec)) libPlainUptoCard

/-- THE SECOND FORM's CARD OF 'bailifflaw22.ReflectAnswers'. -/
def reflectAnswersUptoCard : Claim7 := { stood := { row := reflectAnswersUptoRow, standIns := [], harness := (true, "9f1bd0960a69d79a51bed300c5e46f968c6176e68a3511b10f1bca38831e0ee7"), looks := false }, kinds := [], alts := [], laidByText := true, laidKinds := [.data, .data, .data], laidTests := true, laidLooks := .later }
def ReflectAnswersUptoCardSaid : Prop := Claim7.holds Tryz.pinned (.plain (OpenSpec.upto reflectAnswersSpec)) reflectAnswersUptoCard
end Rows
end Go.Proofs.YtaecedlhiclkdaaGreatDoor
