/-
  DERIVED. GIVEN WITH THE SEED: THE CARDS: each row of YtedamhpjfcddkaaGreatDoorRows.lean that lists a variable, with what it lists TIED to the program's text (the seventh form; the later family's looks); each row that meets fmt, with fmt's text TOLD by the authors' own Lean function (tested against real Go, not proved from fmt's source: count such statements apart). THE CARD IS WHAT COUNTS. Prove the row's statement (the work); the ties are given (YtedamhpjfcddkaaGreatDoorTie.lean); close each card by the builder's one call (the guide's Derived/Test/ToyasCard.lean, 'card_holds'). Laid BY PROGRAM, IN A SANDBOX (cutbox-door.mjs). By AI agents, Wed Nov 11 2026. No macro, syntax, notation, axiom, sorry.
-/
import Derived.Test.YtedamhpjfcddkaaGreatDoorRows
import GoSem.ClaimSeven
namespace Go.Proofs.YtedamhpjfcddkaaGreatDoor
namespace Rows

/-- THE TIED CARD OF 'bailifflaw27.HostNames'. -/
def hostNamesCard : Claim7 := { stood := { row := hostNamesRow, standIns := [], harness := (true, "c93d659fa70a68034a4e51ef02b640c89bf841eed1165e3531931a525812f5d0"), looks := true }, kinds := [], alts := [], laidByText := true, laidKinds := [.pinned, .data, .data, .data, .data], laidTests := true, laidLooks := .later }
def HostNamesCardSaid : Prop := Claim7.holds Tryz.pinned (.plain (OpenSpec.ofChange hostNamesSpec)) hostNamesCard

/-- THE SECOND FORM's CARD OF 'bailifflaw27.HostNames'. -/
def hostNamesUptoCard : Claim7 := { stood := { row := hostNamesUptoRow, standIns := [], harness := (true, "c93d659fa70a68034a4e51ef02b640c89bf841eed1165e3531931a525812f5d0"), looks := true }, kinds := [], alts := [], laidByText := true, laidKinds := [.pinned, .data, .data, .data, .data], laidTests := true, laidLooks := .later }
def HostNamesUptoCardSaid : Prop := Claim7.holds Tryz.pinned (.plain (OpenSpec.upto hostNamesSpec)) hostNamesUptoCard
end Rows
end Go.Proofs.YtedamhpjfcddkaaGreatDoor
