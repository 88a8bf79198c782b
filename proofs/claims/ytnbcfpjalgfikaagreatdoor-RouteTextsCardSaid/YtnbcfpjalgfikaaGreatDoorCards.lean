/-
  DERIVED. GIVEN WITH THE SEED: THE CARDS: each row of YtnbcfpjalgfikaaGreatDoorRows.lean that lists a variable, with what it lists TIED to the program's text (the seventh form; the later family's looks); each row that meets fmt, with fmt's text TOLD by the authors' own Lean function (tested against real Go, not proved from fmt's source: count such statements apart). THE CARD IS WHAT COUNTS. Prove the row's statement (the work); the ties are given (YtnbcfpjalgfikaaGreatDoorTie.lean); close each card by the builder's one call (the guide's Derived/Test/ToyasCard.lean, 'card_holds'). Laid BY PROGRAM, IN A SANDBOX (cutbox-door.mjs). By AI agents, Wed Nov 11 2026. No macro, syntax, notation, axiom, sorry.
-/
import Derived.Test.YtnbcfpjalgfikaaGreatDoorRows
import GoSem.ClaimSeven
namespace Go.Proofs.YtnbcfpjalgfikaaGreatDoor
namespace Rows

/-- THE TIED CARD OF 'gatelaw1.RouteTexts'. -/
def routeTextsCard : Claim7 := { stood := { row := routeTextsRow, standIns := [], harness := (true, "f76805afcdbdd51c42cbc2a6e5eed8ceedcf8248aabe9dd772b7f5ce73e35dca"), looks := true }, kinds := [], alts := [], laidByText := true, laidKinds := [.data, .data, .data, .data, .sentinel, .sentinel, .pinned, .pinned], laidTests := true, laidLooks := .later }
def RouteTextsCardSaid : Prop := Claim7.holds Tryz.pinned (.plain (OpenSpec.ofChange routeTextsSpec)) routeTextsCard

/-- THE SECOND FORM's CARD OF 'gatelaw1.RouteTexts'. -/
def routeTextsUptoCard : Claim7 := { stood := { row := routeTextsUptoRow, standIns := [], harness := (true, "f76805afcdbdd51c42cbc2a6e5eed8ceedcf8248aabe9dd772b7f5ce73e35dca"), looks := true }, kinds := [], alts := [], laidByText := true, laidKinds := [.data, .data, .data, .data, .sentinel, .sentinel, .pinned, .pinned], laidTests := true, laidLooks := .later }
def RouteTextsUptoCardSaid : Prop := Claim7.holds Tryz.pinned (.plain (OpenSpec.upto routeTextsSpec)) routeTextsUptoCard
end Rows
end Go.Proofs.YtnbcfpjalgfikaaGreatDoor
