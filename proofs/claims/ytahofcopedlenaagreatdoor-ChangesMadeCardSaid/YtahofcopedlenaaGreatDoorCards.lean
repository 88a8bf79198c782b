/-
  DERIVED. GIVEN WITH THE SEED: THE CARDS: each row of YtahofcopedlenaaGreatDoorRows.lean that lists a variable, with what it lists TIED to the program's text (the seventh form; the later family's looks); each row that meets fmt, with fmt's text TOLD by the authors' own Lean function (tested against real Go, not proved from fmt's source: count such statements apart). THE CARD IS WHAT COUNTS. Prove the row's statement (the work); the ties are given (YtahofcopedlenaaGreatDoorTie.lean); close each card by the builder's one call (the guide's Derived/Test/ToyasCard.lean, 'card_holds'). Laid BY PROGRAM, IN A SANDBOX (cutbox-door.mjs). By AI agents, Wed Nov 11 2026. No macro, syntax, notation, axiom, sorry.
-/
import Derived.Test.YtahofcopedlenaaGreatDoorRows
import GoSem.ClaimSeven
namespace Go.Proofs.YtahofcopedlenaaGreatDoor
namespace Rows

/-- THE TIED CARD OF 'gatelaw1.ChangesMade'. -/
def changesMadeCard : Claim7 := { stood := { row := changesMadeRow, standIns := [], harness := (true, "8d4fd0c9b936a138e86c48e5b290dcc9af81bb848fbd4b95ff58d21000e4b38e"), looks := false }, kinds := [], alts := [], laidByText := true, laidKinds := [.data, .data, .data, .data, .pinned], laidTests := true, laidLooks := .later }
def ChangesMadeCardSaid : Prop := Claim7.holds Tryz.pinned (.plain (OpenSpec.ofChange changesMadeSpec)) changesMadeCard

/-- THE SECOND FORM's CARD OF 'gatelaw1.ChangesMade'. -/
def changesMadeUptoCard : Claim7 := { stood := { row := changesMadeUptoRow, standIns := [], harness := (true, "8d4fd0c9b936a138e86c48e5b290dcc9af81bb848fbd4b95ff58d21000e4b38e"), looks := false }, kinds := [], alts := [], laidByText := true, laidKinds := [.data, .data, .data, .data, .pinned], laidTests := true, laidLooks := .later }
def ChangesMadeUptoCardSaid : Prop := Claim7.holds Tryz.pinned (.plain (OpenSpec.upto changesMadeSpec)) changesMadeUptoCard
end Rows
end Go.Proofs.YtahofcopedlenaaGreatDoor
