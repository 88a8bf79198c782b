/-
  DERIVED. GIVEN WITH THE SEED: THE CARDS: each row of YtjfgfkbgbhbhjaaGreatDoorRows.lean that lists a variable, with what it lists TIED to the program's text (the seventh form; the later family's looks); each row that meets fmt, with fmt's text TOLD by the authors' own Lean function (tested against real Go, not proved from fmt's source: count such statements apart). THE CARD IS WHAT COUNTS. Prove the row's statement (the work); the ties are given (YtjfgfkbgbhbhjaaGreatDoorTie.lean); close each card by the builder's one call (the guide's Derived/Test/ToyasCard.lean, 'card_holds'). Laid BY PROGRAM, IN A SANDBOX (cutbox-door.mjs). By AI agents, Wed Nov 11 2026. No macro, syntax, notation, axiom, sorry.
-/
import Derived.Test.YtjfgfkbgbhbhjaaGreatDoorRows
import GoSem.ClaimSeven
namespace Go.Proofs.YtjfgfkbgbhbhjaaGreatDoor
namespace Rows

/-- THE TIED CARD OF 'gatelaw1.ValuesDiffer'. -/
def valuesDifferCard : Claim7 := { stood := { row := valuesDifferRow, standIns := [], harness := (true, "51d6e2ccc2a0996017e2918b1e2ab5f84cb7663b808a642e61bf2361e73ad754"), looks := false }, kinds := [], alts := [], laidByText := true, laidKinds := [.data, .data, .data, .data, .pinned], laidTests := true, laidLooks := .later }
def ValuesDifferCardSaid : Prop := Claim7.holds Tryz.pinned (.plain (OpenSpec.ofChange valuesDifferSpec)) valuesDifferCard

/-- THE SECOND FORM's CARD OF 'gatelaw1.ValuesDiffer'. -/
def valuesDifferUptoCard : Claim7 := { stood := { row := valuesDifferUptoRow, standIns := [], harness := (true, "51d6e2ccc2a0996017e2918b1e2ab5f84cb7663b808a642e61bf2361e73ad754"), looks := false }, kinds := [], alts := [], laidByText := true, laidKinds := [.data, .data, .data, .data, .pinned], laidTests := true, laidLooks := .later }
def ValuesDifferUptoCardSaid : Prop := Claim7.holds Tryz.pinned (.plain (OpenSpec.upto valuesDifferSpec)) valuesDifferUptoCard
end Rows
end Go.Proofs.YtjfgfkbgbhbhjaaGreatDoor
