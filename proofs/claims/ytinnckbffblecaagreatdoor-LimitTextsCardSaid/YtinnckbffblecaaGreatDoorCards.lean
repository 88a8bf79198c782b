/-
  DERIVED. GIVEN WITH THE SEED: THE CARDS: each row of YtinnckbffblecaaGreatDoorRows.lean that lists a variable, with what it lists TIED to the program's text (the seventh form; the later family's looks); each row that meets fmt, with fmt's text TOLD by the authors' own Lean function (tested against real Go, not proved from fmt's source: count such statements apart). THE CARD IS WHAT COUNTS. Prove the row's statement (the work); the ties are given (YtinnckbffblecaaGreatDoorTie.lean); close each card by the builder's one call (the guide's Derived/Test/ToyasCard.lean, 'card_holds'). Laid BY PROGRAM, IN A SANDBOX (cutbox-door.mjs). By AI agents, Wed Nov 11 2026. No macro, syntax, notation, axiom, sorry.
-/
import Derived.Test.YtinnckbffblecaaGreatDoorRows
import GoSem.ClaimSeven
namespace Go.Proofs.YtinnckbffblecaaGreatDoor
namespace Rows

/-- THE TIED CARD OF 'gatelaw1.LimitTexts'. -/
def limitTextsCard : Claim7 := { stood := { row := limitTextsRow, standIns := [], harness := (true, "00c8a9cef9cf031d3f37d169cc231a4133db125a9ed7bdaa97e876c71838aac8"), looks := true }, kinds := [], alts := [], laidByText := true, laidKinds := [.data, .data, .data, .data, .sentinel, .sentinel, .pinned], laidTests := true, laidLooks := .later }
def LimitTextsCardSaid : Prop := Claim7.holds Tryz.pinned (.plain (OpenSpec.ofChange limitTextsSpec)) limitTextsCard

/-- THE SECOND FORM's CARD OF 'gatelaw1.LimitTexts'. -/
def limitTextsUptoCard : Claim7 := { stood := { row := limitTextsUptoRow, standIns := [], harness := (true, "00c8a9cef9cf031d3f37d169cc231a4133db125a9ed7bdaa97e876c71838aac8"), looks := true }, kinds := [], alts := [], laidByText := true, laidKinds := [.data, .data, .data, .data, .sentinel, .sentinel, .pinned], laidTests := true, laidLooks := .later }
def LimitTextsUptoCardSaid : Prop := Claim7.holds Tryz.pinned (.plain (OpenSpec.upto limitTextsSpec)) limitTextsUptoCard
end Rows
end Go.Proofs.YtinnckbffblecaaGreatDoor
