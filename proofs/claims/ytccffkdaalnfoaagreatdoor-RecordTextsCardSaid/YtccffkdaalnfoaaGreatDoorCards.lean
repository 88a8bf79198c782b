/-
  DERIVED. GIVEN WITH THE SEED: THE CARDS: each row of YtccffkdaalnfoaaGreatDoorRows.lean that lists a variable, with what it lists TIED to the program's text (the seventh form; the later family's looks); each row that meets fmt, with fmt's text TOLD by the authors' own Lean function (tested against real Go, not proved from fmt's source: count such statements apart). THE CARD IS WHAT COUNTS. Prove the row's statement (the work); the ties are given (YtccffkdaalnfoaaGreatDoorTie.lean); close each card by the builder's one call (the guide's Derived/Test/ToyasCard.lean, 'card_holds'). Laid BY PROGRAM, IN A SANDBOX (cutbox-door.mjs). By AI agents, Wed Nov 11 2026. No macro, syntax, notation, axiom, sorry.
-/
import Derived.Test.YtccffkdaalnfoaaGreatDoorRows
import GoSem.ClaimSeven
namespace Go.Proofs.YtccffkdaalnfoaaGreatDoor
namespace Rows

/-- THE TIED CARD OF 'gatelaw1.RecordTexts'. -/
def recordTextsCard : Claim7 := { stood := { row := recordTextsRow, standIns := [], harness := (true, "ba017d5aa2c304aceea7e11d49667b603a9aa0251aad3fbe8c3b9a69b928e187"), looks := true }, kinds := [], alts := [], laidByText := true, laidKinds := [.data, .data, .data, .data, .sentinel, .sentinel, .pinned], laidTests := true, laidLooks := .later }
def RecordTextsCardSaid : Prop := Claim7.holds Tryz.pinned (.plain (OpenSpec.ofChange recordTextsSpec)) recordTextsCard

/-- THE SECOND FORM's CARD OF 'gatelaw1.RecordTexts'. -/
def recordTextsUptoCard : Claim7 := { stood := { row := recordTextsUptoRow, standIns := [], harness := (true, "ba017d5aa2c304aceea7e11d49667b603a9aa0251aad3fbe8c3b9a69b928e187"), looks := true }, kinds := [], alts := [], laidByText := true, laidKinds := [.data, .data, .data, .data, .sentinel, .sentinel, .pinned], laidTests := true, laidLooks := .later }
def RecordTextsUptoCardSaid : Prop := Claim7.holds Tryz.pinned (.plain (OpenSpec.upto recordTextsSpec)) recordTextsUptoCard
end Rows
end Go.Proofs.YtccffkdaalnfoaaGreatDoor
