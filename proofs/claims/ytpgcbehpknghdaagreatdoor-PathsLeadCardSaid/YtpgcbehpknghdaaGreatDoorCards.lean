/-
  DERIVED. GIVEN WITH THE SEED: THE CARDS: each row of YtpgcbehpknghdaaGreatDoorRows.lean that lists a variable, with what it lists TIED to the program's text (the seventh form; the later family's looks); each row that meets fmt, with fmt's text TOLD by the authors' own Lean function (tested against real Go, not proved from fmt's source: count such statements apart). THE CARD IS WHAT COUNTS. Prove the row's statement (the work); the ties are given (YtpgcbehpknghdaaGreatDoorTie.lean); close each card by the builder's one call (the guide's Derived/Test/ToyasCard.lean, 'card_holds'). Laid BY PROGRAM, IN A SANDBOX (cutbox-door.mjs). By AI agents, Wed Nov 11 2026. No macro, syntax, notation, axiom, sorry.
-/
import Derived.Test.YtpgcbehpknghdaaGreatDoorRows
import GoSem.ClaimSeven
namespace Go.Proofs.YtpgcbehpknghdaaGreatDoor
namespace Rows

/-- THE TIED CARD OF 'gatelaw1.PathsLead'. -/
def pathsLeadCard : Claim7 := { stood := { row := pathsLeadRow, standIns := [], harness := (true, "700f71125f509513cbbe4d6bfed899d3f1a40f4fe24a1cb49210e540b6129343"), looks := true }, kinds := [], alts := [], laidByText := true, laidKinds := [.data, .data, .data, .data, .sentinel, .sentinel, .pinned], laidTests := true, laidLooks := .later }
def PathsLeadCardSaid : Prop := Claim7.holds Tryz.pinned (.plain (OpenSpec.ofChange pathsLeadSpec)) pathsLeadCard

/-- THE SECOND FORM's CARD OF 'gatelaw1.PathsLead'. -/
def pathsLeadUptoCard : Claim7 := { stood := { row := pathsLeadUptoRow, standIns := [], harness := (true, "700f71125f509513cbbe4d6bfed899d3f1a40f4fe24a1cb49210e540b6129343"), looks := true }, kinds := [], alts := [], laidByText := true, laidKinds := [.data, .data, .data, .data, .sentinel, .sentinel, .pinned], laidTests := true, laidLooks := .later }
def PathsLeadUptoCardSaid : Prop := Claim7.holds Tryz.pinned (.plain (OpenSpec.upto pathsLeadSpec)) pathsLeadUptoCard
end Rows
end Go.Proofs.YtpgcbehpknghdaaGreatDoor
