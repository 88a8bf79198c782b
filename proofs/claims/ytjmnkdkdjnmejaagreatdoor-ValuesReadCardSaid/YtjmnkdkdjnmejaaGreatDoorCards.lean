/-
  DERIVED. GIVEN WITH THE SEED: THE CARDS: each row of YtjmnkdkdjnmejaaGreatDoorRows.lean that lists a variable, with what it lists TIED to the program's text (the seventh form; the later family's looks); each row that meets fmt, with fmt's text TOLD by the authors' own Lean function (tested against real Go, not proved from fmt's source: count such statements apart). THE CARD IS WHAT COUNTS. Prove the row's statement (the work); the ties are given (YtjmnkdkdjnmejaaGreatDoorTie.lean); close each card by the builder's one call (the guide's Derived/Test/ToyasCard.lean, 'card_holds'). Laid BY PROGRAM, IN A SANDBOX (cutbox-door.mjs). By AI agents, Wed Nov 11 2026. No macro, syntax, notation, axiom, sorry.
-/
import Derived.Test.YtjmnkdkdjnmejaaGreatDoorRows
import GoSem.ClaimSeven
namespace Go.Proofs.YtjmnkdkdjnmejaaGreatDoor
namespace Rows

/-- THE TIED CARD OF 'gatelaw1.ValuesRead'. -/
def valuesReadCard : Claim7 := { stood := { row := valuesReadRow, standIns := [], harness := (true, "ff9296150bd58fce82122e6585297b016f6f62ede3b8d6dc511dfca5b5c41ce3"), looks := true }, kinds := [], alts := [], laidByText := true, laidKinds := [.data, .data, .data, .data, .sentinel, .sentinel, .pinned], laidTests := true, laidLooks := .later }
def ValuesReadCardSaid : Prop := Claim7.holds Tryz.pinned (.plain (OpenSpec.ofChange valuesReadSpec)) valuesReadCard

/-- THE SECOND FORM's CARD OF 'gatelaw1.ValuesRead'. -/
def valuesReadUptoCard : Claim7 := { stood := { row := valuesReadUptoRow, standIns := [], harness := (true, "ff9296150bd58fce82122e6585297b016f6f62ede3b8d6dc511dfca5b5c41ce3"), looks := true }, kinds := [], alts := [], laidByText := true, laidKinds := [.data, .data, .data, .data, .sentinel, .sentinel, .pinned], laidTests := true, laidLooks := .later }
def ValuesReadUptoCardSaid : Prop := Claim7.holds Tryz.pinned (.plain (OpenSpec.upto valuesReadSpec)) valuesReadUptoCard
end Rows
end Go.Proofs.YtjmnkdkdjnmejaaGreatDoor
