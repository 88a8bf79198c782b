/-
  DERIVED. GIVEN WITH THE SEED: THE CARDS: each row of YtjnbjianfbfdaaaDoorRows.lean that lists a variable, with what it lists TIED to the program's text (the seventh form; the later family's looks); each row that meets fmt, with fmt's text TOLD by the authors' own Lean function (tested against real Go, not proved from fmt's source: count such statements apart). THE CARD IS WHAT COUNTS. Prove the row's statement (the work); the ties are given (YtjnbjianfbfdaaaDoorTie.lean); close each card by the builder's one call (the guide's Derived/Test/ToyasCard.lean, 'card_holds'). Laid BY PROGRAM, IN A SANDBOX (cutbox-door.mjs). By AI agents, Wed Nov 11 2026. No macro, syntax, notation, axiom, sorry.
-/
import Derived.Test.YtjnbjianfbfdaaaDoorRows
import GoSem.ClaimSeven
namespace Go.Proofs.YtjnbjianfbfdaaaDoor
namespace Rows

/-- THE TIED CARD OF 'gatelaw1.ValuesChecked'. -/
def valuesCheckedCard : Claim7 := { stood := { row := valuesCheckedRow, standIns := [], harness := (true, "37ceb55e7d53efd3bf8dd32c6b3f74473ffe880e3d17973a2cbdc52e2c91714a"), looks := false }, kinds := [], alts := [], laidByText := true, laidKinds := [.data, .data, .data, .data, .pinned], laidTests := true, laidLooks := .later }
def ValuesCheckedCardSaid : Prop := Claim7.holds Tryd.pinned (.plain (OpenSpec.ofChange valuesCheckedSpec)) valuesCheckedCard

/-- THE SECOND FORM's CARD OF 'gatelaw1.ValuesChecked'. -/
def valuesCheckedUptoCard : Claim7 := { stood := { row := valuesCheckedUptoRow, standIns := [], harness := (true, "37ceb55e7d53efd3bf8dd32c6b3f74473ffe880e3d17973a2cbdc52e2c91714a"), looks := false }, kinds := [], alts := [], laidByText := true, laidKinds := [.data, .data, .data, .data, .pinned], laidTests := true, laidLooks := .later }
def ValuesCheckedUptoCardSaid : Prop := Claim7.holds Tryd.pinned (.plain (OpenSpec.upto valuesCheckedSpec)) valuesCheckedUptoCard
end Rows
end Go.Proofs.YtjnbjianfbfdaaaDoor
