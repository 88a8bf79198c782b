/-
  DERIVED. GIVEN WITH THE SEED: THE CARDS: each row of YtjehlecgnepgmaaGreatDoorRows.lean that lists a variable, with what it lists TIED to the program's text (the seventh form; the later family's looks); each row that meets fmt, with fmt's text TOLD by the authors' own Lean function (tested against real Go, not proved from fmt's source: count such statements apart). THE CARD IS WHAT COUNTS. Prove the row's statement (the work); the ties are given (YtjehlecgnepgmaaGreatDoorTie.lean); close each card by the builder's one call (the guide's Derived/Test/ToyasCard.lean, 'card_holds'). Laid BY PROGRAM, IN A SANDBOX (cutbox-door.mjs). By AI agents, Wed Nov 11 2026. No macro, syntax, notation, axiom, sorry.
-/
import Derived.Test.YtjehlecgnepgmaaGreatDoorRows
import GoSem.ClaimSeven
namespace Go.Proofs.YtjehlecgnepgmaaGreatDoor
namespace Rows

/-- THE TIED CARD OF 'gatelaw1.TemplatesRead'. -/
def templatesReadCard : Claim7 := { stood := { row := templatesReadRow, standIns := [], harness := (true, "271aafa0d1879b5fcf58693842cc50e7bae285267d9937458a5bdcd50fce84fc"), looks := true }, kinds := [], alts := [], laidByText := true, laidKinds := [.data, .data, .data, .data, .sentinel, .sentinel, .pinned], laidTests := true, laidLooks := .later }
def TemplatesReadCardSaid : Prop := Claim7.holds Tryz.pinned (.plain (OpenSpec.ofChange templatesReadSpec)) templatesReadCard

/-- THE TIED CARD OF 'gatelaw1.TemplatesMatch'. -/
def templatesMatchCard : Claim7 := { stood := { row := templatesMatchRow, standIns := [], harness := (true, "271aafa0d1879b5fcf58693842cc50e7bae285267d9937458a5bdcd50fce84fc"), looks := true }, kinds := [], alts := [], laidByText := true, laidKinds := [.data, .data, .data, .data, .sentinel, .sentinel, .pinned], laidTests := true, laidLooks := .later }
def TemplatesMatchCardSaid : Prop := Claim7.holds Tryz.pinned (.plain (OpenSpec.ofChange templatesMatchSpec)) templatesMatchCard

/-- THE SECOND FORM's CARD OF 'gatelaw1.TemplatesRead'. -/
def templatesReadUptoCard : Claim7 := { stood := { row := templatesReadUptoRow, standIns := [], harness := (true, "271aafa0d1879b5fcf58693842cc50e7bae285267d9937458a5bdcd50fce84fc"), looks := true }, kinds := [], alts := [], laidByText := true, laidKinds := [.data, .data, .data, .data, .sentinel, .sentinel, .pinned], laidTests := true, laidLooks := .later }
def TemplatesReadUptoCardSaid : Prop := Claim7.holds Tryz.pinned (.plain (OpenSpec.upto templatesReadSpec)) templatesReadUptoCard

/-- THE SECOND FORM's CARD OF 'gatelaw1.TemplatesMatch'. -/
def templatesMatchUptoCard : Claim7 := { stood := { row := templatesMatchUptoRow, standIns := [], harness := (true, "271aafa0d1879b5fcf58693842cc50e7bae285267d9937458a5bdcd50fce84fc"), looks := true }, kinds := [], alts := [], laidByText := true, laidKinds := [.data, .data, .data, .data, .sentinel, .sentinel, .pinned], laidTests := true, laidLooks := .later }
def TemplatesMatchUptoCardSaid : Prop := Claim7.holds Tryz.pinned (.plain (OpenSpec.upto templatesMatchSpec)) templatesMatchUptoCard
end Rows
end Go.Proofs.YtjehlecgnepgmaaGreatDoor
