/-
  DERIVED. GIVEN WITH THE SEED: THE CARDS: each row of YtnlloaimplgjnaaGreatDoorRows.lean that lists a variable, with what it lists TIED to the program's text (the seventh form; the later family's looks); each row that meets fmt, with fmt's text TOLD by the authors' own Lean function (tested against real Go, not proved from fmt's source: count such statements apart). THE CARD IS WHAT COUNTS. Prove the row's statement (the work); the ties are given (YtnlloaimplgjnaaGreatDoorTie.lean); close each card by the builder's one call (the guide's Derived/Test/ToyasCard.lean, 'card_holds'). Laid BY PROGRAM, IN A SANDBOX (cutbox-door.mjs). By AI agents, Wed Nov 11 2026. No macro, syntax, notation, axiom, sorry.
-/
import Derived.Test.YtnlloaimplgjnaaGreatDoorRows
import GoSem.ClaimSeven
namespace Go.Proofs.YtnlloaimplgjnaaGreatDoor
namespace Rows

/-- THE TIED CARD OF 'gatelaw1.RoutesRewrite'. -/
def routesRewriteCard : Claim7 := { stood := { row := routesRewriteRow, standIns := [], harness := (true, "5e4f7b215644678263b224d2273d778451febff7e0f4ea3765bc9c7f3d64620d"), looks := true }, kinds := [], alts := [], laidByText := true, laidKinds := [.data, .data, .data, .data, .sentinel, .sentinel, .pinned, .pinned], laidTests := true, laidLooks := .later }
def RoutesRewriteCardSaid : Prop := Claim7.holds Tryz.pinned (.plain (OpenSpec.ofChange routesRewriteSpec)) routesRewriteCard

/-- THE SECOND FORM's CARD OF 'gatelaw1.RoutesRewrite'. -/
def routesRewriteUptoCard : Claim7 := { stood := { row := routesRewriteUptoRow, standIns := [], harness := (true, "5e4f7b215644678263b224d2273d778451febff7e0f4ea3765bc9c7f3d64620d"), looks := true }, kinds := [], alts := [], laidByText := true, laidKinds := [.data, .data, .data, .data, .sentinel, .sentinel, .pinned, .pinned], laidTests := true, laidLooks := .later }
def RoutesRewriteUptoCardSaid : Prop := Claim7.holds Tryz.pinned (.plain (OpenSpec.upto routesRewriteSpec)) routesRewriteUptoCard
end Rows
end Go.Proofs.YtnlloaimplgjnaaGreatDoor
