/-
  No cell of these rows narrows 'for every input' (looked for: loops, veiled, ifaces, maps, wideKeys, modest, calm, conditions, laid).
  DERIVED. THE GIVEN ROWS OF THIS SEAT. 3 by the template 'for every input the law returns true; each argument reads behind the call as it read before'; 0 by the template 'total and deterministic' (their statements: YtinnckbffblecaaGreatTotals.lean).
  GIVEN WITH THE SEED: the statements are not yours to turn. If you find one false, say at which input.
  Laid BY PROGRAM, IN A SANDBOX (cutbox-rows.mjs): the forced cells as the released guide's own fill.sh prints them over the translation f2d06a2e2e9a3ab2… (all of the seat's roots in one cut). By AI agents, Wed Nov 11 2026. No macro, syntax, notation, axiom, sorry.
-/
import Derived.Test.YtinnckbffblecaaGreatChecked
import GoSem.Claim
import GoSem.ClaimJoined
import GoSem.ClaimMapViews
import Derived.JoinedTies
import Derived.KernelRfl
namespace Go.Proofs.YtinnckbffblecaaGreat
/- THE CELL 'sum', in the pinned program and in every row, IS THE sha256 OF THE DUMP (.gsa) THAT YtinnckbffblecaaGreatProg.lean LOADS. Nothing in Lean hashes anything: it is a label: what it is worth is what the hold of that sum in a sandbox is worth. -/
noncomputable def Tryz.pinned : Pinned := { name := "ytinnckbffblecaagreat", sum := "f2d06a2e2e9a3ab23dd54c45c026bceb8237e5588a3c67ade84080a8e674b2b5", checked := Tryz.checked }
namespace Rows
def none {H : Type} : Left H := { results := [], args := [] }

/-- 'gatelaw1.VisitsSpread': WHATEVER THE INPUT: true; the input reads as it did. -/
def visitsSpreadSpec : ChangeSpec := { name := "visitsSpread", fn := fun _ => fun
  | [d] => { results := [.lit (.bool true)], args := [d] }
  | _ => none }
def visitsSpreadRow : OpenClaim := { program := "ytinnckbffblecaagreat", sum := "f2d06a2e2e9a3ab23dd54c45c026bceb8237e5588a3c67ade84080a8e674b2b5", func := "gatewarden/gatelaw1.VisitsSpread", spec := "visitsSpread", inPlace := ["internal/bytealg.abigen_runtime_cmpstring", "internal/bytealg.IndexByteString"], unfollowed := true, recurses := true, apart := false }
def VisitsSpreadSaid : Prop := visitsSpreadRow.holds Tryz.pinned (OpenSpec.ofChange visitsSpreadSpec)

/-- ITS FALSE NEIGHBOUR: 'it returns false'. Refute it at one input. -/
def visitsSpreadWrong : ChangeSpec := { name := "visitsSpread", fn := fun _ => fun
  | [d] => { results := [.lit (.bool false)], args := [d] }
  | _ => none }
def VisitsSpreadWrongFalsely : Prop := visitsSpreadRow.holds Tryz.pinned (OpenSpec.ofChange visitsSpreadWrong)

/-- 'gatelaw1.LimitsReplay': WHATEVER THE INPUT: true; the input reads as it did. -/
def limitsReplaySpec : ChangeSpec := { name := "limitsReplay", fn := fun _ => fun
  | [d] => { results := [.lit (.bool true)], args := [d] }
  | _ => none }
def limitsReplayRow : OpenClaim := { program := "ytinnckbffblecaagreat", sum := "f2d06a2e2e9a3ab23dd54c45c026bceb8237e5588a3c67ade84080a8e674b2b5", func := "gatewarden/gatelaw1.LimitsReplay", spec := "limitsReplay", inPlace := ["internal/bytealg.IndexByteString"], unfollowed := true, recurses := true, apart := false }
def LimitsReplaySaid : Prop := limitsReplayRow.holds Tryz.pinned (OpenSpec.ofChange limitsReplaySpec)

/-- ITS FALSE NEIGHBOUR: 'it returns false'. Refute it at one input. -/
def limitsReplayWrong : ChangeSpec := { name := "limitsReplay", fn := fun _ => fun
  | [d] => { results := [.lit (.bool false)], args := [d] }
  | _ => none }
def LimitsReplayWrongFalsely : Prop := limitsReplayRow.holds Tryz.pinned (OpenSpec.ofChange limitsReplayWrong)

/-- 'gatelaw1.MetersCount': WHATEVER THE INPUT: true; the input reads as it did. -/
def metersCountSpec : ChangeSpec := { name := "metersCount", fn := fun _ => fun
  | [d] => { results := [.lit (.bool true)], args := [d] }
  | _ => none }
def metersCountRow : OpenClaim := { program := "ytinnckbffblecaagreat", sum := "f2d06a2e2e9a3ab23dd54c45c026bceb8237e5588a3c67ade84080a8e674b2b5", func := "gatewarden/gatelaw1.MetersCount", spec := "metersCount", inPlace := ["internal/bytealg.IndexByteString"], unfollowed := true, recurses := true, apart := false }
def MetersCountSaid : Prop := metersCountRow.holds Tryz.pinned (OpenSpec.ofChange metersCountSpec)

/-- ITS FALSE NEIGHBOUR: 'it returns false'. Refute it at one input. -/
def metersCountWrong : ChangeSpec := { name := "metersCount", fn := fun _ => fun
  | [d] => { results := [.lit (.bool false)], args := [d] }
  | _ => none }
def MetersCountWrongFalsely : Prop := metersCountRow.holds Tryz.pinned (OpenSpec.ofChange metersCountWrong)

/- THE SECOND FORM. 'bulk': how many values and letters a reading holds, each counted each time it is reached (what is shared counts as often as it is met; a slice's spare places count too). A statement '..UptoSaid' is the law's where the arguments, and the package variables that the reading takes, are together of bulk at most 1048576: NARROWER than '..Said'. Prove '..Said' where nothing that the law and all that it calls make is longer than what came in: it says more and counts as full. Else prove '..UptoSaid'. A law counts once. -/
mutual
def uptoBulk {H : Type} : DataW H → Nat
  | .lit (.string bytes) => bytes.length + 1
  | .lit _ => 1
  | .nil => 1
  | .ptr d => uptoBulk d + 1
  | .slice elems spare => uptoBulkAll elems + uptoBulkAll spare + 1
  | .agg parts => uptoBulkAll parts + 1
  | .iface _ d => uptoBulk d + 1
  | .map entries => uptoBulkEntries entries + 1
  | .held _ => 1
def uptoBulkAll {H : Type} : List (DataW H) → Nat
  | [] => 0
  | d :: r => uptoBulk d + uptoBulkAll r
def uptoBulkEntries {H : Type} : List (Lit × DataW H) → Nat
  | [] => 0
  | x :: r => uptoBulkEntry x + uptoBulkEntries r
def uptoBulkEntry {H : Type} : Lit × DataW H → Nat
  | (.string bytes, d) => bytes.length + uptoBulk d + 1
  | (_, d) => uptoBulk d + 1
 end
def uptoSmall : (H : Type) → List (DataW H) → Bool := fun _ ds => decide (uptoBulkAll ds ≤ 1048576)
def OpenSpec.upto (s : _root_.Go.ChangeSpec) : _root_.Go.OpenSpec := { _root_.Go.OpenSpec.ofChange s with cond := some uptoSmall }

/-- 'gatelaw1.VisitsSpread', WHERE WHAT IT READS IS OF BULK AT MOST 1048576: true; the input reads as it did. -/
def visitsSpreadUptoRow : OpenClaim := { program := "ytinnckbffblecaagreat", sum := "f2d06a2e2e9a3ab23dd54c45c026bceb8237e5588a3c67ade84080a8e674b2b5", func := "gatewarden/gatelaw1.VisitsSpread", spec := "visitsSpread", inPlace := ["internal/bytealg.abigen_runtime_cmpstring", "internal/bytealg.IndexByteString"], unfollowed := true, recurses := true, apart := false, narrowed := true }
def VisitsSpreadUptoSaid : Prop := visitsSpreadUptoRow.holds Tryz.pinned (OpenSpec.upto visitsSpreadSpec)

/-- 'gatelaw1.LimitsReplay', WHERE WHAT IT READS IS OF BULK AT MOST 1048576: true; the input reads as it did. -/
def limitsReplayUptoRow : OpenClaim := { program := "ytinnckbffblecaagreat", sum := "f2d06a2e2e9a3ab23dd54c45c026bceb8237e5588a3c67ade84080a8e674b2b5", func := "gatewarden/gatelaw1.LimitsReplay", spec := "limitsReplay", inPlace := ["internal/bytealg.IndexByteString"], unfollowed := true, recurses := true, apart := false, narrowed := true }
def LimitsReplayUptoSaid : Prop := limitsReplayUptoRow.holds Tryz.pinned (OpenSpec.upto limitsReplaySpec)

/-- 'gatelaw1.MetersCount', WHERE WHAT IT READS IS OF BULK AT MOST 1048576: true; the input reads as it did. -/
def metersCountUptoRow : OpenClaim := { program := "ytinnckbffblecaagreat", sum := "f2d06a2e2e9a3ab23dd54c45c026bceb8237e5588a3c67ade84080a8e674b2b5", func := "gatewarden/gatelaw1.MetersCount", spec := "metersCount", inPlace := ["internal/bytealg.IndexByteString"], unfollowed := true, recurses := true, apart := false, narrowed := true }
def MetersCountUptoSaid : Prop := metersCountUptoRow.holds Tryz.pinned (OpenSpec.upto metersCountSpec)

end Rows
end Go.Proofs.YtinnckbffblecaaGreat
