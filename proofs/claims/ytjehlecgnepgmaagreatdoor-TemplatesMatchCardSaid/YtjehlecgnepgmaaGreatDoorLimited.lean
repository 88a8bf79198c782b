/- The statements' own first look at package limit answers true. No conditions. -/
import Derived.Test.YtjehlecgnepgmaaGreatDoorMeter0
import Derived.Test.YtjehlecgnepgmaaGreatDoorRoom
namespace Go.Proofs.YtjehlecgnepgmaaGreatDoor
open Go.RowKit
set_option linter.unusedVariables false
set_option linter.unusedSimpArgs false

structure VerdictD where
  ok : Bool
  by_ : ByteArray
  wait : Int
def VerdictD.val (v : VerdictD) : Value := .agg #[.bool v.ok, .string v.by_, .int .i64 v.wait]
def VerdictD.enc (v : VerdictD) : Nat → Value
  | 0 => .bool v.ok
  | 1 => .string v.by_
  | 2 => .int .i64 v.wait
  | _ => .nilFunc
theorem VerdictD.one (v : VerdictD) (j : Nat) (hj : j < 3) : (v.enc j).oneCell' = true := by
  match j, hj with
  | 0, _ => rfl
  | 1, _ => rfl
  | 2, _ => rfl

def v0 : VerdictD := ⟨true, ⟨#[]⟩, 0⟩
end Go.Proofs.YtjehlecgnepgmaaGreatDoor
