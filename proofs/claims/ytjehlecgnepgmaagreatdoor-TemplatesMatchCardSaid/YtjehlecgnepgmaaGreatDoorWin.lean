/- Counting in windows: the methods of the program's window counter. Conditions: the numbers of a limit that was checked, moments from 0 to 10^12, counts below 10^18. -/
import Derived.Test.YtjehlecgnepgmaaGreatDoorBucket
namespace Go.Proofs.YtjehlecgnepgmaaGreatDoor
open Go.RowKit
set_option linter.unusedVariables false
set_option linter.unusedSimpArgs false

def winUsed (l : Lim) (at_ number now : Int) : Int := if now / l.per = at_ then number else 0

theorem winUsed_bd (l : Lim) (at_ number now : Int) (h0 : 0 ≤ number) (h1 : number ≤ 1000000000000000000) : 0 ≤ winUsed l at_ number now ∧ winUsed l at_ number now ≤ 1000000000000000000 := by
  unfold winUsed; split <;> omega

end Go.Proofs.YtjehlecgnepgmaaGreatDoor
