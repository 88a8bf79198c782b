/- Small functions of the statements: an error under a condition, the first error of several. No conditions. -/
import Derived.Test.YtjehlecgnepgmaaGreatDoorRoom
import Derived.Test.YtjehlecgnepgmaaGreatDoorOwn
namespace Go.Proofs.YtjehlecgnepgmaaGreatDoor
open Go.RowKit
set_option linter.unusedVariables false
set_option linter.unusedSimpArgs false

def whenE (b : Bool) (e : Int) : Int := if b then e else 0
def orL : List Int → Int
  | [] => 0
  | x :: xs => if x = 0 then orL xs else x
theorem orL_drop {xs : List Int} {k : Nat} (h : k < xs.length) : orL (xs.drop k) = if xs[k] = 0 then orL (xs.drop (k + 1)) else xs[k] := by
  rw [List.drop_eq_getElem_cons h, orL]

theorem room_fault (x : Lim) (long : Int) : orL [limsFault [x], whenE (x.kind == 4) 10, whenE (decide (long < 1) || decide (100000 < long)) 1] = (roomSpec x long).2 := by
  unfold roomSpec orL orL orL whenE
  by_cases h1 : limsFault [x] = 0
  · by_cases h2 : x.kind = 4
    · simp [h1, h2]
    · by_cases h3 : 1 ≤ long ∧ long ≤ 100000
      · have h4 : ¬ long < 1 := by omega
        have h5 : ¬ 100000 < long := by omega
        simp [h1, h2, h3, h4, h5, orL]
      · have h6 : (decide (long < 1) || decide (100000 < long)) = true := by simp; omega
        rw [h6]
        simp only [h1, h2, h3]
        simp [h2]
  · simp [h1]


end Go.Proofs.YtjehlecgnepgmaaGreatDoor
