/- Asks: the program's checks. Conditions: the names are no longer than an int can count. -/
import Derived.Test.YtjehlecgnepgmaaGreatDoorLimits
namespace Go.Proofs.YtjehlecgnepgmaaGreatDoor
open Go.RowKit
set_option linter.unusedVariables false
set_option linter.unusedSimpArgs false

structure AskD where
  at_ : Int
  who : ByteArray
  cost : Int
  long : Int
def AskD.val (a : AskD) : Value := .agg #[.int .i64 a.at_, .string a.who, .int .i64 a.cost, .int .i64 a.long]
def AskD.enc (a : AskD) : Nat → Value
  | 0 => .int .i64 a.at_
  | 1 => .string a.who
  | 2 => .int .i64 a.cost
  | 3 => .int .i64 a.long
  | _ => .nilFunc
def isMoment (n : Int) : Bool := decide (0 ≤ n) && decide (n < 345686400000)
def askFault (a : AskD) : Int :=
  if !isMoment a.at_ then 1 else if !isKey a.who then 5 else
  if !(decide (1 ≤ a.cost) && decide (a.cost ≤ 1000000000)) || !(decide (0 ≤ a.long) && decide (a.long ≤ 345686400000)) then 1 else 0

def askAt (l : List AskD) (i : Nat) : Int :=
  match l[i]? with
  | none => 0
  | some a => if askFault a ≠ 0 then askFault a else if 0 < i ∧ a.at_ < (l[i-1]?.map (·.at_)).getD 0 then 7 else 0
def asksFault (l : List AskD) : Int := if 3000 < l.length then 2 else firstFault (askAt l) l.length
theorem askAt_eq {ls : List AskD} {i : Nat} {a : AskD} (h : ls[i]? = some a) (p : Int) (hp : 0 < i → ls[i-1]?.map (·.at_) = some p) :
    askAt ls i = if askFault a ≠ 0 then askFault a else if 0 < i ∧ a.at_ < p then 7 else 0 := by
  unfold askAt
  rw [h]
  by_cases hi : 0 < i
  · simp [hp hi]
  · simp [hi]

end Go.Proofs.YtjehlecgnepgmaaGreatDoor
