/- What the maker of limits hands out: a limit of that key with numbers of modest size. Conditions: as for the stream. -/
import Derived.Test.YtjehlecgnepgmaaGreatDoorStream
namespace Go.Proofs.YtjehlecgnepgmaaGreatDoor
open Go.RowKit
set_option linter.unusedVariables false
set_option linter.unusedSimpArgs false

structure Lim where
  key : ByteArray
  kind : Int
  most : Int
  per : Int
  burst : Int

def Lim.cells (l : Lim) : Array Value := #[.string l.key, .int .i64 l.kind, .int .i64 l.most, .int .i64 l.per, .int .i64 l.burst]
def Lim.val (l : Lim) : Value := .agg #[.string l.key, .int .i64 l.kind, .int .i64 l.most, .int .i64 l.per, .int .i64 l.burst]

def Lim.enc (l : Lim) : Nat → Value
  | 0 => .string l.key
  | 1 => .int .i64 l.kind
  | 2 => .int .i64 l.most
  | 3 => .int .i64 l.per
  | 4 => .int .i64 l.burst
  | _ => .nilFunc

/-- numbers of a size with which no product that is made of them passes an int -/
def Lim.Small (l : Lim) : Prop :=
  (-1000000000000001 ≤ l.kind ∧ l.kind ≤ 1000000000000001) ∧ (-1000000000000001 ≤ l.most ∧ l.most ≤ 1000000000000001) ∧
  (-1000000000000001 ≤ l.per ∧ l.per ≤ 1000000000000001) ∧ (-1000000000000001 ≤ l.burst ∧ l.burst ≤ 1000000000000001)

def RLim (Q : Lim → World → Prop) (e : Ending) (w' : World) : Prop := ∃ l : Lim, e = .returned l.val ∧ Q l w'

end Go.Proofs.YtjehlecgnepgmaaGreatDoor
