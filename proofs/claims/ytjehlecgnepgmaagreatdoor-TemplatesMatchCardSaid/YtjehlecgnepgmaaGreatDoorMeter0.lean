/- The meter of one limit that is asked once: the statements' own first look at package limit. No conditions. -/
import Derived.Test.YtjehlecgnepgmaaGreatDoorAsks
import Derived.Test.YtjehlecgnepgmaaGreatDoorOwn
import Derived.Test.YtjehlecgnepgmaaGreatDoorWin
import Derived.Carry
import Derived.StillTailTactics
import Derived.Test.YtjehlecgnepgmaaGreatDoorMaps
namespace Go.Proofs.YtjehlecgnepgmaaGreatDoor
open Go.RowKit
set_option linter.unusedVariables false
set_option linter.unusedSimpArgs false

theorem Lim.one (l : Lim) (j : Nat) (hj : j < 5) : (l.enc j).oneCell' = true := by
  match j, hj with
  | 0, _ => rfl
  | 1, _ => rfl
  | 2, _ => rfl
  | 3, _ => rfl
  | 4, _ => rfl

def lim0 : Lim := ⟨⟨#[119]⟩, 1, 1, 10, 0⟩
abbrev valEnc (x : Value) : Nat → Value := fun _ => x

theorem quiet_add2 {P : Program} {f : FuncId} {args : Array Value} {w : World} {a n : Nat} {v : Value}
    (h : Calls P f args (w.drewN (a + n)) fun e w' => e = .returned v ∧ ∃ m, w' = (w.drewN (a + n)).drewN m) :
    Calls P f args (w.drewN (a + n)) fun e w'' => e = .returned v ∧ ∃ m, w'' = w.drewN (a + m) :=
  h.mono fun _ _ ⟨he, m, hm⟩ => ⟨he, n + m, by rw [hm, World.drewN_drewN, Nat.add_assoc]⟩

def ask0 : AskD := ⟨0, ⟨#[97]⟩, 1, 0⟩
def verdict0 : Value := .agg #[.bool true, .string ⟨#[]⟩, .int .i64 0]

def RAsk0 (gm mb : Nat) (w : World) (e : Ending) (w' : World) : Prop := e = .returned (.tuple #[verdict0, .int .i64 0]) ∧ Mod (fun k => k = gm ∨ k = mb) w w'

end Go.Proofs.YtjehlecgnepgmaaGreatDoor
