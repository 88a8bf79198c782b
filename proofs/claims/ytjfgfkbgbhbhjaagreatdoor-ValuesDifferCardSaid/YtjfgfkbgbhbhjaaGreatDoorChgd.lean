/- One change: of members, of a list (the program). Conditions: rows of at most 1000. -/
import Derived.Test.YtjfgfkbgbhbhjaaGreatDoorBin
import Derived.Test.YtjfgfkbgbhbhjaaGreatDoorInsV
import Derived.Test.YtjfgfkbgbhbhjaaGreatDoorDelV
namespace Go.Proofs.YtjfgfkbgbhbhjaaGreatDoor
open Go.RowKit
set_option linter.unusedVariables false
set_option linter.unusedSimpArgs false

/-- what a change answers -/
def RChg (G : Nat → Prop) (d : Nat) (w : World) (r : VT × Int) (e : Ending) (w' : World) : Prop := ∃ y : VA, e = .returned (.tuple #[y.val, .int .i64 r.2]) ∧ Tree w' (fun g => G g ∨ w.heap.size ≤ g) d y r.1 ∧ New w w'
theorem Tree.oldG {w : World} {G : Nat → Prop} {d : Nat} {x : VA} {v : VT} (h : Tree w G d x v) : Tree w (fun g => G g ∧ g < w.heap.size) d x v := Tree.imp (fun g hg hl => ⟨hg, hl⟩) _ _ _ h
theorem RChg.of {G : Nat → Prop} {d : Nat} {w w' : World} {r : VT × Int} {y : VA} {u : VT} {k : Int} (h : r = (u, k)) (ht : Tree w G d y u) (hm : New w w') : RChg G d w r (.returned (.tuple #[y.val, .int .i64 k])) w' := ⟨y, by rw [h], by rw [h]; exact Tree.imp (fun g hg _ => .inl hg) _ _ _ (ht.new hm), hm⟩
theorem RChg.to {G : Nat → Prop} {d : Nat} {w w' : World} {r : VT × Int} {y : VA} {u : VT} {k : Int} (h : r = (u, k)) (ht : Tree w' (fun g => G g ∨ w.heap.size ≤ g) d y u) (hm : New w w') : RChg G d w r (.returned (.tuple #[y.val, .int .i64 k])) w' := ⟨y, by rw [h], by rw [h]; exact ht, hm⟩



end Go.Proofs.YtjfgfkbgbhbhjaaGreatDoor
