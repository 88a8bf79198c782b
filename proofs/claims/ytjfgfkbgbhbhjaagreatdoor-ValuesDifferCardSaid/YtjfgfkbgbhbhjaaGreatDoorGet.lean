/- The reference: GetAt of a path of one step. Conditions: rows of at most 100000; a step at 0 to 5000. -/
import Derived.Test.YtjfgfkbgbhbhjaaGreatDoorChd
import Derived.Test.YtjfgfkbgbhbhjaaGreatDoorSame
namespace Go.Proofs.YtjfgfkbgbhbhjaaGreatDoor
open Go.RowKit
set_option linter.unusedVariables false
set_option linter.unusedSimpArgs false

theorem find_first {l : List Mem} {s : ByteArray} {j : Nat} (hj : j < l.length) (h : l[j].1 = s) (h0 : ∀ i (hi : i < l.length), i < j → ¬ l[i].1 = s) : l.find? (fun p => decide (p.1 = s)) = some l[j] := by
  rw [List.find?_eq_some_iff_getElem]
  refine ⟨by simp [h], j, hj, rfl, fun i hi => ?_⟩
  simp [h0 i (by omega) hi]
theorem find_no {l : List Mem} {s : ByteArray} (h0 : ∀ i (hi : i < l.length), ¬ l[i].1 = s) : l.find? (fun p => decide (p.1 = s)) = none := by
  rw [List.find?_eq_none]
  intro p hp
  obtain ⟨i, hi, rfl⟩ := List.getElem_of_mem hp
  simp [h0 i hi]
end Go.Proofs.YtjfgfkbgbhbhjaaGreatDoor
