/- The headers of limits as data, and the small functions that both sides use. No conditions beside those of strconv's table. -/
import Derived.Test.YtinnckbffblecaaGreatDoorLimsMake
import Derived.Test.YtinnckbffblecaaGreatDoorBucket
import Derived.Test.YtinnckbffblecaaGreatDoorLimited
import Derived.Test.YtinnckbffblecaaGreatDoorShelf
import Derived.Lib.LaidTab
import Derived.Lib.ItoaLen
namespace Go.Proofs.YtinnckbffblecaaGreatDoor
open Go.RowKit
set_option linter.unusedVariables false
set_option linter.unusedSimpArgs false

/-- strconv's table of powers of ten lies as its initialiser lays it -/
def Pow10 (w : World) : Prop := Lib.TabIs Tryz.prog w "internal/strconv.uint64pow10" .u64 Lib.pow10Tab
theorem Pow10.new {w w' : World} (h : Pow10 w) (hm : New w w') : Pow10 w' := by
  unfold Pow10 Lib.TabIs World.var? at *
  cases hg : Tryz.prog.globalNamed "internal/strconv.uint64pow10" with
  | none => rw [hg] at h; simp at h
  | some g =>
    rw [hg] at h
    simp only [Option.bind_some] at h ⊢
    have hlt : g < w.heap.size := by
      rcases Nat.lt_or_ge g w.heap.size with hlt | hge
      · exact hlt
      · rw [Array.getElem?_eq_none hge] at h; simp at h
    rw [hm.block g hlt (fun e => e)]
    exact h

theorem New.grow (w : World) (k : Nat) (os : Array Obj) : New w (Sort.grow (w.drewN k) os) :=
  ⟨rfl, rfl, rfl, by rw [Sort.size_grow]; exact Nat.le_add_right _ _, fun i hi _ => Sort.heap_grow_old (w.drewN k) os hi⟩

def itoaB (n : Int) : ByteArray := ⟨(Lib.itoa n).toArray⟩
theorem itoa_any (n : Int) (h : I64 n) (w : World) (ht : Pow10 w) : Calls Tryz.prog 21 #[.int .i64 n] w fun e w' => e = .returned (.string (itoaB n)) ∧ New w w' :=
  (Tryz.strconv_Itoa n h.1 h.2 w ht).mono (by rintro e w' ⟨rfl, k, os, rfl⟩; exact ⟨rfl, New.grow w k os⟩)

def kindWord (k : Int) : ByteArray := if k = 1 then ⟨#[119, 105, 110, 100, 111, 119]⟩ else if k = 2 then ⟨#[115, 108, 105, 100, 105, 110, 103]⟩ else if k = 3 then ⟨#[98, 117, 99, 107, 101, 116]⟩ else ⟨#[111, 110, 99, 101]⟩
theorem itoaB_size {n : Int} (h : I64 n) : (itoaB n).size ≤ 21 := Lib.itoa_length_le n h.1 h.2
theorem kindWord_size (k : Int) : (kindWord k).size ≤ 7 := by unfold kindWord; split <;> (try split) <;> (try split) <;> decide
structure HdD where
  name : ByteArray
  value : ByteArray
def HdD.enc (h : HdD) : Nat → Value
  | 0 => .string h.name
  | 1 => .string h.value
  | _ => .nilFunc
theorem HdD.one (h : HdD) (j : Nat) (hj : j < 2) : (h.enc j).oneCell' = true := by
  obtain rfl | rfl : j = 0 ∨ j = 1 := by omega
  all_goals rfl
abbrev wordsCs : Array Value := #[.string ⟨#[]⟩, .string ⟨#[119, 105, 110, 100, 111, 119]⟩, .string ⟨#[115, 108, 105, 100, 105, 110, 103]⟩, .string ⟨#[98, 117, 99, 107, 101, 116]⟩, .string ⟨#[111, 110, 99, 101]⟩]
theorem kindWords_any (w : World) : Calls Tryz.prog 20 #[] w fun e w' => e = .returned (.slice (some ⟨w.heap.size, 0, none⟩) 5 5) ∧ w' = w.alloc (.cells wordsCs 9) := by
  go_enter Tryz.func20, Tryz.ntmps20
  go_wp2_with fail
  go_ret
  exact ⟨rfl, rfl⟩
theorem words_at {w : World} {g : Nat} (h : Blk w g 9 wordsCs) {k : Int} (h1 : 1 ≤ k) (h4 : k ≤ 4) : w.cell? ⟨g, k.toNat, none⟩ = some (.string (kindWord k)) := by
  obtain rfl | rfl | rfl | rfl : k = 1 ∨ k = 2 ∨ k = 3 ∨ k = 4 := by omega
  · exact (h.cell 1).trans rfl
  · exact (h.cell 2).trans rfl
  · exact (h.cell 3).trans rfl
  · exact (h.cell 4).trans rfl
theorem kindWord_any (k : Int) (h1 : 1 ≤ k) (h4 : k ≤ 4) (w : World) : Calls Tryz.prog 26 #[.int .i64 k] w fun e w' => e = .returned (.string (kindWord k)) ∧ w' = w.alloc (.cells wordsCs 9) := by
  obtain rfl | rfl | rfl | rfl : k = 1 ∨ k = 2 ∨ k = 3 ∨ k = 4 := by omega
  all_goals go_enter Tryz.func26, Tryz.ntmps26
  all_goals go_wp2_with fail
  all_goals go_ret
  all_goals exact ⟨rfl, rfl⟩

def hasL (ls : List Lim) (v : VerdictD) : Bool := ls.any fun l => l.key.toList == v.by_.toList
theorem hasL_yes {ls : List Lim} {v : VerdictD} {k : Nat} (hk : k < ls.length) (h : (ls[k].key.toList == v.by_.toList) = true) : hasL ls v = true :=
  List.any_eq_true.2 ⟨ls[k], List.getElem_mem _, h⟩
theorem hasL_no {ls : List Lim} {v : VerdictD} (h : ∀ j (hj : j < ls.length), (ls[j].key.toList == v.by_.toList) = false) : hasL ls v = false := by
  unfold hasL
  rw [List.any_eq_false]
  intro x hx
  obtain ⟨i, hi, rfl⟩ := List.getElem_of_mem hx
  rw [h i hi]; simp

end Go.Proofs.YtinnckbffblecaaGreatDoor
