/- strconv's table of powers of ten; strconv.Itoa. No conditions. -/
import Derived.Test.YtjfgfkbgbhbhjaaGreatDoorStreamGrp
import Derived.Test.YtjfgfkbgbhbhjaaGreatDoorShelf
import Derived.Lib.LaidTab
import Derived.Lib.ItoaLen
namespace Go.Proofs.YtjfgfkbgbhbhjaaGreatDoor
open Go.RowKit
set_option linter.unusedVariables false
set_option linter.unusedSimpArgs false

/-- strconv's table of powers of ten lies as its initialiser lays it -/
def Pow10 (w : World) : Prop := Lib.TabIs Tryz.prog w "internal/strconv.uint64pow10" .u64 Lib.pow10Tab
theorem Pow10.new {w w' : World} (h : Pow10 w) (hm : New w w') : Pow10 w' := by
  unfold Pow10 Lib.TabIs World.var? at *
  cases hg : Tryz.prog.globalNamed "internal/strconv.uint64pow10" with
  | none => rw [hg] at h; simp at h
  | some g =>
    rw [hg] at h
    simp only [Option.bind_some] at h ⊢
    have hlt : g < w.heap.size := by
      rcases Nat.lt_or_ge g w.heap.size with hlt | hge
      · exact hlt
      · rw [Array.getElem?_eq_none hge] at h; simp at h
    rw [hm.block g hlt (fun e => e)]
    exact h

theorem New.grow (w : World) (k : Nat) (os : Array Obj) : New w (Sort.grow (w.drewN k) os) :=
  ⟨rfl, rfl, rfl, by rw [Sort.size_grow]; exact Nat.le_add_right _ _, fun i hi _ => Sort.heap_grow_old (w.drewN k) os hi⟩

def itoaB (n : Int) : ByteArray := ⟨(Lib.itoa n).toArray⟩
theorem itoa_any (n : Int) (h : I64 n) (w : World) (ht : Pow10 w) : Calls Tryz.prog 126 #[.int .i64 n] w fun e w' => e = .returned (.string (itoaB n)) ∧ New w w' :=
  (Tryz.strconv_Itoa n h.1 h.2 w ht).mono (by rintro e w' ⟨rfl, k, os, rfl⟩; exact ⟨rfl, New.grow w k os⟩)

theorem itoaB_size {n : Int} (h : I64 n) : (itoaB n).size ≤ 21 := Lib.itoa_length_le n h.1 h.2

/-- what turns only behind w0's end leaves the table -/
theorem Pow10.mod {S : Nat → Prop} {w0 w w' : World} (h0 : Pow10 w0) (h : Pow10 w) (hm : Mod S w w') (hS : ∀ g, g < w0.heap.size → ¬ S g) : Pow10 w' := by
  unfold Pow10 Lib.TabIs World.var? at *
  cases hg : Tryz.prog.globalNamed "internal/strconv.uint64pow10" with
  | none => rw [hg] at h; simp at h
  | some g =>
    rw [hg] at h h0
    simp only [Option.bind_some] at h h0 ⊢
    have l0 : g < w0.heap.size := by
      rcases Nat.lt_or_ge g w0.heap.size with hlt | hge
      · exact hlt
      · rw [Array.getElem?_eq_none hge] at h0; simp at h0
    have l1 : g < w.heap.size := by
      rcases Nat.lt_or_ge g w.heap.size with hlt | hge
      · exact hlt
      · rw [Array.getElem?_eq_none hge] at h; simp at h
    rw [hm.block g l1 (hS g l0)]
    exact h

end Go.Proofs.YtjfgfkbgbhbhjaaGreatDoor
