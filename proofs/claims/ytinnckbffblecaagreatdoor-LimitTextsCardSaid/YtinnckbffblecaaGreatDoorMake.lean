/- What the maker of limits hands out: a limit of that key with numbers of modest size. Conditions: as for the stream. -/
import Derived.Test.YtinnckbffblecaaGreatDoorStream
namespace Go.Proofs.YtinnckbffblecaaGreatDoor
open Go.RowKit
set_option linter.unusedVariables false
set_option linter.unusedSimpArgs false

structure Lim where
  key : ByteArray
  kind : Int
  most : Int
  per : Int
  burst : Int

def Lim.cells (l : Lim) : Array Value := #[.string l.key, .int .i64 l.kind, .int .i64 l.most, .int .i64 l.per, .int .i64 l.burst]
def Lim.val (l : Lim) : Value := .agg #[.string l.key, .int .i64 l.kind, .int .i64 l.most, .int .i64 l.per, .int .i64 l.burst]

def Lim.enc (l : Lim) : Nat → Value
  | 0 => .string l.key
  | 1 => .int .i64 l.kind
  | 2 => .int .i64 l.most
  | 3 => .int .i64 l.per
  | 4 => .int .i64 l.burst
  | _ => .nilFunc

/-- numbers of a size with which no product that is made of them passes an int -/
def Lim.Small (l : Lim) : Prop :=
  (-1000000000000001 ≤ l.kind ∧ l.kind ≤ 1000000000000001) ∧ (-1000000000000001 ≤ l.most ∧ l.most ≤ 1000000000000001) ∧
  (-1000000000000001 ≤ l.per ∧ l.per ≤ 1000000000000001) ∧ (-1000000000000001 ≤ l.burst ∧ l.burst ≤ 1000000000000001)

def RLim (Q : Lim → World → Prop) (e : Ending) (w' : World) : Prop := ∃ l : Lim, e = .returned l.val ∧ Q l w'

set_option maxHeartbeats 1000000 in
theorem rightLimit_any (key : ByteArray) (b k : Nat) (w : World) (hs : SInv b w k) (hk : k < 4611686018427380000) :
    Calls Tryz.prog 14 #[.pointer (some ⟨b, 0, none⟩), .string key] w (RLim fun l w' => l.key = key ∧ l.Small ∧ SStep b w w' (k + 4)) := by
  have hb := hs.lt
  go_enter Tryz.func14, Tryz.ntmps14
  go_wp2_with fail
  refine (range_any b k 1 4 _ ((SStep.refl hs).alloc _).inv (by omega) (by omega) (by omega) (by omega)).mono ?_
  rintro e w1 ⟨kind, rfl, k1, k2, h1⟩
  obtain ⟨o1, z1, n1⟩ := h1.only.pre
  have B1 : Blk w1 w.heap.size 38 _ := n1 (by omega)
  have T1 := ((SStep.refl hs).alloc _).trans h1
  clear n1 h1
  go_wp2_with fail
  refine (pick_any [1, 2, 3, 5] b (k + 1) _ 4 _ (T1.alloc _).inv (by omega) (Blk.new _ _ _) rfl (by omega) (by omega)).mono ?_
  rintro e w2 ⟨most, rfl, m1, h2⟩
  obtain ⟨o2, z2, -⟩ := h2.only.pre
  have B2 := B1.mod o2 (by omega)
  have T2 := (T1.alloc _).trans h2
  go_wp2_with fail
  refine (pick_any [1, 7, 10, 50, 100] b (k + 2) _ 5 _ (T2.alloc _).inv (by omega) (Blk.new _ _ _) rfl (by omega) (by omega)).mono ?_
  rintro e w3 ⟨per, rfl, p1, h3⟩
  obtain ⟨o3, z3, -⟩ := h3.only.pre
  have B3 := B2.mod o3 (by omega)
  have T3 := (T2.alloc _).trans h3
  have hc3 := B3.cell
  have hf3 := B3.frozen
  have hne : w.heap.size ≠ w3.heap.size := by omega
  have hlt : w.heap.size < w3.heap.size := by omega
  have HP : 1 ≤ most ∧ most ≤ 5 ∧ 1 ≤ per ∧ per ≤ 100 := by simp at m1 p1; omega
  clear m1 p1 B1 B2 T1 T2 h2 h3 hs
  by_cases hk3 : kind = 3
  · subst hk3
    go_wp2_with fail
    refine (pick_any [1, 2, 5] b (k + 3) _ 3 _ ((T3.alloc _).alloc _).inv (by omega) (Blk.new' _ _ (by simp)) rfl (by omega) (by omega)).mono ?_
    rintro e w4 ⟨bst, rfl, m1, h4⟩
    have HB : 1 ≤ bst ∧ bst ≤ 5 := by simp at m1; omega
    clear m1
    obtain ⟨o4, z4, -⟩ := h4.only.pre
    obtain ⟨o5, z5, n5⟩ := o4.pre
    have B5 : Blk w4 w3.heap.size 38 _ := n5 (by omega)
    have B4 := B3.mod o5 (by omega)
    clear n5 hc3 hf3
    have hc4 := B4.cell
    have hf4 := B4.frozen
    have hc5 := B5.cell
    have hf5 := B5.frozen
    have T4 := ((T3.alloc _).alloc _).trans h4
    clear h4 o2 o3 o4 o5 B3 B4 B5
    go_wp2_with fail
    refine bodyPost_ret (v := Lim.val ⟨key, 3, most, per, bst⟩) (by simp [results, Tryz.results14, go_sem, hc4, hc5, hf4, hf5, hne, Lim.val]) rfl ⟨_, rfl, rfl, ?_, ?_⟩
    · unfold Lim.Small; simp only; omega
    · repeat (with_reducible (first | exact T4.more (by omega) | (refine SStep.set ?_ ?_ _; rotate_left; (simp <;> omega))))
  · have hk3' : (kind == 3) = false := by simpa using hk3
    by_cases hk4 : kind = 4
    · subst hk4
      go_wp2_with fail
      refine bodyPost_ret (v := Lim.val ⟨key, 4, most, 0, 0⟩) (by simp [results, Tryz.results14, go_sem, hc3, hf3, hne, hlt, Lim.val]) rfl ⟨_, rfl, rfl, ?_, ?_⟩
      · unfold Lim.Small; simp only; omega
      · repeat (with_reducible (first | exact T3.more (by omega) | (refine SStep.set ?_ ?_ _; rotate_left; (simp <;> omega)) | refine SStep.alloc ?_ _))
    · have hk4' : (kind == 4) = false := by simpa using hk4
      go_wp2_with fail
      refine bodyPost_ret (v := Lim.val ⟨key, kind, most, per, 0⟩) (by simp [results, Tryz.results14, go_sem, hc3, hf3, hne, hlt, Lim.val]) rfl ⟨_, rfl, rfl, ?_, ?_⟩
      · unfold Lim.Small; simp only; omega
      · repeat (with_reducible (first | exact T3.more (by omega) | (refine SStep.set ?_ ?_ _; rotate_left; (simp <;> omega)) | refine SStep.alloc ?_ _))

end Go.Proofs.YtinnckbffblecaaGreatDoor
