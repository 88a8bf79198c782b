/- The library's iterator that goes backward over a row of texts (slices.Backward): its contract. Conditions: at most 1000000 texts. -/
import Derived.RangeFuncNested
import Derived.RangeFuncBound
import Derived.RangeFuncCalls
import Derived.RangeFuncLeaves
import Derived.RangeFuncWrites
import Derived.Shelf.Abstract
import Derived.Shelf.RegionOpen
import Derived.WalkKit
import Derived.OwnWalkIn
import Derived.TacticsInMore
import Derived.LoopNIn
import Derived.LoopIn
import Derived.Test.YtjehlecgnepgmaaGreatDoorOwn
namespace Go.Proofs.YtjehlecgnepgmaaGreatDoor
open Go.RowKit Go.Shelf
set_option linter.unusedVariables false
set_option linter.unusedSimpArgs false

attribute [local go_sem] Oper.semAt_some

/-- what has come when k rounds are over -/
def upto {α : Type} (f : Nat → α) (k : Nat) : List α := (List.range k).map f
theorem upto_succ {α : Type} (f : Nat → α) (k : Nat) : upto f (k + 1) = upto f k ++ [f k] := by simp [upto, List.range_succ]
theorem upto_length {α : Type} (f : Nat → α) (k : Nat) : (upto f k).length = k := by simp [upto]
/-- blocks b and d are as they were -/
def Kept2 (b d : Nat) (W W' : World) : Prop := W'.heap[b]? = W.heap[b]? ∧ W'.heap[d]? = W.heap[d]?
theorem Kept2.refl (b d : Nat) (W : World) : Kept2 b d W W := ⟨rfl, rfl⟩
theorem Kept2.trans {b d : Nat} {A B C : World} (h : Kept2 b d A B) (k : Kept2 b d B C) : Kept2 b d A C := ⟨k.1.trans h.1, k.2.trans h.2⟩
/-- the place and the text that come in round j -/
def backF (len : Nat) (zs : List ByteArray) (j : Nat) : Nat × ByteArray := (len - 1 - j, zs[len - 1 - j]?.getD ⟨#[]⟩)

set_option maxRecDepth 100000 in
set_option maxHeartbeats 1000000 in
theorem back1_in (F : Fence) (n : Nat) (hF : F.fn 147) (hro : F.round = none) (hn : 1 ≤ n) (l Bs b off len cap : Nat) (zs : List ByteArray) (hlen : len ≤ 1000000) (J Jx : List (Nat × ByteArray) → World → Prop)
    (hY : ∀ pre x W, J pre W → pre.length < len → YieldAt F (n - 1) Tryz.prog l #[.int .i64 (x.1 : Int), .string x.2] W fun e W' =>
      (e = .returned (.bool true) ∧ J (pre ++ [x]) W' ∧ Kept2 b Bs W W') ∨ (e = .returned (.bool false) ∧ Jx (pre ++ [x]) W'))
    (W : World) (hBs : W.cell? ⟨Bs, 0, none⟩ = some (.slice (some ⟨b, off, none⟩) len cap)) (hc : ∀ j, j < len → W.cell? ⟨b, off + j, none⟩ = some (.string (zs[j]?.getD ⟨#[]⟩))) (h0 : J [] W) :
    CallsIn F n Tryz.prog 147 #[.func (.yield l) #[] #[], .pointer (some ⟨Bs, 0, none⟩)] W fun e W' => (∃ v, e = .returned v) ∧
      ((∃ ys, ys = upto (backF len zs) len ∧ J ys W') ∨ (∃ pre, (∃ k, k ≤ len ∧ pre = upto (backF len zs) k) ∧ Jx pre W')) := by
  refine callsIn_of_wp Tryz.func147 rfl hF ?_ hro
  simp only [Tryz.ntmps147, List.size_toArray, List.length_cons, List.length_nil, Nat.reduceAdd, Nat.reduceSub, Array.replicate_succ, Array.replicate_zero, List.push_toArray, List.append_toArray, List.nil_append, List.cons_append]
  gi_wp2
  gi_loopw [3] (fun i wr => ∃ (k : Nat) (z : Int), k ≤ len ∧ i = .int .i64 z ∧ z + 1 + k = len ∧ J (upto (backF len zs) k) wr ∧ Kept2 b Bs W wr)
    (fun i _ => (intOf i + 1).toNat)
  case atStart => exact ⟨0, _, Nat.zero_le _, rfl, by omega, h0, Kept2.refl _ _ _⟩
  case round =>
    obtain ⟨k, z, hk, rfl, hz, hJs, hkp⟩ := hrel
    have hBx : wr.cell? ⟨Bs, 0, none⟩ = some (.slice (some ⟨b, off, none⟩) len cap) := by rw [← hBs]; simp only [World.cell?, hkp.2]
    by_cases hlt : k < len
    · have hz0 : 0 ≤ z := by omega
      obtain ⟨m, rfl⟩ := Int.eq_ofNat_of_zero_le hz0
      have hml : m < len := by omega
      have hmi : (m : Int) < (len : Int) := by omega
      have hcx : wr.cell? ⟨b, off + m, none⟩ = some (.string (zs[m]?.getD ⟨#[]⟩)) := by rw [← hc m hml]; simp only [World.cell?, hkp.1]
      have hfk : backF len zs k = (m, zs[m]?.getD ⟨#[]⟩) := by
        unfold backF
        have : len - 1 - k = m := by omega
        rw [this]
      obtain ⟨fn, tmps, assign, body, hy, hR⟩ := hY _ (m, zs[m]?.getD ⟨#[]⟩) wr hJs (by rw [upto_length]; exact hlt)
      dsimp only at hy
      gi_wp2
      refine hR.mono ?_
      rintro e W3 (⟨rfl, hJ3, hk3⟩ | ⟨rfl, hJx3⟩)
      · gi_wp2
        go_roundw
        case rel => exact ⟨k + 1, _, by omega, rfl, by omega, by rw [upto_succ, hfk]; exact hJ3, hkp.trans hk3⟩
        case measure => first | (simp [intOf]; done) | (simp [intOf]; omega)
      · gi_wp2
        refine bodyPost_ret (results_none rfl _ _ _) rfl ?_
        exact ⟨⟨_, rfl⟩, .inr ⟨_, ⟨k + 1, by omega, by rw [upto_succ, hfk]⟩, hJx3⟩⟩
    · obtain rfl : k = len := by omega
      have hz1 : z = -1 := by omega
      subst hz1
      gi_wp2
      go_end0
      exact ⟨⟨_, rfl⟩, .inl ⟨_, rfl, hJs⟩⟩

theorem back_stops (F : Fence) (n : Nat) (hF : F.fn 147) (hro : F.round = none) (hn : 1 ≤ n) (Bs b off len cap : Nat) (zs : List ByteArray) (hlen : len ≤ 1000000) (w : World) (hBl : Bs < w.heap.size) (hbl : b < w.heap.size)
    (hBs : w.cell? ⟨Bs, 0, none⟩ = some (.slice (some ⟨b, off, none⟩) len cap)) (hc : ∀ j, j < len → w.cell? ⟨b, off + j, none⟩ = some (.string (zs[j]?.getD ⟨#[]⟩))) :
    SeqStopsK F n Tryz.prog 147 #[.pointer (some ⟨Bs, 0, none⟩)] (fun x : Nat × ByteArray => #[Value.int .i64 (x.1 : Int), Value.string x.2]) (Kept2 b Bs) (fun ys => ys = upto (backF len zs) len)
      (fun pre => ∃ k, k ≤ len ∧ pre = upto (backF len zs) k) len w := fun l J Jx W hW _ _ hY h0 =>
  back1_in F n hF hro hn l Bs b off len cap zs hlen J Jx hY W ((hW.cell (p := ⟨Bs, 0, none⟩) hBl).trans hBs) (fun j hj => (hW.cell (p := ⟨b, off + j, none⟩) hbl).trans (hc j hj)) h0
theorem kept2_b {b d : Nat} {w : World} (hb : b < w.heap.size) (hd : d < w.heap.size) (W : World) (l : Nat) (o o' : Obj) (hl : w.heap.size ≤ l) (h : W.heap[l]? = some o) (_ : o.isCells = false) (_ : o.isWalk = false) : Kept2 b d W (W.putObj l o') :=
  ⟨World.putObj_heap_other (by omega), World.putObj_heap_other (by omega)⟩
set_option maxHeartbeats 1000000 in
theorem backward_any (A : Option Addr) (n c : Nat) (w : World) :
    Calls Tryz.prog 121 #[.slice A n c] w fun e w' => e = .returned (.func (.func 147) #[] #[.pointer (some ⟨w.heap.size, 0, none⟩)]) ∧ w' = w.alloc (.cells #[.slice A n c] 56) := by
  go_enter Tryz.func121, Tryz.ntmps121
  go_wp2_with fail
  go_ret
  exact ⟨rfl, rfl⟩

end Go.Proofs.YtjehlecgnepgmaaGreatDoor
