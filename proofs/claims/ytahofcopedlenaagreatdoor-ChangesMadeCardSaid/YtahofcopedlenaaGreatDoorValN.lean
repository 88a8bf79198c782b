/- What the maker of values hands out: nearly right values. Conditions: as for the stream; no deeper than 3. -/
import Derived.Test.YtahofcopedlenaaGreatDoorValM
import Derived.Test.YtahofcopedlenaaGreatDoorValClone
namespace Go.Proofs.YtahofcopedlenaaGreatDoor
open Go.RowKit
set_option linter.unusedVariables false
set_option linter.unusedSimpArgs false

set_option maxHeartbeats 400000 in
theorem odd_any2 (b k : Nat) (lo hi : Int) (w : World) (hs : SInv b w k) (hk : k < 4611686018427380000) (h1 : lo ≤ hi) (h2 : -1000000000000000 ≤ lo) (h3 : hi ≤ 1000000000000000) :
    Calls Tryz.prog 17 #[.pointer (some ⟨b, 0, none⟩), .int .i64 lo, .int .i64 hi] w (RInt fun m w' => -1000000000000001 ≤ m ∧ m ≤ 1000000000000001 ∧ SStep b w w' (k + 2)) := by
  go_enter Tryz.func17, Tryz.ntmps17
  go_wp2_with fail
  refine (flip_any b k _ _ hs (by omega) (by omega) (by omega)).mono ?_
  rintro e w1 ⟨m, rfl, h4⟩
  cases m
  · go_wp2_with fail
    refine (range_any b (k + 1) _ _ _ h4.inv (by omega) (by omega) (by omega) (by omega)).mono ?_
    rintro e w2 ⟨m, rfl, h5, h6, h7⟩
    go_wp2_with fail
    go_ret
    exact ⟨_, rfl, by omega, by omega, h4.trans h7⟩
  · go_wp2_with fail
    refine (pick_any [lo - 1, hi + 1, lo, hi, -1099511627776, 1099511627776] b (k + 1) _ 6 _ (h4.alloc _).inv (by omega) (Blk.new _ _ _) rfl (by omega) (by omega)).mono ?_
    rintro e w2 ⟨m, rfl, h5, h6⟩
    go_wp2_with fail
    go_ret
    simp at h5
    exact ⟨_, rfl, by omega, by omega, (h4.alloc _).trans h6⟩

theorem Tree.vW_more {w : World} {G : Nat → Prop} : ∀ (d : Nat) (x : VA) (v : VT), Tree w G d x v → vW (d + 1) v = vW d v
  | 0, _, _, h => h.elim
  | d + 1, x, v, h => by
    obtain ⟨vs, ps, rfl, ⟨xs, -, h2, h3⟩, ⟨ms, -, h5, h6⟩⟩ := h
    have e1 : (vs.map fun x => vW (d + 1) x + 1) = vs.map fun x => vW d x + 1 := List.map_congr_left (fun y hy => by
      obtain ⟨i, hi, rfl⟩ := List.mem_iff_getElem.1 hy
      rw [Tree.vW_more d _ _ (h3 i (by omega) hi)])
    have e2 : (ps.map fun p => vW (d + 1) p.2 + (6 * p.1.size + 4)) = ps.map fun p => vW d p.2 + (6 * p.1.size + 4) := List.map_congr_left (fun y hy => by
      obtain ⟨i, hi, rfl⟩ := List.mem_iff_getElem.1 hy
      rw [Tree.vW_more d _ _ (h6 i (by omega) hi).2])
    show 40 + 6 * x.words.size + ((vs.map fun x => vW (d + 1) x + 1).sum + (ps.map fun p => vW (d + 1) p.2 + (6 * p.1.size + 4)).sum) = 40 + 6 * x.words.size + ((vs.map fun x => vW d x + 1).sum + (ps.map fun p => vW d p.2 + (6 * p.1.size + 4)).sum)
    rw [e1, e2]
theorem Tree.wide_more {w : World} {G : Nat → Prop} {m : Nat} : ∀ (d : Nat) (x : VA) (v : VT), Tree w G d x v → Wide m d v → Wide m (d + 1) v
  | 0, _, _, h, _ => h.elim
  | d + 1, x, v, h, hw => by
    obtain ⟨vs, ps, rfl, ⟨xs, -, h2, h3⟩, ⟨ms, -, h5, h6⟩⟩ := h
    obtain ⟨w1, w2, w3, w4, w5⟩ := hw
    refine ⟨w1, w2, w3, fun y hy => ?_, fun p hp => ⟨(w5 p hp).1, ?_⟩⟩
    · obtain ⟨i, hi, rfl⟩ := List.mem_iff_getElem.1 hy
      have hi' : i < vs.length := hi
      exact Tree.wide_more d _ _ (h3 i (by omega) hi') (w4 _ hy)
    · obtain ⟨i, hi, rfl⟩ := List.mem_iff_getElem.1 hp
      have hi' : i < ps.length := hi
      exact Tree.wide_more d _ _ (h6 i (by omega) hi').2 (w5 _ hp).2
/-- more room in depth changes nothing -/
theorem Tree.lift {w : World} {G : Nat → Prop} {d D m : Nat} {x : VA} {v : VT} (h : Tree w G d x v) (hw : Wide m d v) (hd : d ≤ D) : Tree w G D x v ∧ vW D v = vW d v ∧ Wide m D v := by
  obtain ⟨k, rfl⟩ := Nat.le.dest hd
  induction k with
  | zero => exact ⟨h, rfl, hw⟩
  | succ k ih =>
    obtain ⟨h1, h2, h3⟩ := ih (by omega)
    exact ⟨Tree.more _ _ _ h1, (Tree.vW_more _ _ _ h1).trans h2, Tree.wide_more _ _ _ h1 h3⟩
theorem Tree.reshape {w : World} {G : Nat → Prop} {d : Nat} {x : VA} {v : VT} (h : Tree w G (d + 1) x v) (kind : Int) (flag : Bool) (num : Int) (words : ByteArray) : Tree w G (d + 1) ⟨kind, flag, num, words, x.la, x.ln, x.lc, x.ma, x.mn, x.mc⟩ (.mk kind flag num words v.list v.mem) := by
  obtain ⟨vs, ps, rfl, h1, h2⟩ := h
  exact ⟨vs, ps, rfl, h1, h2⟩
theorem reshape_w {d : Nat} {v : VT} (kind : Int) (flag : Bool) (num : Int) (words : ByteArray) : vW (d + 1) (.mk kind flag num words v.list v.mem) + 6 * v.words.size = vW (d + 1) v + 6 * words.size := by
  have h1 : vW (d + 1) (.mk kind flag num words v.list v.mem) = 40 + 6 * words.size + ((v.list.map fun x => vW d x + 1).sum + (v.mem.map fun p => vW d p.2 + (6 * p.1.size + 4)).sum) := rfl
  have h2 : vW (d + 1) v = 40 + 6 * v.words.size + ((v.list.map fun x => vW d x + 1).sum + (v.mem.map fun p => vW d p.2 + (6 * p.1.size + 4)).sum) := rfl
  omega
theorem reshape_wide {m d : Nat} {v : VT} (kind : Int) (flag : Bool) (num : Int) {words : ByteArray} (h : Wide m (d + 1) v) (hw : words.size ≤ 100000) : Wide m (d + 1) (.mk kind flag num words v.list v.mem) :=
  ⟨h.1, h.2.1, hw, h.2.2.2.1, h.2.2.2.2⟩

/-- a value as it lies in a block, in 60 depths' room -/
def ValAt (w : World) (G : Nat → Prop) (W m : Nat) (x : VA) : Prop := ∃ v, Tree w G 60 x v ∧ vW 60 v ≤ W ∧ Wide m 60 v
theorem ValAt.of {w : World} {G : Nat → Prop} {W m d : Nat} {x : VA} {v : VT} (h : Tree w G d x v) (hw : vW d v ≤ W) (hwd : Wide m d v) (hd : d ≤ 60) : ValAt w G W m x := by
  obtain ⟨h1, h2, h3⟩ := h.lift hwd hd
  exact ⟨v, h1, by rw [h2]; exact hw, h3⟩
theorem ValAt.mod {w w' : World} {G S : Nat → Prop} {W m : Nat} {x : VA} (h : ValAt w G W m x) (hm : Mod S w w') (hs : ∀ g, G g → ¬ S g) : ValAt w' G W m x := by
  obtain ⟨v, h1, h2, h3⟩ := h
  exact ⟨v, Tree.mod hm (fun g hg _ => hs g hg) _ _ _ h1, h2, h3⟩

end Go.Proofs.YtahofcopedlenaaGreatDoor
