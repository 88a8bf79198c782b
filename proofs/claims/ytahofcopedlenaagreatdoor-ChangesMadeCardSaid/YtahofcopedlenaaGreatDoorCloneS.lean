/- slices.Clone of a path. (printed by mkclones.py) Conditions: at most 200000 steps. -/
import Derived.Test.YtahofcopedlenaaGreatDoorChgMem
namespace Go.Proofs.YtahofcopedlenaaGreatDoor
open Go.RowKit
set_option linter.unusedVariables false
set_option linter.unusedSimpArgs false

def RCloneS (w : World) (n : Nat) (ls : List St) (e : Ending) (w' : World) : Prop := ∃ A c, e = .returned (.slice A n c) ∧ Own w' w.heap.size 60 3 St.enc A n c ls ∧ New w w'
set_option maxHeartbeats 1000000 in
theorem cloneS (ls : List St) (A : Option Addr) (n c : Nat) (w : World) (hl : Sl w 60 3 St.enc A n ls) (hn : n ≤ 200000) :
    Calls Tryz.prog 27 #[.slice A n c] w (RCloneS w n ls) := by
  have hown : Own (w.alloc (.cells #[] 60)) w.heap.size 60 3 St.enc (some ⟨w.heap.size, 0, none⟩) 0 0 ([] : List St) := Own.of_blk (xs := []) (Blk.new _ _ _) (Nat.le_refl _) rfl (by omega)
  by_cases h0 : 0 < n
  · obtain ⟨g, o, rfl, _⟩ := hl.2 h0
    have hq := fun w : World => Lib.run_eql_slice_nil (P := Tryz.prog) w 54 60 (some ⟨g, o, none⟩) n c 0 0 Tryz.underlying54
    simp at hq
    have hm0 : New w (w.alloc (.cells #[] 60)) := (Mod.refl _ _).alloc _
    go_enter Tryz.func27, Tryz.ntmps27
    go_wp2_with (at_builtin; refine wpList_pushAll rfl _ _ _ rfl 32 Tryz.underlying54 einfo_step rfl hown ls g o n c rfl (hl.new hm0) h0 (fun y _ j hj => St.one y j hj) (by omega) (by omega) (by simp) ?_; intro g1 cap w1 hown1 hm1 hat hlt1)
    simp only [Nat.zero_add, List.nil_append] at hown1
    go_ret
    exact ⟨_, _, by simp, hown1, hown.push_mod' hm0 hm1 (Nat.le_refl _)⟩
  · obtain rfl : n = 0 := by omega
    obtain rfl : ls = [] := List.eq_nil_of_length_eq_zero hl.1
    have hq := fun w : World => Lib.run_eql_slice_nil (P := Tryz.prog) w 54 60 A 0 c 0 0 Tryz.underlying54
    clear hl
    cases A with
    | none =>
      simp at hq
      go_enter Tryz.func27, Tryz.ntmps27
      go_wp2_with fail
      go_ret
      exact ⟨none, 0, rfl, Own.nil, Mod.refl _ _⟩
    | some a =>
      simp at hq
      obtain ⟨i, z, hi0, _⟩ := einfo_step
      have HO := Lib.hid hown
      have hap := fun ty => append_zero (P := Tryz.prog) Tryz.underlying54 hi0 ⟨w.heap.size, 0, none⟩ a c ty (w.alloc (.cells #[] 60))
      clear hown
      go_enter Tryz.func27, Tryz.ntmps27
      go_wp2_with (at_builtin; refine wpList_append_by2 rfl _ _ 54 54 rfl rfl rfl hap ?_)
      go_ret
      exact ⟨_, _, rfl, HO.out, (Mod.refl _ _).alloc _⟩

end Go.Proofs.YtahofcopedlenaaGreatDoor
