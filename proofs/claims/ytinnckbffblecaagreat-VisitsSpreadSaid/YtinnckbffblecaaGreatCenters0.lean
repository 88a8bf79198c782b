/- Making a center and a store. Conditions: a key that can be read. -/
import Derived.Test.YtinnckbffblecaaGreatStore2
import Derived.Test.YtinnckbffblecaaGreatLaw
namespace Go.Proofs.YtinnckbffblecaaGreat
open Go.RowKit Go.MapKept
set_option linter.unusedVariables false
set_option linter.unusedSimpArgs false

/-- what is wrong with a limit that must count in windows -/
def winF (l : Lim) : Int := if limsFault [l] ≠ 0 then limsFault [l] else if l.kind ≠ 1 then 10 else 0
theorem winF_or (l : Lim) : orL [limsFault [l], whenE (l.kind != 1) 10] = winF l := by
  unfold winF orL orL whenE
  by_cases h1 : limsFault [l] = 0
  · by_cases h2 : l.kind = 1
    · simp [h1, h2, orL]
    · simp [h1, h2]
  · simp [h1]
theorem WLim.of_fault {l : Lim} (h : winF l = 0) : WLim l := by
  unfold winF at h
  split at h
  · contradiction
  · rename_i h1
    split at h
    · cases h
    · rename_i h2
      obtain ⟨_, h⟩ := limsFault_one (by simpa using h1)
      obtain ⟨a, b, c, d, e, f⟩ := limSelf_zero h
      simp at h2
      exact ⟨b, d (by omega)⟩

set_option maxHeartbeats 1000000 in
theorem limit_windowFault (l : Lim) (w : World) (hs : l.key.size ≤ maxLen) :
    Calls Tryz.prog 41 #[l.val] w fun e w' => e = .returned (.int .i64 (winF l)) ∧ New w w' := by
  obtain ⟨key, kind, most, per, burst⟩ := l
  simp only [Lim.val]
  go_enter Tryz.func41, Tryz.ntmps41
  go_wp2_with fail
  refine (limit_checkLimits [⟨key, kind, most, per, burst⟩] _ 1 _ _ (LimRows.one _ _ (Blk.new' _ _ (by simp))) (by omega) (by simpa using hs)).mono ?_
  rintro e w1 ⟨rfl, hm⟩
  obtain ⟨hm1, hz1, -⟩ := hm.pre
  obtain ⟨hm2, hz2, B2⟩ := hm1.pre
  have B3 : Blk w1 w.heap.size 28 _ := B2 (fun h => h)
  clear B2 hm hm1
  have c1 := B3.cell 1
  simp at c1
  by_cases he : limsFault [⟨key, kind, most, per, burst⟩] = 0
  · have HE := Lib.hid he
    rw [he]
    clear he
    by_cases hk : kind = 1
    · subst hk
      go_wp2_with fail
      go_ret
      exact ⟨ret_int (by simp [winF, HE.out]), hm2⟩
    · have hk' : (kind != 1) = true := by simpa using hk
      go_wp2_with fail
      go_ret
      exact ⟨ret_int (by simp [winF, HE.out, hk]), hm2⟩
  · have he' : (limsFault [⟨key, kind, most, per, burst⟩] != 0) = true := by simpa using he
    go_wp2_with fail
    go_ret
    exact ⟨ret_int (by simp [winF, he]), hm2⟩

def RCenter (w : World) (l : Lim) (e : Ending) (w' : World) : Prop := ∃ gc mb, e = .returned (.tuple #[.pointer (some ⟨gc, 0, none⟩), .int .i64 0]) ∧ CenterAt w' gc mb l ⟨0, []⟩ ∧ w.heap.size ≤ gc ∧ w.heap.size ≤ mb ∧ New w w'
def RCenter0 (w : World) (l : Lim) (e : Ending) (w' : World) : Prop := ∃ gc mb, e = .returned (.pointer (some ⟨gc, 0, none⟩)) ∧ CenterAt w' gc mb l ⟨0, []⟩ ∧ w.heap.size ≤ gc ∧ w.heap.size ≤ mb ∧ New w w'

set_option maxHeartbeats 1000000 in
theorem limit_newCenter (l : Lim) (w : World) :
    Calls Tryz.prog 43 #[l.val] w (RCenter0 w l) := by
  have hmm := @run_makeMap Tryz.prog
  obtain ⟨key, kind, most, per, burst⟩ := l
  simp only [Lim.val] at *
  go_enter Tryz.func43, Tryz.ntmps43
  go_wp2_with fail
  go_ret
  refine ⟨w.heap.size + 2, w.heap.size + 1, by simp, ⟨?_, ?_⟩, by omega, by omega, (by with_reducible (repeat (first | exact Mod.refl _ _ | refine Mod.drewN ?_ _ | refine Mod.drew ?_ | refine Mod.alloc ?_ _)))⟩
  · have e1 : (0 : Int) / per = 0 := Int.zero_ediv _
    simp only [isum, List.map_nil, List.sum_nil, e1]
    exact Blk.new' _ _ (by simp)
  · refine MapOf.mod (S := fun _ => False) ?_ ((Mod.refl (fun _ => False) _).alloc _) (fun h => h)
    refine MapOf.made ?_
    have := heap_alloc_new (w.alloc (.cells #[.string key, .int .i64 kind, .int .i64 most, .int .i64 per, .int .i64 burst] 28)) (.map #[] 0)
    simpa using this

def RCen (w : World) (l : Lim) (e : Ending) (w' : World) : Prop := ∃ p, e = .returned (.tuple #[.pointer p, .int .i64 (winF l)]) ∧ ((winF l ≠ 0 ∧ p = none) ∨ (winF l = 0 ∧ ∃ gc mb, p = some ⟨gc, 0, none⟩ ∧ CenterAt w' gc mb l ⟨0, []⟩ ∧ w.heap.size ≤ gc ∧ w.heap.size ≤ mb)) ∧ New w w'
end Go.Proofs.YtinnckbffblecaaGreat
