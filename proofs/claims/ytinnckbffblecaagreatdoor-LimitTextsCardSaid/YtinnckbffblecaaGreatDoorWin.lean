/- Counting in windows: the methods of the program's window counter. Conditions: the numbers of a limit that was checked, moments from 0 to 10^12, counts below 10^18. -/
import Derived.Test.YtinnckbffblecaaGreatDoorBucket
namespace Go.Proofs.YtinnckbffblecaaGreatDoor
open Go.RowKit
set_option linter.unusedVariables false
set_option linter.unusedSimpArgs false

/-- a window counter at block g -/
def WinAt (w : World) (g : Nat) (l : Lim) (at_ number : Int) : Prop :=
  Blk w g 147 #[.string l.key, .int .i64 l.kind, .int .i64 l.most, .int .i64 l.per, .int .i64 l.burst, .int .i64 at_, .int .i64 number]
def winUsed (l : Lim) (at_ number now : Int) : Int := if now / l.per = at_ then number else 0

set_option maxHeartbeats 1000000 in
theorem win_used (l : Lim) (g : Nat) (at_ number now : Int) (w : World) (hb : WinAt w g l at_ number) (hp : 1 ≤ l.per) (hp2 : l.per ≤ 8640000000) (h0 : 0 ≤ now) (h1 : now ≤ 1000000000000) :
    Calls Tryz.prog 135 #[.pointer (some ⟨g, 0, none⟩), .int .i64 now] w fun e w' => e = .returned (.int .i64 (winUsed l at_ number now)) ∧ ∃ n, w' = w.drewN n := by
  have c3 := hb.cell 3
  have c5 := hb.cell 5
  have c6 := hb.cell 6
  simp at c3 c5 c6
  have h5 := Int.ediv_le_self l.per h0
  have h6 := Int.ediv_nonneg h0 (show 0 ≤ l.per by omega)
  have hp0 : (l.per == 0) = false := by simp; omega
  have e1 : IntKind.i64.wrap (now / l.per) = now / l.per := IntWalk.i64_in _ (by omega)
  have e2 : now.tdiv l.per = now / l.per := Int.tdiv_eq_ediv_of_nonneg h0
  by_cases h : now / l.per = at_
  · have h' : (now / l.per != at_) = false := by simp [h]
    have H := Lib.hid h
    clear h
    go_enter Tryz.func135, Tryz.ntmps135
    go_wp2_with fail
    go_quiet (fail)
    go_wp2_with fail
    go_ret
    exact ⟨ret_int (by unfold winUsed; rw [if_pos H.out]), _, rfl⟩
  · have h' : (now / l.per != at_) = true := by simp [h]
    go_enter Tryz.func135, Tryz.ntmps135
    go_wp2_with fail
    go_quiet (fail)
    go_wp2_with fail
    go_ret
    exact ⟨ret_int (by unfold winUsed; rw [if_neg h]), _, rfl⟩

theorem winUsed_bd (l : Lim) (at_ number now : Int) (h0 : 0 ≤ number) (h1 : number ≤ 1000000000000000000) : 0 ≤ winUsed l at_ number now ∧ winUsed l at_ number now ≤ 1000000000000000000 := by
  unfold winUsed; split <;> omega

set_option maxHeartbeats 1000000 in
theorem win_most (l : Lim) (g : Nat) (at_ number now : Int) (w : World) (hb : WinAt w g l at_ number) (hp : 1 ≤ l.per) (hp2 : l.per ≤ 8640000000) (h0 : 0 ≤ now) (h1 : now ≤ 1000000000000)
    (hn0 : 0 ≤ number) (hn1 : number ≤ 1000000000000000000) (hm : 1 ≤ l.most ∧ l.most ≤ 1000000000) :
    Calls Tryz.prog 133 #[.pointer (some ⟨g, 0, none⟩), .int .i64 now] w fun e w' => e = .returned (.int .i64 (l.most - winUsed l at_ number now)) ∧ ∃ n, w' = w.drewN n := by
  have hu := winUsed_bd l at_ number now hn0 hn1
  have c2 := hb.cell 2
  simp at c2
  go_enter Tryz.func133, Tryz.ntmps133
  go_wp2_with fail
  go_quiet ((go_at_call 135; exact quiet_drew (win_used l g at_ number now _ hb hp hp2 h0 h1)))
  go_wp2_with fail
  go_ret
  exact ⟨rfl, _, rfl⟩

set_option maxHeartbeats 1000000 in
theorem win_add (l : Lim) (g : Nat) (at_ number now cost long : Int) (w : World) (hb : WinAt w g l at_ number) (hp : 1 ≤ l.per) (hp2 : l.per ≤ 8640000000) (h0 : 0 ≤ now) (h1 : now ≤ 1000000000000)
    (hn0 : 0 ≤ number) (hn1 : number ≤ 1000000000000000000) (hc : 0 ≤ cost ∧ cost ≤ 1000000000) :
    Calls Tryz.prog 131 #[.pointer (some ⟨g, 0, none⟩), .int .i64 now, .int .i64 cost, .int .i64 long] w fun e w' => e = .returned (.tuple #[]) ∧ Only g w w' ∧ WinAt w' g l (now / l.per) (winUsed l at_ number now + cost) := by
  have hu := winUsed_bd l at_ number now hn0 hn1
  have c3 := hb.cell 3
  have c5 := hb.cell 5
  have c6 := hb.cell 6
  have f5 := hb.frozen 5
  have f6 := hb.frozen 6
  simp at c3 c5 c6
  have h5 := Int.ediv_le_self l.per h0
  have h6 := Int.ediv_nonneg h0 (show 0 ≤ l.per by omega)
  have hp0 : (l.per == 0) = false := by simp; omega
  have e1 : IntKind.i64.wrap (now / l.per) = now / l.per := IntWalk.i64_in _ (by omega)
  have e2 : now.tdiv l.per = now / l.per := Int.tdiv_eq_ediv_of_nonneg h0
  have e3 : IntKind.i64.wrap (winUsed l at_ number now + cost) = winUsed l at_ number now + cost := IntWalk.i64_in _ (by omega)
  go_enter Tryz.func131, Tryz.ntmps131
  go_wp2_with fail
  go_region_with (go_at_call 135; refine (win_used l g at_ number now _ (by exact hb) hp hp2 h0 h1).mono ?_; rintro e w' ⟨rfl, n, rfl⟩)
  all_goals
    go_end0
    refine ⟨rfl, ?_, ?_⟩
    · exact (((Mod.refl (fun k => k = g) w).drewN _).setCell (p := ⟨g, 5, none⟩) (.inl rfl) _).setCell (p := ⟨g, 6, none⟩) (.inl rfl) _
    · have := (Blk.set (w := w.drewN (1 + n)) (by exact hb) 5 (.int .i64 (now / l.per))).set 6 (.int .i64 (winUsed l at_ number now + cost))
      simpa [WinAt] using this

end Go.Proofs.YtinnckbffblecaaGreatDoor
