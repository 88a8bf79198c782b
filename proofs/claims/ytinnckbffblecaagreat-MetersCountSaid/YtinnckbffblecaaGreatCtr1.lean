/- Windows and buckets: how long something waits, and whether all is as if nothing had been let in. Conditions: the numbers of a limit that was checked, moments from 0 to 10^12. -/
import Derived.Test.YtinnckbffblecaaGreatWin
namespace Go.Proofs.YtinnckbffblecaaGreat
open Go.RowKit
set_option linter.unusedVariables false
set_option linter.unusedSimpArgs false

set_option maxHeartbeats 1000000 in
theorem win_wait (l : Lim) (g : Nat) (at_ number now : Int) (v2 : Value) (w : World) (hb : WinAt w g l at_ number) (hp : 1 ≤ l.per) (hp2 : l.per ≤ 8640000000) (h0 : 0 ≤ now) (h1 : now ≤ 1000000000000) :
    Calls Tryz.prog 143 #[.pointer (some ⟨g, 0, none⟩), .int .i64 now, v2] w fun e w' => e = .returned (.int .i64 ((now / l.per + 1) * l.per - now)) ∧ New w w' := by
  have c3 := hb.cell 3
  simp at c3
  have h5 := Int.ediv_le_self l.per h0
  have h6 := Int.ediv_nonneg h0 (show 0 ≤ l.per by omega)
  have hp0 : (l.per == 0) = false := by simp; omega
  have e1 : IntKind.i64.wrap (now / l.per) = now / l.per := IntWalk.i64_in _ (by omega)
  have e2 : now.tdiv l.per = now / l.per := Int.tdiv_eq_ediv_of_nonneg h0
  have e3 : IntKind.i64.wrap (now / l.per + 1) = now / l.per + 1 := IntWalk.i64_in _ (by omega)
  have hmul := Int.mul_ediv_add_emod now l.per
  have hr0 := Int.emod_nonneg now (show l.per ≠ 0 by omega)
  have hr1 := Int.emod_lt_of_pos now (show 0 < l.per by omega)
  have hm : (now / l.per + 1) * l.per = l.per * (now / l.per) + l.per := by rw [Int.add_mul, Int.mul_comm]; omega
  have e4 : IntKind.i64.wrap ((now / l.per + 1) * l.per) = (now / l.per + 1) * l.per := IntWalk.i64_in _ (by omega)
  have e5 : IntKind.i64.wrap ((now / l.per + 1) * l.per - now) = (now / l.per + 1) * l.per - now := IntWalk.i64_in _ (by omega)
  clear hmul hr0 hr1 hm
  go_enter Tryz.func143, Tryz.ntmps143
  go_wp2_with fail
  go_quiet (fail)
  go_wp2_with fail
  go_ret
  exact ⟨rfl, (Mod.refl _ _).drewN _⟩

set_option maxHeartbeats 1000000 in
theorem win_idle (l : Lim) (g : Nat) (at_ number now : Int) (w : World) (hb : WinAt w g l at_ number) (hp : 1 ≤ l.per) (hp2 : l.per ≤ 8640000000) (h0 : 0 ≤ now) (h1 : now ≤ 1000000000000) :
    Calls Tryz.prog 141 #[.pointer (some ⟨g, 0, none⟩), .int .i64 now] w fun e w' => e = .returned (.bool (winUsed l at_ number now == 0)) ∧ New w w' := by
  go_enter Tryz.func141, Tryz.ntmps141
  go_wp2_with fail
  refine (win_used l g at_ number now _ hb hp hp2 h0 h1).mono ?_
  rintro e w' ⟨rfl, n, rfl⟩
  go_wp2_with fail
  go_ret
  exact ⟨rfl, (Mod.refl _ _).drewN _⟩

set_option maxHeartbeats 1000000 in
theorem bucket_wait (l : Lim) (g : Nat) (at0 level at1 cost : Int) (w : World) (hb : BucketAt w g l at0 level) (hl : BLim l) (h0 : 0 ≤ level) (h1 : level ≤ l.burst * l.per) (h2 : 0 ≤ at0) (h3 : at0 ≤ at1) (h4 : at1 ≤ 1000000000000)
    (hc0 : 0 ≤ cost) (hc1 : cost ≤ 1000000000) (hc2 : bucketNow l at0 level at1 ≤ cost * l.per) :
    Calls Tryz.prog 164 #[.pointer (some ⟨g, 0, none⟩), .int .i64 at1, .int .i64 cost] w fun e w' => e = .returned (.int .i64 (upDiv (cost * l.per - bucketNow l at0 level at1) l.most)) ∧ New w w' := by
  obtain ⟨hb1, hb2⟩ := bucketNow_bd l hl at0 level at1 h0 h1 h3
  obtain ⟨hf1, hf2⟩ := hl.full
  obtain ⟨hp1, hp2⟩ := hl.per
  obtain ⟨hm1, hm2⟩ := hl.most
  have hcp := Int.mul_nonneg hc0 (show 0 ≤ l.per by omega)
  have hcp2 : cost * l.per ≤ 1000000000 * 8640000000 := Int.mul_le_mul hc1 hp2 (by omega) (by omega)
  have c2 := hb.cell 2
  have c3 := hb.cell 3
  simp at c2 c3
  have e1 : IntKind.i64.wrap (cost * l.per) = cost * l.per := IntWalk.i64_in _ (by omega)
  have e2 : IntKind.i64.wrap (cost * l.per - bucketNow l at0 level at1) = cost * l.per - bucketNow l at0 level at1 := IntWalk.i64_in _ (by omega)
  go_enter Tryz.func164, Tryz.ntmps164
  go_wp2_with fail
  go_quiet ((first | (go_at_call 165; exact quiet_drew (bucket_now l g at0 level at1 _ (by exact hb) hl h0 h1 h2 h3 h4)) | (go_at_call 166; exact quiet_left (up_any _ _ _ (by omega) (by omega) (by omega) (by omega)))))
  go_wp2_with fail
  go_ret
  exact ⟨rfl, (Mod.refl _ _).drewN _⟩

set_option maxHeartbeats 1000000 in
theorem bucket_idle (l : Lim) (g : Nat) (at0 level at1 : Int) (w : World) (hb : BucketAt w g l at0 level) (hl : BLim l) (h0 : 0 ≤ level) (h1 : level ≤ l.burst * l.per) (h2 : 0 ≤ at0) (h3 : at0 ≤ at1) (h4 : at1 ≤ 1000000000000) :
    Calls Tryz.prog 162 #[.pointer (some ⟨g, 0, none⟩), .int .i64 at1] w fun e w' => e = .returned (.bool (bucketNow l at0 level at1 == l.burst * l.per)) ∧ New w w' := by
  obtain ⟨hb1, hb2⟩ := bucketNow_bd l hl at0 level at1 h0 h1 h3
  obtain ⟨hf1, hf2⟩ := hl.full
  have c3 := hb.cell 3
  have c4 := hb.cell 4
  simp at c3 c4
  have e1 : IntKind.i64.wrap (l.burst * l.per) = l.burst * l.per := IntWalk.i64_in _ (by omega)
  go_enter Tryz.func162, Tryz.ntmps162
  go_wp2_with fail
  go_quiet ((go_at_call 165; exact quiet_drew (bucket_now l g at0 level at1 _ hb hl h0 h1 h2 h3 h4)))
  go_wp2_with fail
  go_ret
  exact ⟨rfl, (Mod.refl _ _).drewN _⟩

end Go.Proofs.YtinnckbffblecaaGreat
