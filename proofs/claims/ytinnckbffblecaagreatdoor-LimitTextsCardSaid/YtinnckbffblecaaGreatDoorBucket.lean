/- A bucket's arithmetic: what is in it at a moment. Conditions: the numbers of a limit that was checked, moments that rise. -/
import Derived.Test.YtinnckbffblecaaGreatDoorLimits
namespace Go.Proofs.YtinnckbffblecaaGreatDoor
open Go.RowKit
set_option linter.unusedVariables false
set_option linter.unusedSimpArgs false

theorem quiet_left {P : Program} {f : FuncId} {args : Array Value} {w : World} {n : Nat} {v : Value}
    (h : Calls P f args (w.drewN n) fun e w' => e = .returned v ∧ w.drewN n = w') : Calls P f args (w.drewN n) fun e w'' => e = .returned v ∧ ∃ m, w'' = w.drewN m :=
  h.mono fun _ _ ⟨he, hm⟩ => ⟨he, n, hm.symm⟩

theorem quiet_add {P : Program} {f : FuncId} {args : Array Value} {w : World} {a n : Nat} {v : Value}
    (h : Calls P f args (w.drewN (a + n)) fun e w' => e = .returned v ∧ w.drewN (a + n) = w') :
    Calls P f args (w.drewN (a + n)) fun e w'' => e = .returned v ∧ ∃ m, w'' = w.drewN (a + m) :=
  h.mono fun _ _ ⟨he, hm⟩ => ⟨he, n, hm.symm⟩

/-- a / b, rounded up -/
def upDiv (a b : Int) : Int := if a % b = 0 then a / b else a / b + 1
theorem upDiv_bd (a b : Int) (h0 : 0 ≤ a) (h1 : 1 ≤ b) : 0 ≤ upDiv a b ∧ upDiv a b ≤ a := by
  have h2 := Int.ediv_nonneg h0 (by omega : 0 ≤ b)
  have h3 := Int.mul_ediv_add_emod a b
  have h4 := Int.emod_nonneg a (by omega : b ≠ 0)
  have h5 : a / b ≤ b * (a / b) := by have := Int.mul_le_mul_of_nonneg_right h1 h2; omega
  unfold upDiv
  split <;> omega

theorem up_any (a b : Int) (w : World) (h0 : 0 ≤ a) (h1 : 1 ≤ b) (ha : a < 9223372036854775807) (hb : b ≤ 9223372036854775807) :
    Calls Tryz.prog 157 #[.int .i64 a, .int .i64 b] w fun e w' => e = .returned (.int .i64 (upDiv a b)) ∧ w = w' := by
  have h2 := Int.ediv_nonneg h0 (by omega : 0 ≤ b)
  have h3 := Int.ediv_le_self b h0
  have h4 := Int.emod_nonneg a (by omega : b ≠ 0)
  have hb0 : (b == 0) = false := by simp; omega
  by_cases hz : a % b = 0
  · have hz' : (a % b != 0) = false := by simp [hz]
    have HZ := Lib.hid hz
    clear hz
    go_enter Tryz.func157, Tryz.ntmps157
    go_wp2
    go_ret
    exact ⟨ret_int (by unfold upDiv; rw [if_pos HZ.out]), rfl⟩
  · have hz' : (a % b != 0) = true := by simp [hz]
    have HZ := Lib.hid hz
    clear hz
    go_enter Tryz.func157, Tryz.ntmps157
    go_wp2
    go_ret
    exact ⟨ret_int (by unfold upDiv; rw [if_neg HZ.out]), rfl⟩

/-- a bucket at block g -/
def BucketAt (w : World) (g : Nat) (l : Lim) (at_ level : Int) : Prop :=
  Blk w g 155 #[.string l.key, .int .i64 l.kind, .int .i64 l.most, .int .i64 l.per, .int .i64 l.burst, .int .i64 at_, .int .i64 level]

/-- the numbers of a bucket's limit that was checked -/
structure BLim (l : Lim) : Prop where
  most : 1 ≤ l.most ∧ l.most ≤ 1000000000
  per : 1 ≤ l.per ∧ l.per ≤ 8640000000
  burst : 1 ≤ l.burst ∧ l.burst ≤ 1000000000
theorem BLim.full {l : Lim} (h : BLim l) : 1 ≤ l.burst * l.per ∧ l.burst * l.per ≤ 8640000000000000000 := by
  have h1 := Int.mul_le_mul h.burst.1 h.per.1 (by omega) (by have := h.burst.1; omega)
  have h2 := Int.mul_le_mul h.burst.2 h.per.2 (by have := h.per.1; omega) (by omega)
  omega

def bucketNow (l : Lim) (at0 level at1 : Int) : Int :=
  if upDiv (l.burst * l.per - level) l.most ≤ at1 - at0 then l.burst * l.per else level + l.most * (at1 - at0)

theorem upDiv_mul (a b d : Int) (h0 : 0 ≤ a) (h1 : 1 ≤ b) (hd : d < upDiv a b) (hd0 : 0 ≤ d) : b * d < a := by
  have h3 := Int.mul_ediv_add_emod a b
  have h4 := Int.emod_nonneg a (by omega : b ≠ 0)
  unfold upDiv at hd
  split at hd
  · have h5 : b * d ≤ b * (a / b - 1) := Int.mul_le_mul_of_nonneg_left (by omega) (by omega)
    rw [Int.mul_sub] at h5
    omega
  · have h5 : b * d ≤ b * (a / b) := Int.mul_le_mul_of_nonneg_left (by omega) (by omega)
    omega

set_option maxHeartbeats 1000000 in
theorem bucket_now (l : Lim) (g : Nat) (at0 level at1 : Int) (w : World) (hb : BucketAt w g l at0 level) (hl : BLim l) (h0 : 0 ≤ level) (h1 : level ≤ l.burst * l.per) (h2 : 0 ≤ at0) (h3 : at0 ≤ at1) (h4 : at1 ≤ 1000000000000) :
    Calls Tryz.prog 156 #[.pointer (some ⟨g, 0, none⟩), .int .i64 at1] w fun e w' => e = .returned (.int .i64 (bucketNow l at0 level at1)) ∧ ∃ n, w' = w.drewN n := by
  obtain ⟨hf1, hf2⟩ := hl.full
  obtain ⟨hm1, hm2⟩ := hl.most
  have hub := upDiv_bd (l.burst * l.per - level) l.most (by omega) hm1
  have hc := hb.cell
  have c2 := hc 2
  have c3 := hc 3
  have c4 := hc 4
  have c5 := hc 5
  have c6 := hc 6
  simp at c2 c3 c4 c5 c6
  clear hc hb
  by_cases hge : upDiv (l.burst * l.per - level) l.most ≤ at1 - at0
  · go_enter Tryz.func156, Tryz.ntmps156
    go_wp2_with fail
    go_quiet (fail)
    go_wp2_with fail
    go_quiet ((go_at_call 157; exact quiet_add (up_any _ _ _ (by omega) (by omega) (by omega) (by omega))))
    go_wp2_with fail
    go_ret
    exact ⟨ret_int (by unfold bucketNow; rw [if_pos hge]), _, by rw [World.drewN_drewN]⟩
  · have hmu := upDiv_mul (l.burst * l.per - level) l.most (at1 - at0) (by omega) hm1 (by omega) (by omega)
    have hmu0 := Int.mul_nonneg (show 0 ≤ l.most by omega) (show 0 ≤ at1 - at0 by omega)
    have hmu1 : l.most * (at1 - at0) < l.burst * l.per - level := by omega
    clear hmu
    go_enter Tryz.func156, Tryz.ntmps156
    go_wp2_with fail
    go_quiet (fail)
    go_wp2_with fail
    go_quiet ((go_at_call 157; exact quiet_add (up_any _ _ _ (by omega) (by omega) (by omega) (by omega))))
    go_wp2_with fail
    go_quiet (fail)
    go_wp2_with fail
    go_ret
    exact ⟨ret_int (by unfold bucketNow; rw [if_neg (by omega)]), _, by rw [World.drewN_drewN, World.drewN_drewN]⟩

theorem bucketNow_bd (l : Lim) (hl : BLim l) (at0 level at1 : Int) (h0 : 0 ≤ level) (h1 : level ≤ l.burst * l.per) (h3 : at0 ≤ at1) :
    0 ≤ bucketNow l at0 level at1 ∧ bucketNow l at0 level at1 ≤ l.burst * l.per := by
  obtain ⟨hf1, hf2⟩ := hl.full
  obtain ⟨hm1, hm2⟩ := hl.most
  unfold bucketNow
  split
  · omega
  · have hmu := upDiv_mul (l.burst * l.per - level) l.most (at1 - at0) (by omega) hm1 (by omega) (by omega)
    have hmu0 := Int.mul_nonneg (show 0 ≤ l.most by omega) (show 0 ≤ at1 - at0 by omega)
    omega

theorem quiet_drew {P : Program} {f : FuncId} {args : Array Value} {w : World} {n : Nat} {v : Value}
    (h : Calls P f args (w.drewN n) fun e w' => e = .returned v ∧ ∃ m, w' = (w.drewN n).drewN m) : Calls P f args (w.drewN n) fun e w'' => e = .returned v ∧ ∃ m, w'' = w.drewN m :=
  h.mono fun _ _ ⟨he, m, hm⟩ => ⟨he, n + m, by rw [hm, World.drewN_drewN]⟩

set_option maxHeartbeats 1000000 in
theorem bucket_most (l : Lim) (g : Nat) (at0 level at1 : Int) (w : World) (hb : BucketAt w g l at0 level) (hl : BLim l) (h0 : 0 ≤ level) (h1 : level ≤ l.burst * l.per) (h2 : 0 ≤ at0) (h3 : at0 ≤ at1) (h4 : at1 ≤ 1000000000000) :
    Calls Tryz.prog 154 #[.pointer (some ⟨g, 0, none⟩), .int .i64 at1] w fun e w' => e = .returned (.int .i64 (bucketNow l at0 level at1 / l.per)) ∧ ∃ n, w' = w.drewN n := by
  obtain ⟨hb1, hb2⟩ := bucketNow_bd l hl at0 level at1 h0 h1 h3
  obtain ⟨hf1, hf2⟩ := hl.full
  obtain ⟨hp1, hp2⟩ := hl.per
  have c3 := hb.cell 3
  simp at c3
  have h5 := Int.ediv_le_self l.per hb1
  have h6 := Int.ediv_nonneg hb1 (show 0 ≤ l.per by omega)
  have hp0 : (l.per == 0) = false := by simp; omega
  go_enter Tryz.func154, Tryz.ntmps154
  go_wp2_with fail
  go_quiet ((go_at_call 156; exact quiet_drew (bucket_now l g at0 level at1 _ hb hl h0 h1 h2 h3 h4)))
  go_wp2_with fail
  go_ret
  exact ⟨rfl, _, rfl⟩

set_option maxHeartbeats 1000000 in
theorem bucket_add (l : Lim) (g : Nat) (at0 level at1 cost long : Int) (w : World) (hb : BucketAt w g l at0 level) (hl : BLim l) (h0 : 0 ≤ level) (h1 : level ≤ l.burst * l.per) (h2 : 0 ≤ at0) (h3 : at0 ≤ at1) (h4 : at1 ≤ 1000000000000)
    (hc0 : 0 ≤ cost) (hc1 : cost * l.per ≤ bucketNow l at0 level at1) :
    Calls Tryz.prog 152 #[.pointer (some ⟨g, 0, none⟩), .int .i64 at1, .int .i64 cost, .int .i64 long] w fun e w' => e = .returned (.tuple #[]) ∧ Only g w w' ∧ BucketAt w' g l at1 (bucketNow l at0 level at1 - cost * l.per) := by
  obtain ⟨hb1, hb2⟩ := bucketNow_bd l hl at0 level at1 h0 h1 h3
  obtain ⟨hf1, hf2⟩ := hl.full
  obtain ⟨hp1, hp2⟩ := hl.per
  have hcp := Int.mul_nonneg hc0 (show 0 ≤ l.per by omega)
  have c3 := hb.cell 3
  have c5 := hb.cell 5
  have c6 := hb.cell 6
  have f5 := hb.frozen 5
  have f6 := hb.frozen 6
  simp at c3 c5 c6
  have e1 : IntKind.i64.wrap (cost * l.per) = cost * l.per := IntWalk.i64_in _ (by omega)
  have e2 : IntKind.i64.wrap (bucketNow l at0 level at1 - cost * l.per) = bucketNow l at0 level at1 - cost * l.per := IntWalk.i64_in _ (by omega)
  go_enter Tryz.func152, Tryz.ntmps152
  go_wp2_with fail
  go_region_with (go_at_call 156; refine (bucket_now l g at0 level at1 _ (by exact hb) hl h0 h1 h2 h3 h4).mono ?_; rintro e w' ⟨rfl, n, rfl⟩)
  all_goals
    go_end0
    refine ⟨rfl, ?_, ?_⟩
    · exact (((Mod.refl (fun k => k = g) w).drewN _).setCell (p := ⟨g, 6, none⟩) (.inl rfl) _).setCell (p := ⟨g, 5, none⟩) (.inl rfl) _
    · have := (Blk.set (w := w.drewN (1 + n)) (by exact hb) 6 (.int .i64 (bucketNow l at0 level at1 - cost * l.per))).set 5 (.int .i64 at1)
      simpa [BucketAt] using this

end Go.Proofs.YtinnckbffblecaaGreatDoor
