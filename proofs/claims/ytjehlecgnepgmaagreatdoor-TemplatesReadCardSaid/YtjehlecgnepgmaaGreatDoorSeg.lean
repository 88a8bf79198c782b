/- Segments of paths: their units read and written (package message). Conditions: strings of modest size. -/
import Derived.Test.YtjehlecgnepgmaaGreatDoorByts
import Derived.Test.YtjehlecgnepgmaaGreatDoorHex
import Derived.Test.YtjehlecgnepgmaaGreatDoorBw
import Derived.Test.YtjehlecgnepgmaaGreatDoorQuietTail
import Derived.Laws.BytesArg
namespace Go.Proofs.YtjehlecgnepgmaaGreatDoor
open Go.RowKit
set_option linter.unusedVariables false
set_option linter.unusedSimpArgs false

theorem byteBack (c : UInt8) : ((c.toNat : Int)).toNat.toUInt8 = c := by simp
theorem free4_at (c : UInt8) : decide (0 ≤ Lib.indexByte [45, 46, 95, 126] c) = (decide (c.toNat = 45) || decide (c.toNat = 46) || decide (c.toNat = 95) || decide (c.toNat = 126)) := by
  revert c
  apply byteOf
  decide +kernel
theorem mark_at (c : UInt8) : decide (0 ≤ Lib.indexByte markL c) = markL.contains c := by
  revert c
  apply byteOf
  decide +kernel
set_option maxHeartbeats 1000000 in
theorem msg_isFree (c : UInt8) (w : World) : Calls Tryz.prog 72 #[.int .u8 (c.toNat : Int)] w fun e w' => e = .returned (.bool (freeN c.toNat)) ∧ w = w' := by
  have hl := msg_isLetter c.toNat w
  have hd := msg_isDigit c.toNat w
  have hi := Tryz.strings_IndexByte ⟨#[45, 46, 95, 126]⟩ (c.toNat : Int) w
  rw [byteBack] at hi
  have HF := Lib.hid (free4_at c)
  generalize hr : Lib.indexByte (⟨#[45, 46, 95, 126]⟩ : ByteArray).data.toList c = r at hi
  have HR : Hid (Lib.indexByte [45, 46, 95, 126] c = r) := Lib.hid hr
  clear hr
  cases h : isLetN c.toNat <;> rw [h] at hl
  · cases h2 : isDigN c.toNat <;> rw [h2] at hd
    · go_enter Tryz.func72, Tryz.ntmps72
      go_wp2_with (first | (refine hl.mono ?_; clear hl; rintro e w' ⟨rfl, rfl⟩) | (refine hd.mono ?_; clear hd; rintro e w' ⟨rfl, rfl⟩) | (refine hi.mono ?_; clear hi; rintro e w' ⟨rfl, rfl⟩))
      all_goals go_ret
      all_goals (refine ⟨ret_bool ?_, rfl⟩)
      all_goals (have hk : freeN c.toNat = decide (0 ≤ r) := by (unfold freeN; rw [h, h2, Bool.false_or, Bool.false_or, ← HR.out, HF.out]))
      all_goals (first | exact hk.symm | (simp only [hk]; simp; done) | (simp only [hk]; simp; omega))
    · go_enter Tryz.func72, Tryz.ntmps72
      go_wp2_with (first | (refine hl.mono ?_; clear hl; rintro e w' ⟨rfl, rfl⟩) | (refine hd.mono ?_; clear hd; rintro e w' ⟨rfl, rfl⟩))
      go_ret
      exact ⟨ret_bool (by simp [freeN, h, h2]), rfl⟩
  · go_enter Tryz.func72, Tryz.ntmps72
    go_wp2_with (first | (refine hl.mono ?_; clear hl; rintro e w' ⟨rfl, rfl⟩))
    go_ret
    exact ⟨ret_bool (by simp [freeN, h]), rfl⟩

abbrev upB : ByteArray := ⟨#[48, 49, 50, 51, 52, 53, 54, 55, 56, 57, 65, 66, 67, 68, 69, 70]⟩
theorem upB_at (m : Nat) (h : m < 16) : upHex m = upB[m]'h := by
  match m, h with
  | 0, _ => rfl
  | 1, _ => rfl
  | 2, _ => rfl
  | 3, _ => rfl
  | 4, _ => rfl
  | 5, _ => rfl
  | 6, _ => rfl
  | 7, _ => rfl
  | 8, _ => rfl
  | 9, _ => rfl
  | 10, _ => rfl
  | 11, _ => rfl
  | 12, _ => rfl
  | 13, _ => rfl
  | 14, _ => rfl
  | 15, _ => rfl
  | n + 16, h => exact absurd h (by omega)
/-- a row of three bytes as a string -/
theorem three_bytes (w : World) (g : Nat) (a b c : UInt8) (cs : Array Value) (hcs : cs = #[.int .u8 (a.toNat : Int), .int .u8 (b.toNat : Int), .int .u8 (c.toNat : Int)]) (h : Blk w g 5 cs) :
    (convert 67 9 (.slice (some ⟨g, 0, none⟩) 3 3)).run Tryz.prog w = .ok (.string ⟨#[a, b, c]⟩) w := by
  subst hcs
  have := run_convert_bytes_arg (P := Tryz.prog) w 67 5 Tryz.underlying67 Tryz.underlying5 g 0 3 3 [(a.toNat : Int), (b.toNat : Int), (c.toNat : Int)] rfl (fun i hi => by
    rw [Nat.zero_add, h.cell]
    match i, hi with
    | 0, _ => rfl
    | 1, _ => rfl
    | 2, _ => rfl
    | n + 3, hi => exact absurd hi (by omega)) 9 Tryz.underlying9
  have e : strOfNums [(a.toNat : Int), (b.toNat : Int), (c.toNat : Int)] = ⟨#[a, b, c]⟩ := by
    unfold strOfNums
    simp only [List.map_cons, List.map_nil, Int.toNat_natCast, UInt8.ofNat_toNat]
  rw [e] at this
  exact this
set_option maxRecDepth 100000 in
set_option maxHeartbeats 1000000 in
theorem msg_percent (c : UInt8) (w : World) :
    Calls Tryz.prog 74 #[.int .u8 (c.toNat : Int)] w fun e w' => e = .returned (.string ⟨#[37, upHex (c.toNat / 16), upHex (c.toNat % 16)]⟩) ∧ New w w' := by
  have hc := c.toNat_lt
  obtain ⟨n, hn⟩ : ∃ n : Int, n = (c.toNat : Int) := ⟨_, rfl⟩
  have h0 : 0 ≤ n := by omega
  have h1 : n < 256 := by omega
  have q16 : (n / 16).toNat < 16 := by omega
  have r16 : (n % 16).toNat < 16 := by omega
  have eq : upHex (c.toNat / 16) = upB[(n / 16).toNat]'q16 := by rw [← upB_at _ q16]; congr 1; omega
  have er : upHex (c.toNat % 16) = upB[(n % 16).toNat]'r16 := by rw [← upB_at _ r16]; congr 1; omega
  rw [eq, er, ← hn]
  have d0 : 0 ≤ n / 16 := by omega
  have d1 : n / 16 < 16 := by omega
  have m0 : 0 ≤ n % 16 := by omega
  have m1 : n % 16 < 16 := by omega
  have HC : ∀ nr, (convert 67 9 (.slice (some ⟨w.heap.size, 0, none⟩) 3 3)).run Tryz.prog ((w.drewN nr).alloc (.cells #[.int .u8 37, .int .u8 ((upB[(n / 16).toNat]'q16).toNat : Int), .int .u8 ((upB[(n % 16).toNat]'r16).toNat : Int)] 5)) = .ok (.string ⟨#[37, upB[(n / 16).toNat]'q16, upB[(n % 16).toNat]'r16]⟩) ((w.drewN nr).alloc (.cells #[.int .u8 37, .int .u8 ((upB[(n / 16).toNat]'q16).toNat : Int), .int .u8 ((upB[(n % 16).toNat]'r16).toNat : Int)] 5)) := fun nr => three_bytes _ _ 37 _ _ _ rfl (Blk.new (w.drewN nr) _ _)
  have HC := Lib.hid HC
  clear hn eq er hc
  go_enter Tryz.func74, Tryz.ntmps74
  go_wp2_with fail
  refine wp_region_quiet_tail 6 (by kernel_rfl) (by kernel_rfl) ?_
  simp only [List.take_succ_cons, List.take_zero, List.drop_succ_cons, List.drop_zero]
  repeat (go_big_quiet_step (fail))
  refine wpQuiet_nil ?_
  intro _ hw'
  obtain ⟨nr, hw''⟩ := hw'
  subst hw''
  have hcv := HC.out nr
  go_wp2_with fail
  go_ret
  exact ⟨rfl, ((Mod.refl _ _).drewN _).alloc _⟩

end Go.Proofs.YtjehlecgnepgmaaGreatDoor
