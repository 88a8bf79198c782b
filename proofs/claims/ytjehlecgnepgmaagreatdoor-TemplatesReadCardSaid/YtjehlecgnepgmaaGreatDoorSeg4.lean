/- What is wrong with a path; words (packages message and value). Conditions: strings of modest size. -/
import Derived.Test.YtjehlecgnepgmaaGreatDoorSeg3
namespace Go.Proofs.YtjehlecgnepgmaaGreatDoor
open Go.RowKit
set_option linter.unusedVariables false
set_option linter.unusedSimpArgs false

/-- what is wrong with the path of a request -/
def pathBad (l : List UInt8) : Int := if 1000 < l.length then 3 else if Lib.hasPrefix l [47] = false then 3 else if inR 33 126 l = false then 3 else if Lib.containsAny l [63, 35] = true then 3 else 0
theorem inR_ascii {l : List UInt8} (h : inR 33 126 l = true) : ∀ (j : Nat) (b : UInt8), l[j]? = some b → b.toNat < 128 := by
  intro j b hb
  unfold inR at h
  rw [List.all_eq_true] at h
  have := h b (List.mem_of_getElem? hb)
  simp only [Bool.and_eq_true, decide_eq_true_eq] at this
  omega
theorem asciiAll {l : List UInt8} (h : l.all (fun b => decide (b.toNat < 128)) = true) : ∀ (j : Nat) (b : UInt8), l[j]? = some b → b.toNat < 128 :=
  fun _ b hb => of_decide_eq_true (List.all_eq_true.1 h b (List.mem_of_getElem? hb))
set_option maxHeartbeats 2000000 in
theorem msg_pathFault (s : ByteArray) (w : World) (hs : s.size ≤ 900000) :
    Calls Tryz.prog 63 #[.string s] w fun e w' => e = .returned (.int .i64 (pathBad s.data.toList)) ∧ New w w' := by
  have hp := Tryz.strings_HasPrefix s ⟨#[47]⟩ w
  have hr := msg_isRange s 33 126 w (by unfold maxLen; omega)
  have hlen : s.data.toList.length = s.size := rfl
  by_cases h1 : 1000 < s.size
  · have HP : Hid (pathBad s.data.toList = 3) := Lib.hid (by unfold pathBad; rw [if_pos (by omega)])
    have h1' : (1000 : Int) < (s.size : Int) := by omega
    clear hlen
    go_enter Tryz.func63, Tryz.ntmps63
    go_wp2_with fail
    go_ret
    exact ⟨ret_int HP.out.symm, Mod.refl _ _⟩
  have hP1 : pathBad s.data.toList = if Lib.hasPrefix s.data.toList [47] = false then 3 else if inR 33 126 s.data.toList = false then 3 else if Lib.containsAny s.data.toList [63, 35] = true then 3 else 0 := by unfold pathBad; rw [if_neg (by omega)]
  have h1' : ¬ (1000 : Int) < (s.size : Int) := by omega
  clear h1
  rw [show (⟨#[47]⟩ : ByteArray).data.toList = [47] from rfl] at hp
  cases h2 : Lib.hasPrefix s.data.toList [47] <;> rw [h2] at hp hP1
  · have HP : Hid (pathBad s.data.toList = 3) := Lib.hid (by rw [hP1]; rfl)
    clear hlen hP1 hr h2
    go_enter Tryz.func63, Tryz.ntmps63
    go_wp2_with (first | (refine hp.mono ?_; clear hp; rintro e w' ⟨rfl, rfl⟩))
    go_ret
    exact ⟨ret_int HP.out.symm, Mod.refl _ _⟩
  rw [if_neg (by decide)] at hP1
  cases h3 : inR 33 126 s.data.toList <;> rw [h3] at hr hP1
  · have HP : Hid (pathBad s.data.toList = 3) := Lib.hid (by rw [hP1]; rfl)
    clear hlen hP1 h2 h3
    go_enter Tryz.func63, Tryz.ntmps63
    go_wp2_with (first | (refine hp.mono ?_; clear hp; rintro e w' ⟨rfl, rfl⟩) | (refine hr.mono ?_; clear hr; rintro e w' ⟨rfl, rfl⟩))
    go_ret
    exact ⟨ret_int HP.out.symm, Mod.refl _ _⟩
  rw [if_neg (by decide)] at hP1
  have hc := Tryz.strings_ContainsAny_laid s ⟨#[63, 35]⟩ w (by omega) (by decide) (inR_ascii h3) (asciiAll (by decide))
  rw [show (⟨#[63, 35]⟩ : ByteArray).data.toList = [63, 35] from rfl] at hc
  generalize Lib.containsAny s.data.toList [63, 35] = q at *
  cases q
  · have HP : Hid (pathBad s.data.toList = 0) := Lib.hid (by rw [hP1]; rfl)
    clear hlen hP1 h2 h3
    go_enter Tryz.func63, Tryz.ntmps63
    go_wp2_with (first | (refine hp.mono ?_; clear hp; rintro e w' ⟨rfl, rfl⟩) | (refine hr.mono ?_; clear hr; rintro e w' ⟨rfl, rfl⟩) | (refine hc.mono ?_; clear hc; rintro e w2 ⟨rfl, hm2⟩; have hm2 := Lib.hid hm2))
    go_ret
    exact ⟨ret_int HP.out.symm, Mod.of_below hm2.out⟩
  · have HP : Hid (pathBad s.data.toList = 3) := Lib.hid (by rw [hP1]; rfl)
    clear hlen hP1 h2 h3
    go_enter Tryz.func63, Tryz.ntmps63
    go_wp2_with (first | (refine hp.mono ?_; clear hp; rintro e w' ⟨rfl, rfl⟩) | (refine hr.mono ?_; clear hr; rintro e w' ⟨rfl, rfl⟩) | (refine hc.mono ?_; clear hc; rintro e w2 ⟨rfl, hm2⟩; have hm2 := Lib.hid hm2))
    go_ret
    exact ⟨ret_int HP.out.symm, Mod.of_below hm2.out⟩

theorem reserved_at {w : World} {g : Nat} (h : Blk w g 9 (reserved.map Value.string).toArray) (j : Nat) (hj : j < reserved.length) : w.cell? ⟨g, 0 + j, none⟩ = some (.string (reserved.getD j ByteArray.empty)) := by
  rw [Nat.zero_add, h.cell]
  match j, hj with
  | 0, _ => rfl
  | 1, _ => rfl
  | 2, _ => rfl
  | 3, _ => rfl
  | 4, _ => rfl
  | 5, _ => rfl
  | n + 6, hj => exact absurd hj (by simp [reserved])
set_option maxHeartbeats 1000000 in
theorem val_isReserved (s : ByteArray) (w : World) :
    Calls Tryz.prog 101 #[.string s] w fun e w' => e = .returned (.bool (Lib.containsS reserved s)) ∧ New w w' := by
  have hb := Blk.new w 9 (reserved.map Value.string).toArray
  have hct := Tryz.slices_Contains_string w.heap.size 0 6 6 reserved s (w.alloc (.cells (reserved.map Value.string).toArray 9)) (by decide) (by decide) (fun j hj => reserved_at hb j hj)
  rw [show reserved.take 6 = reserved from rfl] at hct
  have hm : New w (w.alloc (.cells (reserved.map Value.string).toArray 9)) := (Mod.refl _ _).alloc _
  rw [show (reserved.map Value.string).toArray = #[.string ⟨#[110, 117, 108, 108]⟩, .string ⟨#[116, 114, 117, 101]⟩, .string ⟨#[102, 97, 108, 115, 101]⟩, .string ⟨#[105, 110]⟩, .string ⟨#[101, 97, 99, 104]⟩, .string ⟨#[119, 104, 101, 114, 101]⟩] from rfl] at hct hm
  have HM := Lib.hid hm
  generalize Lib.containsS reserved s = q at *
  clear hb hm
  go_enter Tryz.func101, Tryz.ntmps101
  go_wp2_with (first | (refine hct.mono ?_; clear hct; rintro e w' ⟨rfl, rfl⟩))
  go_ret
  exact ⟨rfl, HM.out⟩
theorem mkList (s : ByteArray) : (⟨s.data.toList.toArray⟩ : ByteArray) = s := by cases s; simp
set_option maxHeartbeats 1000000 in
theorem val_isWord (s : ByteArray) (w : World) (hs : s.size ≤ maxLen) :
    Calls Tryz.prog 61 #[.string s] w fun e w' => e = .returned (.bool (isWord s.data.toList)) ∧ New w w' := by
  have hr := val_isRow s w hs
  have hv := val_isReserved s w
  have HW : Hid (isWord s.data.toList = ((plainRow s.data.toList && decide (s.size ≤ 40)) && !Lib.containsS reserved s)) := Lib.hid (by unfold isWord; rw [mkList]; rfl)
  generalize (plainRow s.data.toList && decide (s.size ≤ 40)) = p at *
  generalize Lib.containsS reserved s = q at *
  generalize isWord s.data.toList = r at *
  cases p
  · go_enter Tryz.func61, Tryz.ntmps61
    go_wp2_with (first | (refine hr.mono ?_; clear hr; rintro e w' ⟨rfl, rfl⟩))
    go_ret
    exact ⟨ret_bool HW.out.symm, Mod.refl _ _⟩
  · go_enter Tryz.func61, Tryz.ntmps61
    go_wp2_with (first | (refine hr.mono ?_; clear hr; rintro e w' ⟨rfl, rfl⟩) | (refine hv.mono ?_; clear hv; rintro e w2 ⟨rfl, hm2⟩; have hm2 := Lib.hid hm2))
    go_ret
    exact ⟨ret_bool HW.out.symm, hm2.out⟩

end Go.Proofs.YtjehlecgnepgmaaGreatDoor
