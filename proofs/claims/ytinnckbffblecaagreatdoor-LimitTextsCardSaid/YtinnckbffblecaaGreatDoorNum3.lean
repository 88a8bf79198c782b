/- Reading numbers, walked: the reference's. Conditions: the string is short enough to be counted; strconv's table. -/
import Derived.Test.YtinnckbffblecaaGreatDoorNum2
namespace Go.Proofs.YtinnckbffblecaaGreatDoor
open Go.RowKit
set_option linter.unusedVariables false
set_option linter.unusedSimpArgs false

def digChars : ByteArray := ⟨#[48, 49, 50, 51, 52, 53, 54, 55, 56, 57]⟩
theorem digChars_at (c : UInt8) : decide (0 ≤ Lib.indexByte digChars.data.toList c) = isDig c := by
  revert c
  apply of_byte
  decide +kernel
theorem only_digs (D : ByteArray) (k : Nat) (hk : k ≤ D.size) : onlyTo D digChars k = (D.data.toList.take k).all isDig := by
  induction k with
  | zero => rfl
  | succ k ih =>
    have hkn : k < D.data.toList.length := by show k < D.size; omega
    rw [onlyTo_succ, ih (by omega), digChars_at, List.take_succ_eq_append_getElem hkn, List.all_append]
    have h1 : D[k]?.getD 0 = D.data.toList[k] := by
      simp [ByteArray.getElem_eq_getElem_data, show k < D.size by omega]
    rw [h1]
    simp

set_option maxHeartbeats 2000000 in
theorem ref_number (s : ByteArray) (w : World) (hs : s.size ≤ 1000000) (hT : Pow10 w) :
    Calls Tryz.prog 35 #[.string s, .int .i64 10] w (RNum s w) := by
  have htp := Tryz.strings_TrimPrefix s ⟨#[45]⟩ w
  generalize hD : (⟨(Lib.trimPrefix s.data.toList (⟨#[45]⟩ : ByteArray).data.toList).toArray⟩ : ByteArray) = D at *
  have hDl : D.data.toList = numD s := by subst hD; rfl
  have hDt : D.toList = numD s := by rw [ByteArray.toList_eq]; exact hDl
  have hst : s.toList = s.data.toList := ByteArray.toList_eq _
  have hsz : D.size = (numD s).length := by rw [← hDl]; rfl
  have hDs : D.size ≤ s.size := by
    have h1 : (numD s).length ≤ s.data.toList.length := by
      rcases numD_cases s with ⟨r, h1, h2⟩ | ⟨h1, h2⟩
      · rw [h1, h2]; simp
      · rw [h2]; exact Nat.le_refl _
    have h2 : s.data.toList.length = s.size := rfl
    omega
  have honly := ref_only D digChars w (by unfold maxLen; omega)
  rw [only_digs D D.size (Nat.le_refl _), List.take_of_length_le (show D.data.toList.length ≤ D.size from Nat.le_refl _), hDl] at honly
  have HDL := Lib.hid hDl
  have HDT := Lib.hid hDt
  have HST := Lib.hid hst
  have HSZ := Lib.hid hsz
  have HT := Lib.hid hT
  unfold digChars at honly
  clear hDl hDt hst hsz hD hT
  by_cases e0 : numD s = []
  · have hd0 : (D.toList == []) = true := by rw [HDT.out, e0]; rfl
    have HF : Hid (numOk s = false) := Lib.hid (by unfold numOk; rw [e0]; rfl)
    clear e0 honly
    go_enter Tryz.func35, Tryz.ntmps35
    go_wp2_with fail
    refine htp.mono ?_
    clear htp
    rintro e w1 ⟨rfl, rfl⟩
    go_wp2_with fail
    go_ret2
    exact numOk_false HF.out (Mod.refl _ _)
  · have hd0 : (D.toList == []) = false := by rw [HDT.out]; simpa using e0
    by_cases e1 : 10 < D.size
    · have hd1 : decide ((10 : Int) < (D.size : Int)) = true := by simp; omega
      have HF : Hid (numOk s = false) := Lib.hid (by
        have : decide ((numD s).length ≤ 10) = false := by simp; have := HSZ.out; omega
        unfold numOk; rw [this]; simp)
      clear e0 honly
      go_enter Tryz.func35, Tryz.ntmps35
      go_wp2_with fail
      refine htp.mono ?_
      clear htp
      rintro e w1 ⟨rfl, rfl⟩
      go_wp2_with fail
      go_ret2
      exact numOk_false HF.out (Mod.refl _ _)
    · have hd1 : decide ((10 : Int) < (D.size : Int)) = false := by simp; omega
      cases hall : (numD s).all isDig with
      | false =>
        have HF : Hid (numOk s = false) := Lib.hid (by unfold numOk; rw [hall]; simp)
        rw [hall] at honly
        clear e0 hall
        go_enter Tryz.func35, Tryz.ntmps35
        go_wp2_with fail
        refine htp.mono ?_
        clear htp
        rintro e w1 ⟨rfl, rfl⟩
        go_wp2_with fail
        refine honly.mono ?_
        clear honly
        rintro e w2 ⟨rfl, rfl⟩
        go_wp2_with fail
        go_ret2
        exact numOk_false HF.out (Mod.refl _ _)
      | true =>
        obtain ⟨m, hm, hat⟩ := num_atoi e0 hall
        have hv : Lib.atoi s.data.toList = some (numV s) := by unfold numV; rw [hat]; rfl
        have hs18 : s.size ≤ 18 := by
          have h2 : s.data.toList.length = s.size := rfl
          have h3 := HSZ.out
          rcases numD_cases s with ⟨r, q1, q2⟩ | ⟨q1, q2⟩
          · rw [q1] at h2; rw [q2] at h3; simp at h2; omega
          · rw [q2] at h3; omega
        have hm18 : m < 1000000000000000000 := Lib.decFrom_lt18 hm (by have := HSZ.out; omega)
        have hi64 : I64 (numV s) := by
          unfold numV
          rw [hat]
          simp only [Option.getD_some]
          split <;> constructor <;> omega
        have hok : ((itoaB (numV s)).toList == s.toList) = numOk s := by
          have h1 := num_itoa e0 hall
          have h2 : (itoaB (numV s)).toList = Lib.itoa (numV s) := by rw [ByteArray.toList_eq]; simp [itoaB]
          have h4 : (numD s).isEmpty = false := by
            cases e : numD s with
            | nil => exact absurd e e0
            | cons _ _ => rfl
          have h5 : decide ((numD s).length ≤ 10) = true := by simp; have := HSZ.out; omega
          unfold numOk
          rw [h2, HST.out, hall, h4, h5, ← h1]
          rw [Bool.eq_iff_iff]; simp
        have hito := fun W (hW : New w W) => itoa_any (numV s) hi64 W (HT.out.new hW)
        have hato := Tryz.strconv_Atoi s (numV s) hs18 hv w
        have HOK := Lib.hid hok
        rw [hall] at honly
        clear e0 hall hm hat hv hok hi64
        go_enter Tryz.func35, Tryz.ntmps35
        go_wp2_with fail
        refine htp.mono ?_
        clear htp
        rintro e w1 ⟨rfl, rfl⟩
        go_wp2_with fail
        refine honly.mono ?_
        clear honly
        rintro e w2 ⟨rfl, rfl⟩
        go_wp2_with fail
        refine hato.mono ?_
        clear hato
        rintro e w5 ⟨rfl, t, rfl⟩
        have hm5 := bytes_new w1 5 t
        generalize Lib.bytesWorld w1 5 t = w5 at *
        go_wp2_with fail
        refine (hito w5 hm5).mono ?_
        clear hito
        rintro e w6 ⟨rfl, hm6⟩
        go_wp2_with fail
        go_ret2
        exact ⟨numV s, by rw [HOK.out]; rfl, fun _ => rfl, hm5.trans hm6⟩

end Go.Proofs.YtinnckbffblecaaGreatDoor
