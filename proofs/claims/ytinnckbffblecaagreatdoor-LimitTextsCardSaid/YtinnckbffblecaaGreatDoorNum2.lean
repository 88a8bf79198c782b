/- Reading numbers, walked: the kit's and the reference's. Conditions: the string is short enough to be counted; strconv's table. -/
import Derived.Test.YtinnckbffblecaaGreatDoorNum
import Derived.BigGuardPart
namespace Go.Proofs.YtinnckbffblecaaGreatDoor
open Go.RowKit
set_option linter.unusedVariables false
set_option linter.unusedSimpArgs false

theorem bytes_new (w : World) (e : TypeId) (t : ByteArray) : New w (Lib.bytesWorld w e t) := Mod.of_below (Lib.bytesWorld_below w e t)
def RNum (s : ByteArray) (w : World) (e : Ending) (w' : World) : Prop := ∃ v, e = .returned (.tuple #[.int .i64 v, .bool (numOk s)]) ∧ (numOk s = true → v = numV s) ∧ New w w'
theorem numOk_false {s : ByteArray} {w w' : World} {v : Int} (h : numOk s = false) (hm : New w w') : RNum s w (.returned (.tuple #[.int .i64 v, .bool false])) w' := ⟨v, by rw [h], (fun h2 => by rw [h] at h2; cases h2), hm⟩

set_option maxHeartbeats 2000000 in
theorem kit_number (s : ByteArray) (w : World) (hs : s.size ≤ 1000000) :
    Calls Tryz.prog 48 #[.string s, .int .i64 10] w (RNum s w) := by
  have htp := Tryz.strings_TrimPrefix s ⟨#[45]⟩ w
  generalize hD : (⟨(Lib.trimPrefix s.data.toList (⟨#[45]⟩ : ByteArray).data.toList).toArray⟩ : ByteArray) = D at *
  have hDl : D.data.toList = numD s := by subst hD; rfl
  have hDt : D.toList = numD s := by rw [ByteArray.toList_eq]; exact hDl
  have hst : s.toList = s.data.toList := ByteArray.toList_eq _
  have hsz : D.size = (numD s).length := by rw [← hDl]; rfl
  have HDL := Lib.hid hDl
  have HDT := Lib.hid hDt
  have HST := Lib.hid hst
  have HSZ := Lib.hid hsz
  have hDs : D.size ≤ s.size := by
    have h1 : (numD s).length ≤ s.data.toList.length := by
      rcases numD_cases s with ⟨r, h1, h2⟩ | ⟨h1, h2⟩
      · rw [h1, h2]; simp
      · rw [h2]; exact Nat.le_refl _
    have h2 : s.data.toList.length = s.size := rfl
    omega
  clear hDl hDt hst hsz hD
  by_cases e0 : numD s = []
  · have hd0 : (D.toList == []) = true := by rw [HDT.out, e0]; rfl
    have HF : Hid (numOk s = false) := Lib.hid (by unfold numOk; rw [e0]; rfl)
    clear e0
    go_enter Tryz.func48, Tryz.ntmps48
    go_wp2_with fail
    refine htp.mono ?_
    clear htp
    rintro e w1 ⟨rfl, rfl⟩
    go_wp2_with fail
    go_ret2
    exact numOk_false HF.out (Mod.refl _ _)
  · have hd0 : (D.toList == []) = false := by rw [HDT.out]; simpa using e0
    by_cases e1 : 10 < D.size
    · have hd1 : (10 : Int) < (D.size : Int) := by omega
      have HF : Hid (numOk s = false) := Lib.hid (by
        have : decide ((numD s).length ≤ 10) = false := by simp; have := HSZ.out; omega
        unfold numOk; rw [this]; simp)
      clear e0
      go_enter Tryz.func48, Tryz.ntmps48
      go_wp2_with fail
      refine htp.mono ?_
      clear htp
      rintro e w1 ⟨rfl, rfl⟩
      go_wp2_with fail
      go_ret2
      exact numOk_false HF.out (Mod.refl _ _)
    · have hpos : 0 < D.size := by
        have h1 : (numD s).length ≠ 0 := fun h => e0 (List.eq_nil_of_length_eq_zero h)
        have := HSZ.out
        omega
      have hd1 : ¬ (10 : Int) < (D.size : Int) := by omega
      have hhd : (numD s).head? = some D[0] := by
        rw [← HDL.out, List.head?_eq_getElem?]
        simp [ByteArray.getElem_eq_getElem_data, hpos]
      have HHD := Lib.hid hhd
      have HE0 := Lib.hid e0
      clear hhd e0
      by_cases e2 : D[0] = 48 ∧ s.data.toList ≠ [48]
      · have hd2 : ((D[0].toNat : Int) == 48) = true := by rw [e2.1]; rfl
        have hd3 : (s.toList == [48]) = false := by rw [HST.out]; simpa using e2.2
        have HF : Hid (numOk s = false) := Lib.hid (by
          unfold numOk
          rw [HHD.out, e2.1]
          have : decide (s.data.toList = [48]) = false := by simpa using e2.2
          rw [this]
          simp)
        clear e2
        go_enter Tryz.func48, Tryz.ntmps48
        go_wp2_with fail
        refine htp.mono ?_
        clear htp
        rintro e w1 ⟨rfl, rfl⟩
        go_wp2_with fail
        go_ret2
        exact numOk_false HF.out (Mod.refl _ _)
      · have HLZ : Hid ((decide ((numD s).head? ≠ some 48) || decide (s.data.toList = [48])) = true) := Lib.hid (by
          by_cases h48 : D[0] = 48
          · have : s.data.toList = [48] := by
              by_cases h : s.data.toList = [48]
              · exact h
              · exact absurd ⟨h48, h⟩ e2
            simp [this]
          · rw [HHD.out]
            simp [h48])
        have hcond : ((D[0].toNat : Int) == 48) = false ∨ ((D[0].toNat : Int) == 48) = true ∧ (s.toList == [48]) = true := by
          by_cases h48 : D[0] = 48
          · right
            refine ⟨by rw [h48]; rfl, ?_⟩
            rw [HST.out]
            by_cases h : s.data.toList = [48]
            · simpa using h
            · exact absurd ⟨h48, h⟩ e2
          · left
            simp only [beq_eq_false_iff_ne, ne_eq]
            intro h
            exact h48 (UInt8.toNat_inj.1 (by have : (48 : UInt8).toNat = 48 := rfl; omega))
        clear e2
        go_enter Tryz.func48, Tryz.ntmps48
        go_wp2_with fail
        refine htp.mono ?_
        clear htp
        rintro e w1 ⟨rfl, rfl⟩
        go_upto_region 2 with (fail)
        have HC := Lib.hid hcond
        clear hcond
        go_cut [28] (fun s28 wx => s28 = .bool false ∧ wx = w1)
        case first =>
          have hd9 : decide ((10 : Int) < (D.size : Int)) = false := by simpa using hd1
          rcases HC.out with hd2 | ⟨hd2, hd3⟩
          · go_wp2_with fail
            go_meet
            exact ⟨rfl, rfl⟩
          · go_wp2_with fail
            go_meet
            exact ⟨rfl, rfl⟩
        case rest =>
          obtain ⟨rfl, rfl⟩ := hcut
          go_wp2_with fail
          go_loopw [7] (fun i wr => ∃ k : Nat, k ≤ D.size ∧ i = .int .i64 k ∧ wr = wc ∧ Hid (((numD s).take k).all isDig = true)) (fun i _ => D.size - (intOf i).toNat)
          case atStart => exact ⟨0, Nat.zero_le _, rfl, rfl, Lib.hid rfl⟩
          case round =>
            obtain ⟨k, hk, rfl, rfl, HA⟩ := hrel
            by_cases hlt : k < D.size
            · have hkn : k < (numD s).length := by have := HSZ.out; omega
              have hDk : (numD s)[k] = D[k] := by
                have h1 : (numD s)[k]? = some D[k] := by
                  rw [← HDL.out]
                  simp [ByteArray.getElem_eq_getElem_data, hlt]
                rw [List.getElem?_eq_getElem hkn] at h1
                injection h1
              have HTK : Hid (((numD s).take (k + 1)).all isDig = (((numD s).take k).all isDig && isDig D[k])) := Lib.hid (by
                rw [List.take_succ_eq_append_getElem hkn, List.all_append, hDk]
                simp)
              clear hDk
              by_cases h1 : D[k].toNat < 48
              · have hd2 : decide ((D[k].toNat : Int) < 48) = true := by simp; omega
                have HF : Hid (numOk s = false) := Lib.hid (by
                  have hz : isDig D[k] = false := by unfold isDig; simp; omega
                  have hall : (numD s).all isDig = false := by
                    rw [List.all_eq_false]
                    have h3 := HTK.out
                    rw [hz, Bool.and_false, List.all_eq_false] at h3
                    obtain ⟨x, hx, hx2⟩ := h3
                    exact ⟨x, List.mem_of_mem_take hx, hx2⟩
                  unfold numOk; rw [hall]; simp)
                go_wp2_with fail
                go_ret2
                exact numOk_false HF.out (Mod.refl _ _)
              · have hd2 : decide ((D[k].toNat : Int) < 48) = false := by simp; omega
                by_cases h2 : 57 < D[k].toNat
                · have hd3 : decide ((57 : Int) < (D[k].toNat : Int)) = true := by simp; omega
                  have HF : Hid (numOk s = false) := Lib.hid (by
                    have hz : isDig D[k] = false := by unfold isDig; simp; omega
                    have hall : (numD s).all isDig = false := by
                      rw [List.all_eq_false]
                      have h3 := HTK.out
                      rw [hz, Bool.and_false, List.all_eq_false] at h3
                      obtain ⟨x, hx, hx2⟩ := h3
                      exact ⟨x, List.mem_of_mem_take hx, hx2⟩
                    unfold numOk; rw [hall]; simp)
                  go_wp2_with fail
                  go_ret2
                  exact numOk_false HF.out (Mod.refl _ _)
                · have hd3 : decide ((57 : Int) < (D[k].toNat : Int)) = false := by simp; omega
                  have hz : isDig D[k] = true := by unfold isDig; simp; omega
                  have HA2 : Hid (((numD s).take (k + 1)).all isDig = true) := Lib.hid (by rw [HTK.out, HA.out, hz]; rfl)
                  clear hz
                  go_wp2_with fail
                  exact ⟨⟨k + 1, by omega, by go_num, trivial, HA2⟩, by simp [intOf]; omega⟩
            · obtain rfl : k = D.size := by omega
              have hall : (numD s).all isDig = true := by
                have := HA.out
                rwa [List.take_of_length_le (by have := HSZ.out; omega)] at this
              obtain ⟨m, hm, hat⟩ := num_atoi HE0.out hall
              have hv : Lib.atoi s.data.toList = some (numV s) := by unfold numV; rw [hat]; rfl
              have hs18 : s.size ≤ 18 := by
                have h2 : s.data.toList.length = s.size := rfl
                have h3 := HSZ.out
                rcases numD_cases s with ⟨r, q1, q2⟩ | ⟨q1, q2⟩
                · rw [q1] at h2; rw [q2] at h3; simp at h2; omega
                · rw [q2] at h3; omega
              have HF : Hid (numOk s = true) := Lib.hid (by
                unfold numOk
                rw [hall, HLZ.out]
                have h1 : (numD s).isEmpty = false := by
                  cases e : numD s with
                  | nil => exact absurd e HE0.out
                  | cons _ _ => rfl
                have h2 : decide ((numD s).length ≤ 10) = true := by simp; have := HSZ.out; omega
                rw [h1, h2]; rfl)
              have hato := Tryz.strconv_Atoi s (numV s) hs18 hv wr
              clear hall hm hat hv
              go_wp2_with fail
              refine hato.mono ?_
              clear hato
              rintro e w5 ⟨rfl, t, rfl⟩
              go_wp2_with fail
              go_quiet (fail)
              go_wp2_with fail
              go_ret2
              exact ⟨numV s, by rw [HF.out]; rfl, fun _ => rfl, (bytes_new _ _ _).drewN _⟩

end Go.Proofs.YtinnckbffblecaaGreatDoor
