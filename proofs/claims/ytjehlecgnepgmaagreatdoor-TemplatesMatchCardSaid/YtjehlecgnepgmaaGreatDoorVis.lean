/- The reference's tests on the text of a path (gateref2: in, visible, pathForm), one digit in hexadecimal, a byte with %. Conditions: a text of modest size. -/
import Derived.Test.YtjehlecgnepgmaaGreatDoorSegGrp
import Derived.Test.YtjehlecgnepgmaaGreatDoorTplT1Grp
namespace Go.Proofs.YtjehlecgnepgmaaGreatDoor
open Go.RowKit
set_option linter.unusedVariables false
set_option linter.unusedSimpArgs false

set_option maxHeartbeats 1000000 in
theorem ref2_in (n a b : Int) (w : World) :
    Calls Tryz.prog 145 #[.int .i64 n, .int .i64 a, .int .i64 b] w fun e w' => e = .returned (.bool (decide (a ≤ n) && decide (n ≤ b))) ∧ w = w' := by
  by_cases h : a ≤ n
  · go_enter Tryz.func145, Tryz.ntmps145
    go_wp2
    go_ret
    exact ⟨by simp [h], rfl⟩
  · have h' : decide (a ≤ n) = false := by simpa using h
    go_enter Tryz.func145, Tryz.ntmps145
    go_wp2
    go_ret
    exact ⟨by simp [h'], rfl⟩
set_option maxHeartbeats 1000000 in
theorem ref2_visible (s : ByteArray) (lo : Nat) (w : World) (hs : s.size ≤ maxLen) :
    Calls Tryz.prog 146 #[.string s, .int .u8 (lo : Int)] w fun e w' => e = .returned (.bool (inR lo 126 s.data.toList)) ∧ w = w' := by
  unfold maxLen at hs
  go_enter Tryz.func146, Tryz.ntmps146
  go_wp2_with fail
  go_loop [8] (fun v => ∃ k : Nat, k ≤ s.size ∧ v = .int .i64 k ∧ Hid (inR lo 126 (s.data.toList.take k) = true)) (fun v => s.size - (intOf v).toNat)
  case atStart => exact ⟨0, Nat.zero_le _, rfl, Lib.hid rfl⟩
  case round =>
    obtain ⟨k, hk, rfl, HR⟩ := hrel
    by_cases hlt : k < s.size
    · have hkl : k < s.data.toList.length := hlt
      have hg : s.data.toList[k] = s[k] := rfl
      have HT : Hid (inR lo 126 (s.data.toList.take (k + 1)) = (decide (lo ≤ s[k].toNat) && decide (s[k].toNat ≤ 126))) := Lib.hid (by have := HR.out; unfold inR at *; rw [all_take hkl, this, hg]; rfl)
      have HF : Hid ((decide (lo ≤ s[k].toNat) && decide (s[k].toNat ≤ 126)) = false → inR lo 126 s.data.toList = false) := Lib.hid (fun h => all_stop hkl (by rw [hg]; exact h))
      clear hg
      by_cases hb : lo ≤ s[k].toNat ∧ s[k].toNat ≤ 126
      · obtain ⟨b1, b2⟩ := hb
        have HB : Hid ((decide (lo ≤ s[k].toNat) && decide (s[k].toNat ≤ 126)) = true) := Lib.hid (by simp [b1, b2])
        have c1 : ¬ ((s[k].toNat : Int) < (lo : Int)) := by omega
        have c2 : ¬ ((126 : Int) < (s[k].toNat : Int)) := by omega
        go_wp2_with fail
        exact ⟨⟨k + 1, by omega, by go_num, Lib.hid (HT.out.trans HB.out)⟩, by simp [intOf]; omega⟩
      · have HB : Hid ((decide (lo ≤ s[k].toNat) && decide (s[k].toNat ≤ 126)) = false) := Lib.hid (by simp; omega)
        have hb' : ((s[k].toNat : Int) < (lo : Int)) ∨ ¬ ((s[k].toNat : Int) < (lo : Int)) ∧ ((126 : Int) < (s[k].toNat : Int)) := by omega
        clear hb
        rcases hb' with b1 | ⟨b1, b2⟩
        all_goals go_wp2_with fail
        all_goals go_ret
        all_goals exact ⟨ret_bool (HF.out HB.out).symm, rfl⟩
    · obtain rfl : k = s.size := by omega
      have hfull : s.data.toList.take s.size = s.data.toList := List.take_length
      rw [hfull] at HR
      clear hfull
      go_wp2_with fail
      go_ret
      exact ⟨ret_bool HR.out.symm, rfl⟩

theorem prefix_headN {l : List UInt8} {c : UInt8} (h : 0 < l.length) : Lib.hasPrefix l [c] = decide (l[0] = c) := by
  cases l with
  | nil => simp at h
  | cons a r =>
    simp only [Lib.hasPrefix, List.isPrefixOf, Bool.and_true, List.getElem_cons_zero]
    rw [Bool.eq_iff_iff]
    simp only [beq_iff_eq, decide_eq_true_eq]
    exact eq_comm
set_option maxHeartbeats 2000000 in
theorem ref2_pathForm (s : ByteArray) (w : World) (hs : s.size ≤ 900000) :
    Calls Tryz.prog 118 #[.string s] w fun e w' => e = .returned (.bool (decide (pathBad s.data.toList = 0))) ∧ New w w' := by
  have hin := ref2_in s.size 1 1000 w
  have hr := ref2_visible s 33 w (by unfold maxLen; omega)
  have hlen : s.data.toList.length = s.size := rfl
  by_cases h1 : 1 ≤ s.size ∧ s.size ≤ 1000
  rotate_left
  · have hb : (decide ((1 : Int) ≤ (s.size : Int)) && decide ((s.size : Int) ≤ 1000)) = false := by simp; omega
    rw [hb] at hin
    have HP : Hid (decide (pathBad s.data.toList = 0) = false) := Lib.hid (by
      rw [decide_eq_false_iff_not]
      unfold pathBad
      by_cases h2 : 1000 < s.data.toList.length
      · rw [if_pos h2]; decide
      · rw [if_neg h2]
        have h0 : s.data.toList = [] := List.eq_nil_of_length_eq_zero (by omega)
        rw [h0]
        decide)
    clear hlen hr hb h1
    go_enter Tryz.func118, Tryz.ntmps118
    go_wp2_with (first | (refine hin.mono ?_; clear hin; rintro e w' ⟨rfl, rfl⟩))
    go_ret
    exact ⟨ret_bool HP.out.symm, Mod.refl _ _⟩
  have hb : (decide ((1 : Int) ≤ (s.size : Int)) && decide ((s.size : Int) ≤ 1000)) = true := by simp; omega
  rw [hb] at hin
  have h0 : 0 < s.size := by omega
  have hpx := prefix_headN (l := s.data.toList) (c := 47) (by omega)
  have hg : s.data.toList[0]'(by omega) = s[0]'h0 := rfl
  rw [hg] at hpx
  have hP1 : pathBad s.data.toList = if Lib.hasPrefix s.data.toList [47] = false then 3 else if inR 33 126 s.data.toList = false then 3 else if Lib.containsAny s.data.toList [63, 35] = true then 3 else 0 := by unfold pathBad; rw [if_neg (by omega)]
  rw [hpx] at hP1
  have hsz : s.size ≤ 1000 := h1.2
  clear hb h1 hpx hg
  by_cases h2 : s[0] = 47
  rotate_left
  · have HP : Hid (decide (pathBad s.data.toList = 0) = false) := Lib.hid (by rw [decide_eq_false h2, if_pos rfl] at hP1; rw [hP1]; rfl)
    have hc : ((s[0].toNat : Int) == 47) = false := by
      simp only [beq_eq_false_iff_ne, ne_eq]
      intro h
      exact h2 (UInt8.toNat_inj.1 (by have : (47 : UInt8).toNat = 47 := rfl; omega))
    clear hlen hr hP1 h2
    go_enter Tryz.func118, Tryz.ntmps118
    go_wp2_with (first | (refine hin.mono ?_; clear hin; rintro e w' ⟨rfl, rfl⟩))
    go_ret
    exact ⟨ret_bool HP.out.symm, Mod.refl _ _⟩
  rw [decide_eq_true h2, if_neg (by decide)] at hP1
  have hc : ((s[0].toNat : Int) == 47) = true := by rw [h2]; rfl
  clear h2
  cases h3 : inR 33 126 s.data.toList <;> rw [h3] at hr hP1
  · have HP : Hid (decide (pathBad s.data.toList = 0) = false) := Lib.hid (by rw [hP1]; rfl)
    clear hlen hP1 h3
    go_enter Tryz.func118, Tryz.ntmps118
    go_wp2_with (first | (refine hin.mono ?_; clear hin; rintro e w' ⟨rfl, rfl⟩) | (refine hr.mono ?_; clear hr; rintro e w' ⟨rfl, rfl⟩))
    go_ret
    exact ⟨ret_bool HP.out.symm, Mod.refl _ _⟩
  rw [if_neg (by decide)] at hP1
  have hca := Tryz.strings_ContainsAny_laid s ⟨#[63, 35]⟩ w (by omega) (by decide) (inR_ascii h3) (asciiAll (by decide))
  rw [show (⟨#[63, 35]⟩ : ByteArray).data.toList = [63, 35] from rfl] at hca
  generalize Lib.containsAny s.data.toList [63, 35] = q at *
  have HP : Hid (decide (pathBad s.data.toList = 0) = !q) := Lib.hid (by rw [hP1]; cases q <;> rfl)
  clear hlen hP1 h3
  cases q
  all_goals
    go_enter Tryz.func118, Tryz.ntmps118
    go_wp2_with (first | (refine hin.mono ?_; clear hin; rintro e w' ⟨rfl, rfl⟩) | (refine hr.mono ?_; clear hr; rintro e w' ⟨rfl, rfl⟩) | (refine hca.mono ?_; clear hca; rintro e w2 ⟨rfl, hm2⟩; have hm2 := Lib.hid hm2))
    go_ret
    exact ⟨ret_bool (by rw [HP.out]; rfl), Mod.of_below hm2.out⟩

theorem digit_cut (m : Nat) (h : m < 16) : upB.extract m (m + 1) = ⟨#[upHex m]⟩ := by
  match m, h with
  | 0, _ => rfl
  | 1, _ => rfl
  | 2, _ => rfl
  | 3, _ => rfl
  | 4, _ => rfl
  | 5, _ => rfl
  | 6, _ => rfl
  | 7, _ => rfl
  | 8, _ => rfl
  | 9, _ => rfl
  | 10, _ => rfl
  | 11, _ => rfl
  | 12, _ => rfl
  | 13, _ => rfl
  | 14, _ => rfl
  | 15, _ => rfl
  | n + 16, h => exact absurd h (by omega)
set_option maxHeartbeats 1000000 in
theorem ref2_digits0 (m : Nat) (h : m < 16) (n : Int) (hn : n = m) (w : World) :
    Calls Tryz.prog 123 #[.int .u8 n] w fun e w' => e = .returned (.string ⟨#[upHex m]⟩) ∧ w = w' := by
  have h0 : 0 ≤ n := by omega
  have h1 : n < 16 := by omega
  have h2 : n + 1 ≤ 16 := by omega
  have hz : (⟨#[48, 49, 50, 51, 52, 53, 54, 55, 56, 57, 65, 66, 67, 68, 69, 70]⟩ : ByteArray).size = 16 := rfl
  have HD : Hid (upB.extract n.toNat (n + 1).toNat = ⟨#[upHex m]⟩) := Lib.hid (by
    have e1 : n.toNat = m := by omega
    have e2 : (n + 1).toNat = m + 1 := by omega
    rw [e1, e2]
    exact digit_cut m h)
  clear hn h
  go_enter Tryz.func123, Tryz.ntmps123
  go_wp2_with fail
  go_ret
  exact ⟨by rw [← HD.out]; rfl, rfl⟩
set_option maxHeartbeats 1000000 in
theorem ref2_coded (c : UInt8) (w : World) :
    Calls Tryz.prog 91 #[.int .u8 (c.toNat : Int)] w fun e w' => e = .returned (.string ⟨#[37, upHex (c.toNat / 16), upHex (c.toNat % 16)]⟩) ∧ w = w' := by
  have hc := c.toNat_lt
  have d1 := ref2_digits0 (c.toNat / 16) (by omega) ((c.toNat : Int) / 16) (by omega) w
  have d2 := ref2_digits0 (c.toNat % 16) (by omega) ((c.toNat : Int) % 16) (by omega) w
  obtain ⟨n, hn⟩ : ∃ n : Int, n = (c.toNat : Int) := ⟨_, rfl⟩
  have h0 : 0 ≤ n := by omega
  have h1 : n < 256 := by omega
  generalize upHex (c.toNat / 16) = u at *
  generalize upHex (c.toNat % 16) = v at *
  rw [← hn] at d1 d2 ⊢
  have q0 : 0 ≤ n / 16 := by omega
  have q1 : n / 16 < 16 := by omega
  have r0 : 0 ≤ n % 16 := by omega
  have r1 : n % 16 < 16 := by omega
  have s1 : ∀ x : UInt8, (⟨#[x]⟩ : ByteArray).size = 1 := fun x => rfl
  have ha1 : ¬ 9223372036854775807 < (⟨#[37]⟩ : ByteArray).size + (⟨#[u]⟩ : ByteArray).size := by rw [s1, s1]; omega
  have ha2 : ¬ 9223372036854775807 < ((⟨#[37]⟩ : ByteArray) ++ ⟨#[u]⟩).size + (⟨#[v]⟩ : ByteArray).size := by rw [ByteArray.size_append, s1, s1, s1]; omega
  clear hn hc s1
  go_enter Tryz.func91, Tryz.ntmps91
  go_wp2_with (first | (refine d1.mono ?_; clear d1; rintro e w' ⟨rfl, rfl⟩) | (refine d2.mono ?_; clear d2; rintro e w' ⟨rfl, rfl⟩))
  go_ret
  exact ⟨rfl, rfl⟩

end Go.Proofs.YtjehlecgnepgmaaGreatDoor
