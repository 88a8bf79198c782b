/- The reference's words and hexadecimal digits. Conditions: strings of modest size. -/
import Derived.Test.YtnbcfpjalgfikaaGreatDoorSegGrp
import Derived.Test.YtnbcfpjalgfikaaGreatDoorHexGrp
namespace Go.Proofs.YtnbcfpjalgfikaaGreatDoor
open Go.RowKit
set_option linter.unusedVariables false
set_option linter.unusedSimpArgs false

theorem empty_beq (l : List UInt8) : ((⟨l.toArray⟩ : ByteArray).toList == []) = decide (l = []) := by
  rw [ByteArray.toList_eq, Bool.eq_iff_iff]; simp
theorem plainRow_ne {l : List UInt8} (h : 0 < l.length) : plainRow l = (l.all (fun c => isWrdN c.toNat) && (isLetN l[0].toNat || decide (l[0].toNat = 95))) := by
  cases l with
  | nil => simp at h
  | cons a r => exact plainRow_eq
set_option maxRecDepth 100000 in
set_option maxHeartbeats 2000000 in
theorem ref_plainRow (s : ByteArray) (w : World) (hs : s.size ≤ 900000) :
    Calls Tryz.prog 152 #[.string s] w fun e w' => e = .returned (.bool (plainRow s.data.toList)) ∧ New w w' := by
  by_cases h0 : s.data.toList = []
  · have h1 : (s.toList == []) = true := by rw [ByteArray.toList_eq, h0]; rfl
    have HR : Hid (plainRow s.data.toList = false) := Lib.hid (by rw [h0]; rfl)
    clear h0
    go_enter Tryz.func152, Tryz.ntmps152
    go_wp2_with fail
    go_ret
    exact ⟨ret_bool HR.out.symm, Mod.refl _ _⟩
  · have h1 : (s.toList == []) = false := by rw [ByteArray.toList_eq]; simpa using h0
    have ht := Tryz.strings_Trim_set s wrdsB w (by omega) (by decide) (asciiAll (by decide))
    have htb := empty_beq (Lib.trimS s.data.toList wrdsB.data.toList)
    have htw : decide (Lib.trimS s.data.toList wrdsB.data.toList = []) = s.data.toList.all (fun c => isWrdN c.toNat) := by
      rw [Bool.eq_iff_iff, decide_eq_true_eq]; exact trim_word _
    rw [htw] at htb
    have hpos : 0 < s.size := by
      rcases Nat.eq_zero_or_pos s.size with h | h
      · exact absurd (List.eq_nil_of_length_eq_zero (show s.data.toList.length = 0 from h)) h0
      · exact h
    have HPR : Hid (plainRow s.data.toList = (s.data.toList.all (fun c => isWrdN c.toNat) && (isLetN s[0].toNat || decide (s[0].toNat = 95)))) := Lib.hid (by
      have hg : s[0] = s.data.toList[0]'hpos := rfl
      rw [hg]
      exact plainRow_ne hpos)
    have hi := fun W => Tryz.strings_IndexByte letsB (s[0].toNat : Int) W
    rw [byteBack] at hi
    have hla := lets_at s[0]
    generalize (isLetN s[0].toNat || decide (s[0].toNat = 95)) = p1 at *
    generalize Lib.indexByte letsB.data.toList s[0] = r at *
    generalize (s.data.toList.all fun c => isWrdN c.toNat) = p2 at *
    generalize plainRow s.data.toList = q at *
    generalize (⟨(Lib.trimS s.data.toList wrdsB.data.toList).toArray⟩ : ByteArray) = T at *
    unfold wrdsB at ht
    unfold letsB at hi
    have HI := Lib.hid hi
    clear hi h0 htw
    cases p2
    · go_enter Tryz.func152, Tryz.ntmps152
      go_wp2_with (first | (refine ht.mono ?_; clear ht; rintro e w2 ⟨rfl, hm2⟩; have hm2 := Lib.hid hm2))
      go_ret
      exact ⟨ret_bool HPR.out.symm, Mod.of_below hm2.out⟩
    · have hr : p1 = decide (0 ≤ r) := hla.symm
      subst hr
      go_enter Tryz.func152, Tryz.ntmps152
      go_wp2_with (first | (refine ht.mono ?_; clear ht; rintro e w2 ⟨rfl, hm2⟩; have hm2 := Lib.hid hm2; have hi := HI.out w2) | (refine hi.mono ?_; clear hi; rintro e w3 ⟨rfl, rfl⟩))
      all_goals go_ret
      all_goals exact ⟨ret_bool (by rw [HPR.out]; simp_all), Mod.of_below hm2.out⟩

set_option maxHeartbeats 2000000 in
theorem ref_word (s : ByteArray) (w : World) (hs : s.size ≤ 900000) :
    Calls Tryz.prog 118 #[.string s] w fun e w' => e = .returned (.bool (isWord s.data.toList)) ∧ New w w' := by
  have hp := ref_plainRow s w hs
  have HW : Hid (isWord s.data.toList = (plainRow s.data.toList && decide (s.size ≤ 40) && !Lib.containsS reserved s)) := Lib.hid (by unfold isWord; rw [mkList]; rfl)
  have hct := fun (W : World) => Tryz.slices_Contains_string W.heap.size 0 6 6 reserved s (W.alloc (.cells (reserved.map Value.string).toArray 9)) (by decide) (by decide) (fun j hj => reserved_at (Blk.new W 9 (reserved.map Value.string).toArray) j hj)
  rw [show reserved.take 6 = reserved from rfl, show (reserved.map Value.string).toArray = #[.string ⟨#[110, 117, 108, 108]⟩, .string ⟨#[116, 114, 117, 101]⟩, .string ⟨#[102, 97, 108, 115, 101]⟩, .string ⟨#[105, 110]⟩, .string ⟨#[101, 97, 99, 104]⟩, .string ⟨#[119, 104, 101, 114, 101]⟩] from rfl] at hct
  have HCT := Lib.hid hct
  clear hct
  generalize plainRow s.data.toList = p at *
  generalize isWord s.data.toList = r at *
  generalize Lib.containsS reserved s = q at *
  cases p
  · go_enter Tryz.func118, Tryz.ntmps118
    go_wp2_with (first | (refine hp.mono ?_; clear hp; rintro e w2 ⟨rfl, hm2⟩; have hm2 := Lib.hid hm2))
    go_ret
    exact ⟨ret_bool (by rw [HW.out]; rfl), hm2.out⟩
  · by_cases h40 : s.size ≤ 40
    · have h40' : (s.size : Int) ≤ 40 := by omega
      rw [decide_eq_true h40] at HW
      go_enter Tryz.func118, Tryz.ntmps118
      go_wp2_with (first | (refine hp.mono ?_; clear hp; rintro e w2 ⟨rfl, hm2⟩; have hm2 := Lib.hid hm2; have hct := HCT.out w2) | (refine hct.mono ?_; clear hct; rintro e w3 ⟨rfl, hw3⟩; rw [hw3]; clear hw3))
      go_ret
      exact ⟨ret_bool (by rw [HW.out]; rfl), hm2.out.alloc _⟩
    · have h40' : ¬ (s.size : Int) ≤ 40 := by omega
      rw [decide_eq_false h40] at HW
      go_enter Tryz.func118, Tryz.ntmps118
      go_wp2_with (first | (refine hp.mono ?_; clear hp; rintro e w2 ⟨rfl, hm2⟩; have hm2 := Lib.hid hm2; have hct := HCT.out w2))
      go_ret
      exact ⟨ret_bool (by rw [HW.out]; rfl), hm2.out⟩
/-- four hexadecimal digits at the head; -1: there are none -/
def hexAt (l : List UInt8) : Int := if l.length < 4 then -1 else if (l.take 4).all (fun c => isHexN c.toNat) = false then -1 else hexNum (l.take 4)
set_option maxRecDepth 100000 in
set_option maxHeartbeats 2000000 in
theorem ref_hex (s : ByteArray) (w : World) (hs : s.size ≤ 900000) :
    Calls Tryz.prog 119 #[.string s, .int .i64 0] w fun e w' => e = .returned (.int .i64 (hexAt s.data.toList)) ∧ New w w' := by
  have hlen : s.data.toList.length = s.size := rfl
  by_cases h4 : s.size < 4
  · have h4' : (s.size : Int) < 4 := by omega
    have HE : Hid (hexAt s.data.toList = -1) := Lib.hid (by unfold hexAt; rw [if_pos (by omega)])
    clear hlen h4
    go_enter Tryz.func119, Tryz.ntmps119
    go_wp2_with fail
    go_ret
    exact ⟨ret_int HE.out.symm, Mod.refl _ _⟩
  · have h4' : ¬ (s.size : Int) < 4 := by omega
    have h4'' : (4 : Int) ≤ (s.size : Int) := by omega
    have hx4 : (s.extract 0 4).data.toList = s.data.toList.take 4 := by rw [extract_data]; simp
    have hsz : (s.extract 0 4).size = 4 := by simp only [ByteArray.size_extract]; omega
    have ht := Tryz.strings_Trim_set (s.extract 0 4) hexsB w (by omega) (by decide) (asciiAll (by decide))
    rw [hx4] at ht
    have htb := empty_beq (Lib.trimS (s.data.toList.take 4) hexsB.data.toList)
    have htw : decide (Lib.trimS (s.data.toList.take 4) hexsB.data.toList = []) = (s.data.toList.take 4).all (fun c => isHexN c.toNat) := by
      rw [Bool.eq_iff_iff, decide_eq_true_eq]; exact trim_hex _
    rw [htw] at htb
    have hE : hexAt s.data.toList = if (s.data.toList.take 4).all (fun c => isHexN c.toNat) = false then -1 else (hexNum (s.data.toList.take 4) : Int) := by unfold hexAt; rw [if_neg (by omega)]
    have hpi : (s.data.toList.take 4).all (fun c => isHexN c.toNat) = true → ∀ W, Calls Tryz.prog 153 #[.string (s.extract 0 4), .int .i64 16, .int .i64 32] W fun e w' => e = .returned (.tuple #[.int .i64 (hexNum (s.data.toList.take 4)), .nilIface]) ∧ New W w' := fun h W => by
      have := strconv_parseInt16 (s.extract 0 4) (by omega) (by omega) (by rw [hx4]; exact List.all_eq_true.1 h) W
      rwa [hx4] at this
    generalize (⟨(Lib.trimS (s.data.toList.take 4) hexsB.data.toList).toArray⟩ : ByteArray) = T at *
    generalize (hexNum (s.data.toList.take 4) : Int) = z at *
    generalize (s.data.toList.take 4).all (fun c => isHexN c.toNat) = p at *
    unfold hexsB at ht
    have HE := Lib.hid hE
    clear hlen h4 hx4 hE htw
    cases p
    · clear hpi
      go_enter Tryz.func119, Tryz.ntmps119
      go_wp2_with (first | (refine ht.mono ?_; clear ht; rintro e w2 ⟨rfl, hm2⟩; have hm2 := Lib.hid hm2))
      go_ret
      exact ⟨ret_int (by rw [HE.out]; rfl), Mod.of_below hm2.out⟩
    · have HPI := Lib.hid (hpi rfl)
      clear hpi
      go_enter Tryz.func119, Tryz.ntmps119
      go_wp2_with (first | (refine ht.mono ?_; clear ht; rintro e w2 ⟨rfl, hm2⟩; have hm2 := Lib.hid hm2; have hpi := HPI.out w2) | (refine hpi.mono ?_; clear hpi; rintro e w3 ⟨rfl, hm3⟩; have hm3 := Lib.hid hm3))
      go_ret
      exact ⟨ret_int (by rw [HE.out]; rfl), Mod.trans (S := fun _ => False) (Mod.of_below hm2.out) hm3.out⟩

end Go.Proofs.YtnbcfpjalgfikaaGreatDoor
