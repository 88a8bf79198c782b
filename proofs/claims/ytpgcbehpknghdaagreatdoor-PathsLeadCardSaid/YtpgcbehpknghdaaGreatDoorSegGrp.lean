/- Several texts in one. (1) Segments of paths: their units read and written (package message). Conditions: strings of modest size. (2) Segments of paths: units decoded and segments written (package message). Conditions: strings of modest size. (3) Segments of paths written; what is wrong with a path; words (packages message and value). Conditions: strings of modest size. (4) What is wrong with a path; words (packages message and value). Conditions: strings of modest size. (5) The reference's words and hexadecimal digits. Conditions: strings of modest size. (6) Four hexadecimal digits at a place (value.code, gateref1.hex). Conditions: a text of modest size, a place within it. -/
import Derived.Test.YtpgcbehpknghdaaGreatDoorWordLawGrp
import Derived.Test.YtpgcbehpknghdaaGreatDoorHexGrp
import Derived.Test.YtpgcbehpknghdaaGreatDoorBuGrp
import Derived.Test.YtpgcbehpknghdaaGreatDoorQuietTail
import Derived.Laws.BytesArg

namespace Go.Proofs.YtpgcbehpknghdaaGreatDoor
open Go.RowKit
set_option linter.unusedVariables false
set_option linter.unusedSimpArgs false

theorem byteBack (c : UInt8) : ((c.toNat : Int)).toNat.toUInt8 = c := by simp
theorem free4_at (c : UInt8) : decide (0 ≤ Lib.indexByte [45, 46, 95, 126] c) = (decide (c.toNat = 45) || decide (c.toNat = 46) || decide (c.toNat = 95) || decide (c.toNat = 126)) := by
  revert c
  apply byteOf
  decide +kernel
theorem mark_at (c : UInt8) : decide (0 ≤ Lib.indexByte markL c) = markL.contains c := by
  revert c
  apply byteOf
  decide +kernel
abbrev upB : ByteArray := ⟨#[48, 49, 50, 51, 52, 53, 54, 55, 56, 57, 65, 66, 67, 68, 69, 70]⟩
theorem upB_at (m : Nat) (h : m < 16) : upHex m = upB[m]'h := by
  match m, h with
  | 0, _ => rfl
  | 1, _ => rfl
  | 2, _ => rfl
  | 3, _ => rfl
  | 4, _ => rfl
  | 5, _ => rfl
  | 6, _ => rfl
  | 7, _ => rfl
  | 8, _ => rfl
  | 9, _ => rfl
  | 10, _ => rfl
  | 11, _ => rfl
  | 12, _ => rfl
  | 13, _ => rfl
  | 14, _ => rfl
  | 15, _ => rfl
  | n + 16, h => exact absurd h (by omega)
/-- a row of three bytes as a string -/
theorem three_bytes (w : World) (g : Nat) (a b c : UInt8) (cs : Array Value) (hcs : cs = #[.int .u8 (a.toNat : Int), .int .u8 (b.toNat : Int), .int .u8 (c.toNat : Int)]) (h : Blk w g 5 cs) :
    (convert 76 9 (.slice (some ⟨g, 0, none⟩) 3 3)).run Tryz.prog w = .ok (.string ⟨#[a, b, c]⟩) w := by
  subst hcs
  have := run_convert_bytes_arg (P := Tryz.prog) w 76 5 Tryz.underlying76 Tryz.underlying5 g 0 3 3 [(a.toNat : Int), (b.toNat : Int), (c.toNat : Int)] rfl (fun i hi => by
    rw [Nat.zero_add, h.cell]
    match i, hi with
    | 0, _ => rfl
    | 1, _ => rfl
    | 2, _ => rfl
    | n + 3, hi => exact absurd hi (by omega)) 9 Tryz.underlying9
  have e : strOfNums [(a.toNat : Int), (b.toNat : Int), (c.toNat : Int)] = ⟨#[a, b, c]⟩ := by
    unfold strOfNums
    simp only [List.map_cons, List.map_nil, Int.toNat_natCast, UInt8.ofNat_toNat]
  rw [e] at this
  exact this
end Go.Proofs.YtpgcbehpknghdaaGreatDoor

namespace Go.Proofs.YtpgcbehpknghdaaGreatDoor
open Go.RowKit
set_option linter.unusedVariables false
set_option linter.unusedSimpArgs false

set_option maxHeartbeats 1000000 in
theorem strconv_parseUint16_8 (t : ByteArray) (h0 : 1 ≤ t.size) (h2 : t.size ≤ 2) (hx : ∀ c ∈ t.data.toList, isHexN c.toNat = true) (w : World) :
    Calls Tryz.prog 151 #[.string t, .int .i64 16, .int .i64 8] w fun e w' => e = .returned (.tuple #[.int .u64 (hexNum t.data.toList), .nilIface]) ∧ New w w' := by
  have hp := parseUint16_8 t h0 h2 hx w
  go_enter Tryz.func151, Tryz.ntmps151
  go_wp2_with fail
  refine hp.mono ?_
  clear hp
  rintro e w1 ⟨rfl, hm⟩
  go_wp2_with fail
  go_ret2
  exact ⟨rfl, hm⟩
theorem unit_two {s : List UInt8} {i : Nat} (h : unitAt s i = true) : ((s.drop (i + 1)).take 2) = [s.getD (i + 1) 0, s.getD (i + 2) 0] ∧ isHexN (s.getD (i + 1) 0).toNat = true ∧ isHexN (s.getD (i + 2) 0).toNat = true ∧ i + 2 < s.length := by
  simp only [unitAt, Bool.and_eq_true, decide_eq_true_eq] at h
  obtain ⟨⟨h3, h4⟩, h5⟩ := h
  refine ⟨?_, h4, h5, h3⟩
  have e1 : s.getD (i + 1) 0 = s[i + 1]'(by omega) := by simp [List.getD_eq_getElem?_getD, List.getElem?_eq_getElem (show i + 1 < s.length by omega)]
  have e2 : s.getD (i + 2) 0 = s[i + 2]'(by omega) := by simp [List.getD_eq_getElem?_getD, List.getElem?_eq_getElem (show i + 2 < s.length by omega)]
  rw [e1, e2, List.drop_eq_getElem_cons (show i + 1 < s.length by omega), List.drop_eq_getElem_cons (show i + 1 + 1 < s.length by omega)]
  rfl
theorem extract_data (s : ByteArray) (i j : Nat) : (s.extract i j).data.toList = (s.data.toList.drop i).take (j - i) := by
  rw [ByteArray.data_extract, Array.toList_extract]
/-- what a segment's decoding gives: the bytes, or that a unit is wrong -/
def decV (s : List UInt8) : Value := match decL s with
  | none => .tuple #[.string ⟨#[]⟩, .bool false]
  | some o => .tuple #[.string ⟨o.toArray⟩, .bool true]
theorem decV_none {s : List UInt8} (h : decL s = none) : decV s = .tuple #[.string ⟨#[]⟩, .bool false] := by unfold decV; rw [h]
theorem decV_some {s o : List UInt8} (h : decL s = some o) : decV s = .tuple #[.string ⟨o.toArray⟩, .bool true] := by unfold decV; rw [h]
/-- what has been read of s up to place k gives o -/
def DecTo (s : List UInt8) (k : Nat) (o : List UInt8) : Prop := decL s = (decL (s.drop k)).map (o ++ ·) ∧ o.length ≤ k
theorem DecTo.start (s : List UInt8) : DecTo s 0 [] := ⟨by simp, Nat.le_refl _⟩
theorem DecTo.plain {s : List UInt8} {k : Nat} {o : List UInt8} (h : DecTo s k o) (hk : k < s.length) (h1 : s[k] ≠ 37) : DecTo s (k + 1) (o ++ [s[k]]) := by
  refine ⟨?_, by have := h.2; simp; omega⟩
  rw [h.1, decL_at_plain hk h1]
  cases decL (s.drop (k + 1)) <;> simp
theorem DecTo.unit {s : List UInt8} {k : Nat} {o : List UInt8} (h : DecTo s k o) (hk : k < s.length) (h1 : s[k] = 37) (h2 : unitAt s k = true) : DecTo s (k + 3) (o ++ [unitV (s.getD (k + 1) 0) (s.getD (k + 2) 0)]) := by
  refine ⟨?_, by have := h.2; simp; omega⟩
  rw [h.1, decL_at_unit hk h1 h2]
  cases decL (s.drop (k + 3)) <;> simp
theorem DecTo.bad {s : List UInt8} {k : Nat} {o : List UInt8} (h : DecTo s k o) (hk : k < s.length) (h1 : s[k] = 37) (h2 : unitAt s k = false) : decL s = none := by
  rw [h.1, decL_at_bad hk h1 h2]; rfl
theorem DecTo.done {s : List UInt8} {k : Nat} {o : List UInt8} (h : DecTo s k o) (hk : s.length ≤ k) : decL s = some o := by
  rw [h.1, List.drop_eq_nil_of_le hk]; simp [decL]
theorem bw_any (B b : Nat) (l : List UInt8) (w : World) (h : Bw 78 B b l w) :
    Calls Tryz.prog 43 #[.pointer (some ⟨b, 0, none⟩)] w fun e w' => e = .returned (.string ⟨l.toArray⟩) ∧ Mod (fun k => B ≤ k) w w' := by
  have hlt := h.lt
  refine (Tryz.Builder_String_any B b l w h (by omega)).mono ?_
  rintro e w' ⟨rfl, hm⟩
  exact ⟨rfl, Mod.of_belowB hm⟩
end Go.Proofs.YtpgcbehpknghdaaGreatDoor

namespace Go.Proofs.YtpgcbehpknghdaaGreatDoor
open Go.RowKit
set_option linter.unusedVariables false
set_option linter.unusedSimpArgs false

def markB : ByteArray := ⟨#[33, 36, 38, 39, 40, 41, 42, 43, 44, 59, 61, 58, 64]⟩
end Go.Proofs.YtpgcbehpknghdaaGreatDoor

namespace Go.Proofs.YtpgcbehpknghdaaGreatDoor
open Go.RowKit
set_option linter.unusedVariables false
set_option linter.unusedSimpArgs false

/-- what is wrong with the path of a request -/
def pathBad (l : List UInt8) : Int := if 1000 < l.length then 3 else if Lib.hasPrefix l [47] = false then 3 else if inR 33 126 l = false then 3 else if Lib.containsAny l [63, 35] = true then 3 else 0
theorem inR_ascii {l : List UInt8} (h : inR 33 126 l = true) : ∀ (j : Nat) (b : UInt8), l[j]? = some b → b.toNat < 128 := by
  intro j b hb
  unfold inR at h
  rw [List.all_eq_true] at h
  have := h b (List.mem_of_getElem? hb)
  simp only [Bool.and_eq_true, decide_eq_true_eq] at this
  omega
theorem asciiAll {l : List UInt8} (h : l.all (fun b => decide (b.toNat < 128)) = true) : ∀ (j : Nat) (b : UInt8), l[j]? = some b → b.toNat < 128 :=
  fun _ b hb => of_decide_eq_true (List.all_eq_true.1 h b (List.mem_of_getElem? hb))
theorem reserved_at {w : World} {g : Nat} (h : Blk w g 9 (reserved.map Value.string).toArray) (j : Nat) (hj : j < reserved.length) : w.cell? ⟨g, 0 + j, none⟩ = some (.string (reserved.getD j ByteArray.empty)) := by
  rw [Nat.zero_add, h.cell]
  match j, hj with
  | 0, _ => rfl
  | 1, _ => rfl
  | 2, _ => rfl
  | 3, _ => rfl
  | 4, _ => rfl
  | 5, _ => rfl
  | n + 6, hj => exact absurd hj (by simp [reserved])
theorem mkList (s : ByteArray) : (⟨s.data.toList.toArray⟩ : ByteArray) = s := by cases s; simp
end Go.Proofs.YtpgcbehpknghdaaGreatDoor

namespace Go.Proofs.YtpgcbehpknghdaaGreatDoor
open Go.RowKit
set_option linter.unusedVariables false
set_option linter.unusedSimpArgs false

theorem empty_beq (l : List UInt8) : ((⟨l.toArray⟩ : ByteArray).toList == []) = decide (l = []) := by
  rw [ByteArray.toList_eq, Bool.eq_iff_iff]; simp
theorem plainRow_ne {l : List UInt8} (h : 0 < l.length) : plainRow l = (l.all (fun c => isWrdN c.toNat) && (isLetN l[0].toNat || decide (l[0].toNat = 95))) := by
  cases l with
  | nil => simp at h
  | cons a r => exact plainRow_eq
set_option maxRecDepth 100000 in
set_option maxHeartbeats 2000000 in
theorem ref_plainRow (s : ByteArray) (w : World) (hs : s.size ≤ 900000) :
    Calls Tryz.prog 68 #[.string s] w fun e w' => e = .returned (.bool (plainRow s.data.toList)) ∧ New w w' := by
  by_cases h0 : s.data.toList = []
  · have h1 : (s.toList == []) = true := by rw [ByteArray.toList_eq, h0]; rfl
    have HR : Hid (plainRow s.data.toList = false) := Lib.hid (by rw [h0]; rfl)
    clear h0
    go_enter Tryz.func68, Tryz.ntmps68
    go_wp2_with fail
    go_ret
    exact ⟨ret_bool HR.out.symm, Mod.refl _ _⟩
  · have h1 : (s.toList == []) = false := by rw [ByteArray.toList_eq]; simpa using h0
    have ht := Tryz.strings_Trim_set s wrdsB w (by omega) (by decide) (asciiAll (by decide))
    have htb := empty_beq (Lib.trimS s.data.toList wrdsB.data.toList)
    have htw : decide (Lib.trimS s.data.toList wrdsB.data.toList = []) = s.data.toList.all (fun c => isWrdN c.toNat) := by
      rw [Bool.eq_iff_iff, decide_eq_true_eq]; exact trim_word _
    rw [htw] at htb
    have hpos : 0 < s.size := by
      rcases Nat.eq_zero_or_pos s.size with h | h
      · exact absurd (List.eq_nil_of_length_eq_zero (show s.data.toList.length = 0 from h)) h0
      · exact h
    have HPR : Hid (plainRow s.data.toList = (s.data.toList.all (fun c => isWrdN c.toNat) && (isLetN s[0].toNat || decide (s[0].toNat = 95)))) := Lib.hid (by
      have hg : s[0] = s.data.toList[0]'hpos := rfl
      rw [hg]
      exact plainRow_ne hpos)
    have hi := fun W => Tryz.strings_IndexByte letsB (s[0].toNat : Int) W
    rw [byteBack] at hi
    have hla := lets_at s[0]
    generalize (isLetN s[0].toNat || decide (s[0].toNat = 95)) = p1 at *
    generalize Lib.indexByte letsB.data.toList s[0] = r at *
    generalize (s.data.toList.all fun c => isWrdN c.toNat) = p2 at *
    generalize plainRow s.data.toList = q at *
    generalize (⟨(Lib.trimS s.data.toList wrdsB.data.toList).toArray⟩ : ByteArray) = T at *
    unfold wrdsB at ht
    unfold letsB at hi
    have HI := Lib.hid hi
    clear hi h0 htw
    cases p2
    · go_enter Tryz.func68, Tryz.ntmps68
      go_wp2_with (first | (refine ht.mono ?_; clear ht; rintro e w2 ⟨rfl, hm2⟩; have hm2 := Lib.hid hm2))
      go_ret
      exact ⟨ret_bool HPR.out.symm, Mod.of_below hm2.out⟩
    · have hr : p1 = decide (0 ≤ r) := hla.symm
      subst hr
      go_enter Tryz.func68, Tryz.ntmps68
      go_wp2_with (first | (refine ht.mono ?_; clear ht; rintro e w2 ⟨rfl, hm2⟩; have hm2 := Lib.hid hm2; have hi := HI.out w2) | (refine hi.mono ?_; clear hi; rintro e w3 ⟨rfl, rfl⟩))
      all_goals go_ret
      all_goals exact ⟨ret_bool (by rw [HPR.out]; simp_all), Mod.of_below hm2.out⟩

set_option maxHeartbeats 1000000 in
theorem ref1_in (n a b : Int) (w : World) :
    Calls Tryz.prog 40 #[.int .i64 n, .int .i64 a, .int .i64 b] w fun e w' => e = .returned (.bool (decide (a ≤ n) && decide (n ≤ b))) ∧ w = w' := by
  by_cases h : a ≤ n
  · go_enter Tryz.func40, Tryz.ntmps40
    go_wp2
    go_ret
    exact ⟨by simp [h], rfl⟩
  · have h' : decide (a ≤ n) = false := by simpa using h
    go_enter Tryz.func40, Tryz.ntmps40
    go_wp2
    go_ret
    exact ⟨by simp [h'], rfl⟩

/-- four hexadecimal digits at the head; -1: there are none -/
def hexAt (l : List UInt8) : Int := if l.length < 4 then -1 else if (l.take 4).all (fun c => isHexN c.toNat) = false then -1 else hexNum (l.take 4)
set_option maxRecDepth 100000 in
set_option maxHeartbeats 2000000 in
theorem ref_hex (s : ByteArray) (w : World) (hs : s.size ≤ 900000) :
    Calls Tryz.prog 96 #[.string s, .int .i64 0] w fun e w' => e = .returned (.int .i64 (hexAt s.data.toList)) ∧ New w w' := by
  have hlen : s.data.toList.length = s.size := rfl
  by_cases h4 : s.size < 4
  · have h4' : (s.size : Int) < 4 := by omega
    have HE : Hid (hexAt s.data.toList = -1) := Lib.hid (by unfold hexAt; rw [if_pos (by omega)])
    clear hlen h4
    go_enter Tryz.func96, Tryz.ntmps96
    go_wp2_with fail
    go_ret
    exact ⟨ret_int HE.out.symm, Mod.refl _ _⟩
  · have h4' : ¬ (s.size : Int) < 4 := by omega
    have h4'' : (4 : Int) ≤ (s.size : Int) := by omega
    have hx4 : (s.extract 0 4).data.toList = s.data.toList.take 4 := by rw [extract_data]; simp
    have hsz : (s.extract 0 4).size = 4 := by simp only [ByteArray.size_extract]; omega
    have ht := Tryz.strings_Trim_set (s.extract 0 4) hexsB w (by omega) (by decide) (asciiAll (by decide))
    rw [hx4] at ht
    have htb := empty_beq (Lib.trimS (s.data.toList.take 4) hexsB.data.toList)
    have htw : decide (Lib.trimS (s.data.toList.take 4) hexsB.data.toList = []) = (s.data.toList.take 4).all (fun c => isHexN c.toNat) := by
      rw [Bool.eq_iff_iff, decide_eq_true_eq]; exact trim_hex _
    rw [htw] at htb
    have hE : hexAt s.data.toList = if (s.data.toList.take 4).all (fun c => isHexN c.toNat) = false then -1 else (hexNum (s.data.toList.take 4) : Int) := by unfold hexAt; rw [if_neg (by omega)]
    have hpi : (s.data.toList.take 4).all (fun c => isHexN c.toNat) = true → ∀ W, Calls Tryz.prog 120 #[.string (s.extract 0 4), .int .i64 16, .int .i64 32] W fun e w' => e = .returned (.tuple #[.int .i64 (hexNum (s.data.toList.take 4)), .nilIface]) ∧ New W w' := fun h W => by
      have := strconv_parseInt16 (s.extract 0 4) (by omega) (by omega) (by rw [hx4]; exact List.all_eq_true.1 h) W
      rwa [hx4] at this
    generalize (⟨(Lib.trimS (s.data.toList.take 4) hexsB.data.toList).toArray⟩ : ByteArray) = T at *
    generalize (hexNum (s.data.toList.take 4) : Int) = z at *
    generalize (s.data.toList.take 4).all (fun c => isHexN c.toNat) = p at *
    unfold hexsB at ht
    have HE := Lib.hid hE
    clear hlen h4 hx4 hE htw
    cases p
    · clear hpi
      go_enter Tryz.func96, Tryz.ntmps96
      go_wp2_with (first | (refine ht.mono ?_; clear ht; rintro e w2 ⟨rfl, hm2⟩; have hm2 := Lib.hid hm2))
      go_ret
      exact ⟨ret_int (by rw [HE.out]; rfl), Mod.of_below hm2.out⟩
    · have HPI := Lib.hid (hpi rfl)
      clear hpi
      go_enter Tryz.func96, Tryz.ntmps96
      go_wp2_with (first | (refine ht.mono ?_; clear ht; rintro e w2 ⟨rfl, hm2⟩; have hm2 := Lib.hid hm2; have hpi := HPI.out w2) | (refine hpi.mono ?_; clear hpi; rintro e w3 ⟨rfl, hm3⟩; have hm3 := Lib.hid hm3))
      go_ret
      exact ⟨ret_int (by rw [HE.out]; rfl), Mod.trans (S := fun _ => False) (Mod.of_below hm2.out) hm3.out⟩

end Go.Proofs.YtpgcbehpknghdaaGreatDoor

namespace Go.Proofs.YtpgcbehpknghdaaGreatDoor
open Go.RowKit
set_option linter.unusedVariables false
set_option linter.unusedSimpArgs false

set_option maxHeartbeats 1000000 in
set_option maxRecDepth 100000 in
theorem strconv_parseUint16_32 (t : ByteArray) (h0 : 1 ≤ t.size) (h2 : t.size ≤ 4) (hx : ∀ c ∈ t.data.toList, isHexN c.toNat = true) (w : World) :
    Calls Tryz.prog 151 #[.string t, .int .i64 16, .int .i64 32] w fun e w' => e = .returned (.tuple #[.int .u64 (hexNum t.data.toList), .nilIface]) ∧ New w w' := by
  have hp := parseUint16_32 t h0 h2 hx w
  go_enter Tryz.func151, Tryz.ntmps151
  go_wp2_with (first | (refine hp.mono ?_; clear hp; rintro e w2 ⟨rfl, hm⟩; have hm := Lib.hid hm))
  go_ret2
  exact ⟨rfl, hm.out⟩

set_option maxRecDepth 100000 in
set_option maxHeartbeats 700000 in
theorem val_code (s : ByteArray) (i : Nat) (w : World) (hs : s.size ≤ 900000) (hi : i ≤ 1000000) :
    Calls Tryz.prog 135 #[.string s, .int .i64 i] w fun e w' => e = .returned (.int .i64 (hexAt (s.data.toList.drop i))) ∧ New w w' := by
  have hlen : s.data.toList.length = s.size := rfl
  by_cases h4 : s.size < i + 4
  · have h4' : (s.size : Int) < (i : Int) + 4 := by omega
    have HE : Hid (hexAt (s.data.toList.drop i) = -1) := Lib.hid (by unfold hexAt; rw [if_pos (by rw [List.length_drop]; omega)])
    clear hlen h4
    go_enter Tryz.func135, Tryz.ntmps135
    go_wp2_with fail
    go_ret
    exact ⟨ret_int HE.out.symm, Mod.refl _ _⟩
  · have h4' : ¬ (s.size : Int) < (i : Int) + 4 := by omega
    have h4'' : (i : Int) + 4 ≤ (s.size : Int) := by omega
    have hi0 : (0 : Int) ≤ i := by omega
    have hi1 : (i : Int) ≤ (i : Int) + 4 := by omega
    have hx4 : (s.extract i (i + 4)).data.toList = (s.data.toList.drop i).take 4 := by rw [extract_data]; congr 1; omega
    have hsz : (s.extract i (i + 4)).size = 4 := by simp only [ByteArray.size_extract]; omega
    have ht := Tryz.strings_Trim_set (s.extract i (i + 4)) hexsB w (by omega) (by decide) (asciiAll (by decide))
    rw [hx4] at ht
    have htb := empty_beq (Lib.trimS ((s.data.toList.drop i).take 4) hexsB.data.toList)
    have htw : decide (Lib.trimS ((s.data.toList.drop i).take 4) hexsB.data.toList = []) = ((s.data.toList.drop i).take 4).all (fun c => isHexN c.toNat) := by
      rw [Bool.eq_iff_iff, decide_eq_true_eq]; exact trim_hex _
    rw [htw] at htb
    have hE : hexAt (s.data.toList.drop i) = if ((s.data.toList.drop i).take 4).all (fun c => isHexN c.toNat) = false then -1 else (hexNum ((s.data.toList.drop i).take 4) : Int) := by unfold hexAt; rw [if_neg (by rw [List.length_drop]; omega)]
    have hpi : ((s.data.toList.drop i).take 4).all (fun c => isHexN c.toNat) = true → ∀ W, Calls Tryz.prog 151 #[.string (s.extract i (i + 4)), .int .i64 16, .int .i64 32] W fun e w' => e = .returned (.tuple #[.int .u64 (hexNum ((s.data.toList.drop i).take 4)), .nilIface]) ∧ New W w' := fun h W => by have := strconv_parseUint16_32 (s.extract i (i + 4)) (by omega) (by omega) (by rw [hx4]; exact List.all_eq_true.1 h) W; rwa [hx4] at this
    generalize (⟨(Lib.trimS ((s.data.toList.drop i).take 4) hexsB.data.toList).toArray⟩ : ByteArray) = T at *
    have hz16 : ((s.data.toList.drop i).take 4).all (fun c => isHexN c.toNat) = true → hexNum ((s.data.toList.drop i).take 4) < 65536 := fun h => by
      have h2 : ((s.data.toList.drop i).take 4).length = 4 := by rw [List.length_take, List.length_drop]; omega
      have := hexNum_lt (List.all_eq_true.1 h) 4 (by omega)
      rw [List.take_of_length_le (by omega)] at this
      omega
    generalize hexNum ((s.data.toList.drop i).take 4) = z at *
    generalize ((s.data.toList.drop i).take 4).all (fun c => isHexN c.toNat) = p at *
    unfold hexsB at ht
    have HE := Lib.hid hE
    clear hlen h4 hx4 hE htw
    cases p
    · clear hpi hz16
      go_enter Tryz.func135, Tryz.ntmps135
      go_wp2_with (first | (refine ht.mono ?_; clear ht; rintro e w2 ⟨rfl, hm2⟩; have hm2 := Lib.hid hm2))
      go_ret
      exact ⟨ret_int (by rw [HE.out]; rfl), Mod.of_below hm2.out⟩
    · have hz := hz16 rfl
      obtain ⟨zi, hzi⟩ : ∃ zi : Int, zi = (z : Int) := ⟨_, rfl⟩
      rw [← hzi] at hpi HE
      have hz0 : 0 ≤ zi := by omega
      have hz1 : zi < 65536 := by omega
      clear hz16 hz hzi
      have hw64 : IntKind.i64.wrap zi = zi := by
        simp [IntKind.wrap, IntKind.signed, IntKind.bits]
        omega
      have HPI := Lib.hid (hpi rfl)
      clear hpi
      go_enter Tryz.func135, Tryz.ntmps135
      go_wp2_with (first | (refine ht.mono ?_; clear ht; rintro e w2 ⟨rfl, hm2⟩; have hm2 := Lib.hid hm2; have hpi := HPI.out w2) | (refine hpi.mono ?_; clear hpi; rintro e w3 ⟨rfl, hm3⟩; have hm3 := Lib.hid hm3))
      go_ret
      exact ⟨ret_int (by rw [HE.out]; rfl), Mod.trans (S := fun _ => False) (Mod.of_below hm2.out) hm3.out⟩
set_option maxRecDepth 100000 in
set_option maxHeartbeats 700000 in
theorem ref_hexI (s : ByteArray) (i : Nat) (w : World) (hs : s.size ≤ 900000) (hi : i ≤ 1000000) :
    Calls Tryz.prog 96 #[.string s, .int .i64 i] w fun e w' => e = .returned (.int .i64 (hexAt (s.data.toList.drop i))) ∧ New w w' := by
  have hlen : s.data.toList.length = s.size := rfl
  by_cases h4 : s.size < i + 4
  · have h4' : (s.size : Int) < (i : Int) + 4 := by omega
    have HE : Hid (hexAt (s.data.toList.drop i) = -1) := Lib.hid (by unfold hexAt; rw [if_pos (by rw [List.length_drop]; omega)])
    clear hlen h4
    go_enter Tryz.func96, Tryz.ntmps96
    go_wp2_with fail
    go_ret
    exact ⟨ret_int HE.out.symm, Mod.refl _ _⟩
  · have h4' : ¬ (s.size : Int) < (i : Int) + 4 := by omega
    have h4'' : (i : Int) + 4 ≤ (s.size : Int) := by omega
    have hi0 : (0 : Int) ≤ i := by omega
    have hi1 : (i : Int) ≤ (i : Int) + 4 := by omega
    have hx4 : (s.extract i (i + 4)).data.toList = (s.data.toList.drop i).take 4 := by rw [extract_data]; congr 1; omega
    have hsz : (s.extract i (i + 4)).size = 4 := by simp only [ByteArray.size_extract]; omega
    have ht := Tryz.strings_Trim_set (s.extract i (i + 4)) hexsB w (by omega) (by decide) (asciiAll (by decide))
    rw [hx4] at ht
    have htb := empty_beq (Lib.trimS ((s.data.toList.drop i).take 4) hexsB.data.toList)
    have htw : decide (Lib.trimS ((s.data.toList.drop i).take 4) hexsB.data.toList = []) = ((s.data.toList.drop i).take 4).all (fun c => isHexN c.toNat) := by
      rw [Bool.eq_iff_iff, decide_eq_true_eq]; exact trim_hex _
    rw [htw] at htb
    have hE : hexAt (s.data.toList.drop i) = if ((s.data.toList.drop i).take 4).all (fun c => isHexN c.toNat) = false then -1 else (hexNum ((s.data.toList.drop i).take 4) : Int) := by unfold hexAt; rw [if_neg (by rw [List.length_drop]; omega)]
    have hpi : ((s.data.toList.drop i).take 4).all (fun c => isHexN c.toNat) = true → ∀ W, Calls Tryz.prog 120 #[.string (s.extract i (i + 4)), .int .i64 16, .int .i64 32] W fun e w' => e = .returned (.tuple #[.int .i64 (hexNum ((s.data.toList.drop i).take 4)), .nilIface]) ∧ New W w' := fun h W => by have := strconv_parseInt16 (s.extract i (i + 4)) (by omega) (by omega) (by rw [hx4]; exact List.all_eq_true.1 h) W; rwa [hx4] at this
    generalize (⟨(Lib.trimS ((s.data.toList.drop i).take 4) hexsB.data.toList).toArray⟩ : ByteArray) = T at *
    have hz16 : ((s.data.toList.drop i).take 4).all (fun c => isHexN c.toNat) = true → hexNum ((s.data.toList.drop i).take 4) < 65536 := fun h => by
      have h2 : ((s.data.toList.drop i).take 4).length = 4 := by rw [List.length_take, List.length_drop]; omega
      have := hexNum_lt (List.all_eq_true.1 h) 4 (by omega)
      rw [List.take_of_length_le (by omega)] at this
      omega
    generalize hexNum ((s.data.toList.drop i).take 4) = z at *
    generalize ((s.data.toList.drop i).take 4).all (fun c => isHexN c.toNat) = p at *
    unfold hexsB at ht
    have HE := Lib.hid hE
    clear hlen h4 hx4 hE htw
    cases p
    · clear hpi hz16
      go_enter Tryz.func96, Tryz.ntmps96
      go_wp2_with (first | (refine ht.mono ?_; clear ht; rintro e w2 ⟨rfl, hm2⟩; have hm2 := Lib.hid hm2))
      go_ret
      exact ⟨ret_int (by rw [HE.out]; rfl), Mod.of_below hm2.out⟩
    · have hz := hz16 rfl
      obtain ⟨zi, hzi⟩ : ∃ zi : Int, zi = (z : Int) := ⟨_, rfl⟩
      rw [← hzi] at hpi HE
      have hz0 : 0 ≤ zi := by omega
      have hz1 : zi < 65536 := by omega
      clear hz16 hz hzi
      have hw64 : IntKind.i64.wrap zi = zi := by
        simp [IntKind.wrap, IntKind.signed, IntKind.bits]
        omega
      have HPI := Lib.hid (hpi rfl)
      clear hpi
      go_enter Tryz.func96, Tryz.ntmps96
      go_wp2_with (first | (refine ht.mono ?_; clear ht; rintro e w2 ⟨rfl, hm2⟩; have hm2 := Lib.hid hm2; have hpi := HPI.out w2) | (refine hpi.mono ?_; clear hpi; rintro e w3 ⟨rfl, hm3⟩; have hm3 := Lib.hid hm3))
      go_ret
      exact ⟨ret_int (by rw [HE.out]; rfl), Mod.trans (S := fun _ => False) (Mod.of_below hm2.out) hm3.out⟩

end Go.Proofs.YtpgcbehpknghdaaGreatDoor
