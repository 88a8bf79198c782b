/- Several texts in one. (1) Segments of paths: their units read and written (package message). Conditions: strings of modest size. (2) Segments of paths: units decoded and segments written (package message). Conditions: strings of modest size. (3) Segments of paths written; what is wrong with a path; words (packages message and value). Conditions: strings of modest size. (4) What is wrong with a path; words (packages message and value). Conditions: strings of modest size. (5) The reference's words and hexadecimal digits. Conditions: strings of modest size. (6) Four hexadecimal digits at a place (value.code, gateref1.hex). Conditions: a text of modest size, a place within it. -/
import Derived.Test.YtjmnkdkdjnmejaaGreatDoorWordLawGrp
import Derived.Test.YtjmnkdkdjnmejaaGreatDoorHexGrp
import Derived.Test.YtjmnkdkdjnmejaaGreatDoorBuGrp
import Derived.Test.YtjmnkdkdjnmejaaGreatDoorQuietTail
import Derived.Laws.BytesArg

namespace Go.Proofs.YtjmnkdkdjnmejaaGreatDoor
open Go.RowKit
set_option linter.unusedVariables false
set_option linter.unusedSimpArgs false

theorem byteBack (c : UInt8) : ((c.toNat : Int)).toNat.toUInt8 = c := by simp

theorem extract_data (s : ByteArray) (i j : Nat) : (s.extract i j).data.toList = (s.data.toList.drop i).take (j - i) := by
  rw [ByteArray.data_extract, Array.toList_extract]
/-- what has been read of s up to place k gives o -/
def DecTo (s : List UInt8) (k : Nat) (o : List UInt8) : Prop := decL s = (decL (s.drop k)).map (o ++ ·) ∧ o.length ≤ k
theorem DecTo.start (s : List UInt8) : DecTo s 0 [] := ⟨by simp, Nat.le_refl _⟩
theorem DecTo.plain {s : List UInt8} {k : Nat} {o : List UInt8} (h : DecTo s k o) (hk : k < s.length) (h1 : s[k] ≠ 37) : DecTo s (k + 1) (o ++ [s[k]]) := by
  refine ⟨?_, by have := h.2; simp; omega⟩
  rw [h.1, decL_at_plain hk h1]
  cases decL (s.drop (k + 1)) <;> simp
theorem DecTo.bad {s : List UInt8} {k : Nat} {o : List UInt8} (h : DecTo s k o) (hk : k < s.length) (h1 : s[k] = 37) (h2 : unitAt s k = false) : decL s = none := by
  rw [h.1, decL_at_bad hk h1 h2]; rfl
theorem DecTo.done {s : List UInt8} {k : Nat} {o : List UInt8} (h : DecTo s k o) (hk : s.length ≤ k) : decL s = some o := by
  rw [h.1, List.drop_eq_nil_of_le hk]; simp [decL]


theorem asciiAll {l : List UInt8} (h : l.all (fun b => decide (b.toNat < 128)) = true) : ∀ (j : Nat) (b : UInt8), l[j]? = some b → b.toNat < 128 :=
  fun _ b hb => of_decide_eq_true (List.all_eq_true.1 h b (List.mem_of_getElem? hb))

theorem empty_beq (l : List UInt8) : ((⟨l.toArray⟩ : ByteArray).toList == []) = decide (l = []) := by
  rw [ByteArray.toList_eq, Bool.eq_iff_iff]; simp
set_option maxHeartbeats 1000000 in
theorem ref1_in (n a b : Int) (w : World) :
    Calls Tryz.prog 117 #[.int .i64 n, .int .i64 a, .int .i64 b] w fun e w' => e = .returned (.bool (decide (a ≤ n) && decide (n ≤ b))) ∧ w = w' := by
  by_cases h : a ≤ n
  · go_enter Tryz.func117, Tryz.ntmps117
    go_wp2
    go_ret
    exact ⟨by simp [h], rfl⟩
  · have h' : decide (a ≤ n) = false := by simpa using h
    go_enter Tryz.func117, Tryz.ntmps117
    go_wp2
    go_ret
    exact ⟨by simp [h'], rfl⟩

/-- four hexadecimal digits at the head; -1: there are none -/
def hexAt (l : List UInt8) : Int := if l.length < 4 then -1 else if (l.take 4).all (fun c => isHexN c.toNat) = false then -1 else hexNum (l.take 4)

set_option maxHeartbeats 1000000 in
set_option maxRecDepth 100000 in
theorem strconv_parseUint16_32 (t : ByteArray) (h0 : 1 ≤ t.size) (h2 : t.size ≤ 4) (hx : ∀ c ∈ t.data.toList, isHexN c.toNat = true) (w : World) :
    Calls Tryz.prog 165 #[.string t, .int .i64 16, .int .i64 32] w fun e w' => e = .returned (.tuple #[.int .u64 (hexNum t.data.toList), .nilIface]) ∧ New w w' := by
  have hp := parseUint16_32 t h0 h2 hx w
  go_enter Tryz.func165, Tryz.ntmps165
  go_wp2_with (first | (refine hp.mono ?_; clear hp; rintro e w2 ⟨rfl, hm⟩; have hm := hId hm))
  go_ret2
  exact ⟨rfl, hm.out⟩

set_option maxRecDepth 100000 in
set_option maxHeartbeats 700000 in
theorem val_code (s : ByteArray) (i : Nat) (w : World) (hs : s.size ≤ 900000) (hi : i ≤ 1000000) :
    Calls Tryz.prog 138 #[.string s, .int .i64 i] w fun e w' => e = .returned (.int .i64 (hexAt (s.data.toList.drop i))) ∧ New w w' := by
  have hlen : s.data.toList.length = s.size := rfl
  by_cases h4 : s.size < i + 4
  · have h4' : (s.size : Int) < (i : Int) + 4 := by omega
    have HE : Hid (hexAt (s.data.toList.drop i) = -1) := hId (by unfold hexAt; rw [if_pos (by rw [List.length_drop]; omega)])
    clear hlen h4
    go_enter Tryz.func138, Tryz.ntmps138
    go_wp2_with fail
    go_ret
    exact ⟨ret_int HE.out.symm, Mod.refl _ _⟩
  · have h4' : ¬ (s.size : Int) < (i : Int) + 4 := by omega
    have h4'' : (i : Int) + 4 ≤ (s.size : Int) := by omega
    have hi0 : (0 : Int) ≤ i := by omega
    have hi1 : (i : Int) ≤ (i : Int) + 4 := by omega
    have hx4 : (s.extract i (i + 4)).data.toList = (s.data.toList.drop i).take 4 := by rw [extract_data]; congr 1; omega
    have hsz : (s.extract i (i + 4)).size = 4 := by simp only [ByteArray.size_extract]; omega
    have ht := Tryz.strings_Trim_set (s.extract i (i + 4)) hexsB w (by omega) (by decide) (asciiAll (by decide))
    rw [hx4] at ht
    have htb := empty_beq (Lib.trimS ((s.data.toList.drop i).take 4) hexsB.data.toList)
    have htw : decide (Lib.trimS ((s.data.toList.drop i).take 4) hexsB.data.toList = []) = ((s.data.toList.drop i).take 4).all (fun c => isHexN c.toNat) := by
      rw [Bool.eq_iff_iff, decide_eq_true_eq]; exact trim_hex _
    rw [htw] at htb
    have hE : hexAt (s.data.toList.drop i) = if ((s.data.toList.drop i).take 4).all (fun c => isHexN c.toNat) = false then -1 else (hexNum ((s.data.toList.drop i).take 4) : Int) := by unfold hexAt; rw [if_neg (by rw [List.length_drop]; omega)]
    have hpi : ((s.data.toList.drop i).take 4).all (fun c => isHexN c.toNat) = true → ∀ W, Calls Tryz.prog 165 #[.string (s.extract i (i + 4)), .int .i64 16, .int .i64 32] W fun e w' => e = .returned (.tuple #[.int .u64 (hexNum ((s.data.toList.drop i).take 4)), .nilIface]) ∧ New W w' := fun h W => by have := strconv_parseUint16_32 (s.extract i (i + 4)) (by omega) (by omega) (by rw [hx4]; exact List.all_eq_true.1 h) W; rwa [hx4] at this
    generalize (⟨(Lib.trimS ((s.data.toList.drop i).take 4) hexsB.data.toList).toArray⟩ : ByteArray) = T at *
    have hz16 : ((s.data.toList.drop i).take 4).all (fun c => isHexN c.toNat) = true → hexNum ((s.data.toList.drop i).take 4) < 65536 := fun h => by
      have h2 : ((s.data.toList.drop i).take 4).length = 4 := by rw [List.length_take, List.length_drop]; omega
      have := hexNum_lt (List.all_eq_true.1 h) 4 (by omega)
      rw [List.take_of_length_le (by omega)] at this
      omega
    generalize hexNum ((s.data.toList.drop i).take 4) = z at *
    generalize ((s.data.toList.drop i).take 4).all (fun c => isHexN c.toNat) = p at *
    unfold hexsB at ht
    have HE := hId hE
    clear hlen h4 hx4 hE htw
    cases p
    · clear hpi hz16
      go_enter Tryz.func138, Tryz.ntmps138
      go_wp2_with (first | (refine ht.mono ?_; clear ht; rintro e w2 ⟨rfl, hm2⟩; have hm2 := hId hm2))
      go_ret
      exact ⟨ret_int (by rw [HE.out]; rfl), Mod.of_below hm2.out⟩
    · have hz := hz16 rfl
      obtain ⟨zi, hzi⟩ : ∃ zi : Int, zi = (z : Int) := ⟨_, rfl⟩
      rw [← hzi] at hpi HE
      have hz0 : 0 ≤ zi := by omega
      have hz1 : zi < 65536 := by omega
      clear hz16 hz hzi
      have hw64 : IntKind.i64.wrap zi = zi := by
        simp [IntKind.wrap, IntKind.signed, IntKind.bits]
        omega
      have HPI := hId (hpi rfl)
      clear hpi
      go_enter Tryz.func138, Tryz.ntmps138
      go_wp2_with (first | (refine ht.mono ?_; clear ht; rintro e w2 ⟨rfl, hm2⟩; have hm2 := hId hm2; have hpi := HPI.out w2) | (refine hpi.mono ?_; clear hpi; rintro e w3 ⟨rfl, hm3⟩; have hm3 := hId hm3))
      go_ret
      exact ⟨ret_int (by rw [HE.out]; rfl), Mod.trans (S := fun _ => False) (Mod.of_below hm2.out) hm3.out⟩
set_option maxRecDepth 100000 in
set_option maxHeartbeats 700000 in
theorem ref_hexI (s : ByteArray) (i : Nat) (w : World) (hs : s.size ≤ 900000) (hi : i ≤ 1000000) :
    Calls Tryz.prog 116 #[.string s, .int .i64 i] w fun e w' => e = .returned (.int .i64 (hexAt (s.data.toList.drop i))) ∧ New w w' := by
  have hlen : s.data.toList.length = s.size := rfl
  by_cases h4 : s.size < i + 4
  · have h4' : (s.size : Int) < (i : Int) + 4 := by omega
    have HE : Hid (hexAt (s.data.toList.drop i) = -1) := hId (by unfold hexAt; rw [if_pos (by rw [List.length_drop]; omega)])
    clear hlen h4
    go_enter Tryz.func116, Tryz.ntmps116
    go_wp2_with fail
    go_ret
    exact ⟨ret_int HE.out.symm, Mod.refl _ _⟩
  · have h4' : ¬ (s.size : Int) < (i : Int) + 4 := by omega
    have h4'' : (i : Int) + 4 ≤ (s.size : Int) := by omega
    have hi0 : (0 : Int) ≤ i := by omega
    have hi1 : (i : Int) ≤ (i : Int) + 4 := by omega
    have hx4 : (s.extract i (i + 4)).data.toList = (s.data.toList.drop i).take 4 := by rw [extract_data]; congr 1; omega
    have hsz : (s.extract i (i + 4)).size = 4 := by simp only [ByteArray.size_extract]; omega
    have ht := Tryz.strings_Trim_set (s.extract i (i + 4)) hexsB w (by omega) (by decide) (asciiAll (by decide))
    rw [hx4] at ht
    have htb := empty_beq (Lib.trimS ((s.data.toList.drop i).take 4) hexsB.data.toList)
    have htw : decide (Lib.trimS ((s.data.toList.drop i).take 4) hexsB.data.toList = []) = ((s.data.toList.drop i).take 4).all (fun c => isHexN c.toNat) := by
      rw [Bool.eq_iff_iff, decide_eq_true_eq]; exact trim_hex _
    rw [htw] at htb
    have hE : hexAt (s.data.toList.drop i) = if ((s.data.toList.drop i).take 4).all (fun c => isHexN c.toNat) = false then -1 else (hexNum ((s.data.toList.drop i).take 4) : Int) := by unfold hexAt; rw [if_neg (by rw [List.length_drop]; omega)]
    have hpi : ((s.data.toList.drop i).take 4).all (fun c => isHexN c.toNat) = true → ∀ W, Calls Tryz.prog 146 #[.string (s.extract i (i + 4)), .int .i64 16, .int .i64 32] W fun e w' => e = .returned (.tuple #[.int .i64 (hexNum ((s.data.toList.drop i).take 4)), .nilIface]) ∧ New W w' := fun h W => by have := strconv_parseInt16 (s.extract i (i + 4)) (by omega) (by omega) (by rw [hx4]; exact List.all_eq_true.1 h) W; rwa [hx4] at this
    generalize (⟨(Lib.trimS ((s.data.toList.drop i).take 4) hexsB.data.toList).toArray⟩ : ByteArray) = T at *
    have hz16 : ((s.data.toList.drop i).take 4).all (fun c => isHexN c.toNat) = true → hexNum ((s.data.toList.drop i).take 4) < 65536 := fun h => by
      have h2 : ((s.data.toList.drop i).take 4).length = 4 := by rw [List.length_take, List.length_drop]; omega
      have := hexNum_lt (List.all_eq_true.1 h) 4 (by omega)
      rw [List.take_of_length_le (by omega)] at this
      omega
    generalize hexNum ((s.data.toList.drop i).take 4) = z at *
    generalize ((s.data.toList.drop i).take 4).all (fun c => isHexN c.toNat) = p at *
    unfold hexsB at ht
    have HE := hId hE
    clear hlen h4 hx4 hE htw
    cases p
    · clear hpi hz16
      go_enter Tryz.func116, Tryz.ntmps116
      go_wp2_with (first | (refine ht.mono ?_; clear ht; rintro e w2 ⟨rfl, hm2⟩; have hm2 := hId hm2))
      go_ret
      exact ⟨ret_int (by rw [HE.out]; rfl), Mod.of_below hm2.out⟩
    · have hz := hz16 rfl
      obtain ⟨zi, hzi⟩ : ∃ zi : Int, zi = (z : Int) := ⟨_, rfl⟩
      rw [← hzi] at hpi HE
      have hz0 : 0 ≤ zi := by omega
      have hz1 : zi < 65536 := by omega
      clear hz16 hz hzi
      have hw64 : IntKind.i64.wrap zi = zi := by
        simp [IntKind.wrap, IntKind.signed, IntKind.bits]
        omega
      have HPI := hId (hpi rfl)
      clear hpi
      go_enter Tryz.func116, Tryz.ntmps116
      go_wp2_with (first | (refine ht.mono ?_; clear ht; rintro e w2 ⟨rfl, hm2⟩; have hm2 := hId hm2; have hpi := HPI.out w2) | (refine hpi.mono ?_; clear hpi; rintro e w3 ⟨rfl, hm3⟩; have hm3 := hId hm3))
      go_ret
      exact ⟨ret_int (by rw [HE.out]; rfl), Mod.trans (S := fun _ => False) (Mod.of_below hm2.out) hm3.out⟩

end Go.Proofs.YtjmnkdkdjnmejaaGreatDoor
