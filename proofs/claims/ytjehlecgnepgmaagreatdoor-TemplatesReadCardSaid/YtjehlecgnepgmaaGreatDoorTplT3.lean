/- The reference writes a segment (segmentText). Conditions: a name of modest size. -/
import Derived.Test.YtjehlecgnepgmaaGreatDoorTplT2
namespace Go.Proofs.YtjehlecgnepgmaaGreatDoor
open Go.RowKit
set_option linter.unusedVariables false
set_option linter.unusedSimpArgs false

abbrev openL : List UInt8 := [97, 98, 99, 100, 101, 102, 103, 104, 105, 106, 107, 108, 109, 110, 111, 112, 113, 114, 115, 116, 117, 118, 119, 120, 121, 122, 65, 66, 67, 68, 69, 70, 71, 72, 73, 74, 75, 76, 77, 78, 79, 80, 81, 82, 83, 84, 85, 86, 87, 88, 89, 90, 95, 48, 49, 50, 51, 52, 53, 54, 55, 56, 57, 45, 46, 126, 33, 36, 38, 39, 40, 41, 42, 43, 44, 59, 61, 58, 64]
theorem open_at (c : UInt8) : decide (0 ≤ Lib.indexByte openL c) = openC c := by
  revert c
  apply byteOf
  decide +kernel
theorem open_ascii {c : UInt8} (h : openC c = true) : Utf8.encode (c.toNat : Int) = ⟨#[c]⟩ := by
  revert h
  revert c
  apply byteOf
  decide +kernel
theorem up_ascii (m : Nat) (h : m < 16) : Utf8.encode ((upB[m]'h).toNat : Int) = ⟨#[upHex m]⟩ := by
  rw [← upB_at m h]
  revert m
  decide +kernel
theorem up_div (x : UInt8) (z : Int) (hz : z = (x.toNat : Int)) (h : (z / 16).toNat < 16) : Utf8.encode ((upB[(z / 16).toNat]'h).toNat : Int) = ⟨#[upHex (x.toNat / 16)]⟩ := by
  have e : (z / 16).toNat = x.toNat / 16 := by omega
  rw [up_ascii _ h, e]
theorem up_mod (x : UInt8) (z : Int) (hz : z = (x.toNat : Int)) (h : (z % 16).toNat < 16) : Utf8.encode ((upB[(z % 16).toNat]'h).toNat : Int) = ⟨#[upHex (x.toNat % 16)]⟩ := by
  have e : (z % 16).toNat = x.toNat % 16 := by omega
  rw [up_ascii _ h, e]
theorem wrap32 (c : UInt8) : IntKind.i32.wrap (c.toNat : Int) = c.toNat := by
  have := c.toNat_lt
  simp [IntKind.wrap, IntKind.signed, IntKind.bits]
  omega
set_option maxRecDepth 100000 in
set_option maxHeartbeats 1500000 in
theorem ref_segmentText (s : ByteArray) (w : World) (hs : s.size ≤ 100000) :
    Calls Tryz.prog 42 #[.string s] w fun e w' => e = .returned (.string ⟨(segL s.data.toList).toArray⟩) ∧ New w w' := by
  have hcv := Lib.run_convert_string_bytes (P := Tryz.prog) w 9 67 5 s (u := .string) Tryz.underlying9 Tryz.underlying67 Tryz.underlying5
  have hB : ∀ j, j < s.size → (Lib.bytesWorld w 5 s).cell? ⟨w.heap.size, j, none⟩ = some (.int .u8 (s.data.toList.getD j 0).toNat) := fun j hj => Lib.bytesWorld_cell w 5 s j hj
  have hNW := bytes_newH w 5 s
  go_enter Tryz.func42, Tryz.ntmps42
  go_wp2_with fail
  generalize Lib.bytesWorld w 5 s = w2 at *
  generalize w.heap.size = cb at *
  have HB := Lib.hid hB
  have HM := Lib.hid hNW
  clear hB hNW hcv
  go_loopw [3, 9] (fun o i wr => ∃ (k : Nat) (U : ByteArray), k ≤ s.size ∧ i = .int .i64 k ∧ o = .string U ∧ Hid (U.data.toList = segL (s.data.toList.take k)) ∧ Hid (New w2 wr)) (fun _ i _ => s.size - (intOf i).toNat)
  case atStart => exact ⟨0, ⟨#[]⟩, Nat.zero_le _, rfl, rfl, Lib.hid rfl, Lib.hid (Mod.refl _ _)⟩
  case round =>
    rename World => wr
    obtain ⟨k, U, hk, rfl, rfl, HU, HW⟩ := hrel
    by_cases hlt : k < s.size
    · have hkl : k < s.data.toList.length := hlt
      have hUz : U.size ≤ 300000 := by
        have h1 : U.data.toList.length = U.size := rfl
        have h2 := segL_length (s.data.toList.take k)
        rw [HU.out] at h1
        have h3 : (s.data.toList.take k).length = k := by rw [List.length_take]; omega
        omega
      have hst := segL_take hkl
      have hc := (HW.out.cell (p := ⟨cb, k, none⟩) (by
        have := HB.out k hlt
        rcases Nat.lt_or_ge cb w2.heap.size with h | h
        · exact h
        · simp [World.cell?, Array.getElem?_eq_none h] at this) (fun e => e)).trans (HB.out k hlt)
      have hget : s.data.toList.getD k 0 = s.data.toList[k] := by simp [List.getD, List.getElem?_eq_getElem hkl]
      rw [hget] at hc
      have hix := fun W => Tryz.strings_IndexByte ⟨#[97, 98, 99, 100, 101, 102, 103, 104, 105, 106, 107, 108, 109, 110, 111, 112, 113, 114, 115, 116, 117, 118, 119, 120, 121, 122, 65, 66, 67, 68, 69, 70, 71, 72, 73, 74, 75, 76, 77, 78, 79, 80, 81, 82, 83, 84, 85, 86, 87, 88, 89, 90, 95, 48, 49, 50, 51, 52, 53, 54, 55, 56, 57, 45, 46, 126, 33, 36, 38, 39, 40, 41, 42, 43, 44, 59, 61, 58, 64]⟩ (s.data.toList[k].toNat : Int) W
      rw [byteBack, show (⟨#[97, 98, 99, 100, 101, 102, 103, 104, 105, 106, 107, 108, 109, 110, 111, 112, 113, 114, 115, 116, 117, 118, 119, 120, 121, 122, 65, 66, 67, 68, 69, 70, 71, 72, 73, 74, 75, 76, 77, 78, 79, 80, 81, 82, 83, 84, 85, 86, 87, 88, 89, 90, 95, 48, 49, 50, 51, 52, 53, 54, 55, 56, 57, 45, 46, 126, 33, 36, 38, 39, 40, 41, 42, 43, 44, 59, 61, 58, 64]⟩ : ByteArray).data.toList = openL from rfl] at hix
      have hop := open_at s.data.toList[k]
      generalize s.data.toList[k] = x at *
      have hsx : segC x = if openC x then [x] else [37, upHex (x.toNat / 16), upHex (x.toNat % 16)] := rfl
      have hwr := wrap32 x
      have hx256 := x.toNat_lt
      have hb1 : (0 : Int) ≤ k := by omega
      have hb2 : (k : Int) < s.size := by omega
      have hix := hix wr
      generalize Lib.indexByte openL x = r at *
      cases hox : openC x <;> rw [hox] at hop hsx
      · have hr : ¬ (0 : Int) ≤ r := by simpa using hop
        obtain ⟨z, hz⟩ : ∃ z : Int, z = (x.toNat : Int) := ⟨_, rfl⟩
        have z0 : 0 ≤ z := by omega
        have z1 : z < 256 := by omega
        have q16 : (z / 16).toNat < 16 := by omega
        have r16 : (z % 16).toNat < 16 := by omega
        have d0 : 0 ≤ z / 16 := by omega
        have d1 : z / 16 < 16 := by omega
        have m0 : 0 ≤ z % 16 := by omega
        have m1 : z % 16 < 16 := by omega
        have td : z.tdiv 16 = z / 16 := Int.tdiv_eq_ediv_of_nonneg z0
        have tm : z.tmod 16 = z % 16 := Int.tmod_eq_emod_of_nonneg z0
        have en1 := up_div x z hz q16
        have en2 := up_mod x z hz r16
        have HS1 : Hid ((U ++ (⟨#[37]⟩ ++ ⟨#[upHex (x.toNat / 16)]⟩ ++ ⟨#[upHex (x.toNat % 16)]⟩)).data.toList = segL (s.data.toList.take (k + 1))) := Lib.hid (by rw [cat_list, HU.out, hst, hsx]; rfl)
        generalize upHex (x.toNat / 16) = u1 at *
        generalize upHex (x.toNat % 16) = u2 at *
        have e1 : ∀ u : UInt8, (⟨#[u]⟩ : ByteArray).size = 1 := fun u => rfl
        have hadd1 : ¬ 9223372036854775807 < (⟨#[37]⟩ : ByteArray).size + (⟨#[u1]⟩ : ByteArray).size := by rw [e1, e1]; omega
        have hadd2 : ¬ 9223372036854775807 < ((⟨#[37]⟩ : ByteArray) ++ ⟨#[u1]⟩).size + (⟨#[u2]⟩ : ByteArray).size := by rw [ByteArray.size_append, e1, e1, e1]; omega
        have hadd3 : ¬ 9223372036854775807 < U.size + ((⟨#[37]⟩ : ByteArray) ++ ⟨#[u1]⟩ ++ ⟨#[u2]⟩).size := by rw [ByteArray.size_append, ByteArray.size_append, e1, e1, e1]; omega
        rw [← hz] at hc hix
        have HALL := Lib.hid (And.intro td (And.intro tm (And.intro en1 en2)))
        clear hst hsx hop hget hox hz hwr e1 hx256 td tm en1 en2
        go_upto_region 7 with (first | (refine hix.mono ?_; clear hix; rintro e w' ⟨rfl, hw⟩; rw [hw]; clear hw))
        obtain ⟨td, tm, en1, en2⟩ := HALL.out
        clear HALL
        go_quiet (fail)
        go_wp2_with fail
        go_roundw
        case rel => exact ⟨k + 1, _, by omega, by go_num, rfl, HS1, Lib.hid (HW.out.drewN _)⟩
        case measure => simp [intOf]; omega
      · have hr : (0 : Int) ≤ r := by simpa using hop
        have hen := open_ascii hox
        have HS1 : Hid ((U ++ ⟨#[x]⟩).data.toList = segL (s.data.toList.take (k + 1))) := Lib.hid (by rw [cat_list, HU.out, hst, hsx]; rfl)
        have hadd : ¬ 9223372036854775807 < U.size + (⟨#[x]⟩ : ByteArray).size := by have e : (⟨#[x]⟩ : ByteArray).size = 1 := rfl; omega
        clear hst hsx hop hget hox
        go_wp2_with (first | (refine hix.mono ?_; clear hix; rintro e w' ⟨rfl, hw⟩; rw [hw]; clear hw))
        go_roundw
        case rel => exact ⟨k + 1, _, by omega, by go_num, rfl, HS1, HW⟩
        case measure => simp [intOf]; omega
    · obtain rfl : k = s.size := by omega
      have HN : Hid (U = ⟨(segL s.data.toList).toArray⟩) := Lib.hid (by
        have h := HU.out
        rw [show s.data.toList.take s.size = s.data.toList from List.take_length] at h
        rw [← h, mkList])
      go_wp2_with fail
      go_ret
      exact ⟨by rw [← HN.out]; rfl, HM.out.trans HW.out⟩

end Go.Proofs.YtjehlecgnepgmaaGreatDoor
