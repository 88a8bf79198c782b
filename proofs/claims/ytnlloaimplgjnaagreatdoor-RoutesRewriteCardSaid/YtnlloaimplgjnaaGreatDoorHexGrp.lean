/- Several texts in one. (1) Hexadecimal digits read as a number: strconv.ParseUint at base 16. Conditions: digits alone, no more of them than the bits hold. (2) Four hexadecimal digits read as a number: strconv.ParseInt at base 16. Conditions: digits alone, at most four. -/
import Derived.Test.YtnlloaimplgjnaaGreatDoorTplLaw
import Derived.Lib.ConvBytes
import Derived.Lib.AtoiErrMem

namespace Go.Proofs.YtnlloaimplgjnaaGreatDoor
open Go.RowKit
set_option linter.unusedVariables false
set_option linter.unusedSimpArgs false

def hexNum (l : List UInt8) : Nat := l.foldl (fun a c => a * 16 + hexV c.toNat) 0
theorem hexNum_take {l : List UInt8} {k : Nat} (h : k < l.length) : hexNum (l.take (k + 1)) = hexNum (l.take k) * 16 + hexV l[k].toNat := by
  unfold hexNum
  rw [List.take_succ_eq_append_getElem h, List.foldl_append]
  rfl
theorem isHexN_cases {c : Nat} (h : isHexN c = true) : (48 ≤ c ∧ c ≤ 57) ∨ (65 ≤ c ∧ c ≤ 70) ∨ (97 ≤ c ∧ c ≤ 102) := by
  simp only [isHexN, isDigN, Bool.or_eq_true, Bool.and_eq_true, decide_eq_true_eq] at h
  omega
theorem hexV_lt {c : Nat} (h : isHexN c = true) : hexV c < 16 := by
  have := isHexN_cases h
  unfold hexV
  split
  · omega
  · split <;> omega
theorem hexNum_lt {l : List UInt8} (h : ∀ c ∈ l, isHexN c.toNat = true) : ∀ k, k ≤ l.length → hexNum (l.take k) < 16 ^ k
  | 0, _ => by simp [hexNum]
  | k + 1, hk => by
    have ih := hexNum_lt h k (by omega)
    have h1 := hexV_lt (h l[k] (List.getElem_mem (by omega)))
    rw [hexNum_take (by omega), Nat.pow_succ]
    omega
theorem bytes_newH (w : World) (e : TypeId) (t : ByteArray) : New w (Lib.bytesWorld w e t) := Mod.of_below (Lib.bytesWorld_below w e t)

def lowHex (c : Nat) : Nat := if c ≤ 70 then c + 32 else c
set_option maxHeartbeats 1000000 in
theorem lower_hex (c : Nat) (h : (65 ≤ c ∧ c ≤ 70) ∨ (97 ≤ c ∧ c ≤ 102)) (w : World) :
    Calls Tryz.prog 271 #[.int .u8 (c : Int)] w fun e w' => e = .returned (.int .u8 (lowHex c : Int)) ∧ w = w' := by
  have hc : c = 65 ∨ c = 66 ∨ c = 67 ∨ c = 68 ∨ c = 69 ∨ c = 70 ∨ c = 97 ∨ c = 98 ∨ c = 99 ∨ c = 100 ∨ c = 101 ∨ c = 102 := by omega
  go_enter Tryz.func271, Tryz.ntmps271
  go_wp2
  go_ret
  refine ⟨?_, rfl⟩
  rcases hc with rfl | rfl | rfl | rfl | rfl | rfl | rfl | rfl | rfl | rfl | rfl | rfl <;> rfl

set_option maxHeartbeats 2000000 in
set_option maxRecDepth 100000 in
theorem parseUint16_8 (t : ByteArray) (h0 : 1 ≤ t.size) (h2 : t.size ≤ 2) (hx : ∀ c ∈ t.data.toList, isHexN c.toNat = true) (w : World) :
    Calls Tryz.prog 236 #[.string t, .int .i64 16, .int .i64 8] w fun e w' => e = .returned (.tuple #[.int .u64 (hexNum t.data.toList), .nilIface]) ∧ New w w' := by
  have hemp : t.toList.isEmpty = false := by
    rw [ByteArray.toList_eq]
    cases h : t.data.toList with
    | nil => have : t.data.toList.length = t.size := rfl
             rw [h] at this
             simp at this
             omega
    | cons _ _ => rfl
  have hcv := Lib.run_convert_string_bytes (P := Tryz.prog) w 9 107 5 t (u := .string) Tryz.underlying9 Tryz.underlying107 Tryz.underlying5
  have hB : ∀ j, j < t.size → (Lib.bytesWorld w 5 t).cell? ⟨w.heap.size, j, none⟩ = some (.int .u8 (t.data.toList.getD j 0).toNat) := fun j hj => Lib.bytesWorld_cell w 5 t j hj
  have hNW := bytes_newH w 5 t
  obtain ⟨W1, hW1⟩ : ∃ W1, W1 = Lib.bytesWorld w 5 t := ⟨_, rfl⟩
  rw [← hW1] at hcv hB hNW
  have HNW := hId hNW
  have HB := hId hB
  have HX := hId hx
  clear hW1 hNW hB hx
  go_enter Tryz.func236, Tryz.ntmps236
  go_wp2_with fail
  go_loop [12, 13, 101] (fun vu vn vi => ∃ (k : Nat) (a : Int), vu = .bool false ∧ vn = .int .u64 a ∧ vi = .int .i64 k ∧ k ≤ t.size ∧ 0 ≤ a ∧ Hid (a = (hexNum (t.data.toList.take k) : Int))) (fun _ _ vi => t.size - (intOf vi).toNat)
  case atStart => exact ⟨0, 0, rfl, rfl, rfl, by omega, by omega, hId rfl⟩
  case round =>
    obtain ⟨k, a, rfl, rfl, rfl, hk, ha0, HA⟩ := hrel
    by_cases hkn : k < t.size
    · have hkl : k < t.data.toList.length := hkn
      have hc := HB.out k hkn
      have hget : t.data.toList.getD k 0 = t.data.toList[k] := by simp [List.getD, List.getElem?_eq_getElem hkl]
      rw [hget] at hc
      have hxc := HX.out _ (List.getElem_mem hkl)
      have hnext := hexNum_take hkl
      have hlt := hexNum_lt HX.out k (by omega)
      have hup : (16 : Nat) ^ (k + 1) ≤ 16 ^ 2 := Nat.pow_le_pow_right (by decide) (by omega)
      rw [Nat.pow_succ] at hup
      have hp2 : (16 : Nat) ^ 2 = 16 ^ 2 := rfl
      have hH := HA.out
      generalize t.data.toList[k] = c at *
      have hv := hexV_lt hxc
      have hcs := isHexN_cases hxc
      have hvv : hexV c.toNat = if c.toNat ≤ 57 then c.toNat - 48 else if c.toNat ≤ 70 then c.toNat - 55 else c.toNat - 87 := rfl
      have HN : Hid (a * 16 + (hexV c.toNat : Int) = (hexNum (t.data.toList.take (k + 1)) : Int)) := hId (by rw [hnext]; omega)
      have hbig : a * 16 + (hexV c.toNat : Int) < 16 ^ 2 := by
        have : hexNum (t.data.toList.take k) * 16 + hexV c.toNat < 16 ^ 2 := by omega
        have e : ((hexNum (t.data.toList.take k) * 16 + hexV c.toNat : Nat) : Int) < ((16 ^ 2 : Nat) : Int) := by omega
        simpa [← hH] using e
      clear hnext hlt hup hget hH HA hp2
      simp only [Int.reducePow] at hbig
      generalize hexV c.toNat = v at *
      rcases hcs with hd | hd | hd
      · obtain ⟨hd1, hd2⟩ := hd
        have hve : (v : Int) = (c.toNat : Int) - 48 := by rw [if_pos (by omega)] at hvv; omega
        clear hvv hxc
        rw [hve] at HN hbig
        clear hve hv
        go_wp2_with fail
        refine ⟨⟨k + 1, a * 16 + ((c.toNat : Int) - 48), rfl, (by first | rfl | (congr 1; omega)), (by first | rfl | (congr 1; omega)), by omega, by omega, HN⟩, by simp [intOf]; omega⟩
      · have hve : (v : Int) = (c.toNat : Int) - 55 := by rw [if_neg (by omega), if_pos (by omega)] at hvv; omega
        have hlo := lower_hex c.toNat (.inl hd) W1
        rw [show lowHex c.toNat = c.toNat + 32 from if_pos (by omega)] at hlo
        obtain ⟨hd1, hd2⟩ := hd
        clear hvv hxc
        rw [hve] at HN hbig
        clear hve hv
        go_wp2_with (first | (refine hlo.mono ?_; rintro e w' ⟨rfl, rfl⟩))
        refine ⟨⟨k + 1, a * 16 + ((c.toNat : Int) - 55), rfl, (by first | rfl | (congr 1; omega)), (by first | rfl | (congr 1; omega)), by omega, by omega, HN⟩, by simp [intOf]; omega⟩
      · have hve : (v : Int) = (c.toNat : Int) - 87 := by rw [if_neg (by omega), if_neg (by omega)] at hvv; omega
        have hlo := lower_hex c.toNat (.inr hd) W1
        rw [show lowHex c.toNat = c.toNat from if_neg (by omega)] at hlo
        obtain ⟨hd1, hd2⟩ := hd
        clear hvv hxc
        rw [hve] at HN hbig
        clear hve hv
        go_wp2_with (first | (refine hlo.mono ?_; rintro e w' ⟨rfl, rfl⟩))
        refine ⟨⟨k + 1, a * 16 + ((c.toNat : Int) - 87), rfl, (by first | rfl | (congr 1; omega)), (by first | rfl | (congr 1; omega)), by omega, by omega, HN⟩, by simp [intOf]; omega⟩
    · obtain rfl : k = t.size := by omega
      have hfull : t.data.toList.take t.size = t.data.toList := List.take_length
      have HA1 := HA.out
      rw [hfull] at HA1
      subst HA1
      clear HA hfull
      go_wp2_with fail
      go_ret2
      exact ⟨rfl, HNW.out⟩


set_option maxHeartbeats 4000000 in
set_option maxRecDepth 100000 in
theorem parseUint16_32 (t : ByteArray) (h0 : 1 ≤ t.size) (h2 : t.size ≤ 4) (hx : ∀ c ∈ t.data.toList, isHexN c.toNat = true) (w : World) :
    Calls Tryz.prog 236 #[.string t, .int .i64 16, .int .i64 32] w fun e w' => e = .returned (.tuple #[.int .u64 (hexNum t.data.toList), .nilIface]) ∧ New w w' := by
  have hemp : t.toList.isEmpty = false := by
    rw [ByteArray.toList_eq]
    cases h : t.data.toList with
    | nil => have : t.data.toList.length = t.size := rfl
             rw [h] at this
             simp at this
             omega
    | cons _ _ => rfl
  have hcv := Lib.run_convert_string_bytes (P := Tryz.prog) w 9 107 5 t (u := .string) Tryz.underlying9 Tryz.underlying107 Tryz.underlying5
  have hB : ∀ j, j < t.size → (Lib.bytesWorld w 5 t).cell? ⟨w.heap.size, j, none⟩ = some (.int .u8 (t.data.toList.getD j 0).toNat) := fun j hj => Lib.bytesWorld_cell w 5 t j hj
  have hNW := bytes_newH w 5 t
  obtain ⟨W1, hW1⟩ : ∃ W1, W1 = Lib.bytesWorld w 5 t := ⟨_, rfl⟩
  rw [← hW1] at hcv hB hNW
  have HNW := hId hNW
  have HB := hId hB
  have HX := hId hx
  clear hW1 hNW hB hx
  go_enter Tryz.func236, Tryz.ntmps236
  go_wp2_with fail
  go_loop [12, 13, 101] (fun vu vn vi => ∃ (k : Nat) (a : Int), vu = .bool false ∧ vn = .int .u64 a ∧ vi = .int .i64 k ∧ k ≤ t.size ∧ 0 ≤ a ∧ Hid (a = (hexNum (t.data.toList.take k) : Int))) (fun _ _ vi => t.size - (intOf vi).toNat)
  case atStart => exact ⟨0, 0, rfl, rfl, rfl, by omega, by omega, hId rfl⟩
  case round =>
    obtain ⟨k, a, rfl, rfl, rfl, hk, ha0, HA⟩ := hrel
    by_cases hkn : k < t.size
    · have hkl : k < t.data.toList.length := hkn
      have hc := HB.out k hkn
      have hget : t.data.toList.getD k 0 = t.data.toList[k] := by simp [List.getD, List.getElem?_eq_getElem hkl]
      rw [hget] at hc
      have hxc := HX.out _ (List.getElem_mem hkl)
      have hnext := hexNum_take hkl
      have hlt := hexNum_lt HX.out k (by omega)
      have hup : (16 : Nat) ^ (k + 1) ≤ 16 ^ 4 := Nat.pow_le_pow_right (by decide) (by omega)
      rw [Nat.pow_succ] at hup
      have hp2 : (16 : Nat) ^ 4 = 16 ^ 4 := rfl
      have hH := HA.out
      generalize t.data.toList[k] = c at *
      have hv := hexV_lt hxc
      have hcs := isHexN_cases hxc
      have hvv : hexV c.toNat = if c.toNat ≤ 57 then c.toNat - 48 else if c.toNat ≤ 70 then c.toNat - 55 else c.toNat - 87 := rfl
      have HN : Hid (a * 16 + (hexV c.toNat : Int) = (hexNum (t.data.toList.take (k + 1)) : Int)) := hId (by rw [hnext]; omega)
      have hbig : a * 16 + (hexV c.toNat : Int) < 16 ^ 4 := by
        have : hexNum (t.data.toList.take k) * 16 + hexV c.toNat < 16 ^ 4 := by omega
        have e : ((hexNum (t.data.toList.take k) * 16 + hexV c.toNat : Nat) : Int) < ((16 ^ 4 : Nat) : Int) := by omega
        simpa [← hH] using e
      clear hnext hlt hup hget hH HA hp2
      simp only [Int.reducePow] at hbig
      generalize hexV c.toNat = v at *
      rcases hcs with hd | hd | hd
      · obtain ⟨hd1, hd2⟩ := hd
        have hve : (v : Int) = (c.toNat : Int) - 48 := by rw [if_pos (by omega)] at hvv; omega
        clear hvv hxc
        rw [hve] at HN hbig
        clear hve hv
        go_wp2_with fail
        refine ⟨⟨k + 1, a * 16 + ((c.toNat : Int) - 48), rfl, (by first | rfl | (congr 1; omega)), (by first | rfl | (congr 1; omega)), by omega, by omega, HN⟩, by simp [intOf]; omega⟩
      · have hve : (v : Int) = (c.toNat : Int) - 55 := by rw [if_neg (by omega), if_pos (by omega)] at hvv; omega
        have hlo := lower_hex c.toNat (.inl hd) W1
        rw [show lowHex c.toNat = c.toNat + 32 from if_pos (by omega)] at hlo
        obtain ⟨hd1, hd2⟩ := hd
        clear hvv hxc
        rw [hve] at HN hbig
        clear hve hv
        go_wp2_with (first | (refine hlo.mono ?_; rintro e w' ⟨rfl, rfl⟩))
        refine ⟨⟨k + 1, a * 16 + ((c.toNat : Int) - 55), rfl, (by first | rfl | (congr 1; omega)), (by first | rfl | (congr 1; omega)), by omega, by omega, HN⟩, by simp [intOf]; omega⟩
      · have hve : (v : Int) = (c.toNat : Int) - 87 := by rw [if_neg (by omega), if_neg (by omega)] at hvv; omega
        have hlo := lower_hex c.toNat (.inr hd) W1
        rw [show lowHex c.toNat = c.toNat from if_neg (by omega)] at hlo
        obtain ⟨hd1, hd2⟩ := hd
        clear hvv hxc
        rw [hve] at HN hbig
        clear hve hv
        go_wp2_with (first | (refine hlo.mono ?_; rintro e w' ⟨rfl, rfl⟩))
        refine ⟨⟨k + 1, a * 16 + ((c.toNat : Int) - 87), rfl, (by first | rfl | (congr 1; omega)), (by first | rfl | (congr 1; omega)), by omega, by omega, HN⟩, by simp [intOf]; omega⟩
    · obtain rfl : k = t.size := by omega
      have hfull : t.data.toList.take t.size = t.data.toList := List.take_length
      have HA1 := HA.out
      rw [hfull] at HA1
      subst HA1
      clear HA hfull
      go_wp2_with fail
      go_ret2
      exact ⟨rfl, HNW.out⟩

set_option maxHeartbeats 2000000 in
set_option maxRecDepth 100000 in
theorem parseInt16_32 (t : ByteArray) (h0 : 1 ≤ t.size) (h2 : t.size ≤ 4) (hx : ∀ c ∈ t.data.toList, isHexN c.toNat = true) (w : World) :
    Calls Tryz.prog 260 #[.string t, .int .i64 16, .int .i64 32] w fun e w' => e = .returned (.tuple #[.int .i64 (hexNum t.data.toList), .nilIface]) ∧ New w w' := by
  have hp := parseUint16_32 t h0 h2 hx w
  have hlt := hexNum_lt hx t.data.toList.length (Nat.le_refl _)
  rw [List.take_length] at hlt
  have hpw : (16 : Nat) ^ t.data.toList.length ≤ 16 ^ 4 := Nat.pow_le_pow_right (by decide) h2
  have hb : hexNum t.data.toList < 65536 := by
    have : (16 : Nat) ^ 4 = 65536 := by decide
    omega
  have h1 := isHexN_cases (hx t[0] (by
    have : t[0] = t.data.toList[0]'h0 := rfl
    rw [this]; exact List.getElem_mem _))
  have hemp : (t.toList == []) = false := by
    rw [ByteArray.toList_eq]
    cases h : t.data.toList with
    | nil => have : t.data.toList.length = t.size := rfl
             rw [h] at this
             simp at this
             omega
    | cons _ _ => rfl
  have hp0 : 0 < t.size := h0
  obtain ⟨c0, hs0⟩ : ∃ c0, t[0]'hp0 = c0 := ⟨_, rfl⟩
  rw [hs0] at h1
  have c43 : ((c0.toNat : Int) == 43) = false := by simp only [beq_eq_false_iff_ne, ne_eq]; omega
  have c45 : ((c0.toNat : Int) == 45) = false := by simp only [beq_eq_false_iff_ne, ne_eq]; omega
  obtain ⟨z, hz⟩ : ∃ z : Int, z = (hexNum t.data.toList : Int) := ⟨_, rfl⟩
  have hz0 : 0 ≤ z := by omega
  have hz1 : z < 2147483648 := by omega
  rw [← hz] at hp ⊢
  clear hlt hpw h1 hx hb h0 h2 hz
  go_enter Tryz.func260, Tryz.ntmps260
  go_wp2_with (first | (refine hp.mono ?_; clear hp; rintro e w2 ⟨rfl, hm⟩; have hm := hId hm))
  go_ret2
  exact ⟨rfl, hm.out⟩
set_option maxHeartbeats 1000000 in
set_option maxRecDepth 100000 in
theorem strconv_parseInt16 (t : ByteArray) (h0 : 1 ≤ t.size) (h2 : t.size ≤ 4) (hx : ∀ c ∈ t.data.toList, isHexN c.toNat = true) (w : World) :
    Calls Tryz.prog 228 #[.string t, .int .i64 16, .int .i64 32] w fun e w' => e = .returned (.tuple #[.int .i64 (hexNum t.data.toList), .nilIface]) ∧ New w w' := by
  have hp := parseInt16_32 t h0 h2 hx w
  go_enter Tryz.func228, Tryz.ntmps228
  go_wp2_with (first | (refine hp.mono ?_; clear hp; rintro e w2 ⟨rfl, hm⟩; have hm := hId hm))
  go_ret2
  exact ⟨rfl, hm.out⟩

end Go.Proofs.YtnlloaimplgjnaaGreatDoor
