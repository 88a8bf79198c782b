/- A byte that is no hexadecimal digit among the first ones: strconv.ParseUint at base 16 and 8 bits answers an error. Conditions: one byte or two; the library's variable ErrSyntax holds an error or nil. -/
import Derived.Test.YtnlloaimplgjnaaGreatDoorHexGrp
import Derived.Test.YtnlloaimplgjnaaGreatDoorShelf
import Derived.Test.YtnlloaimplgjnaaGreatDoorWordLaw
namespace Go.Proofs.YtnlloaimplgjnaaGreatDoor
open Go.RowKit
set_option linter.unusedVariables false
set_option linter.unusedSimpArgs false

def lowB (c : UInt8) : UInt8 := c ||| 32
theorem lowB_bad (c : UInt8) : isHexN c.toNat = false → ¬ (48 ≤ c.toNat ∧ c.toNat ≤ 57) ∧ (97 ≤ (lowB c).toNat ∧ (lowB c).toNat ≤ 122 → 103 ≤ (lowB c).toNat) := by
  revert c
  apply byteOf
  decide +kernel
theorem lowB_bits (c : UInt8) : Go.bits BinOp.or IntKind.u8 (c.toNat : Int) 32 = ((lowB c).toNat : Int) := by
  revert c
  apply byteOf
  decide +kernel
set_option maxHeartbeats 1000000 in
theorem lower_any (c : UInt8) (w : World) :
    Calls Tryz.prog 271 #[.int .u8 (c.toNat : Int)] w fun e w' => e = .returned (.int .u8 ((lowB c).toNat : Int)) ∧ w = w' := by
  have HOR := hId (lowB_bits c)
  go_enter Tryz.func271, Tryz.ntmps271
  go_wp2
  go_ret
  exact ⟨ret_int HOR.out, rfl⟩
/-- the first k bytes are digits -/
def HexTo (t : ByteArray) (k : Nat) : Prop := ∀ j (h : j < t.data.toList.length), j < k → isHexN t.data.toList[j].toNat = true
theorem HexTo.lt {t : ByteArray} {k : Nat} (h : HexTo t k) (j : Nat) (hj : j ≤ k) (hl : j ≤ t.data.toList.length) : hexNum (t.data.toList.take j) < 16 ^ j := by
  have := hexNum_lt (l := t.data.toList.take j) (fun c hc => by
    obtain ⟨i, hi, rfl⟩ := List.getElem_of_mem hc
    rw [List.getElem_take]
    rw [List.length_take] at hi
    exact h i (by omega) (by omega)) j (by rw [List.length_take]; omega)
  rwa [List.take_take, Nat.min_self] at this
set_option maxHeartbeats 4000000 in
set_option maxRecDepth 100000 in
theorem parseUint16_bad (t : ByteArray) (h0 : 1 ≤ t.size) (h2 : t.size ≤ 2) (hx : t.data.toList.all (fun c => isHexN c.toNat) = false) (w : World) :
    Calls Tryz.prog 236 #[.string t, .int .i64 16, .int .i64 8] w fun e w' => e = .returned (.tuple #[.int .u64 0, .iface 233 (.int .i64 2)]) ∧ New w w' := by
  have hemp : t.toList.isEmpty = false := by
    rw [ByteArray.toList_eq]
    cases h : t.data.toList with
    | nil => have : t.data.toList.length = t.size := rfl
             rw [h] at this
             simp at this
             omega
    | cons _ _ => rfl
  have hcv := Lib.run_convert_string_bytes (P := Tryz.prog) w 9 107 5 t (u := .string) Tryz.underlying9 Tryz.underlying107 Tryz.underlying5
  have hB : ∀ j, j < t.size → (Lib.bytesWorld w 5 t).cell? ⟨w.heap.size, j, none⟩ = some (.int .u8 (t.data.toList.getD j 0).toNat) := fun j hj => Lib.bytesWorld_cell w 5 t j hj
  have hNW := bytes_newH w 5 t
  obtain ⟨W1, hW1⟩ : ∃ W1, W1 = Lib.bytesWorld w 5 t := ⟨_, rfl⟩
  rw [← hW1] at hcv hB hNW
  have HNW := hId hNW
  have HB := hId hB
  have HX := hId hx
  clear hW1 hNW hB hx
  go_enter Tryz.func236, Tryz.ntmps236
  go_wp2_with fail
  go_loop [12, 13, 101] (fun vu vn vi => ∃ (k : Nat) (a : Int), vu = .bool false ∧ vn = .int .u64 a ∧ vi = .int .i64 k ∧ k ≤ t.size ∧ 0 ≤ a ∧ Hid (a = (hexNum (t.data.toList.take k) : Int)) ∧ Hid (HexTo t k)) (fun _ _ vi => t.size - (intOf vi).toNat)
  case atStart => exact ⟨0, 0, rfl, rfl, rfl, by omega, by omega, hId rfl, hId (fun j h hj => absurd hj (by omega))⟩
  case round =>
    obtain ⟨k, a, rfl, rfl, rfl, hk, ha0, HA, HT⟩ := hrel
    by_cases hkn : k < t.size
    · cases hhex : isHexN (t.data.toList[k]'hkn).toNat
      · have hkl : k < t.data.toList.length := hkn
        have hc := HB.out k hkn
        have hget : t.data.toList.getD k 0 = t.data.toList[k] := by simp [List.getD, List.getElem?_eq_getElem hkl]
        rw [hget] at hc
        clear hget HA
        generalize t.data.toList[k]'hkn = c at *
        obtain ⟨hnd, hlb⟩ := lowB_bad c hhex
        have hlo := lower_any c W1
        have hz := (lowB c).toNat_lt
        clear hhex
        by_cases h95 : c = 95
        · subst h95
          clear hnd hlb hz
          have e95 : (((95 : UInt8).toNat : Nat) : Int) = 95 := rfl
          have e127 : (((lowB 95).toNat : Nat) : Int) = 127 := by decide
          rw [e95] at hlo hc
          rw [e127] at hlo
          clear e95 e127
          go_wp2_with (first | (refine hlo.mono ?_; rintro e w' ⟨rfl, rfl⟩))
          go_ret2
          exact ⟨rfl, HNW.out⟩
        have h95' : ¬ (c.toNat : Int) = 95 := fun h => h95 (UInt8.toNat_inj.1 (by have : (95 : UInt8).toNat = 95 := rfl; omega))
        clear h95
        obtain ⟨z, hzz⟩ : ∃ z : Int, z = ((lowB c).toNat : Int) := ⟨_, rfl⟩
        rw [← hzz] at hlo
        have hcs : (97 ≤ z ∧ z ≤ 122 ∧ 103 ≤ z) ∨ ¬ 97 ≤ z ∨ (97 ≤ z ∧ ¬ z ≤ 122) := by
          by_cases hl : 97 ≤ (lowB c).toNat ∧ (lowB c).toNat ≤ 122
          · have := hlb hl; omega
          · omega
        have hds : (48 ≤ (c.toNat : Int) ∧ ¬ (c.toNat : Int) ≤ 57) ∨ ¬ 48 ≤ (c.toNat : Int) := by omega
        clear hlb hz hzz hnd
        rcases hds with ⟨hd1, hd2⟩ | hd1
        all_goals
          rcases hcs with ⟨z1, z2, z3⟩ | z1 | ⟨z1, z2⟩
          all_goals
            go_wp2_with (first | (refine hlo.mono ?_; rintro e w' ⟨rfl, rfl⟩))
            go_ret2
            exact ⟨rfl, HNW.out⟩
      · have hkl : k < t.data.toList.length := hkn
        have HT1 : Hid (HexTo t (k + 1)) := hId (fun j h hj => by
          by_cases e : j = k
          · subst e; exact hhex
          · exact HT.out j h (by omega))
        have hkl : k < t.data.toList.length := hkn
        have hc := HB.out k hkn
        have hget : t.data.toList.getD k 0 = t.data.toList[k] := by simp [List.getD, List.getElem?_eq_getElem hkl]
        rw [hget] at hc
        have hxc := hhex
        have hnext := hexNum_take hkl
        have hlt := HT.out.lt k (by omega) (by omega)
        have hup : (16 : Nat) ^ (k + 1) ≤ 16 ^ 2 := Nat.pow_le_pow_right (by decide) (by omega)
        rw [Nat.pow_succ] at hup
        have hp2 : (16 : Nat) ^ 2 = 16 ^ 2 := rfl
        have hH := HA.out
        generalize t.data.toList[k] = c at *
        have hv := hexV_lt hxc
        have hcs := isHexN_cases hxc
        have hvv : hexV c.toNat = if c.toNat ≤ 57 then c.toNat - 48 else if c.toNat ≤ 70 then c.toNat - 55 else c.toNat - 87 := rfl
        have HN : Hid (a * 16 + (hexV c.toNat : Int) = (hexNum (t.data.toList.take (k + 1)) : Int)) := hId (by rw [hnext]; omega)
        have hbig : a * 16 + (hexV c.toNat : Int) < 16 ^ 2 := by
          have : hexNum (t.data.toList.take k) * 16 + hexV c.toNat < 16 ^ 2 := by omega
          have e : ((hexNum (t.data.toList.take k) * 16 + hexV c.toNat : Nat) : Int) < ((16 ^ 2 : Nat) : Int) := by omega
          simpa [← hH] using e
        clear hnext hlt hup hget hH HA hp2
        simp only [Int.reducePow] at hbig
        generalize hexV c.toNat = v at *
        rcases hcs with hd | hd | hd
        · obtain ⟨hd1, hd2⟩ := hd
          have hve : (v : Int) = (c.toNat : Int) - 48 := by rw [if_pos (by omega)] at hvv; omega
          clear hvv hxc
          rw [hve] at HN hbig
          clear hve hv
          go_wp2_with fail
          refine ⟨⟨k + 1, a * 16 + ((c.toNat : Int) - 48), rfl, (by first | rfl | (congr 1; omega)), (by first | rfl | (congr 1; omega)), by omega, by omega, HN, HT1⟩, by simp [intOf]; omega⟩
        · have hve : (v : Int) = (c.toNat : Int) - 55 := by rw [if_neg (by omega), if_pos (by omega)] at hvv; omega
          have hlo := lower_hex c.toNat (.inl hd) W1
          rw [show lowHex c.toNat = c.toNat + 32 from if_pos (by omega)] at hlo
          obtain ⟨hd1, hd2⟩ := hd
          clear hvv hxc
          rw [hve] at HN hbig
          clear hve hv
          go_wp2_with (first | (refine hlo.mono ?_; rintro e w' ⟨rfl, rfl⟩))
          refine ⟨⟨k + 1, a * 16 + ((c.toNat : Int) - 55), rfl, (by first | rfl | (congr 1; omega)), (by first | rfl | (congr 1; omega)), by omega, by omega, HN, HT1⟩, by simp [intOf]; omega⟩
        · have hve : (v : Int) = (c.toNat : Int) - 87 := by rw [if_neg (by omega), if_neg (by omega)] at hvv; omega
          have hlo := lower_hex c.toNat (.inr hd) W1
          rw [show lowHex c.toNat = c.toNat from if_neg (by omega)] at hlo
          obtain ⟨hd1, hd2⟩ := hd
          clear hvv hxc
          rw [hve] at HN hbig
          clear hve hv
          go_wp2_with (first | (refine hlo.mono ?_; rintro e w' ⟨rfl, rfl⟩))
          refine ⟨⟨k + 1, a * 16 + ((c.toNat : Int) - 87), rfl, (by first | rfl | (congr 1; omega)), (by first | rfl | (congr 1; omega)), by omega, by omega, HN, HT1⟩, by simp [intOf]; omega⟩
    · obtain rfl : k = t.size := by omega
      have hall : t.data.toList.all (fun c => isHexN c.toNat) = true := List.all_eq_true.2 (fun c hc => by
        obtain ⟨i, hi, rfl⟩ := List.getElem_of_mem hc
        exact HT.out i hi hi)
      rw [HX.out] at hall
      cases hall

def ErrSyn (w : World) : Prop := ∃ ev, w.cell? ⟨2, 0, none⟩ = some ev ∧ (ev = .nilIface ∨ ∃ te pe, ev = .iface te pe)
theorem ErrSyn.new {w w' : World} (h : ErrSyn w) (hm : New w w') : ErrSyn w' := by
  obtain ⟨m, hc, hr⟩ := h
  have hlt : 2 < w.heap.size := by
    rcases Nat.lt_or_ge 2 w.heap.size with hlt | hge
    · exact hlt
    · simp [World.cell?, Array.getElem?_eq_none hge] at hc
  exact ⟨m, (hm.cell (p := ⟨2, 0, none⟩) hlt (fun e => e)).trans hc, hr⟩
set_option maxHeartbeats 1000000 in
theorem strconv_parseUint16_bad (t : ByteArray) (h0 : 1 ≤ t.size) (h2 : t.size ≤ 2) (hx : t.data.toList.all (fun c => isHexN c.toNat) = false) (w : World) (he : ErrSyn w) :
    Calls Tryz.prog 189 #[.string t, .int .i64 16, .int .i64 8] w fun e w' => (∃ tt p, e = .returned (.tuple #[.int .u64 0, .iface tt p])) ∧ New w w' := by
  have hp := parseUint16_bad t h0 h2 hx w
  have HE := hId he
  clear he
  go_enter Tryz.func189, Tryz.ntmps189
  go_wp2_with fail
  refine hp.mono ?_
  clear hp
  rintro e w1 ⟨rfl, hm⟩
  obtain ⟨ev, hev, hcs⟩ := HE.out.new hm
  have hte := Tryz.strconv_toError_syntax ⟨#[80, 97, 114, 115, 101, 85, 105, 110, 116]⟩ t 16 8 ev w1 (by omega) hev hcs
  have HTE := hId hte
  have HM := hId hm
  clear hte hev hcs hm
  go_wp2_with fail
  refine HTE.out.mono ?_
  clear HTE
  rintro e w2 ⟨n, rfl, hn, hb, hbel⟩
  have HM2 := hId (HM.out.trans (Mod.of_below hbel))
  clear hb hbel
  go_wp2_with fail
  go_ret2
  exact ⟨⟨_, _, rfl⟩, HM2.out⟩

end Go.Proofs.YtnlloaimplgjnaaGreatDoor
