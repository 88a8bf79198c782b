/- Segments of paths: units decoded and segments written (package message). Conditions: strings of modest size. -/
import Derived.Test.YtjehlecgnepgmaaGreatDoorSeg
namespace Go.Proofs.YtjehlecgnepgmaaGreatDoor
open Go.RowKit
set_option linter.unusedVariables false
set_option linter.unusedSimpArgs false

set_option maxHeartbeats 1000000 in
theorem strconv_parseUint16_8 (t : ByteArray) (h0 : 1 ≤ t.size) (h2 : t.size ≤ 2) (hx : ∀ c ∈ t.data.toList, isHexN c.toNat = true) (w : World) :
    Calls Tryz.prog 144 #[.string t, .int .i64 16, .int .i64 8] w fun e w' => e = .returned (.tuple #[.int .u64 (hexNum t.data.toList), .nilIface]) ∧ New w w' := by
  have hp := parseUint16_8 t h0 h2 hx w
  go_enter Tryz.func144, Tryz.ntmps144
  go_wp2_with fail
  refine hp.mono ?_
  clear hp
  rintro e w1 ⟨rfl, hm⟩
  go_wp2_with fail
  go_ret2
  exact ⟨rfl, hm⟩
theorem unit_two {s : List UInt8} {i : Nat} (h : unitAt s i = true) : ((s.drop (i + 1)).take 2) = [s.getD (i + 1) 0, s.getD (i + 2) 0] ∧ isHexN (s.getD (i + 1) 0).toNat = true ∧ isHexN (s.getD (i + 2) 0).toNat = true ∧ i + 2 < s.length := by
  simp only [unitAt, Bool.and_eq_true, decide_eq_true_eq] at h
  obtain ⟨⟨h3, h4⟩, h5⟩ := h
  refine ⟨?_, h4, h5, h3⟩
  have e1 : s.getD (i + 1) 0 = s[i + 1]'(by omega) := by simp [List.getD_eq_getElem?_getD, List.getElem?_eq_getElem (show i + 1 < s.length by omega)]
  have e2 : s.getD (i + 2) 0 = s[i + 2]'(by omega) := by simp [List.getD_eq_getElem?_getD, List.getElem?_eq_getElem (show i + 2 < s.length by omega)]
  rw [e1, e2, List.drop_eq_getElem_cons (show i + 1 < s.length by omega), List.drop_eq_getElem_cons (show i + 1 + 1 < s.length by omega)]
  rfl
theorem extract_data (s : ByteArray) (i j : Nat) : (s.extract i j).data.toList = (s.data.toList.drop i).take (j - i) := by
  rw [ByteArray.data_extract, Array.toList_extract]
set_option maxHeartbeats 1000000 in
theorem msg_unit (s : ByteArray) (i : Nat) (w : World) (hs : s.size ≤ 1000000) (hu : unitAt s.data.toList i = true) :
    Calls Tryz.prog 117 #[.string s, .int .i64 (i : Int)] w fun e w' => e = .returned (.int .u8 ((unitV (s.data.toList.getD (i + 1) 0) (s.data.toList.getD (i + 2) 0)).toNat : Int)) ∧ New w w' := by
  obtain ⟨u1, u2, u3, u4⟩ := unit_two hu
  have u5 : i + 2 < s.size := u4
  generalize s.data.toList.getD (i + 1) 0 = a at *
  generalize s.data.toList.getD (i + 2) 0 = b at *
  have hd : (s.extract (i + 1) (i + 3)).data.toList = [a, b] := by rw [extract_data, ← u1]; congr 1; omega
  have hz : (s.extract (i + 1) (i + 3)).size = 2 := by simp only [ByteArray.size_extract]; omega
  have hp := strconv_parseUint16_8 (s.extract (i + 1) (i + 3)) (by omega) (by omega) (by
    rw [hd]; intro c hc; simp at hc; rcases hc with rfl | rfl
    · exact u2
    · exact u3) w
  rw [hd] at hp
  have v1 := hexV_lt u2
  have v2 := hexV_lt u3
  have hn : hexNum [a, b] = 16 * hexV a.toNat + hexV b.toNat := by simp [hexNum]; omega
  have hv : (unitV a b).toNat = 16 * hexV a.toNat + hexV b.toNat := by
    unfold unitV
    rw [UInt8.toNat_ofNat']
    omega
  rw [hn] at hp
  rw [hv]
  generalize hq : 16 * hexV a.toNat + hexV b.toNat = q at *
  have q256 : q < 256 := by omega
  have n1 : ((i : Int) + 1).toNat = i + 1 := by omega
  have n3 : ((i : Int) + 3).toNat = i + 3 := by omega
  have b1 : (i : Int) + 3 ≤ (s.size : Int) := by omega
  clear u1 u2 u3 u4 hd hz hn hv v1 v2 hq hu
  go_enter Tryz.func117, Tryz.ntmps117
  go_wp2_with fail
  refine hp.mono ?_
  clear hp
  rintro e w1 ⟨rfl, hm⟩
  have hm := Lib.hid hm
  go_wp2_with fail
  go_ret
  exact ⟨rfl, hm.out⟩

/-- what a segment's decoding gives: the bytes, or that a unit is wrong -/
def decV (s : List UInt8) : Value := match decL s with
  | none => .tuple #[.string ⟨#[]⟩, .bool false]
  | some o => .tuple #[.string ⟨o.toArray⟩, .bool true]
theorem decV_none {s : List UInt8} (h : decL s = none) : decV s = .tuple #[.string ⟨#[]⟩, .bool false] := by unfold decV; rw [h]
theorem decV_some {s o : List UInt8} (h : decL s = some o) : decV s = .tuple #[.string ⟨o.toArray⟩, .bool true] := by unfold decV; rw [h]
/-- what has been read of s up to place k gives o -/
def DecTo (s : List UInt8) (k : Nat) (o : List UInt8) : Prop := decL s = (decL (s.drop k)).map (o ++ ·) ∧ o.length ≤ k
theorem DecTo.start (s : List UInt8) : DecTo s 0 [] := ⟨by simp, Nat.le_refl _⟩
theorem DecTo.plain {s : List UInt8} {k : Nat} {o : List UInt8} (h : DecTo s k o) (hk : k < s.length) (h1 : s[k] ≠ 37) : DecTo s (k + 1) (o ++ [s[k]]) := by
  refine ⟨?_, by have := h.2; simp; omega⟩
  rw [h.1, decL_at_plain hk h1]
  cases decL (s.drop (k + 1)) <;> simp
theorem DecTo.unit {s : List UInt8} {k : Nat} {o : List UInt8} (h : DecTo s k o) (hk : k < s.length) (h1 : s[k] = 37) (h2 : unitAt s k = true) : DecTo s (k + 3) (o ++ [unitV (s.getD (k + 1) 0) (s.getD (k + 2) 0)]) := by
  refine ⟨?_, by have := h.2; simp; omega⟩
  rw [h.1, decL_at_unit hk h1 h2]
  cases decL (s.drop (k + 3)) <;> simp
theorem DecTo.bad {s : List UInt8} {k : Nat} {o : List UInt8} (h : DecTo s k o) (hk : k < s.length) (h1 : s[k] = 37) (h2 : unitAt s k = false) : decL s = none := by
  rw [h.1, decL_at_bad hk h1 h2]; rfl
theorem DecTo.done {s : List UInt8} {k : Nat} {o : List UInt8} (h : DecTo s k o) (hk : s.length ≤ k) : decL s = some o := by
  rw [h.1, List.drop_eq_nil_of_le hk]; simp [decL]
theorem bw_any (B b : Nat) (l : List UInt8) (w : World) (h : Bw 69 B b l w) :
    Calls Tryz.prog 38 #[.pointer (some ⟨b, 0, none⟩)] w fun e w' => e = .returned (.string ⟨l.toArray⟩) ∧ Mod (fun k => B ≤ k) w w' := by
  have hlt := h.lt
  refine (Tryz.Builder_String_any B b l w h (by omega)).mono ?_
  rintro e w' ⟨rfl, hm⟩
  exact ⟨rfl, Mod.of_belowB hm⟩
set_option maxRecDepth 100000 in
set_option maxHeartbeats 2000000 in
theorem msg_decoded (s : ByteArray) (w : World) (hs : s.size ≤ 900000) :
    Calls Tryz.prog 86 #[.string s, .bool false] w fun e w' => e = .returned (decV s.data.toList) ∧ New w w' := by
  have hb0 := Blk.new w 69 #[.pointer none, .slice none 0 0]
  have hm0 : New w (w.alloc (.cells #[.pointer none, .slice none 0 0] 69)) := (Mod.refl _ _).alloc _
  go_enter Tryz.func86, Tryz.ntmps86
  go_upto_region 2 with (fail)
  generalize w.alloc (.cells #[.pointer none, .slice none 0 0] 69) = w1 at *
  generalize hbe : w.heap.size = B at *
  have HB := Lib.hid (Bw.fresh hb0 (Nat.le_refl _))
  have HM := Lib.hid hm0
  have HBE := Lib.hid hbe
  clear hb0 hm0 hbe
  go_wp2_with fail
  go_loopw [7] (fun i wr => ∃ (k : Nat) (o : List UInt8), k ≤ s.size ∧ i = .int .i64 k ∧ Hid (DecTo s.data.toList k o) ∧ Hid (Bw 69 B B o wr) ∧ Hid (New w wr)) (fun i _ => s.size - (intOf i).toNat)
  case atStart => exact ⟨0, [], Nat.zero_le _, rfl, Lib.hid (DecTo.start _), HB, HM⟩
  case round =>
    clear HB HM
    rename World => wr
    obtain ⟨k, o, hk, rfl, HD, HB, HM⟩ := hrel
    by_cases hlt : k < s.size
    · have hkl : k < s.data.toList.length := hlt
      have HG : Hid (s.data.toList[k] = s[k]) := Lib.hid rfl
      have HL : Hid (o.length + 1 ≤ 1000000) := Lib.hid (by have := HD.out.2; omega)
      have hu := msg_isUnit s k wr (by omega) hlt
      have HKL := Lib.hid hkl
      by_cases h37 : s[k] = 37
      · have c0 : ¬ (s[k].toNat : Int) = 43 := by rw [h37]; decide
        have c1 : ((s[k].toNat : Int) != 37) = false := by rw [h37]; rfl
        have H37 : Hid (s.data.toList[k]'HKL.out = 37) := Lib.hid (HG.out.trans h37)
        clear h37
        cases hua : unitAt s.data.toList k <;> rw [hua] at hu
        · have HN := Lib.hid (HD.out.bad HKL.out H37.out hua)
          clear hua
          go_wp2_with (first | (refine hu.mono ?_; clear hu; rintro e w' ⟨rfl, rfl⟩))
          go_ret2
          exact ⟨congrArg Ending.returned (decV_none HN.out).symm, HM.out⟩
        · have hun := msg_unit s k wr (by omega) hua
          have hk3 : k + 3 ≤ s.size := (unit_two hua).2.2.2
          have HD1 := Lib.hid (HD.out.unit HKL.out H37.out hua)
          clear hua HD
          generalize unitV (s.data.toList.getD (k + 1) 0) (s.data.toList.getD (k + 2) 0) = c at *
          have n1 : ((k : Int) + 2 + 1).toNat = k + 3 := by omega
          go_wp2_with (first | (refine hu.mono ?_; clear hu; rintro e w' ⟨rfl, rfl⟩) | (refine hun.mono ?_; clear hun; rintro e w2 ⟨rfl, hm2⟩))
          have HB2 := Lib.hid (HB.out.new hm2)
          have HM2 : Hid (New w w2) := Lib.hid (HM.out.trans hm2)
          clear HB HM hm2
          have HB := HB2
          have HM := HM2
          clear HB2 HM2
          refine (bw_byte buT_self B B _ c _ (by first | rfl | (exact HC.out.symm)) _ HB.out (by have hq := HL.out; first | omega | (simp; done) | (simp at hq ⊢; omega))).mono ?_
          rintro e wz ⟨rfl, hb1, hm1, -⟩
          have HM1 := Lib.hid (HM.out.from hm1 (Nat.le_of_eq HBE.out))
          clear HB HM hm1
          have HB := Lib.hid hb1
          have HM := HM1
          clear hb1 HM1
          go_wp2_with fail
          go_roundw
          case rel => exact ⟨k + 3, _, by omega, by go_num, HD1, HB, HM⟩
          case measure => simp [intOf]; omega
      · have c1 : ((s[k].toNat : Int) != 37) = true := by
          simp only [bne_iff_ne, ne_eq]
          intro h
          exact h37 (UInt8.toNat_inj.1 (by have : (37 : UInt8).toNat = 37 := rfl; omega))
        have HD1 := Lib.hid (HD.out.plain HKL.out (by rw [HG.out]; exact h37))
        rw [HG.out] at HD1
        clear HD h37 hu
        by_cases c0 : (s[k].toNat : Int) = 43
        · have HC := Lib.hid c0
          go_wp2_with fail
          refine (bw_byte buT_self B B _ s[k] _ (by first | rfl | (exact HC.out.symm)) _ HB.out (by have hq := HL.out; first | omega | (simp; done) | (simp at hq ⊢; omega))).mono ?_
          rintro e wz ⟨rfl, hb1, hm1, -⟩
          have HM1 := Lib.hid (HM.out.from hm1 (Nat.le_of_eq HBE.out))
          clear HB HM hm1
          have HB := Lib.hid hb1
          have HM := HM1
          clear hb1 HM1
          go_wp2_with fail
          go_roundw
          case rel => exact ⟨k + 1, _, by omega, by go_num, HD1, HB, HM⟩
          case measure => simp [intOf]; omega
        · go_wp2_with fail
          refine (bw_byte buT_self B B _ s[k] _ (by first | rfl | (exact HC.out.symm)) _ HB.out (by have hq := HL.out; first | omega | (simp; done) | (simp at hq ⊢; omega))).mono ?_
          rintro e wz ⟨rfl, hb1, hm1, -⟩
          have HM1 := Lib.hid (HM.out.from hm1 (Nat.le_of_eq HBE.out))
          clear HB HM hm1
          have HB := Lib.hid hb1
          have HM := HM1
          clear hb1 HM1
          go_wp2_with fail
          go_roundw
          case rel => exact ⟨k + 1, _, by omega, by go_num, HD1, HB, HM⟩
          case measure => simp [intOf]; omega
    · obtain rfl : k = s.size := by omega
      have HN := Lib.hid (HD.out.done (Nat.le_refl _))
      go_wp2_with fail
      refine (bw_any B B o _ HB.out).mono ?_
      rintro e w2 ⟨rfl, hm2⟩
      have HM2 := Lib.hid (HM.out.from hm2 (Nat.le_of_eq HBE.out))
      clear hm2 HB HM
      go_wp2_with fail
      go_ret2
      exact ⟨congrArg Ending.returned (decV_some HN.out).symm, HM2.out⟩

end Go.Proofs.YtjehlecgnepgmaaGreatDoor
