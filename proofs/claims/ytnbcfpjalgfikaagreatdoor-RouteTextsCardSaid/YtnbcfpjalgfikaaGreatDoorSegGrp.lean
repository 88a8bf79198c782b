/- Several texts in one. (1) Segments of paths: their units read and written (package message). Conditions: strings of modest size. (2) Segments of paths: units decoded and segments written (package message). Conditions: strings of modest size. (3) Segments of paths written; what is wrong with a path; words (packages message and value). Conditions: strings of modest size. (4) What is wrong with a path; words (packages message and value). Conditions: strings of modest size. -/
import Derived.Test.YtnbcfpjalgfikaaGreatDoorWordLawGrp
import Derived.Test.YtnbcfpjalgfikaaGreatDoorHexGrp
import Derived.Test.YtnbcfpjalgfikaaGreatDoorBuGrp
import Derived.Test.YtnbcfpjalgfikaaGreatDoorQuietTail
import Derived.Laws.BytesArg

namespace Go.Proofs.YtnbcfpjalgfikaaGreatDoor
open Go.RowKit
set_option linter.unusedVariables false
set_option linter.unusedSimpArgs false

theorem byteBack (c : UInt8) : ((c.toNat : Int)).toNat.toUInt8 = c := by simp
end Go.Proofs.YtnbcfpjalgfikaaGreatDoor

namespace Go.Proofs.YtnbcfpjalgfikaaGreatDoor
open Go.RowKit
set_option linter.unusedVariables false
set_option linter.unusedSimpArgs false

set_option maxHeartbeats 1000000 in
theorem strconv_parseUint16_8 (t : ByteArray) (h0 : 1 ≤ t.size) (h2 : t.size ≤ 2) (hx : ∀ c ∈ t.data.toList, isHexN c.toNat = true) (w : World) :
    Calls Tryz.prog 180 #[.string t, .int .i64 16, .int .i64 8] w fun e w' => e = .returned (.tuple #[.int .u64 (hexNum t.data.toList), .nilIface]) ∧ New w w' := by
  have hp := parseUint16_8 t h0 h2 hx w
  go_enter Tryz.func180, Tryz.ntmps180
  go_wp2_with fail
  refine hp.mono ?_
  clear hp
  rintro e w1 ⟨rfl, hm⟩
  go_wp2_with fail
  go_ret2
  exact ⟨rfl, hm⟩
theorem unit_two {s : List UInt8} {i : Nat} (h : unitAt s i = true) : ((s.drop (i + 1)).take 2) = [s.getD (i + 1) 0, s.getD (i + 2) 0] ∧ isHexN (s.getD (i + 1) 0).toNat = true ∧ isHexN (s.getD (i + 2) 0).toNat = true ∧ i + 2 < s.length := by
  simp only [unitAt, Bool.and_eq_true, decide_eq_true_eq] at h
  obtain ⟨⟨h3, h4⟩, h5⟩ := h
  refine ⟨?_, h4, h5, h3⟩
  have e1 : s.getD (i + 1) 0 = s[i + 1]'(by omega) := by simp [List.getD_eq_getElem?_getD, List.getElem?_eq_getElem (show i + 1 < s.length by omega)]
  have e2 : s.getD (i + 2) 0 = s[i + 2]'(by omega) := by simp [List.getD_eq_getElem?_getD, List.getElem?_eq_getElem (show i + 2 < s.length by omega)]
  rw [e1, e2, List.drop_eq_getElem_cons (show i + 1 < s.length by omega), List.drop_eq_getElem_cons (show i + 1 + 1 < s.length by omega)]
  rfl
theorem extract_data (s : ByteArray) (i j : Nat) : (s.extract i j).data.toList = (s.data.toList.drop i).take (j - i) := by
  rw [ByteArray.data_extract, Array.toList_extract]
set_option maxHeartbeats 1000000 in
theorem msg_unit (s : ByteArray) (i : Nat) (w : World) (hs : s.size ≤ 1000000) (hu : unitAt s.data.toList i = true) :
    Calls Tryz.prog 162 #[.string s, .int .i64 (i : Int)] w fun e w' => e = .returned (.int .u8 ((unitV (s.data.toList.getD (i + 1) 0) (s.data.toList.getD (i + 2) 0)).toNat : Int)) ∧ New w w' := by
  obtain ⟨u1, u2, u3, u4⟩ := unit_two hu
  have u5 : i + 2 < s.size := u4
  generalize s.data.toList.getD (i + 1) 0 = a at *
  generalize s.data.toList.getD (i + 2) 0 = b at *
  have hd : (s.extract (i + 1) (i + 3)).data.toList = [a, b] := by rw [extract_data, ← u1]; congr 1; omega
  have hz : (s.extract (i + 1) (i + 3)).size = 2 := by simp only [ByteArray.size_extract]; omega
  have hp := strconv_parseUint16_8 (s.extract (i + 1) (i + 3)) (by omega) (by omega) (by
    rw [hd]; intro c hc; simp at hc; rcases hc with rfl | rfl
    · exact u2
    · exact u3) w
  rw [hd] at hp
  have v1 := hexV_lt u2
  have v2 := hexV_lt u3
  have hn : hexNum [a, b] = 16 * hexV a.toNat + hexV b.toNat := by simp [hexNum]; omega
  have hv : (unitV a b).toNat = 16 * hexV a.toNat + hexV b.toNat := by
    unfold unitV
    rw [UInt8.toNat_ofNat']
    omega
  rw [hn] at hp
  rw [hv]
  generalize hq : 16 * hexV a.toNat + hexV b.toNat = q at *
  have q256 : q < 256 := by omega
  have n1 : ((i : Int) + 1).toNat = i + 1 := by omega
  have n3 : ((i : Int) + 3).toNat = i + 3 := by omega
  have b1 : (i : Int) + 3 ≤ (s.size : Int) := by omega
  clear u1 u2 u3 u4 hd hz hn hv v1 v2 hq hu
  go_enter Tryz.func162, Tryz.ntmps162
  go_wp2_with fail
  refine hp.mono ?_
  clear hp
  rintro e w1 ⟨rfl, hm⟩
  have hm := Lib.hid hm
  go_wp2_with fail
  go_ret
  exact ⟨rfl, hm.out⟩

/-- what a segment's decoding gives: the bytes, or that a unit is wrong -/
def decV (s : List UInt8) : Value := match decL s with
  | none => .tuple #[.string ⟨#[]⟩, .bool false]
  | some o => .tuple #[.string ⟨o.toArray⟩, .bool true]
theorem decV_none {s : List UInt8} (h : decL s = none) : decV s = .tuple #[.string ⟨#[]⟩, .bool false] := by unfold decV; rw [h]
theorem decV_some {s o : List UInt8} (h : decL s = some o) : decV s = .tuple #[.string ⟨o.toArray⟩, .bool true] := by unfold decV; rw [h]
/-- what has been read of s up to place k gives o -/
def DecTo (s : List UInt8) (k : Nat) (o : List UInt8) : Prop := decL s = (decL (s.drop k)).map (o ++ ·) ∧ o.length ≤ k
theorem DecTo.start (s : List UInt8) : DecTo s 0 [] := ⟨by simp, Nat.le_refl _⟩
theorem DecTo.plain {s : List UInt8} {k : Nat} {o : List UInt8} (h : DecTo s k o) (hk : k < s.length) (h1 : s[k] ≠ 37) : DecTo s (k + 1) (o ++ [s[k]]) := by
  refine ⟨?_, by have := h.2; simp; omega⟩
  rw [h.1, decL_at_plain hk h1]
  cases decL (s.drop (k + 1)) <;> simp
theorem DecTo.unit {s : List UInt8} {k : Nat} {o : List UInt8} (h : DecTo s k o) (hk : k < s.length) (h1 : s[k] = 37) (h2 : unitAt s k = true) : DecTo s (k + 3) (o ++ [unitV (s.getD (k + 1) 0) (s.getD (k + 2) 0)]) := by
  refine ⟨?_, by have := h.2; simp; omega⟩
  rw [h.1, decL_at_unit hk h1 h2]
  cases decL (s.drop (k + 3)) <;> simp
theorem DecTo.bad {s : List UInt8} {k : Nat} {o : List UInt8} (h : DecTo s k o) (hk : k < s.length) (h1 : s[k] = 37) (h2 : unitAt s k = false) : decL s = none := by
  rw [h.1, decL_at_bad hk h1 h2]; rfl
theorem DecTo.done {s : List UInt8} {k : Nat} {o : List UInt8} (h : DecTo s k o) (hk : s.length ≤ k) : decL s = some o := by
  rw [h.1, List.drop_eq_nil_of_le hk]; simp [decL]
theorem bw_any (B b : Nat) (l : List UInt8) (w : World) (h : Bw 49 B b l w) :
    Calls Tryz.prog 20 #[.pointer (some ⟨b, 0, none⟩)] w fun e w' => e = .returned (.string ⟨l.toArray⟩) ∧ Mod (fun k => B ≤ k) w w' := by
  have hlt := h.lt
  refine (Tryz.Builder_String_any B b l w h (by omega)).mono ?_
  rintro e w' ⟨rfl, hm⟩
  exact ⟨rfl, Mod.of_belowB hm⟩
set_option maxRecDepth 100000 in
set_option maxHeartbeats 2000000 in
theorem msg_decoded (s : ByteArray) (w : World) (hs : s.size ≤ 900000) :
    Calls Tryz.prog 133 #[.string s, .bool false] w fun e w' => e = .returned (decV s.data.toList) ∧ New w w' := by
  have hb0 := Blk.new w 49 #[.pointer none, .slice none 0 0]
  have hm0 : New w (w.alloc (.cells #[.pointer none, .slice none 0 0] 49)) := (Mod.refl _ _).alloc _
  go_enter Tryz.func133, Tryz.ntmps133
  go_upto_region 2 with (fail)
  generalize w.alloc (.cells #[.pointer none, .slice none 0 0] 49) = w1 at *
  generalize hbe : w.heap.size = B at *
  have HB := Lib.hid (Bw.fresh hb0 (Nat.le_refl _))
  have HM := Lib.hid hm0
  have HBE := Lib.hid hbe
  clear hb0 hm0 hbe
  go_wp2_with fail
  go_loopw [7] (fun i wr => ∃ (k : Nat) (o : List UInt8), k ≤ s.size ∧ i = .int .i64 k ∧ Hid (DecTo s.data.toList k o) ∧ Hid (Bw 49 B B o wr) ∧ Hid (New w wr)) (fun i _ => s.size - (intOf i).toNat)
  case atStart => exact ⟨0, [], Nat.zero_le _, rfl, Lib.hid (DecTo.start _), HB, HM⟩
  case round =>
    clear HB HM
    rename World => wr
    obtain ⟨k, o, hk, rfl, HD, HB, HM⟩ := hrel
    by_cases hlt : k < s.size
    · have hkl : k < s.data.toList.length := hlt
      have HG : Hid (s.data.toList[k] = s[k]) := Lib.hid rfl
      have HL : Hid (o.length + 1 ≤ 1000000) := Lib.hid (by have := HD.out.2; omega)
      have hu := msg_isUnit s k wr (by omega) hlt
      have HKL := Lib.hid hkl
      by_cases h37 : s[k] = 37
      · have c0 : ¬ (s[k].toNat : Int) = 43 := by rw [h37]; decide
        have c1 : ((s[k].toNat : Int) != 37) = false := by rw [h37]; rfl
        have H37 : Hid (s.data.toList[k]'HKL.out = 37) := Lib.hid (HG.out.trans h37)
        clear h37
        cases hua : unitAt s.data.toList k <;> rw [hua] at hu
        · have HN := Lib.hid (HD.out.bad HKL.out H37.out hua)
          clear hua
          go_wp2_with (first | (refine hu.mono ?_; clear hu; rintro e w' ⟨rfl, rfl⟩))
          go_ret2
          exact ⟨congrArg Ending.returned (decV_none HN.out).symm, HM.out⟩
        · have hun := msg_unit s k wr (by omega) hua
          have hk3 : k + 3 ≤ s.size := (unit_two hua).2.2.2
          have HD1 := Lib.hid (HD.out.unit HKL.out H37.out hua)
          clear hua HD
          generalize unitV (s.data.toList.getD (k + 1) 0) (s.data.toList.getD (k + 2) 0) = c at *
          have n1 : ((k : Int) + 2 + 1).toNat = k + 3 := by omega
          go_wp2_with (first | (refine hu.mono ?_; clear hu; rintro e w' ⟨rfl, rfl⟩) | (refine hun.mono ?_; clear hun; rintro e w2 ⟨rfl, hm2⟩))
          have HB2 := Lib.hid (HB.out.new hm2)
          have HM2 : Hid (New w w2) := Lib.hid (HM.out.trans hm2)
          clear HB HM hm2
          have HB := HB2
          have HM := HM2
          clear HB2 HM2
          refine (bw_byte buT_self B B _ c _ (by first | rfl | (exact HC.out.symm)) _ HB.out (by have hq := HL.out; first | omega | (simp; done) | (simp at hq ⊢; omega))).mono ?_
          rintro e wz ⟨rfl, hb1, hm1, -⟩
          have HM1 := Lib.hid (HM.out.from hm1 (Nat.le_of_eq HBE.out))
          clear HB HM hm1
          have HB := Lib.hid hb1
          have HM := HM1
          clear hb1 HM1
          go_wp2_with fail
          go_roundw
          case rel => exact ⟨k + 3, _, by omega, by go_num, HD1, HB, HM⟩
          case measure => simp [intOf]; omega
      · have c1 : ((s[k].toNat : Int) != 37) = true := by
          simp only [bne_iff_ne, ne_eq]
          intro h
          exact h37 (UInt8.toNat_inj.1 (by have : (37 : UInt8).toNat = 37 := rfl; omega))
        have HD1 := Lib.hid (HD.out.plain HKL.out (by rw [HG.out]; exact h37))
        rw [HG.out] at HD1
        clear HD h37 hu
        by_cases c0 : (s[k].toNat : Int) = 43
        · have HC := Lib.hid c0
          go_wp2_with fail
          refine (bw_byte buT_self B B _ s[k] _ (by first | rfl | (exact HC.out.symm)) _ HB.out (by have hq := HL.out; first | omega | (simp; done) | (simp at hq ⊢; omega))).mono ?_
          rintro e wz ⟨rfl, hb1, hm1, -⟩
          have HM1 := Lib.hid (HM.out.from hm1 (Nat.le_of_eq HBE.out))
          clear HB HM hm1
          have HB := Lib.hid hb1
          have HM := HM1
          clear hb1 HM1
          go_wp2_with fail
          go_roundw
          case rel => exact ⟨k + 1, _, by omega, by go_num, HD1, HB, HM⟩
          case measure => simp [intOf]; omega
        · go_wp2_with fail
          refine (bw_byte buT_self B B _ s[k] _ (by first | rfl | (exact HC.out.symm)) _ HB.out (by have hq := HL.out; first | omega | (simp; done) | (simp at hq ⊢; omega))).mono ?_
          rintro e wz ⟨rfl, hb1, hm1, -⟩
          have HM1 := Lib.hid (HM.out.from hm1 (Nat.le_of_eq HBE.out))
          clear HB HM hm1
          have HB := Lib.hid hb1
          have HM := HM1
          clear hb1 HM1
          go_wp2_with fail
          go_roundw
          case rel => exact ⟨k + 1, _, by omega, by go_num, HD1, HB, HM⟩
          case measure => simp [intOf]; omega
    · obtain rfl : k = s.size := by omega
      have HN := Lib.hid (HD.out.done (Nat.le_refl _))
      go_wp2_with fail
      refine (bw_any B B o _ HB.out).mono ?_
      rintro e w2 ⟨rfl, hm2⟩
      have HM2 := Lib.hid (HM.out.from hm2 (Nat.le_of_eq HBE.out))
      clear hm2 HB HM
      go_wp2_with fail
      go_ret2
      exact ⟨congrArg Ending.returned (decV_some HN.out).symm, HM2.out⟩

end Go.Proofs.YtnbcfpjalgfikaaGreatDoor

namespace Go.Proofs.YtnbcfpjalgfikaaGreatDoor
open Go.RowKit
set_option linter.unusedVariables false
set_option linter.unusedSimpArgs false

theorem msg_decodedW (s : ByteArray) (w : World) (hs : s.size ≤ 900000) :
    Calls Tryz.prog 97 #[.string s] w fun e w' => e = .returned (decV s.data.toList) ∧ New w w' := by
  have hd := msg_decoded s w hs
  cases h : decL s.data.toList with
  | none =>
    rw [decV_none h] at hd ⊢
    clear h
    go_enter Tryz.func97, Tryz.ntmps97
    go_wp2_with (first | (refine hd.mono ?_; clear hd; rintro e w' ⟨rfl, hm⟩; have hm := Lib.hid hm))
    go_ret2
    exact ⟨rfl, hm.out⟩
  | some o =>
    rw [decV_some h] at hd ⊢
    clear h
    go_enter Tryz.func97, Tryz.ntmps97
    go_wp2_with (first | (refine hd.mono ?_; clear hd; rintro e w' ⟨rfl, hm⟩; have hm := Lib.hid hm))
    go_ret2
    exact ⟨rfl, hm.out⟩
end Go.Proofs.YtnbcfpjalgfikaaGreatDoor

namespace Go.Proofs.YtnbcfpjalgfikaaGreatDoor
open Go.RowKit
set_option linter.unusedVariables false
set_option linter.unusedSimpArgs false

/-- what is wrong with the path of a request -/
def pathBad (l : List UInt8) : Int := if 1000 < l.length then 3 else if Lib.hasPrefix l [47] = false then 3 else if inR 33 126 l = false then 3 else if Lib.containsAny l [63, 35] = true then 3 else 0
theorem inR_ascii {l : List UInt8} (h : inR 33 126 l = true) : ∀ (j : Nat) (b : UInt8), l[j]? = some b → b.toNat < 128 := by
  intro j b hb
  unfold inR at h
  rw [List.all_eq_true] at h
  have := h b (List.mem_of_getElem? hb)
  simp only [Bool.and_eq_true, decide_eq_true_eq] at this
  omega
theorem asciiAll {l : List UInt8} (h : l.all (fun b => decide (b.toNat < 128)) = true) : ∀ (j : Nat) (b : UInt8), l[j]? = some b → b.toNat < 128 :=
  fun _ b hb => of_decide_eq_true (List.all_eq_true.1 h b (List.mem_of_getElem? hb))
set_option maxHeartbeats 2000000 in
theorem msg_pathFault (s : ByteArray) (w : World) (hs : s.size ≤ 900000) :
    Calls Tryz.prog 95 #[.string s] w fun e w' => e = .returned (.int .i64 (pathBad s.data.toList)) ∧ New w w' := by
  have hp := Tryz.strings_HasPrefix s ⟨#[47]⟩ w
  have hr := msg_isRange s 33 126 w (by unfold maxLen; omega)
  have hlen : s.data.toList.length = s.size := rfl
  by_cases h1 : 1000 < s.size
  · have HP : Hid (pathBad s.data.toList = 3) := Lib.hid (by unfold pathBad; rw [if_pos (by omega)])
    have h1' : (1000 : Int) < (s.size : Int) := by omega
    clear hlen
    go_enter Tryz.func95, Tryz.ntmps95
    go_wp2_with fail
    go_ret
    exact ⟨ret_int HP.out.symm, Mod.refl _ _⟩
  have hP1 : pathBad s.data.toList = if Lib.hasPrefix s.data.toList [47] = false then 3 else if inR 33 126 s.data.toList = false then 3 else if Lib.containsAny s.data.toList [63, 35] = true then 3 else 0 := by unfold pathBad; rw [if_neg (by omega)]
  have h1' : ¬ (1000 : Int) < (s.size : Int) := by omega
  clear h1
  rw [show (⟨#[47]⟩ : ByteArray).data.toList = [47] from rfl] at hp
  cases h2 : Lib.hasPrefix s.data.toList [47] <;> rw [h2] at hp hP1
  · have HP : Hid (pathBad s.data.toList = 3) := Lib.hid (by rw [hP1]; rfl)
    clear hlen hP1 hr h2
    go_enter Tryz.func95, Tryz.ntmps95
    go_wp2_with (first | (refine hp.mono ?_; clear hp; rintro e w' ⟨rfl, rfl⟩))
    go_ret
    exact ⟨ret_int HP.out.symm, Mod.refl _ _⟩
  rw [if_neg (by decide)] at hP1
  cases h3 : inR 33 126 s.data.toList <;> rw [h3] at hr hP1
  · have HP : Hid (pathBad s.data.toList = 3) := Lib.hid (by rw [hP1]; rfl)
    clear hlen hP1 h2 h3
    go_enter Tryz.func95, Tryz.ntmps95
    go_wp2_with (first | (refine hp.mono ?_; clear hp; rintro e w' ⟨rfl, rfl⟩) | (refine hr.mono ?_; clear hr; rintro e w' ⟨rfl, rfl⟩))
    go_ret
    exact ⟨ret_int HP.out.symm, Mod.refl _ _⟩
  rw [if_neg (by decide)] at hP1
  have hc := Tryz.strings_ContainsAny_laid s ⟨#[63, 35]⟩ w (by omega) (by decide) (inR_ascii h3) (asciiAll (by decide))
  rw [show (⟨#[63, 35]⟩ : ByteArray).data.toList = [63, 35] from rfl] at hc
  generalize Lib.containsAny s.data.toList [63, 35] = q at *
  cases q
  · have HP : Hid (pathBad s.data.toList = 0) := Lib.hid (by rw [hP1]; rfl)
    clear hlen hP1 h2 h3
    go_enter Tryz.func95, Tryz.ntmps95
    go_wp2_with (first | (refine hp.mono ?_; clear hp; rintro e w' ⟨rfl, rfl⟩) | (refine hr.mono ?_; clear hr; rintro e w' ⟨rfl, rfl⟩) | (refine hc.mono ?_; clear hc; rintro e w2 ⟨rfl, hm2⟩; have hm2 := Lib.hid hm2))
    go_ret
    exact ⟨ret_int HP.out.symm, Mod.of_below hm2.out⟩
  · have HP : Hid (pathBad s.data.toList = 3) := Lib.hid (by rw [hP1]; rfl)
    clear hlen hP1 h2 h3
    go_enter Tryz.func95, Tryz.ntmps95
    go_wp2_with (first | (refine hp.mono ?_; clear hp; rintro e w' ⟨rfl, rfl⟩) | (refine hr.mono ?_; clear hr; rintro e w' ⟨rfl, rfl⟩) | (refine hc.mono ?_; clear hc; rintro e w2 ⟨rfl, hm2⟩; have hm2 := Lib.hid hm2))
    go_ret
    exact ⟨ret_int HP.out.symm, Mod.of_below hm2.out⟩

theorem reserved_at {w : World} {g : Nat} (h : Blk w g 9 (reserved.map Value.string).toArray) (j : Nat) (hj : j < reserved.length) : w.cell? ⟨g, 0 + j, none⟩ = some (.string (reserved.getD j ByteArray.empty)) := by
  rw [Nat.zero_add, h.cell]
  match j, hj with
  | 0, _ => rfl
  | 1, _ => rfl
  | 2, _ => rfl
  | 3, _ => rfl
  | 4, _ => rfl
  | 5, _ => rfl
  | n + 6, hj => exact absurd hj (by simp [reserved])
set_option maxHeartbeats 1000000 in
theorem val_isReserved (s : ByteArray) (w : World) :
    Calls Tryz.prog 129 #[.string s] w fun e w' => e = .returned (.bool (Lib.containsS reserved s)) ∧ New w w' := by
  have hb := Blk.new w 9 (reserved.map Value.string).toArray
  have hct := Tryz.slices_Contains_string w.heap.size 0 6 6 reserved s (w.alloc (.cells (reserved.map Value.string).toArray 9)) (by decide) (by decide) (fun j hj => reserved_at hb j hj)
  rw [show reserved.take 6 = reserved from rfl] at hct
  have hm : New w (w.alloc (.cells (reserved.map Value.string).toArray 9)) := (Mod.refl _ _).alloc _
  rw [show (reserved.map Value.string).toArray = #[.string ⟨#[110, 117, 108, 108]⟩, .string ⟨#[116, 114, 117, 101]⟩, .string ⟨#[102, 97, 108, 115, 101]⟩, .string ⟨#[105, 110]⟩, .string ⟨#[101, 97, 99, 104]⟩, .string ⟨#[119, 104, 101, 114, 101]⟩] from rfl] at hct hm
  have HM := Lib.hid hm
  generalize Lib.containsS reserved s = q at *
  clear hb hm
  go_enter Tryz.func129, Tryz.ntmps129
  go_wp2_with (first | (refine hct.mono ?_; clear hct; rintro e w' ⟨rfl, rfl⟩))
  go_ret
  exact ⟨rfl, HM.out⟩
theorem mkList (s : ByteArray) : (⟨s.data.toList.toArray⟩ : ByteArray) = s := by cases s; simp
set_option maxHeartbeats 1000000 in
theorem val_isWord (s : ByteArray) (w : World) (hs : s.size ≤ maxLen) :
    Calls Tryz.prog 93 #[.string s] w fun e w' => e = .returned (.bool (isWord s.data.toList)) ∧ New w w' := by
  have hr := val_isRow s w hs
  have hv := val_isReserved s w
  have HW : Hid (isWord s.data.toList = ((plainRow s.data.toList && decide (s.size ≤ 40)) && !Lib.containsS reserved s)) := Lib.hid (by unfold isWord; rw [mkList]; rfl)
  generalize (plainRow s.data.toList && decide (s.size ≤ 40)) = p at *
  generalize Lib.containsS reserved s = q at *
  generalize isWord s.data.toList = r at *
  cases p
  · go_enter Tryz.func93, Tryz.ntmps93
    go_wp2_with (first | (refine hr.mono ?_; clear hr; rintro e w' ⟨rfl, rfl⟩))
    go_ret
    exact ⟨ret_bool HW.out.symm, Mod.refl _ _⟩
  · go_enter Tryz.func93, Tryz.ntmps93
    go_wp2_with (first | (refine hr.mono ?_; clear hr; rintro e w' ⟨rfl, rfl⟩) | (refine hv.mono ?_; clear hv; rintro e w2 ⟨rfl, hm2⟩; have hm2 := Lib.hid hm2))
    go_ret
    exact ⟨ret_bool HW.out.symm, hm2.out⟩

end Go.Proofs.YtnbcfpjalgfikaaGreatDoor
