/- The units of a path in their normal form (package message: normalUnits). Conditions: a text of modest size. -/
import Derived.Test.YtjehlecgnepgmaaGreatDoorSegGrp
import Derived.Test.YtjehlecgnepgmaaGreatDoorMatLaw
namespace Go.Proofs.YtjehlecgnepgmaaGreatDoor
open Go.RowKit
set_option linter.unusedVariables false
set_option linter.unusedSimpArgs false

theorem normL_at_plain {s : List UInt8} {i : Nat} (h : i < s.length) (h1 : s[i] ≠ 37) : normL (s.drop i) = (normL (s.drop (i + 1))).map ([s[i]] ++ ·) := by
  unfold normL
  rw [unitsL_at_plain h h1]
  cases unitsL (s.drop (i + 1)) <;> simp [normC]
theorem normL_at_unit {s : List UInt8} {i : Nat} (h : i < s.length) (h1 : s[i] = 37) (h2 : unitAt s i = true) :
    normL (s.drop i) = (normL (s.drop (i + 3))).map (normC (unitV (s.getD (i + 1) 0) (s.getD (i + 2) 0), false) ++ ·) := by
  unfold normL
  rw [unitsL_at_unit h h1 h2]
  cases unitsL (s.drop (i + 3)) <;> simp
theorem normL_at_bad {s : List UInt8} {i : Nat} (h : i < s.length) (h1 : s[i] = 37) (h2 : unitAt s i = false) : normL (s.drop i) = none := by
  unfold normL
  rw [unitsL_at_bad h h1 h2]; rfl
def normV (s : List UInt8) : Value := match normL s with
  | none => .tuple #[.string ⟨#[]⟩, .bool false]
  | some o => .tuple #[.string ⟨o.toArray⟩, .bool true]
theorem normV_none {s : List UInt8} (h : normL s = none) : normV s = .tuple #[.string ⟨#[]⟩, .bool false] := by unfold normV; rw [h]
theorem normV_some {s o : List UInt8} (h : normL s = some o) : normV s = .tuple #[.string ⟨o.toArray⟩, .bool true] := by unfold normV; rw [h]
/-- what has been read of s up to place k gives o -/
def NormTo (s : List UInt8) (k : Nat) (o : List UInt8) : Prop := normL s = (normL (s.drop k)).map (o ++ ·) ∧ o.length ≤ 3 * k
theorem NormTo.start (s : List UInt8) : NormTo s 0 [] := ⟨by simp, Nat.le_refl _⟩
theorem NormTo.plain {s : List UInt8} {k : Nat} {o : List UInt8} (h : NormTo s k o) (hk : k < s.length) (h1 : s[k] ≠ 37) : NormTo s (k + 1) (o ++ [s[k]]) := by
  refine ⟨?_, by have := h.2; simp; omega⟩
  rw [h.1, normL_at_plain hk h1]
  cases normL (s.drop (k + 1)) <;> simp
theorem NormTo.unit {s : List UInt8} {k : Nat} {o : List UInt8} (h : NormTo s k o) (hk : k < s.length) (h1 : s[k] = 37) (h2 : unitAt s k = true) : NormTo s (k + 3) (o ++ normC (unitV (s.getD (k + 1) 0) (s.getD (k + 2) 0), false)) := by
  refine ⟨?_, by have := h.2; have := normC_length (unitV (s.getD (k + 1) 0) (s.getD (k + 2) 0), false); rw [List.length_append]; omega⟩
  rw [h.1, normL_at_unit hk h1 h2]
  cases normL (s.drop (k + 3)) <;> simp
theorem NormTo.bad {s : List UInt8} {k : Nat} {o : List UInt8} (h : NormTo s k o) (hk : k < s.length) (h1 : s[k] = 37) (h2 : unitAt s k = false) : normL s = none := by
  rw [h.1, normL_at_bad hk h1 h2]; rfl
theorem NormTo.done {s : List UInt8} {k : Nat} {o : List UInt8} (h : NormTo s k o) (hk : s.length ≤ k) : normL s = some o := by
  rw [h.1, List.drop_eq_nil_of_le hk]; simp [normL, unitsL]
set_option maxRecDepth 100000 in
set_option maxHeartbeats 2000000 in
theorem msg_normalUnits (s : ByteArray) (w : World) (hs : s.size ≤ 300000) :
    Calls Tryz.prog 115 #[.string s] w fun e w' => e = .returned (normV s.data.toList) ∧ New w w' := by
  have hb0 := Blk.new w 69 #[.pointer none, .slice none 0 0]
  have hm0 : New w (w.alloc (.cells #[.pointer none, .slice none 0 0] 69)) := (Mod.refl _ _).alloc _
  go_enter Tryz.func115, Tryz.ntmps115
  go_upto_region 2 with (fail)
  generalize w.alloc (.cells #[.pointer none, .slice none 0 0] 69) = w1 at *
  generalize hbe : w.heap.size = B at *
  have HB := Lib.hid (Bw.fresh hb0 (Nat.le_refl _))
  have HM := Lib.hid hm0
  have HBE := Lib.hid hbe
  clear hb0 hm0 hbe
  go_wp2_with fail
  go_loopw [5] (fun i wr => ∃ (k : Nat) (o : List UInt8), k ≤ s.size ∧ i = .int .i64 k ∧ Hid (NormTo s.data.toList k o) ∧ Hid (Bw 69 B B o wr) ∧ Hid (New w wr)) (fun i _ => s.size - (intOf i).toNat)
  case atStart => exact ⟨0, [], Nat.zero_le _, rfl, Lib.hid (NormTo.start _), HB, HM⟩
  case round =>
    clear HB HM
    rename World => wr
    obtain ⟨k, o, hk, rfl, HD, HB, HM⟩ := hrel
    by_cases hlt : k < s.size
    · have hkl : k < s.data.toList.length := hlt
      have HG : Hid (s.data.toList[k] = s[k]) := Lib.hid rfl
      have HL : Hid (o.length + 1 ≤ 1000000) := Lib.hid (by have := HD.out.2; omega)
      have HLL : Hid (o.length ≤ 900000) := Lib.hid (by have := HD.out.2; omega)
      have hu := msg_isUnit s k wr (by omega) hlt
      have HKL := Lib.hid hkl
      by_cases h37 : s[k] = 37
      · have c1 : ((s[k].toNat : Int) != 37) = false := by rw [h37]; rfl
        have H37 : Hid (s.data.toList[k]'HKL.out = 37) := Lib.hid (HG.out.trans h37)
        clear h37
        cases hua : unitAt s.data.toList k <;> rw [hua] at hu
        · have HN := Lib.hid (HD.out.bad HKL.out H37.out hua)
          clear hua
          go_wp2_with (first | (refine hu.mono ?_; clear hu; rintro e w' ⟨rfl, rfl⟩))
          go_ret2
          exact ⟨congrArg Ending.returned (normV_none HN.out).symm, HM.out⟩
        · have hun := msg_unit s k wr (by omega) hua
          have hk3 : k + 3 ≤ s.size := (unit_two hua).2.2.2
          have HD1 := Lib.hid (HD.out.unit HKL.out H37.out hua)
          clear hua HD
          generalize unitV (s.data.toList.getD (k + 1) 0) (s.data.toList.getD (k + 2) 0) = c at *
          have n1 : ((k : Int) + 2 + 1).toNat = k + 3 := by omega
          have hf := fun W => msg_isFree c W
          have hpc := fun W => msg_percent c W
          have HPC := Lib.hid hpc
          clear hpc
          cases hfr : freeN c.toNat <;> rw [hfr] at hf
          · have HQ : Hid (normC (c, false) = [37, upHex (c.toNat / 16), upHex (c.toNat % 16)]) := Lib.hid (by unfold normC pctC; simp [hfr])
            have HF := Lib.hid hf
            clear hfr hf
            go_wp2_with (first | (refine hu.mono ?_; clear hu; rintro e w' ⟨rfl, rfl⟩) | (refine hun.mono ?_; clear hun; rintro e w2 ⟨rfl, hm2⟩))
            refine (HF.out w2).mono ?_
            clear HF
            rintro e w' ⟨rfl, rfl⟩
            have HB2 := Lib.hid (HB.out.new hm2)
            have HM2 : Hid (New w w2) := Lib.hid (HM.out.trans hm2)
            clear HB HM hm2
            go_wp2_with fail
            refine (HPC.out w2).mono ?_
            clear HPC
            rintro e w3 ⟨rfl, hm3⟩
            have HB3 := Lib.hid (HB2.out.new hm3)
            have HM3 : Hid (New w w3) := Lib.hid (HM2.out.trans hm3)
            clear HB2 HM2 hm3
            have h3 : (⟨#[37, upHex (c.toNat / 16), upHex (c.toNat % 16)]⟩ : ByteArray).size = 3 := rfl
            have HU : Hid ((⟨#[37, upHex (c.toNat / 16), upHex (c.toNat % 16)]⟩ : ByteArray).data.toList = normC (c, false)) := Lib.hid HQ.out.symm
            clear HQ
            generalize (⟨#[37, upHex (c.toNat / 16), upHex (c.toNat % 16)]⟩ : ByteArray) = U at *
            go_wp2_with fail
            refine (bw_string buT_self B B o U w3 HB3.out (by have := HLL.out; omega)).mono ?_
            clear h3
            rintro e w4 ⟨rfl, hb4, hm4, -⟩
            have HM4 := Lib.hid (HM3.out.from hm4 (Nat.le_of_eq HBE.out))
            have HB4 := Lib.hid hb4
            clear hb4 hm4 HB3 HM3
            go_wp2_with fail
            go_roundw
            case rel => exact ⟨k + 3, _, by omega, by go_num, HD1, by rw [← HU.out]; exact HB4, HM4⟩
            case measure => simp [intOf]; omega
          · have HQ : Hid (normC (c, false) = [c]) := Lib.hid (by unfold normC; simp [hfr])
            have HF := Lib.hid hf
            clear hfr hf HPC
            go_wp2_with (first | (refine hu.mono ?_; clear hu; rintro e w' ⟨rfl, rfl⟩) | (refine hun.mono ?_; clear hun; rintro e w2 ⟨rfl, hm2⟩))
            refine (HF.out w2).mono ?_
            clear HF
            rintro e w' ⟨rfl, rfl⟩
            have HB2 := Lib.hid (HB.out.new hm2)
            have HM2 : Hid (New w w2) := Lib.hid (HM.out.trans hm2)
            clear HB HM hm2
            have HB := HB2
            have HM := HM2
            clear HB2 HM2
            go_wp2_with fail
            refine (bw_byte buT_self B B _ c _ (by first | rfl | (exact HC.out.symm)) _ HB.out (by have hq := HL.out; first | omega | (simp; done) | (simp at hq ⊢; omega))).mono ?_
            rintro e wz ⟨rfl, hb1, hm1, -⟩
            have HM1 := Lib.hid (HM.out.from hm1 (Nat.le_of_eq HBE.out))
            clear HB HM hm1
            have HB := Lib.hid hb1
            have HM := HM1
            clear hb1 HM1
            go_wp2_with fail
            go_roundw
            case rel => exact ⟨k + 3, _, by omega, by go_num, HD1, by rw [HQ.out]; exact HB, HM⟩
            case measure => simp [intOf]; omega
      · have c1 : ((s[k].toNat : Int) != 37) = true := by
          simp only [bne_iff_ne, ne_eq]
          intro h
          exact h37 (UInt8.toNat_inj.1 (by have : (37 : UInt8).toNat = 37 := rfl; omega))
        have HD1 := Lib.hid (HD.out.plain HKL.out (by rw [HG.out]; exact h37))
        rw [HG.out] at HD1
        clear HD h37 hu
        go_wp2_with fail
        refine (bw_byte buT_self B B _ s[k] _ (by first | rfl | (exact HC.out.symm)) _ HB.out (by have hq := HL.out; first | omega | (simp; done) | (simp at hq ⊢; omega))).mono ?_
        rintro e wz ⟨rfl, hb1, hm1, -⟩
        have HM1 := Lib.hid (HM.out.from hm1 (Nat.le_of_eq HBE.out))
        clear HB HM hm1
        have HB := Lib.hid hb1
        have HM := HM1
        clear hb1 HM1
        go_wp2_with fail
        go_roundw
        case rel => exact ⟨k + 1, _, by omega, by go_num, HD1, HB, HM⟩
        case measure => simp [intOf]; omega
    · obtain rfl : k = s.size := by omega
      have HN := Lib.hid (HD.out.done (Nat.le_refl _))
      go_wp2_with fail
      refine (bw_any B B o _ HB.out).mono ?_
      rintro e w2 ⟨rfl, hm2⟩
      have HM2 := Lib.hid (HM.out.from hm2 (Nat.le_of_eq HBE.out))
      clear hm2 HB HM
      go_wp2_with fail
      go_ret2
      exact ⟨congrArg Ending.returned (normV_some HN.out).symm, HM2.out⟩

end Go.Proofs.YtjehlecgnepgmaaGreatDoor
