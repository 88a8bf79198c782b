/- Segments of paths written; what is wrong with a path; words (packages message and value). Conditions: strings of modest size. -/
import Derived.Test.YtjehlecgnepgmaaGreatDoorSeg2
namespace Go.Proofs.YtjehlecgnepgmaaGreatDoor
open Go.RowKit
set_option linter.unusedVariables false
set_option linter.unusedSimpArgs false

theorem msg_decodedW (s : ByteArray) (w : World) (hs : s.size ≤ 900000) :
    Calls Tryz.prog 65 #[.string s] w fun e w' => e = .returned (decV s.data.toList) ∧ New w w' := by
  have hd := msg_decoded s w hs
  cases h : decL s.data.toList with
  | none =>
    rw [decV_none h] at hd ⊢
    clear h
    go_enter Tryz.func65, Tryz.ntmps65
    go_wp2_with (first | (refine hd.mono ?_; clear hd; rintro e w' ⟨rfl, hm⟩; have hm := Lib.hid hm))
    go_ret2
    exact ⟨rfl, hm.out⟩
  | some o =>
    rw [decV_some h] at hd ⊢
    clear h
    go_enter Tryz.func65, Tryz.ntmps65
    go_wp2_with (first | (refine hd.mono ?_; clear hd; rintro e w' ⟨rfl, hm⟩; have hm := Lib.hid hm))
    go_ret2
    exact ⟨rfl, hm.out⟩
def markB : ByteArray := ⟨#[33, 36, 38, 39, 40, 41, 42, 43, 44, 59, 61, 58, 64]⟩
set_option maxRecDepth 100000 in
set_option maxHeartbeats 2000000 in
theorem msg_segment (s : ByteArray) (w : World) (hs : s.size ≤ 300000) :
    Calls Tryz.prog 36 #[.string s] w fun e w' => e = .returned (.string ⟨(segL s.data.toList).toArray⟩) ∧ New w w' := by
  have hb0 := Blk.new w 69 #[.pointer none, .slice none 0 0]
  have hm0 : New w (w.alloc (.cells #[.pointer none, .slice none 0 0] 69)) := (Mod.refl _ _).alloc _
  go_enter Tryz.func36, Tryz.ntmps36
  go_upto_region 2 with (fail)
  generalize w.alloc (.cells #[.pointer none, .slice none 0 0] 69) = w1 at *
  generalize hbe : w.heap.size = B at *
  have HB := Lib.hid (Bw.fresh hb0 (Nat.le_refl _))
  have HM := Lib.hid hm0
  have HBE := Lib.hid hbe
  clear hb0 hm0 hbe
  go_wp2_with fail
  go_loopw [8] (fun i wr => ∃ (k : Nat) (o : List UInt8), k ≤ s.size ∧ i = .int .i64 k ∧ Hid (segL (s.data.toList.take k) = o) ∧ Hid (o.length ≤ 3 * k) ∧ Hid (Bw 69 B B o wr) ∧ Hid (New w wr)) (fun i _ => s.size - (intOf i).toNat)
  case atStart => exact ⟨0, [], Nat.zero_le _, rfl, Lib.hid rfl, Lib.hid (Nat.zero_le _), HB, HM⟩
  case round =>
    clear HB HM
    rename World => wr
    obtain ⟨k, o, hk, rfl, HS, HZ, HB, HM⟩ := hrel
    by_cases hlt : k < s.size
    · have hkl : k < s.data.toList.length := hlt
      have HS1 : Hid (segL (s.data.toList.take (k + 1)) = o ++ segC s[k]) := Lib.hid (by rw [segL_take hkl, HS.out]; rfl)
      have HZ1 : Hid ((o ++ segC s[k]).length ≤ 3 * (k + 1)) := Lib.hid (by have := HZ.out; have := segC_length s[k]; simp; omega)
      have HL : Hid (o.length + 1 ≤ 1000000) := Lib.hid (by have := HZ.out; omega)
      have HLL : Hid (o.length ≤ 900000) := Lib.hid (by have := HZ.out; omega)
      have hf := msg_isFree s[k] wr
      have hx := Tryz.strings_IndexByte ⟨#[33, 36, 38, 39, 40, 41, 42, 43, 44, 59, 61, 58, 64]⟩ (s[k].toNat : Int) wr
      rw [byteBack] at hx
      have hmk := mark_at s[k]
      rw [show (⟨#[33, 36, 38, 39, 40, 41, 42, 43, 44, 59, 61, 58, 64]⟩ : ByteArray).data.toList = markL from rfl] at hx
      have hpc := msg_percent s[k] wr
      clear HS HZ
      generalize Lib.indexByte markL s[k] = r at hx hmk
      cases h1 : freeN s[k].toNat <;> rw [h1] at hf
      · cases h2 : markL.contains s[k] <;> rw [h2] at hmk
        · have hr : ¬ (0 : Int) ≤ r := by simpa using hmk
          have hq : segC s[k] = [37, upHex (s[k].toNat / 16), upHex (s[k].toNat % 16)] := by unfold segC openC; rw [h1, h2]; rfl
          have HQ := Lib.hid hq
          clear hmk h1 h2 hq
          go_wp2_with (first | (refine hf.mono ?_; clear hf; rintro e w' ⟨rfl, rfl⟩) | (refine hx.mono ?_; clear hx; rintro e w' ⟨rfl, rfl⟩) | (refine hpc.mono ?_; clear hpc; rintro e w2 ⟨rfl, hm2⟩))
          have HB2 := Lib.hid (HB.out.new hm2)
          have HM2 : Hid (New w w2) := Lib.hid (HM.out.trans hm2)
          clear HB HM hm2
          have h3 : (⟨#[37, upHex (s[k].toNat / 16), upHex (s[k].toNat % 16)]⟩ : ByteArray).size = 3 := rfl
          refine (bw_string buT_self B B o _ w2 HB2.out (by have := HLL.out; omega)).mono ?_
          clear h3
          rintro e w3 ⟨rfl, hb3, hm3, -⟩
          have HM3 := Lib.hid (HM2.out.from hm3 (Nat.le_of_eq HBE.out))
          have HB3 := Lib.hid hb3
          clear hb3 hm3 HB2 HM2
          go_wp2_with fail
          go_roundw
          case rel => exact ⟨k + 1, _, by omega, by go_num, HS1, HZ1, by rw [HQ.out]; exact HB3, HM3⟩
          case measure => simp [intOf]; omega
        · have hr : (0 : Int) ≤ r := by simpa using hmk
          have hq : segC s[k] = [s[k]] := by unfold segC openC; rw [h1, h2]; rfl
          have HQ := Lib.hid hq
          clear hmk h1 h2 hq
          go_wp2_with (first | (refine hf.mono ?_; clear hf; rintro e w' ⟨rfl, rfl⟩) | (refine hx.mono ?_; clear hx; rintro e w' ⟨rfl, rfl⟩))
          refine (bw_byte buT_self B B _ s[k] _ (by first | rfl | (exact HC.out.symm)) _ HB.out (by have hq := HL.out; first | omega | (simp; done) | (simp at hq ⊢; omega))).mono ?_
          rintro e wz ⟨rfl, hb1, hm1, -⟩
          have HM1 := Lib.hid (HM.out.from hm1 (Nat.le_of_eq HBE.out))
          clear HB HM hm1
          have HB := Lib.hid hb1
          have HM := HM1
          clear hb1 HM1
          go_wp2_with fail
          go_roundw
          case rel => exact ⟨k + 1, _, by omega, by go_num, HS1, HZ1, by rw [HQ.out]; exact HB, HM⟩
          case measure => simp [intOf]; omega
      · have hq : segC s[k] = [s[k]] := by unfold segC openC; rw [h1]; rfl
        have HQ := Lib.hid hq
        clear h1 hq
        go_wp2_with (first | (refine hf.mono ?_; clear hf; rintro e w' ⟨rfl, rfl⟩))
        refine (bw_byte buT_self B B _ s[k] _ (by first | rfl | (exact HC.out.symm)) _ HB.out (by have hq := HL.out; first | omega | (simp; done) | (simp at hq ⊢; omega))).mono ?_
        rintro e wz ⟨rfl, hb1, hm1, -⟩
        have HM1 := Lib.hid (HM.out.from hm1 (Nat.le_of_eq HBE.out))
        clear HB HM hm1
        have HB := Lib.hid hb1
        have HM := HM1
        clear hb1 HM1
        go_wp2_with fail
        go_roundw
        case rel => exact ⟨k + 1, _, by omega, by go_num, HS1, HZ1, by rw [HQ.out]; exact HB, HM⟩
        case measure => simp [intOf]; omega
    · obtain rfl : k = s.size := by omega
      have HN : Hid (segL s.data.toList = o) := Lib.hid (by rw [← HS.out]; congr 1; exact (List.take_length).symm)
      go_wp2_with fail
      refine (bw_any B B o _ HB.out).mono ?_
      rintro e w2 ⟨rfl, hm2⟩
      have HM2 := Lib.hid (HM.out.from hm2 (Nat.le_of_eq HBE.out))
      clear hm2 HB HM
      go_wp2_with fail
      go_ret
      exact ⟨by rw [HN.out]; rfl, HM2.out⟩

end Go.Proofs.YtjehlecgnepgmaaGreatDoor
