/- A Builder's bytes in the words of these texts; words in quotes: the program's. Conditions: modest sizes. -/
import Derived.Test.YtjfgfkbgbhbhjaaGreatDoorBuGrp
import Derived.Test.YtjfgfkbgbhbhjaaGreatDoorValLaw
namespace Go.Proofs.YtjfgfkbgbhbhjaaGreatDoor
open Go.RowKit
set_option linter.unusedVariables false
set_option linter.unusedSimpArgs false

abbrev hexB : ByteArray := ⟨#[48, 49, 50, 51, 52, 53, 54, 55, 56, 57, 97, 98, 99, 100, 101, 102]⟩
theorem hexD_at (m : Nat) (h : m < 16) : hexD m = hexB[m]'h := by
  match m, h with
  | 0, _ => rfl
  | 1, _ => rfl
  | 2, _ => rfl
  | 3, _ => rfl
  | 4, _ => rfl
  | 5, _ => rfl
  | 6, _ => rfl
  | 7, _ => rfl
  | 8, _ => rfl
  | 9, _ => rfl
  | 10, _ => rfl
  | 11, _ => rfl
  | 12, _ => rfl
  | 13, _ => rfl
  | 14, _ => rfl
  | 15, _ => rfl
  | n + 16, h => exact absurd h (by omega)

set_option maxRecDepth 100000 in
set_option maxHeartbeats 1500000 in
theorem quote_v (s : ByteArray) (w : World) (hs : s.size ≤ 100000) :
    Calls Tryz.prog 127 #[.string s] w fun e w' => e = .returned (.string ⟨(quoteL s.data.toList).toArray⟩) ∧ New w w' := by
  have hb0 := Blk.new w 98 #[.pointer none, .slice none 0 0]
  have hm0 : New w (w.alloc (.cells #[.pointer none, .slice none 0 0] 98)) := (Mod.refl _ _).alloc _
  go_enter Tryz.func127, Tryz.ntmps127
  go_upto_region 2 with (fail)
  generalize w.alloc (.cells #[.pointer none, .slice none 0 0] 98) = w1 at *
  generalize hbe : w.heap.size = B at *
  have HB := Lib.hid (Bw.fresh hb0 (Nat.le_refl _))
  have HM := Lib.hid hm0
  have HBE := Lib.hid hbe
  have HL : Hid (([] : List UInt8).length + 1 ≤ 1000000) := Lib.hid (by simp)
  clear hb0 hm0 hbe
  go_wp2_with fail
  refine (bw_byte buT_self B B _ 34 34 (by first | rfl | (exact HC.out.symm)) _ HB.out (by have hq := HL.out; first | omega | (simp; done) | (simp at hq ⊢; omega))).mono ?_
  rintro e wz ⟨rfl, hb1, hm1, -⟩
  have HM1 := Lib.hid (HM.out.from hm1 (Nat.le_of_eq HBE.out))
  clear HB HM hm1
  have HB := Lib.hid hb1
  have HM := HM1
  clear hb1 HM1
  clear HL
  go_wp2_with fail
  go_loopw [9] (fun i wr => ∃ k : Nat, k ≤ s.size ∧ i = .int .i64 k ∧ Hid (Bw 98 B B (34 :: (s.data.toList.take k).flatMap qc) wr) ∧ Hid (New w wr)) (fun i _ => s.size - (intOf i).toNat)
  case atStart => exact ⟨0, Nat.zero_le _, rfl, by simpa using HB, HM⟩
  case round =>
    clear HB HM
    rename World => wr
    obtain ⟨k, hk, rfl, HB, HM⟩ := hrel
    have HL : Hid ((34 :: (s.data.toList.take k).flatMap qc).length + 1 ≤ 700000) := Lib.hid (by
      have h1 := quoteL_length (s.data.toList.take k)
      simp only [quoteL, List.length_cons, List.length_append, List.length_nil, List.length_take] at h1 ⊢
      have h2 : s.data.toList.length = s.size := rfl
      omega)
    by_cases hlt : k < s.size
    · have hkl : k < s.data.toList.length := hlt
      have HTK : Hid ((34 :: (s.data.toList.take (k + 1)).flatMap qc) = (34 :: (s.data.toList.take k).flatMap qc) ++ qc s[k]) := Lib.hid (by
        rw [List.take_succ_eq_append_getElem hkl, List.flatMap_append]
        simp [ByteArray.getElem_eq_getElem_data])
      have hb1 : (0 : Int) ≤ k := by omega
      have hb2 : (k : Int) < s.size := by omega
      generalize 34 :: (s.data.toList.take k).flatMap qc = L at *
      go_upto_region 8 with (fail)
      generalize s[k] = c at *
      have hc8 := c.toNat_lt
      generalize hcn : (c.toNat : Int) = n at *
      have HC := Lib.hid hcn
      have hn0 : 0 ≤ n ∧ n < 256 := by omega
      obtain ⟨hn0, hn1⟩ := hn0
      clear hcn hc8
      have hcc : ∀ q : Nat, n = (q : Int) → q < 256 → c = UInt8.ofNat q := fun q h hq => by
        have h1 : c.toNat = q := by have := HC.out; omega
        rw [← h1]; simp
      have HCC := Lib.hid hcc
      clear hcc
      by_cases n34 : n = 34
      · subst n34
        have HQ : Hid (qc c = [92, c]) := Lib.hid (by rw [HCC.out 34 rfl (by omega)]; rfl)
        go_wp2_with fail
        refine (bw_byte buT_self B B _ 92 92 (by first | rfl | (exact HC.out.symm)) _ HB.out (by have hq := HL.out; first | omega | (simp; done) | (simp at hq ⊢; omega))).mono ?_
        rintro e wz ⟨rfl, hb1, hm1, -⟩
        have HM1 := Lib.hid (HM.out.from hm1 (Nat.le_of_eq HBE.out))
        clear HB HM hm1
        have HB := Lib.hid hb1
        have HM := HM1
        clear hb1 HM1
        go_wp2_with fail
        refine (bw_byte buT_self B B _ c 34 (by first | rfl | (exact HC.out.symm)) _ HB.out (by have hq := HL.out; first | omega | (simp; done) | (simp at hq ⊢; omega))).mono ?_
        rintro e wz ⟨rfl, hb1, hm1, -⟩
        have HM1 := Lib.hid (HM.out.from hm1 (Nat.le_of_eq HBE.out))
        clear HB HM hm1
        have HB := Lib.hid hb1
        have HM := HM1
        clear hb1 HM1
        go_wp2_with fail
        go_roundw
        case rel => exact ⟨k + 1, by omega, by go_num, Lib.hid (by rw [HTK.out, HQ.out]; simpa using HB.out), HM⟩
        case measure => simp [intOf]; omega
      have f34 : (n == 34) = false := by simpa using n34
      by_cases n92 : n = 92
      · subst n92
        have HQ : Hid (qc c = [92, c]) := Lib.hid (by rw [HCC.out 92 rfl (by omega)]; rfl)
        go_wp2_with fail
        refine (bw_byte buT_self B B _ 92 92 (by first | rfl | (exact HC.out.symm)) _ HB.out (by have hq := HL.out; first | omega | (simp; done) | (simp at hq ⊢; omega))).mono ?_
        rintro e wz ⟨rfl, hb1, hm1, -⟩
        have HM1 := Lib.hid (HM.out.from hm1 (Nat.le_of_eq HBE.out))
        clear HB HM hm1
        have HB := Lib.hid hb1
        have HM := HM1
        clear hb1 HM1
        go_wp2_with fail
        refine (bw_byte buT_self B B _ c 92 (by first | rfl | (exact HC.out.symm)) _ HB.out (by have hq := HL.out; first | omega | (simp; done) | (simp at hq ⊢; omega))).mono ?_
        rintro e wz ⟨rfl, hb1, hm1, -⟩
        have HM1 := Lib.hid (HM.out.from hm1 (Nat.le_of_eq HBE.out))
        clear HB HM hm1
        have HB := Lib.hid hb1
        have HM := HM1
        clear hb1 HM1
        go_wp2_with fail
        go_roundw
        case rel => exact ⟨k + 1, by omega, by go_num, Lib.hid (by rw [HTK.out, HQ.out]; simpa using HB.out), HM⟩
        case measure => simp [intOf]; omega
      have f92 : (n == 92) = false := by simpa using n92
      by_cases n10 : n = 10
      · subst n10
        have HQ : Hid (qc c = [92, 110]) := Lib.hid (by rw [HCC.out 10 rfl (by omega)]; rfl)
        go_wp2_with fail
        refine (bw_string buT_self B B _ (⟨#[92, 110]⟩ : ByteArray) _ HB.out (by have hq := HL.out; exact Nat.le_trans (Nat.add_le_add_left (show ByteArray.size (⟨#[92, 110]⟩ : ByteArray) ≤ 10 by decide) _) (by first | omega | (simp at hq ⊢; omega)))).mono ?_
        rintro e wz ⟨rfl, hb1, hm1, -⟩
        have HM1 := Lib.hid (HM.out.from hm1 (Nat.le_of_eq HBE.out))
        clear HB HM hm1
        have HB := Lib.hid hb1
        have HM := HM1
        clear hb1 HM1
        go_wp2_with fail
        go_roundw
        case rel => exact ⟨k + 1, by omega, by go_num, Lib.hid (by rw [HTK.out, HQ.out]; simpa using HB.out), HM⟩
        case measure => simp [intOf]; omega
      have f10 : (n == 10) = false := by simpa using n10
      by_cases n13 : n = 13
      · subst n13
        have HQ : Hid (qc c = [92, 114]) := Lib.hid (by rw [HCC.out 13 rfl (by omega)]; rfl)
        go_wp2_with fail
        refine (bw_string buT_self B B _ (⟨#[92, 114]⟩ : ByteArray) _ HB.out (by have hq := HL.out; exact Nat.le_trans (Nat.add_le_add_left (show ByteArray.size (⟨#[92, 114]⟩ : ByteArray) ≤ 10 by decide) _) (by first | omega | (simp at hq ⊢; omega)))).mono ?_
        rintro e wz ⟨rfl, hb1, hm1, -⟩
        have HM1 := Lib.hid (HM.out.from hm1 (Nat.le_of_eq HBE.out))
        clear HB HM hm1
        have HB := Lib.hid hb1
        have HM := HM1
        clear hb1 HM1
        go_wp2_with fail
        go_roundw
        case rel => exact ⟨k + 1, by omega, by go_num, Lib.hid (by rw [HTK.out, HQ.out]; simpa using HB.out), HM⟩
        case measure => simp [intOf]; omega
      have f13 : (n == 13) = false := by simpa using n13
      by_cases n9 : n = 9
      · subst n9
        have HQ : Hid (qc c = [92, 116]) := Lib.hid (by rw [HCC.out 9 rfl (by omega)]; rfl)
        go_wp2_with fail
        refine (bw_string buT_self B B _ (⟨#[92, 116]⟩ : ByteArray) _ HB.out (by have hq := HL.out; exact Nat.le_trans (Nat.add_le_add_left (show ByteArray.size (⟨#[92, 116]⟩ : ByteArray) ≤ 10 by decide) _) (by first | omega | (simp at hq ⊢; omega)))).mono ?_
        rintro e wz ⟨rfl, hb1, hm1, -⟩
        have HM1 := Lib.hid (HM.out.from hm1 (Nat.le_of_eq HBE.out))
        clear HB HM hm1
        have HB := Lib.hid hb1
        have HM := HM1
        clear hb1 HM1
        go_wp2_with fail
        go_roundw
        case rel => exact ⟨k + 1, by omega, by go_num, Lib.hid (by rw [HTK.out, HQ.out]; simpa using HB.out), HM⟩
        case measure => simp [intOf]; omega
      have f9 : (n == 9) = false := by simpa using n9
      by_cases nh : n < 32 ∨ n = 127
      · have q16 : (n / 16).toNat < 16 := by omega
        have r16 : (n % 16).toNat < 16 := by omega
        have HQ : Hid (qc c = [92, 117, 48, 48] ++ [hexB[(n / 16).toNat]'q16] ++ [hexB[(n % 16).toNat]'r16]) := Lib.hid (by
          have h0 := HC.out
          have k34 : c ≠ 34 := fun h => n34 (by rw [← h0, h]; rfl)
          have k92 : c ≠ 92 := fun h => n92 (by rw [← h0, h]; rfl)
          have k10 : c ≠ 10 := fun h => n10 (by rw [← h0, h]; rfl)
          have k13 : c ≠ 13 := fun h => n13 (by rw [← h0, h]; rfl)
          have k9 : c ≠ 9 := fun h => n9 (by rw [← h0, h]; rfl)
          have kq : (n / 16).toNat = c.toNat / 16 := by omega
          have kr : (n % 16).toNat = c.toNat % 16 := by omega
          have kh : c.toNat < 32 ∨ c = 127 := by
            rcases nh with h | h
            · exact .inl (by omega)
            · exact .inr (HCC.out 127 h (by omega))
          rw [← hexD_at _ q16, ← hexD_at _ r16, kq, kr]
          unfold qc
          rw [if_neg (by simp [k34, k92]), if_neg k10, if_neg k13, if_neg k9, if_pos kh]
          rfl)
        by_cases h32 : n < 32
        · clear nh
          go_wp2_with fail
          refine (bw_string buT_self B B _ (⟨#[92, 117, 48, 48]⟩ : ByteArray) _ HB.out (by have hq := HL.out; exact Nat.le_trans (Nat.add_le_add_left (show ByteArray.size (⟨#[92, 117, 48, 48]⟩ : ByteArray) ≤ 10 by decide) _) (by first | omega | (simp at hq ⊢; omega)))).mono ?_
          rintro e wz ⟨rfl, hb1, hm1, -⟩
          have HM1 := Lib.hid (HM.out.from hm1 (Nat.le_of_eq HBE.out))
          clear HB HM hm1
          have HB := Lib.hid hb1
          have HM := HM1
          clear hb1 HM1
          go_wp2_with fail
          refine (bw_byte buT_self B B _ _ _ (by first | rfl | (exact HC.out.symm)) _ HB.out (by have hq := HL.out; first | omega | (simp; done) | (simp at hq ⊢; omega))).mono ?_
          rintro e wz ⟨rfl, hb1, hm1, -⟩
          have HM1 := Lib.hid (HM.out.from hm1 (Nat.le_of_eq HBE.out))
          clear HB HM hm1
          have HB := Lib.hid hb1
          have HM := HM1
          clear hb1 HM1
          go_wp2_with fail
          refine (bw_byte buT_self B B _ _ _ (by first | rfl | (exact HC.out.symm)) _ HB.out (by have hq := HL.out; first | omega | (simp; done) | (simp at hq ⊢; omega))).mono ?_
          rintro e wz ⟨rfl, hb1, hm1, -⟩
          have HM1 := Lib.hid (HM.out.from hm1 (Nat.le_of_eq HBE.out))
          clear HB HM hm1
          have HB := Lib.hid hb1
          have HM := HM1
          clear hb1 HM1
          go_wp2_with fail
          go_roundw
          case rel => exact ⟨k + 1, by omega, by go_num, Lib.hid (by rw [HTK.out, HQ.out]; simpa using HB.out), HM⟩
          case measure => simp [intOf]; omega
        · have f32 : decide (n < 32) = false := by simpa using h32
          have f127 : (n == 127) = true := by simp; omega
          clear nh h32
          go_wp2_with fail
          refine (bw_string buT_self B B _ (⟨#[92, 117, 48, 48]⟩ : ByteArray) _ HB.out (by have hq := HL.out; exact Nat.le_trans (Nat.add_le_add_left (show ByteArray.size (⟨#[92, 117, 48, 48]⟩ : ByteArray) ≤ 10 by decide) _) (by first | omega | (simp at hq ⊢; omega)))).mono ?_
          rintro e wz ⟨rfl, hb1, hm1, -⟩
          have HM1 := Lib.hid (HM.out.from hm1 (Nat.le_of_eq HBE.out))
          clear HB HM hm1
          have HB := Lib.hid hb1
          have HM := HM1
          clear hb1 HM1
          go_wp2_with fail
          refine (bw_byte buT_self B B _ _ _ (by first | rfl | (exact HC.out.symm)) _ HB.out (by have hq := HL.out; first | omega | (simp; done) | (simp at hq ⊢; omega))).mono ?_
          rintro e wz ⟨rfl, hb1, hm1, -⟩
          have HM1 := Lib.hid (HM.out.from hm1 (Nat.le_of_eq HBE.out))
          clear HB HM hm1
          have HB := Lib.hid hb1
          have HM := HM1
          clear hb1 HM1
          go_wp2_with fail
          refine (bw_byte buT_self B B _ _ _ (by first | rfl | (exact HC.out.symm)) _ HB.out (by have hq := HL.out; first | omega | (simp; done) | (simp at hq ⊢; omega))).mono ?_
          rintro e wz ⟨rfl, hb1, hm1, -⟩
          have HM1 := Lib.hid (HM.out.from hm1 (Nat.le_of_eq HBE.out))
          clear HB HM hm1
          have HB := Lib.hid hb1
          have HM := HM1
          clear hb1 HM1
          go_wp2_with fail
          go_roundw
          case rel => exact ⟨k + 1, by omega, by go_num, Lib.hid (by rw [HTK.out, HQ.out]; simpa using HB.out), HM⟩
          case measure => simp [intOf]; omega
      · have f32 : decide (n < 32) = false := by simp; omega
        have f127 : (n == 127) = false := by simp; omega
        have HQ : Hid (qc c = [c]) := Lib.hid (by
          unfold qc
          have h0 := HC.out
          have k34 : c ≠ 34 := fun h => n34 (by rw [← h0, h]; rfl)
          have k92 : c ≠ 92 := fun h => n92 (by rw [← h0, h]; rfl)
          have k10 : c ≠ 10 := fun h => n10 (by rw [← h0, h]; rfl)
          have k13 : c ≠ 13 := fun h => n13 (by rw [← h0, h]; rfl)
          have k9 : c ≠ 9 := fun h => n9 (by rw [← h0, h]; rfl)
          have k32 : ¬ c.toNat < 32 := by omega
          have k127 : c ≠ 127 := fun h => nh (.inr (by rw [← h0, h]; rfl))
          simp [k34, k92, k10, k13, k9, k32, k127])
        clear nh
        go_wp2_with fail
        refine (bw_byte buT_self B B _ c n (by first | rfl | (exact HC.out.symm)) _ HB.out (by have hq := HL.out; first | omega | (simp; done) | (simp at hq ⊢; omega))).mono ?_
        rintro e wz ⟨rfl, hb1, hm1, -⟩
        have HM1 := Lib.hid (HM.out.from hm1 (Nat.le_of_eq HBE.out))
        clear HB HM hm1
        have HB := Lib.hid hb1
        have HM := HM1
        clear hb1 HM1
        go_wp2_with fail
        go_roundw
        case rel => exact ⟨k + 1, by omega, by go_num, Lib.hid (by rw [HTK.out, HQ.out]; simpa using HB.out), HM⟩
        case measure => simp [intOf]; omega
    · obtain rfl : k = s.size := by omega
      have HTE : Hid ((34 :: (s.data.toList.take s.size).flatMap qc) ++ [34] = quoteL s.data.toList) := Lib.hid (by
        rw [List.take_of_length_le (show s.data.toList.length ≤ s.size from Nat.le_refl _)]; rfl)
      generalize 34 :: (s.data.toList.take s.size).flatMap qc = L at *
      clear hlt hk
      go_wp2_with fail
      refine (bw_byte buT_self B B _ 34 34 (by first | rfl | (exact HC.out.symm)) _ HB.out (by have hq := HL.out; first | omega | (simp; done) | (simp at hq ⊢; omega))).mono ?_
      rintro e wz ⟨rfl, hb1, hm1, -⟩
      have HM1 := Lib.hid (HM.out.from hm1 (Nat.le_of_eq HBE.out))
      clear HB HM hm1
      have HB := Lib.hid hb1
      have HM := HM1
      clear hb1 HM1
      have hgv := bw_give B B _ _ HB.out (by simp)
      rw [HTE.out] at hgv
      go_wp2_with fail
      refine hgv.mono ?_
      clear hgv
      rintro e wy ⟨rfl, m5⟩
      have HM5 := Lib.hid (HM.out.from m5 (Nat.le_of_eq HBE.out))
      go_wp2_with fail
      go_ret
      exact ⟨rfl, HM5.out⟩

end Go.Proofs.YtjfgfkbgbhbhjaaGreatDoor
