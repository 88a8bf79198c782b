/- Several texts in one. (1) The reference reads the step that begins a text (gateref1.stepFrom). Conditions: a text of modest size that is not empty; strconv's table. (2) A path that a text holds (value.ReadPath, gateref1.PathRead). Conditions: a text of modest size; the library's tables lie as they should. -/
import Derived.Test.YtpgcbehpknghdaaGreatDoorStrictGrp
import Derived.Test.YtpgcbehpknghdaaGreatDoorWrdsLawGrp
import Derived.Test.YtpgcbehpknghdaaGreatDoorStepTxGrp
import Derived.Test.YtpgcbehpknghdaaGreatDoorStepC
import Derived.Test.YtpgcbehpknghdaaGreatDoorLeaves

namespace Go.Proofs.YtpgcbehpknghdaaGreatDoor
open Go.RowKit
set_option linter.unusedVariables false
set_option linter.unusedSimpArgs false

/-- a step and how many bytes it has; none: there is none -/
def RStepF (q : Option (St × Nat)) (w : World) (e : Ending) (w' : World) : Prop :=
  ∃ (st : St) (m : Int), e = .returned (.tuple #[st.val, .int .i64 m]) ∧ New w w' ∧ ((q = none ∧ m = 0) ∨ ∃ n : Nat, q = some (st, n) ∧ m = (n : Int))
theorem wrd_idx (c : UInt8) : decide (0 ≤ Lib.indexByte [97, 98, 99, 100, 101, 102, 103, 104, 105, 106, 107, 108, 109, 110, 111, 112, 113, 114, 115, 116, 117, 118, 119, 120, 121, 122, 65, 66, 67, 68, 69, 70, 71, 72, 73, 74, 75, 76, 77, 78, 79, 80, 81, 82, 83, 84, 85, 86, 87, 88, 89, 90, 95, 48, 49, 50, 51, 52, 53, 54, 55, 56, 57] c) = isWrdN c.toNat := by
  revert c
  apply byteOf
  decide +kernel
theorem mod3 (w : World) (rb : Nat) (v0 v1 v2 : Value) : Mod (fun k => k = rb) w (((w.setCell ⟨rb, 0, none⟩ v0).setCell ⟨rb, 1, none⟩ v1).setCell ⟨rb, 2, none⟩ v2) :=
  Mod.setCell (S := fun k => k = rb) (p := ⟨rb, 2, none⟩) (Mod.setCell (S := fun k => k = rb) (p := ⟨rb, 1, none⟩) (Mod.setCell (S := fun k => k = rb) (p := ⟨rb, 0, none⟩) (Mod.refl _ _) (.inl rfl) v0) (.inl rfl) v1) (.inl rfl) v2
theorem loose_text {r w : List UInt8} {X : ByteArray} (hX : X.data.toList = w) : Lib.hasPrefix (91 :: r) (stepTx ⟨true, X, 0⟩) = (!plainRow w && Lib.hasPrefix r (quoteL w ++ [93])) := by
  unfold stepTx
  rw [if_neg (by simp)]
  simp only [hX]
  cases plainRow w
  · rw [if_neg (by decide)]
    simp [Lib.hasPrefix]
  · rw [if_pos rfl]
    rfl
set_option maxRecDepth 100000 in
set_option maxHeartbeats 700000 in
theorem ref_stepFrom (s : ByteArray) (w : World) (hs : s.size ≤ 15000) (hi : 0 < s.size) (hP : Pow10 w) :
    Calls Tryz.prog 48 #[.string s] w (RStepF (stepRd s.data.toList) w) := by
  have hlen : s.data.toList.length = s.size := rfl
  have hR := Blk.new w 46 #[.bool false, .string ⟨#[]⟩, .int .i64 0]
  have hm1 : New w (w.alloc (.cells #[.bool false, .string ⟨#[]⟩, .int .i64 0] 46)) := (Mod.refl _ _).alloc _
  have hii : (0 : Int) < (s.size : Int) := by omega
  have hi1' : (1 : Int) ≤ (s.size : Int) := by omega
  obtain ⟨c, hci⟩ : ∃ c, s[0]'hi = c := ⟨_, rfl⟩
  have hgi : s.data.toList[0]'(by omega) = c := hci
  have hdrop : s.data.toList = s.data.toList[0]'(by omega) :: s.data.toList.drop 1 := by
    have := List.drop_eq_getElem_cons (l := s.data.toList) (i := 0) (by omega)
    rwa [List.drop_zero] at this
  rw [hgi] at hdrop
  obtain ⟨L, hL⟩ : ∃ L, s.data.toList = L := ⟨_, rfl⟩
  have HL := Lib.hid hL
  have HD : Hid (L = c :: L.drop 1) := Lib.hid (by rw [← hL]; exact hdrop)
  have HLEN : Hid (L.length = s.size) := Lib.hid (by rw [← hL]; exact hlen)
  have HP := Lib.hid hP
  rw [hL]
  clear hdrop hgi hlen hL hP
  go_enter Tryz.func48, Tryz.ntmps48
  go_upto_region 1 with fail
  generalize w.alloc (.cells #[.bool false, .string ⟨#[]⟩, .int .i64 0] 46) = w1 at *
  generalize hrb : w.heap.size = rb at *
  have R := Lib.hid hR
  have HM := Lib.hid hm1
  clear hR hm1
  by_cases h46 : c = 46
  · subst h46
    go_wp2_with fail
    go_loopw [4] (fun j wr => ∃ k : Nat, 1 ≤ k ∧ k ≤ s.size ∧ j = .int .i64 k ∧ wr = w1 ∧ Hid (∀ q (h : q < (L.drop 1).length), q < k - 1 → isWrdN (L.drop 1)[q].toNat = true)) (fun j _ => s.size - (intOf j).toNat)
    case atStart => exact ⟨1, Nat.le_refl _, by omega, rfl, rfl, Lib.hid (fun q h hq => absurd hq (by omega))⟩
    case round =>
      obtain ⟨k, k1, k2, rfl, rfl, HW⟩ := hrel
      by_cases hlt : k < s.size ∧ isWrdN (L.getD k 0).toNat = true
      · obtain ⟨hlt, hw⟩ := hlt
        have hkl : k < L.length := by have := HLEN.out; omega
        have hlti : (k : Int) < (s.size : Int) := by omega
        have hk0 : (0 : Int) ≤ (k : Int) := by omega
        obtain ⟨d, hd⟩ : ∃ d, s[k]'hlt = d := ⟨_, rfl⟩
        have hgd : L.getD k 0 = d := by
          rw [List.getD_eq_getElem?_getD, List.getElem?_eq_getElem hkl, Option.getD_some]
          have e : s.data.toList[k]'(by rw [HL.out]; exact hkl) = d := hd
          rw [← e]
          congr 1
          exact HL.out.symm
        rw [hgd] at hw
        have hib := Tryz.strings_IndexByte ⟨#[97, 98, 99, 100, 101, 102, 103, 104, 105, 106, 107, 108, 109, 110, 111, 112, 113, 114, 115, 116, 117, 118, 119, 120, 121, 122, 65, 66, 67, 68, 69, 70, 71, 72, 73, 74, 75, 76, 77, 78, 79, 80, 81, 82, 83, 84, 85, 86, 87, 88, 89, 90, 95, 48, 49, 50, 51, 52, 53, 54, 55, 56, 57]⟩ (d.toNat : Int) wr
        have hcc : (d.toNat : Int).toNat.toUInt8 = d := by simp
        rw [hcc] at hib
        simp only at hib
        have hx := wrd_idx d
        rw [hw] at hx
        generalize Lib.indexByte [97, 98, 99, 100, 101, 102, 103, 104, 105, 106, 107, 108, 109, 110, 111, 112, 113, 114, 115, 116, 117, 118, 119, 120, 121, 122, 65, 66, 67, 68, 69, 70, 71, 72, 73, 74, 75, 76, 77, 78, 79, 80, 81, 82, 83, 84, 85, 86, 87, 88, 89, 90, 95, 48, 49, 50, 51, 52, 53, 54, 55, 56, 57] d = z at *
        have HW1 : Hid (∀ q (h : q < (L.drop 1).length), q < k + 1 - 1 → isWrdN (L.drop 1)[q].toNat = true) := Lib.hid (fun q h hq => by
          by_cases e : q = k - 1
          · subst e
            rw [List.getElem_drop]
            have e2 : 1 + (k - 1) = k := by omega
            simp only [e2]
            have := hgd
            rw [List.getD_eq_getElem?_getD, List.getElem?_eq_getElem hkl, Option.getD_some] at this
            rw [this]
            exact hw
          · exact HW.out q h (by omega))
        clear hgd hw hcc
        go_wp2_with (first | (refine hib.mono ?_; clear hib; rintro e w9 ⟨rfl, hww⟩; subst w9))
        go_roundw
        case rel => exact ⟨k + 1, by omega, by omega, by go_num, (by first | rfl | trivial), HW1⟩
        case measure => simp [intOf]; omega
      · have HST : Hid (wrdHead (L.drop 1) = (L.drop 1).take (k - 1)) := Lib.hid (by
          unfold wrdHead
          refine tw_eq _ _ _ (by rw [List.length_drop]; have := HLEN.out; omega) HW.out (fun h => ?_)
          rw [List.length_drop, HLEN.out] at h
          have hkl : k < L.length := by have := HLEN.out; omega
          have : isWrdN (L.getD k 0).toNat = false := by
            cases hq : isWrdN (L.getD k 0).toNat
            · rfl
            · exact absurd ⟨by omega, hq⟩ hlt
          rw [List.getD_eq_getElem?_getD, List.getElem?_eq_getElem hkl, Option.getD_some] at this
          rw [List.getElem_drop]
          have e2 : 1 + (k - 1) = k := by omega
          simp only [e2]
          exact this)
        have HX : Hid ((s.extract 1 k).data.toList = (L.drop 1).take (k - 1)) := Lib.hid (by rw [extract_data, HL.out])
        have hpr := fun W => ref_plainRow (s.extract 1 k) W (by simp only [ByteArray.size_extract]; omega)
        rw [HX.out, ← HST.out] at hpr
        have HS : Hid (stepRd L = if plainRow (wrdHead (L.drop 1)) = true then some (⟨true, s.extract 1 k, 0⟩, k) else none) := Lib.hid (by
          have e1 : numB (wrdHead (L.drop 1)) = s.extract 1 k := by
            apply ba_ext
            rw [HX.out, ← HST.out]
            simp [numB]
          have e2 : (wrdHead (L.drop 1)).length + 1 = k := by
            rw [HST.out, List.length_take, List.length_drop]
            have := HLEN.out
            omega
          rw [HD.out, stepRd, if_pos rfl, List.drop_succ_cons, List.drop_zero, e1, e2])
        have HPR := Lib.hid hpr
        generalize plainRow (wrdHead (L.drop 1)) = p at *
        clear hpr HST HX HW
        have hk0 : (0 : Int) ≤ (k : Int) := by omega
        have hk1 : (1 : Int) ≤ (k : Int) := by omega
        have hk2 : (k : Int) ≤ (s.size : Int) := by omega
        by_cases hks : k < s.size
        · have hnw : isWrdN (L.getD k 0).toNat = false := by
            cases hq : isWrdN (L.getD k 0).toNat
            · rfl
            · exact absurd ⟨hks, hq⟩ hlt
          have hkl : k < L.length := by have := HLEN.out; omega
          have hlti : (k : Int) < (s.size : Int) := by omega
          obtain ⟨d, hd⟩ : ∃ d, s[k]'hks = d := ⟨_, rfl⟩
          have hgd : L.getD k 0 = d := by
            rw [List.getD_eq_getElem?_getD, List.getElem?_eq_getElem hkl, Option.getD_some]
            have e : s.data.toList[k]'(by rw [HL.out]; exact hkl) = d := hd
            rw [← e]
            congr 1
            exact HL.out.symm
          rw [hgd] at hnw
          have hib := Tryz.strings_IndexByte ⟨#[97, 98, 99, 100, 101, 102, 103, 104, 105, 106, 107, 108, 109, 110, 111, 112, 113, 114, 115, 116, 117, 118, 119, 120, 121, 122, 65, 66, 67, 68, 69, 70, 71, 72, 73, 74, 75, 76, 77, 78, 79, 80, 81, 82, 83, 84, 85, 86, 87, 88, 89, 90, 95, 48, 49, 50, 51, 52, 53, 54, 55, 56, 57]⟩ (d.toNat : Int) wr
          have hcc : (d.toNat : Int).toNat.toUInt8 = d := by simp
          rw [hcc] at hib
          simp only at hib
          have hx := wrd_idx d
          rw [hnw] at hx
          generalize Lib.indexByte [97, 98, 99, 100, 101, 102, 103, 104, 105, 106, 107, 108, 109, 110, 111, 112, 113, 114, 115, 116, 117, 118, 119, 120, 121, 122, 65, 66, 67, 68, 69, 70, 71, 72, 73, 74, 75, 76, 77, 78, 79, 80, 81, 82, 83, 84, 85, 86, 87, 88, 89, 90, 95, 48, 49, 50, 51, 52, 53, 54, 55, 56, 57] d = z at *
          clear hgd hnw hcc hlt
          go_upto_region 5 with (first | (refine hib.mono ?_; clear hib; rintro e w9 ⟨rfl, hww⟩; subst w9))
          have hx := Blk.new wr 46 #[.bool true, .string (s.extract 1 k), .int .i64 0]
          have hmx : New wr (wr.alloc (.cells #[.bool true, .string (s.extract 1 k), .int .i64 0] 46)) := (Mod.refl _ _).alloc _
          have HMX := Lib.hid hmx
          have hwx : rb < wr.heap.size := R.out.lt
          go_upto_region 6 with fail
          have R2 := Lib.hid (R.out.mod hmx (fun e => e))
          have HM2 := Lib.hid (HM.out.trans hmx)
          have e0 := hx.cell 0
          have e1 := hx.cell 1
          have e2 := hx.cell 2
          have el := hx.lt
          simp only [List.getElem?_toArray, List.getElem?_cons_zero, List.getElem?_cons_succ] at e0 e1 e2
          have HX5 := Lib.hid hx
          clear hx hmx R HM HMX
          generalize wr.alloc (.cells #[.bool true, .string (s.extract 1 k), .int .i64 0] 46) = w3 at *
          generalize wr.heap.size = xb at *
          have hpr := HPR.out w3
          go_wp2_with fail
          refine hpr.mono ?_
          clear hpr e0 e1 e2 el
          rintro e w4 ⟨rfl, hm4⟩
          have R := Lib.hid (R2.out.mod hm4 (fun e => e))
          have HM := Lib.hid (HM2.out.trans hm4)
          have hx := HX5.out.mod hm4 (fun e => e)
          have e0 := hx.cell 0
          have e1 := hx.cell 1
          have e2 := hx.cell 2
          have el := hx.lt
          simp only [List.getElem?_toArray, List.getElem?_cons_zero, List.getElem?_cons_succ] at e0 e1 e2
          clear R2 HM2 HX5 hx hm4
          cases p
          · have HF : Hid (stepRd L = none) := Lib.hid (by rw [HS.out, if_neg (by decide)])
            clear HS
            have hcR := R.out.cell
            have hfR := R.out.frozen
            have rlt := R.out.lt
            have HFIN : Hid (∀ W', Mod (fun k => k = rb) w4 W' → New w W') := Lib.hid (fun W' hm => HM.out.step hm (fun i hi e => by omega))
            go_wp2_with fail
            refine bodyPost_ret (v := .tuple #[St.val (⟨false, ⟨#[]⟩, 0⟩), .int .i64 0]) (by simp [results, Tryz.results48, go_sem, hcR, hfR, rlt, St.val] <;> omega) rfl ?_
            exact ⟨(⟨false, ⟨#[]⟩, 0⟩), _, rfl, HFIN.out _ (mod3 _ _ _ _ _), .inl ⟨HF.out, rfl⟩⟩
          · have HF : Hid (stepRd L = some (⟨true, s.extract 1 k, 0⟩, k)) := Lib.hid (by have h := HS.out; rw [if_pos rfl] at h; exact h)
            clear HS
            have hcR := R.out.cell
            have hfR := R.out.frozen
            have rlt := R.out.lt
            have HFIN : Hid (∀ W', Mod (fun k => k = rb) w4 W' → New w W') := Lib.hid (fun W' hm => HM.out.step hm (fun i hi e => by omega))
            go_wp2_with fail
            refine bodyPost_ret (v := .tuple #[St.val (⟨true, s.extract 1 k, 0⟩), .int .i64 (k : Int)]) (by simp [results, Tryz.results48, go_sem, hcR, hfR, rlt, St.val] <;> omega) rfl ?_
            exact ⟨(⟨true, s.extract 1 k, 0⟩), _, rfl, HFIN.out _ (mod3 _ _ _ _ _), .inr ⟨k, HF.out, rfl⟩⟩
        · have hkse : ¬ (k : Int) < (s.size : Int) := by omega
          clear hlt
          go_upto_region 5 with fail
          have hx := Blk.new wr 46 #[.bool true, .string (s.extract 1 k), .int .i64 0]
          have hmx : New wr (wr.alloc (.cells #[.bool true, .string (s.extract 1 k), .int .i64 0] 46)) := (Mod.refl _ _).alloc _
          have HMX := Lib.hid hmx
          have hwx : rb < wr.heap.size := R.out.lt
          go_upto_region 6 with fail
          have R2 := Lib.hid (R.out.mod hmx (fun e => e))
          have HM2 := Lib.hid (HM.out.trans hmx)
          have e0 := hx.cell 0
          have e1 := hx.cell 1
          have e2 := hx.cell 2
          have el := hx.lt
          simp only [List.getElem?_toArray, List.getElem?_cons_zero, List.getElem?_cons_succ] at e0 e1 e2
          have HX5 := Lib.hid hx
          clear hx hmx R HM HMX
          generalize wr.alloc (.cells #[.bool true, .string (s.extract 1 k), .int .i64 0] 46) = w3 at *
          generalize wr.heap.size = xb at *
          have hpr := HPR.out w3
          go_wp2_with fail
          refine hpr.mono ?_
          clear hpr e0 e1 e2 el
          rintro e w4 ⟨rfl, hm4⟩
          have R := Lib.hid (R2.out.mod hm4 (fun e => e))
          have HM := Lib.hid (HM2.out.trans hm4)
          have hx := HX5.out.mod hm4 (fun e => e)
          have e0 := hx.cell 0
          have e1 := hx.cell 1
          have e2 := hx.cell 2
          have el := hx.lt
          simp only [List.getElem?_toArray, List.getElem?_cons_zero, List.getElem?_cons_succ] at e0 e1 e2
          clear R2 HM2 HX5 hx hm4
          cases p
          · have HF : Hid (stepRd L = none) := Lib.hid (by rw [HS.out, if_neg (by decide)])
            clear HS
            have hcR := R.out.cell
            have hfR := R.out.frozen
            have rlt := R.out.lt
            have HFIN : Hid (∀ W', Mod (fun k => k = rb) w4 W' → New w W') := Lib.hid (fun W' hm => HM.out.step hm (fun i hi e => by omega))
            go_wp2_with fail
            refine bodyPost_ret (v := .tuple #[St.val (⟨false, ⟨#[]⟩, 0⟩), .int .i64 0]) (by simp [results, Tryz.results48, go_sem, hcR, hfR, rlt, St.val] <;> omega) rfl ?_
            exact ⟨(⟨false, ⟨#[]⟩, 0⟩), _, rfl, HFIN.out _ (mod3 _ _ _ _ _), .inl ⟨HF.out, rfl⟩⟩
          · have HF : Hid (stepRd L = some (⟨true, s.extract 1 k, 0⟩, k)) := Lib.hid (by have h := HS.out; rw [if_pos rfl] at h; exact h)
            clear HS
            have hcR := R.out.cell
            have hfR := R.out.frozen
            have rlt := R.out.lt
            have HFIN : Hid (∀ W', Mod (fun k => k = rb) w4 W' → New w W') := Lib.hid (fun W' hm => HM.out.step hm (fun i hi e => by omega))
            go_wp2_with fail
            refine bodyPost_ret (v := .tuple #[St.val (⟨true, s.extract 1 k, 0⟩), .int .i64 (k : Int)]) (by simp [results, Tryz.results48, go_sem, hcR, hfR, rlt, St.val] <;> omega) rfl ?_
            exact ⟨(⟨true, s.extract 1 k, 0⟩), _, rfl, HFIN.out _ (mod3 _ _ _ _ _), .inr ⟨k, HF.out, rfl⟩⟩
  · have n46 : ((c.toNat : Int) == 46) = false := by
      simp only [beq_eq_false_iff_ne, ne_eq]
      intro h
      exact h46 (UInt8.toNat_inj.1 (by have : (46 : UInt8).toNat = 46 := rfl; omega))
    by_cases hq : c = 91 ∧ (L.drop 1).head? = some 34
    · obtain ⟨rfl, h34⟩ := hq
      have hl2 : 1 < s.size := by
        have := HLEN.out
        rcases Nat.lt_or_ge 1 s.size with h | h
        · exact h
        · rw [List.drop_of_length_le (by omega)] at h34; cases h34
      have hl2i : (1 : Int) < (s.size : Int) := by omega
      have hs1 : s[1]'hl2 = 34 := by
        have e : s.data.toList[1]'hl2 = 34 := by
          have h1 : (L.drop 1).head? = some (L[1]'(by have := HLEN.out; omega)) := by
            rw [List.head?_drop, List.getElem?_eq_getElem]
          rw [h34] at h1
          injection h1 with h1
          rw [h1]
          first | (congr 1; done) | (congr 1; exact HL.out)
        exact e
      have hd1 : (s.extract 1 s.size).data.toList = L.drop 1 := by rw [extract_data, HL.out, List.take_of_length_le (by rw [List.length_drop]; have := HLEN.out; omega)]
      have hlw := ref_looseWords (s.extract 1 s.size) w1 (by simp only [ByteArray.size_extract]; omega) (by simp only [ByteArray.size_extract]; omega)
      rw [hd1] at hlw
      have HS : Hid (stepRd L = match wordsOf ((L.drop 1).drop 1) with
        | none => none
        | some (w, n) => if plainRow w = false ∧ Lib.hasPrefix (L.drop 1) (quoteL w ++ [93]) = true then some (⟨true, numB w, 0⟩, n + 3) else none) := Lib.hid (by
          rw [HD.out]
          rw [List.drop_succ_cons, List.drop_zero]
          rw [stepRd, if_neg (by decide), if_neg (by decide), if_pos h34]
          cases wordsOf ((L.drop 1).drop 1) with
          | none => rfl
          | some q => rfl)
      have HSZ : Hid (∀ l k, wordsOf ((L.drop 1).drop 1) = some (l, k) → l.length ≤ 4 * (k + 1) ∧ k ≤ s.size) := Lib.hid (fun l k h => ⟨wordsL_size _ [] 0 _ l k (by simp) h, by
        have h1 := (wordsL_le _ [] 0 _ l k h).2
        rw [List.length_drop, List.length_drop, HLEN.out] at h1
        omega⟩)
      generalize wordsOf ((L.drop 1).drop 1) = q at *
      clear h46 n46 hd1 h34
      go_wp2_with fail
      refine hlw.mono ?_
      clear hlw
      rintro e w2 ⟨x, m, rfl, hm2, ⟨rfl, rfl⟩ | ⟨l, k, rfl, hxl, rfl⟩⟩
      · have HF : Hid (stepRd L = none) := Lib.hid HS.out
        have hwx : rb < w2.heap.size := by have := R.out.lt; have := hm2.size; omega
        have hx := Blk.new w2 46 #[.bool true, .string x, .int .i64 0]
        have hmx : New w2 (w2.alloc (.cells #[.bool true, .string x, .int .i64 0] 46)) := (Mod.refl _ _).alloc _
        go_upto_region 12 with fail
        have R2 := Lib.hid ((R.out.mod hm2 (fun e => e)).mod hmx (fun e => e))
        have HM2 := Lib.hid ((HM.out.trans hm2).trans hmx)
        clear R HM hm2 hmx
        have R := R2
        have HM := HM2
        clear R2 HM2
        have e0 := hx.cell 0
        have e1 := hx.cell 1
        have e2 := hx.cell 2
        have el := hx.lt
        simp only [List.getElem?_toArray, List.getElem?_cons_zero, List.getElem?_cons_succ] at e0 e1 e2
        have HX5 := Lib.hid hx
        clear hx
        generalize w2.alloc (.cells #[.bool true, .string x, .int .i64 0] 46) = w3 at *
        generalize w2.heap.size = xb at *
        have hcR := R.out.cell
        have hfR := R.out.frozen
        have rlt := R.out.lt
        have HFIN : Hid (∀ W', Mod (fun k => k = rb) w3 W' → New w W') := Lib.hid (fun W' hm => HM.out.step hm (fun i hi e => by omega))
        go_wp2_with fail
        refine bodyPost_ret (v := .tuple #[St.val (⟨false, ⟨#[]⟩, 0⟩), .int .i64 0]) (by simp [results, Tryz.results48, go_sem, hcR, hfR, rlt, St.val] <;> omega) rfl ?_
        exact ⟨(⟨false, ⟨#[]⟩, 0⟩), _, rfl, HFIN.out _ (mod3 _ _ _ _ _), .inl ⟨HF.out, rfl⟩⟩
      · obtain ⟨hz1, hz2⟩ := HSZ.out l k rfl
        have hxd : x.data.toList = l := by rw [hxl]
        have hxs : x.size = l.length := by rw [← hxd]; rfl
        have hnb : numB l = x := hxl.symm
        have HS2 : Hid (stepRd L = if Lib.hasPrefix L (stepTx ⟨true, x, 0⟩) = true then some (⟨true, x, 0⟩, k + 3) else none) := Lib.hid (by
          have h := HS.out
          simp only at h
          rw [hnb] at h
          have h2 := loose_text (r := L.drop 1) hxd
          rw [← HD.out] at h2
          rw [h, h2]
          cases plainRow l <;> simp)
        have hst := fun W (h : New w W) => ref_stepText ⟨true, x, 0⟩ W (by simp only; omega) (by unfold I64; simp only; omega) (HP.out.new h)
        have hpf := fun W => Tryz.strings_HasPrefix s ⟨(stepTx ⟨true, x, 0⟩).toArray⟩ W
        rw [HL.out] at hpf
        simp only at hpf
        have hT : ∃ T : ByteArray, T = ⟨(stepTx ⟨true, x, 0⟩).toArray⟩ := ⟨_, rfl⟩
        obtain ⟨T, hT⟩ := hT
        rw [← hT] at hst hpf
        generalize Lib.hasPrefix L (stepTx ⟨true, x, 0⟩) = b at *
        have hkk : (k : Int) + 1 ≤ 100000 := by omega
        have hk0 : (0 : Int) < (k : Int) + 1 := by omega
        have HST := Lib.hid hst
        have HPF := Lib.hid hpf
        clear hxl hxd hxs hnb hT hst hpf HS HSZ hz1
        have hwx : rb < w2.heap.size := by have := R.out.lt; have := hm2.size; omega
        have hx := Blk.new w2 46 #[.bool true, .string x, .int .i64 0]
        have hmx : New w2 (w2.alloc (.cells #[.bool true, .string x, .int .i64 0] 46)) := (Mod.refl _ _).alloc _
        go_upto_region 12 with fail
        have R2 := Lib.hid ((R.out.mod hm2 (fun e => e)).mod hmx (fun e => e))
        have HM2 := Lib.hid ((HM.out.trans hm2).trans hmx)
        clear R HM hm2 hmx
        have R := R2
        have HM := HM2
        clear R2 HM2
        have e0 := hx.cell 0
        have e1 := hx.cell 1
        have e2 := hx.cell 2
        have el := hx.lt
        simp only [List.getElem?_toArray, List.getElem?_cons_zero, List.getElem?_cons_succ] at e0 e1 e2
        have HX5 := Lib.hid hx
        clear hx
        generalize w2.alloc (.cells #[.bool true, .string x, .int .i64 0] 46) = w3 at *
        generalize w2.heap.size = xb at *
        have hst := HST.out w3 HM.out
        unfold St.val at hst
        simp only at hst
        go_wp2_with fail
        refine hst.mono ?_
        clear hst e0 e1 e2 el
        rintro e w4 ⟨rfl, hm4⟩
        have R4 := Lib.hid (R.out.mod hm4 (fun e => e))
        have HM4 := Lib.hid (HM.out.trans hm4)
        have hx := HX5.out.mod hm4 (fun e => e)
        clear R HM hm4
        have R := R4
        have HM := HM4
        clear R4 HM4
        have e0 := hx.cell 0
        have e1 := hx.cell 1
        have e2 := hx.cell 2
        have el := hx.lt
        simp only [List.getElem?_toArray, List.getElem?_cons_zero, List.getElem?_cons_succ] at e0 e1 e2
        clear hx HX5
        have hpf := HPF.out w4
        cases b
        · have HF : Hid (stepRd L = none) := Lib.hid (by rw [HS2.out, if_neg (by decide)])
          go_upto_region 14 with (first | (refine hpf.mono ?_; clear hpf; rintro e w9 ⟨rfl, hww⟩; subst w9))
          have hcR := R.out.cell
          have hfR := R.out.frozen
          have rlt := R.out.lt
          have HFIN : Hid (∀ W', Mod (fun k => k = rb) w4 W' → New w W') := Lib.hid (fun W' hm => HM.out.step hm (fun i hi e => by omega))
          go_wp2_with fail
          refine bodyPost_ret (v := .tuple #[St.val (⟨false, ⟨#[]⟩, 0⟩), .int .i64 0]) (by simp [results, Tryz.results48, go_sem, hcR, hfR, rlt, St.val] <;> omega) rfl ?_
          exact ⟨(⟨false, ⟨#[]⟩, 0⟩), _, rfl, HFIN.out _ (mod3 _ _ _ _ _), .inl ⟨HF.out, rfl⟩⟩
        · have HF : Hid (stepRd L = some (⟨true, x, 0⟩, k + 3)) := Lib.hid (by have h := HS2.out; rw [if_pos rfl] at h; exact h)
          go_upto_region 13 with (first | (refine hpf.mono ?_; clear hpf; rintro e w9 ⟨rfl, hww⟩; subst w9))
          have hcR := R.out.cell
          have hfR := R.out.frozen
          have rlt := R.out.lt
          have HFIN : Hid (∀ W', Mod (fun k => k = rb) w4 W' → New w W') := Lib.hid (fun W' hm => HM.out.step hm (fun i hi e => by omega))
          go_wp2_with fail
          refine bodyPost_ret (v := .tuple #[St.val (⟨true, x, 0⟩), .int .i64 ((k : Int) + 1 + 2)]) (by simp [results, Tryz.results48, go_sem, hcR, hfR, rlt, St.val] <;> omega) rfl ?_
          exact ⟨(⟨true, x, 0⟩), _, rfl, HFIN.out _ (mod3 _ _ _ _ _), .inr ⟨k + 3, HF.out, by omega⟩⟩
    · have HQ := Lib.hid hq
      have hib := Tryz.strings_IndexByte s 93 w1
      have h93 : (93 : Int).toNat.toUInt8 = 93 := rfl
      rw [HL.out, h93, HD.out] at hib
      by_cases h91 : c = 91
      rotate_left
      · have n91 : ((c.toNat : Int) == 91) = false := by
          simp only [beq_eq_false_iff_ne, ne_eq]
          intro h
          exact h91 (UInt8.toNat_inj.1 (by have : (91 : UInt8).toNat = 91 := rfl; omega))
        have n91b : ((c.toNat : Int) != 91) = true := by
          simp only [bne_iff_ne, ne_eq]
          intro h
          exact h91 (UInt8.toNat_inj.1 (by have : (91 : UInt8).toNat = 91 := rfl; omega))
        have HF : Hid (stepRd L = none) := Lib.hid (by rw [HD.out, stepRd, if_neg h46, if_pos h91])
        generalize Lib.indexByte (c :: L.drop 1) 93 = z at *
        clear hq h46 h91 h93
        by_cases hl2 : (1 : Int) < (s.size : Int)
        · go_upto_region 16 with (first | (refine hib.mono ?_; clear hib; rintro e w9 ⟨rfl, hww⟩; subst w9))
          have hcR := R.out.cell
          have hfR := R.out.frozen
          have rlt := R.out.lt
          have HFIN : Hid (∀ W', Mod (fun k => k = rb) w1 W' → New w W') := Lib.hid (fun W' hm => HM.out.step hm (fun i hi e => by omega))
          go_wp2_with fail
          refine bodyPost_ret (v := .tuple #[St.val (⟨false, ⟨#[]⟩, 0⟩), .int .i64 0]) (by simp [results, Tryz.results48, go_sem, hcR, hfR, rlt, St.val] <;> omega) rfl ?_
          exact ⟨(⟨false, ⟨#[]⟩, 0⟩), _, rfl, HFIN.out _ (mod3 _ _ _ _ _), .inl ⟨HF.out, rfl⟩⟩
        · go_upto_region 16 with (first | (refine hib.mono ?_; clear hib; rintro e w9 ⟨rfl, hww⟩; subst w9))
          have hcR := R.out.cell
          have hfR := R.out.frozen
          have rlt := R.out.lt
          have HFIN : Hid (∀ W', Mod (fun k => k = rb) w1 W' → New w W') := Lib.hid (fun W' hm => HM.out.step hm (fun i hi e => by omega))
          go_wp2_with fail
          refine bodyPost_ret (v := .tuple #[St.val (⟨false, ⟨#[]⟩, 0⟩), .int .i64 0]) (by simp [results, Tryz.results48, go_sem, hcR, hfR, rlt, St.val] <;> omega) rfl ?_
          exact ⟨(⟨false, ⟨#[]⟩, 0⟩), _, rfl, HFIN.out _ (mod3 _ _ _ _ _), .inl ⟨HF.out, rfl⟩⟩
      · subst h91
        have h34 : (L.drop 1).head? ≠ some 34 := fun h => hq ⟨rfl, h⟩
        rw [idx_cons, if_neg (by decide)] at hib
        have HS : Hid (stepRd L = if Lib.indexByte (L.drop 1) 93 < 1 then none
            else if numOk 9 (numB ((L.drop 1).take (Lib.indexByte (L.drop 1) 93).toNat)) = false ∨ numV (numB ((L.drop 1).take (Lib.indexByte (L.drop 1) 93).toNat)) < 0 then none
            else some (⟨false, ⟨#[]⟩, numV (numB ((L.drop 1).take (Lib.indexByte (L.drop 1) 93).toNat))⟩, (Lib.indexByte (L.drop 1) 93).toNat + 2)) := Lib.hid (by
          rw [HD.out, List.drop_succ_cons, List.drop_zero, stepRd, if_neg (by decide), if_neg (by decide), if_neg h34])
        have hge := Lib.indexByte_ge (L.drop 1) 93
        have hlt := fun (kn : Nat) (h : Lib.indexByte (L.drop 1) 93 = kn) => (Lib.indexByte_some h).1
        have hs1 : ∀ hl2 : 1 < s.size, ((s[1]'hl2).toNat : Int) = 34 → False := fun hl2 h => h34 (by
          rw [List.head?_drop, List.getElem?_eq_getElem (by have := HLEN.out; omega)]
          have e : s.data.toList[1]'hl2 = 34 := UInt8.toNat_inj.1 (by have : (34 : UInt8).toNat = 34 := rfl; have h2 : s[1]'hl2 = s.data.toList[1]'hl2 := rfl; rw [← h2]; omega)
          have e2 : L[1]'(by have := HLEN.out; omega) = s.data.toList[1]'hl2 := by congr 1; exact HL.out.symm
          rw [e2, e])
        clear hq h46 n46 h93 HQ h34
        by_cases hk1 : Lib.indexByte (L.drop 1) 93 < 1
        · have HF : Hid (stepRd L = none) := Lib.hid (by rw [HS.out, if_pos hk1])
          have hz : ∃ z : Int, z = (if Lib.indexByte (L.drop 1) 93 < 0 then -1 else Lib.indexByte (L.drop 1) 93 + 1) ∧ z < 2 := ⟨_, rfl, by split <;> omega⟩
          obtain ⟨z, hz, hz2⟩ := hz
          rw [← hz] at hib
          clear hz hlt hge HS hk1
          by_cases hl2 : 1 < s.size
          · have hl2i : (1 : Int) < (s.size : Int) := by omega
            have hne : (((s[1]'hl2).toNat : Int) == 34) = false := by
              simp only [beq_eq_false_iff_ne, ne_eq]
              exact hs1 hl2
            clear hs1
            go_upto_region 16 with (first | (refine hib.mono ?_; clear hib; rintro e w9 ⟨rfl, hww⟩; subst w9))
            have hcR := R.out.cell
            have hfR := R.out.frozen
            have rlt := R.out.lt
            have HFIN : Hid (∀ W', Mod (fun k => k = rb) w1 W' → New w W') := Lib.hid (fun W' hm => HM.out.step hm (fun i hi e => by omega))
            go_wp2_with fail
            refine bodyPost_ret (v := .tuple #[St.val (⟨false, ⟨#[]⟩, 0⟩), .int .i64 0]) (by simp [results, Tryz.results48, go_sem, hcR, hfR, rlt, St.val] <;> omega) rfl ?_
            exact ⟨(⟨false, ⟨#[]⟩, 0⟩), _, rfl, HFIN.out _ (mod3 _ _ _ _ _), .inl ⟨HF.out, rfl⟩⟩
          · have hl2i : ¬ (1 : Int) < (s.size : Int) := by omega
            clear hs1
            go_upto_region 16 with (first | (refine hib.mono ?_; clear hib; rintro e w9 ⟨rfl, hww⟩; subst w9))
            have hcR := R.out.cell
            have hfR := R.out.frozen
            have rlt := R.out.lt
            have HFIN : Hid (∀ W', Mod (fun k => k = rb) w1 W' → New w W') := Lib.hid (fun W' hm => HM.out.step hm (fun i hi e => by omega))
            go_wp2_with fail
            refine bodyPost_ret (v := .tuple #[St.val (⟨false, ⟨#[]⟩, 0⟩), .int .i64 0]) (by simp [results, Tryz.results48, go_sem, hcR, hfR, rlt, St.val] <;> omega) rfl ?_
            exact ⟨(⟨false, ⟨#[]⟩, 0⟩), _, rfl, HFIN.out _ (mod3 _ _ _ _ _), .inl ⟨HF.out, rfl⟩⟩
        · rw [if_neg (by omega)] at hib
          generalize hkq : Lib.indexByte (L.drop 1) 93 = kq at *
          obtain ⟨kn, rfl⟩ := Int.eq_ofNat_of_zero_le (show 0 ≤ kq by omega)
          have hkl : kn < (L.drop 1).length := by
            have := hlt kn rfl
            rcases Nat.lt_or_ge kn (L.drop 1).length with h | h
            · exact h
            · rw [List.getElem?_eq_none h] at this; cases this
          rw [List.length_drop, HLEN.out] at hkl
          have e1 : numB ((L.drop 1).take kn) = s.extract 1 (kn + 1) := by
            apply ba_ext
            rw [extract_data, HL.out]
            simp [numB]
          have HF0 : Hid (stepRd L = if numOk 9 (s.extract 1 (kn + 1)) = false ∨ numV (s.extract 1 (kn + 1)) < 0 then none else some (⟨false, ⟨#[]⟩, numV (s.extract 1 (kn + 1))⟩, kn + 2)) := Lib.hid (by
            have h := HS.out
            rw [if_neg hk1] at h
            simp only [Int.toNat_natCast] at h
            rw [e1] at h
            exact h)
          have hz : (s.extract 1 (kn + 1)).size ≤ 1000000 := by simp only [ByteArray.size_extract]; omega
          have hsm := ref_number 9 (by omega) (s.extract 1 (kn + 1)) w1 hz (HP.out.new HM.out)
          have hl2 : 1 < s.size := by omega
          have hl2i : (1 : Int) < (s.size : Int) := by omega
          have hne : (((s[1]'hl2).toNat : Int) == 34) = false := by
            simp only [beq_eq_false_iff_ne, ne_eq]
            exact hs1 hl2
          have hz2 : ¬ (kn : Int) + 1 < 2 := by omega
          have hkn0 : (0 : Int) ≤ (kn : Int) + 1 := by omega
          have hb1 : (1 : Int) ≤ (kn : Int) + 1 := by omega
          have hb2 : (kn : Int) + 1 ≤ (s.size : Int) := by omega
          unfold RNum at hsm
          clear hs1 hlt hge HS hk1 hz e1 hkq
          go_wp2_with (first | (refine hib.mono ?_; clear hib; rintro e w9 ⟨rfl, hww⟩; subst w9))
          refine hsm.mono ?_
          clear hsm
          rintro e w4 ⟨v, rfl, hv, hm4⟩
          have R4 := Lib.hid (R.out.mod hm4 (fun e => e))
          have HM4 := Lib.hid (HM.out.trans hm4)
          clear R HM hm4
          have R := R4
          have HM := HM4
          clear R4 HM4
          cases hok : numOk 9 (s.extract 1 (kn + 1))
          · have HF : Hid (stepRd L = none) := Lib.hid (by rw [HF0.out, if_pos (.inl hok)])
            clear hv hok HF0
            have hcR := R.out.cell
            have hfR := R.out.frozen
            have rlt := R.out.lt
            have HFIN : Hid (∀ W', Mod (fun k => k = rb) w4 W' → New w W') := Lib.hid (fun W' hm => HM.out.step hm (fun i hi e => by omega))
            go_wp2_with fail
            refine bodyPost_ret (v := .tuple #[St.val (⟨false, ⟨#[]⟩, 0⟩), .int .i64 0]) (by simp [results, Tryz.results48, go_sem, hcR, hfR, rlt, St.val] <;> omega) rfl ?_
            exact ⟨(⟨false, ⟨#[]⟩, 0⟩), _, rfl, HFIN.out _ (mod3 _ _ _ _ _), .inl ⟨HF.out, rfl⟩⟩
          · have hv1 := hv hok
            rw [hok, ← hv1] at HF0
            clear hv hok hv1
            by_cases hvn : v < 0
            · have HF : Hid (stepRd L = none) := Lib.hid (by rw [HF0.out, if_pos (.inr hvn)])
              have hvd : decide (v < 0) = true := by simp; omega
              have hcR := R.out.cell
              have hfR := R.out.frozen
              have rlt := R.out.lt
              have HFIN : Hid (∀ W', Mod (fun k => k = rb) w4 W' → New w W') := Lib.hid (fun W' hm => HM.out.step hm (fun i hi e => by omega))
              go_wp2_with fail
              refine bodyPost_ret (v := .tuple #[St.val (⟨false, ⟨#[]⟩, 0⟩), .int .i64 0]) (by simp [results, Tryz.results48, go_sem, hcR, hfR, rlt, St.val] <;> omega) rfl ?_
              exact ⟨(⟨false, ⟨#[]⟩, 0⟩), _, rfl, HFIN.out _ (mod3 _ _ _ _ _), .inl ⟨HF.out, rfl⟩⟩
            · have HF : Hid (stepRd L = some (⟨false, ⟨#[]⟩, v⟩, kn + 2)) := Lib.hid (by rw [HF0.out, if_neg (fun h => by rcases h with h | h; (cases h); exact hvn h)])
              have hvd : decide (v < 0) = false := by simp; omega
              have hcR := R.out.cell
              have hfR := R.out.frozen
              have rlt := R.out.lt
              have HFIN : Hid (∀ W', Mod (fun k => k = rb) w4 W' → New w W') := Lib.hid (fun W' hm => HM.out.step hm (fun i hi e => by omega))
              go_wp2_with fail
              refine bodyPost_ret (v := .tuple #[St.val (⟨false, ⟨#[]⟩, v⟩), .int .i64 ((kn : Int) + 1 + 1)]) (by simp [results, Tryz.results48, go_sem, hcR, hfR, rlt, St.val] <;> omega) rfl ?_
              exact ⟨(⟨false, ⟨#[]⟩, v⟩), _, rfl, HFIN.out _ (mod3 _ _ _ _ _), .inr ⟨kn + 2, HF.out, by omega⟩⟩

end Go.Proofs.YtpgcbehpknghdaaGreatDoor

namespace Go.Proofs.YtpgcbehpknghdaaGreatDoor
open Go.RowKit
set_option linter.unusedVariables false
set_option linter.unusedSimpArgs false

theorem stepRd_le {l : List UInt8} {s : St} {n : Nat} (h : stepRd l = some (s, n)) : n ≤ l.length ∧ s.name.size ≤ 4 * l.length := by
  cases l with
  | nil => cases h
  | cons c r =>
    rw [stepRd] at h
    rw [List.length_cons]
    have hnb : ∀ x : List UInt8, (numB x).size = x.length := fun x => by show (List.toArray _).size = _; simp
    split at h
    · split at h
      · injection h with h; injection h with h1 h2
        have hw : (wrdHead r).length ≤ r.length := by
          unfold wrdHead
          exact (List.takeWhile_prefix _).length_le
        subst h1 h2
        simp only [hnb]
        omega
      · cases h
    · split at h
      · cases h
      · split at h
        · rename_i h0
          cases hq : wordsOf (r.drop 1) with
          | none => rw [hq] at h; cases h
          | some q =>
            obtain ⟨w, m⟩ := q
            rw [hq] at h
            simp only at h
            split at h
            · rename_i hc
              injection h with h; injection h with h1 h2
              have hsz := wordsL_size _ [] 0 _ _ m (by simp) hq
              obtain ⟨hle, hiff⟩ := quote_ends h0 hq
              have h3 := (hiff.1 hc.2).2
              have h4 : m + 1 < r.length := by
                rcases Nat.lt_or_ge (m + 1) r.length with h | h
                · exact h
                · rw [List.getElem?_eq_none h] at h3; cases h3
              subst h1 h2
              simp only [hnb]
              omega
            · cases h
        · split at h
          · cases h
          · rename_i h1
            split at h
            · cases h
            · injection h with h; injection h with h2 h3
              have hge := Lib.indexByte_ge r 93
              obtain ⟨kn, hkn⟩ := Int.eq_ofNat_of_zero_le (show 0 ≤ Lib.indexByte r 93 by omega)
              have h4 := (Lib.indexByte_some hkn).1
              have h5 : kn < r.length := by
                rcases Nat.lt_or_ge kn r.length with h | h
                · exact h
                · rw [List.getElem?_eq_none h] at h4; cases h4
              rw [hkn] at h3
              simp only [Int.toNat_natCast] at h3
              subst h2
              have : (⟨#[]⟩ : ByteArray).size = 0 := rfl
              simp only [this]
              omega
def RRead (q : List St × Int × Int) (w : World) (e : Ending) (w' : World) : Prop := ∃ A n c, e = .returned (.tuple #[.slice A n c, .int .i64 q.2.1, .int .i64 q.2.2]) ∧ Sl w' 46 3 St.enc A n q.1 ∧ New w w' ∧ n ≤ c
theorem RRead.fault {q : List St × Int × Int} {w w' : World} {x y : Int} (h : q = ([], x, y)) (hm : New w w') : RRead q w (.returned (.tuple #[.slice none 0 0, .int .i64 x, .int .i64 y])) w' := ⟨none, 0, 0, by rw [h], by rw [h]; exact Sl.nil, hm, Nat.le_refl _⟩
set_option maxRecDepth 100000 in
set_option maxHeartbeats 700000 in
theorem val_readPath (s : ByteArray) (w : World) (hs : s.size ≤ 15000) (hU : Utf8T w) (hPw : Pow10 w) :
    Calls Tryz.prog 14 #[.string s] w (RRead (pathOf s) w) := by
  have hlen : s.data.toList.length = s.size := rfl
  have HLEN := Lib.hid hlen
  obtain ⟨P, hPq⟩ : ∃ P, pathOf s = P := ⟨_, rfl⟩
  have HP0 : Hid (P = pathRd (s.size + 1) [] 0 (s.data.toList.drop 0)) := Lib.hid (by rw [← hPq]; unfold pathOf; rw [if_neg (by omega), List.drop_zero])
  rw [hPq]
  have hbig : ¬ (200000 : Int) < (s.size : Int) := by omega
  have HU := Lib.hid hU
  have HPW := Lib.hid hPw
  clear hPq hlen hU hPw
  go_enter Tryz.func14, Tryz.ntmps14
  go_wp2_with fail
  go_loopw [5, 6] (fun o i wr => ∃ (k n c f : Nat) (A : Option Addr) (out : List St), i = .int .i64 k ∧ o = .slice A n c ∧ k ≤ s.size ∧ n ≤ k ∧ Hid (Own wr w.heap.size 46 3 St.enc A n c out) ∧ Hid (∀ x ∈ out, x.name.size ≤ 100000) ∧ Hid ((s.data.toList.drop k).length < f) ∧ Hid (P = pathRd f out k (s.data.toList.drop k)) ∧ Hid (New w wr)) (fun _ i _ => s.size - (intOf i).toNat)
  case atStart => exact ⟨0, 0, 0, s.size + 1, none, [], by go_num, rfl, by omega, by omega, Lib.hid Own.nil, Lib.hid (fun x h => by cases h), Lib.hid (by rw [List.drop_zero, HLEN.out]; omega), HP0, Lib.hid (Mod.refl _ _)⟩
  case round =>
    clear HP0
    rename World => wr
    obtain ⟨k, n, c, f, A, out, rfl, rfl, hk, hn, HO, HNM, HF, HP, HM⟩ := hrel
    have HOF : Hid (∀ g', blkOf A = some g' → w.heap.size ≤ g') := Lib.hid (fun g' e => (HO.out.far' g' e).1)
    by_cases hlt : k < s.size
    · have hkl : k < s.data.toList.length := by have := HLEN.out; omega
      have hdrop : s.data.toList.drop k = s.data.toList[k] :: s.data.toList.drop (k + 1) := List.drop_eq_getElem_cons _
      obtain ⟨f', rfl⟩ : ∃ f', f = f' + 1 := ⟨f - 1, by have := HF.out; omega⟩
      have hp : P = match stepRd (s.data.toList.drop k) with | none => ([], (k : Int), 9) | some (st, m) => pathRd f' (out ++ [st]) (k + m) ((s.data.toList.drop k).drop m) := by
        rw [HP.out, hdrop, pathRd]
        cases stepRd (s.data.toList[k] :: s.data.toList.drop (k + 1)) with
        | none => rfl
        | some q => rfl
      have hle := fun st m (h : stepRd (s.data.toList.drop k) = some (st, m)) => stepRd_le h
      have hps := fun st m (h : stepRd (s.data.toList.drop k) = some (st, m)) => stepRd_pos h
      have HDL : Hid ((s.data.toList.drop k).length = s.size - k) := Lib.hid (by rw [List.length_drop, HLEN.out])
      rw [HDL.out] at hle
      have hki : (k : Int) < (s.size : Int) := by omega
      have hk0 : (0 : Int) ≤ (k : Int) := by omega
      have hki2 : (k : Int) ≤ (s.size : Int) := by omega
      have hcall := val_readStep s k wr hs hlt
      generalize stepRd (s.data.toList.drop k) = q at *
      have HLE := Lib.hid hle
      have HPS := Lib.hid hps
      have HPP := Lib.hid hp
      clear hdrop hp hle hps HP
      go_wp2_with fail
      refine hcall.mono ?_
      clear hcall
      rintro e w2 ⟨st, m, b, rfl, hm2, ⟨rfl, rfl⟩ | ⟨mm, rfl, rfl, rfl⟩⟩
      · obtain ⟨nm, sn, at_⟩ := st
        have HN2 := Lib.hid (HM.out.trans hm2)
        have HF0 : Hid (P = ([], (k : Int), 9)) := Lib.hid HPP.out
        have hmx : New w2 (w2.alloc (.cells #[.bool nm, .string sn, .int .i64 at_] 46)) := (Mod.refl _ _).alloc _
        have HMX := Lib.hid (HN2.out.trans hmx)
        clear hm2 hmx
        unfold St.val
        simp only
        go_wp2_with fail
        go_ret3
        exact RRead.fault HF0.out HMX.out
      · have hmz := HPS.out st mm rfl
        obtain ⟨hm1, hm3⟩ := HLE.out st mm rfl
        have HF1 : Hid ((s.data.toList.drop (k + mm)).length < f') := Lib.hid (by have h1 := HF.out; have h2 := HDL.out; rw [h2] at h1; rw [List.length_drop, HLEN.out]; omega)
        have HP1 : Hid (P = pathRd f' (out ++ [st]) (k + mm) (s.data.toList.drop (k + mm))) := Lib.hid (by
          have h := HPP.out
          simp only at h
          rw [List.drop_drop] at h
          exact h)
        have HN2 := Lib.hid (HM.out.trans hm2)
        have HO2 := Lib.hid (HO.out.new hm2)
        have HNM1 : Hid (∀ x ∈ out ++ [st], x.name.size ≤ 100000) := Lib.hid (fun x hx => by
          rcases List.mem_append.1 hx with h | h
          · exact HNM.out x h
          · rw [List.mem_singleton.1 h]; omega)
        obtain ⟨nm, sn, at_⟩ := st
        have hsz := hm2.size
        have hmx : New w2 (w2.alloc (.cells #[.bool nm, .string sn, .int .i64 at_] 46)) := (Mod.refl _ _).alloc _
        have hx := Blk.new w2 46 #[.bool nm, .string sn, .int .i64 at_]
        have hszw : w.heap.size ≤ w2.heap.size := HN2.out.size
        unfold St.val
        simp only
        clear hm2 hsz
        go_upto_region 7 with fail
        have HMX := Lib.hid (HN2.out.trans hmx)
        have HOX := Lib.hid (HO2.out.new hmx)
        have e0 := hx.cell 0
        have e1 := hx.cell 1
        have e2 := hx.cell 2
        have el := hx.lt
        simp only [List.getElem?_toArray, List.getElem?_cons_zero, List.getElem?_cons_succ] at e0 e1 e2
        clear hx hmx HO2 HN2 HO HM
        generalize w2.alloc (.cells #[.bool nm, .string sn, .int .i64 at_] 46) = w3 at *
        generalize w2.heap.size = xb at *
        have hkn : ((mm : Int) == 0) = false := by simp; omega
        have hB : w.heap.size ≤ (w3.alloc (.cells #[.bool nm, .string sn, .int .i64 at_] 46)).heap.size := by simp; omega
        have hown := HOX.out.alloc (.cells #[.bool nm, .string sn, .int .i64 at_] 46)
        have hbl := Blk.new w3 46 #[.bool nm, .string sn, .int .i64 at_]
        go_wp2_with (at_builtin; refine wpList_push rfl _ _ _ rfl 32 Tryz.underlying32 einfo_step rfl hown (⟨nm, sn, at_⟩ : St) w3.heap.size rfl hbl (fun j hj => St.one _ j hj) (by omega) (by omega) hB ?_; intro g8 cap8 w8 own8 hm8 hat8 hlt8)
        have HO8 := Lib.hid own8
        have HM8 : Hid (New w w8) := Lib.hid ((HMX.out.alloc _).step hm8 (fun i hi e => by have := HOF.out i e; omega))
        clear own8 hm8
        go_roundw
        case rel => exact ⟨k + mm, n + 1, cap8, f', some ⟨g8, 0, none⟩, out ++ [⟨nm, sn, at_⟩], by go_num, rfl, by omega, by omega, HO8, HNM1, HF1, HP1, HM8⟩
        case measure => simp [intOf]; omega
    · have hnil : s.data.toList.drop k = [] := List.drop_of_length_le (by have := HLEN.out; omega)
      have hpe : P = if pathF out ≠ 0 then ([], 0, pathF out) else (out, 0, 0) := by
        have h := HP.out
        rw [hnil] at h
        obtain ⟨f', rfl⟩ : ∃ f', f = f' + 1 := ⟨f - 1, by have := HF.out; omega⟩
        rw [pathRd] at h
        exact h
      have hge : ¬ (k : Int) < (s.size : Int) := by omega
      have hcp := checkPath_v A n c out wr HO.out.sl (by omega) (fun x h => by have := HNM.out x h; omega) (HU.out.new HM.out)
      generalize pathF out = F at *
      have HPE := Lib.hid hpe
      clear hnil hpe HP
      go_wp2_with fail
      refine hcp.mono ?_
      clear hcp
      rintro e w2 ⟨rfl, hm2⟩
      have HM2 := Lib.hid (HM.out.trans hm2)
      have HS2 := Lib.hid (HO.out.sl.new hm2)
      have HNC := Lib.hid HO.out.cap
      clear hm2
      by_cases h0 : F = 0
      · subst h0
        have HF0 : Hid (P = (out, 0, 0)) := Lib.hid (by rw [HPE.out, if_neg (by simp)])
        go_wp2_with fail
        go_ret3
        exact ⟨A, n, c, by rw [HF0.out]; rfl, by rw [HF0.out]; exact HS2.out, HM2.out, HNC.out⟩
      · have h0' : ((F : Int) != 0) = true := by simpa using h0
        have HF0 : Hid (P = ([], 0, F)) := Lib.hid (by rw [HPE.out, if_pos h0])
        clear h0
        go_wp2_with fail
        go_ret3
        exact RRead.fault HF0.out HM2.out
set_option maxRecDepth 100000 in
set_option maxHeartbeats 700000 in
theorem ref_pathRead (s : ByteArray) (w : World) (hs : s.size ≤ 15000) (hU : Utf8T w) (hPw : Pow10 w) :
    Calls Tryz.prog 15 #[.string s] w (RRead (pathOf s) w) := by
  have hex : ∀ k, (s.extract k s.size).data.toList = s.data.toList.drop k := fun k => by rw [extract_data, List.take_of_length_le]; rw [List.length_drop]; exact Nat.le_refl _
  have hlen : s.data.toList.length = s.size := rfl
  have HLEN := Lib.hid hlen
  obtain ⟨P, hPq⟩ : ∃ P, pathOf s = P := ⟨_, rfl⟩
  have HP0 : Hid (P = pathRd (s.size + 1) [] 0 (s.data.toList.drop 0)) := Lib.hid (by rw [← hPq]; unfold pathOf; rw [if_neg (by omega), List.drop_zero])
  rw [hPq]
  have hbig : ¬ (200000 : Int) < (s.size : Int) := by omega
  have HU := Lib.hid hU
  have HPW := Lib.hid hPw
  clear hPq hlen hU hPw
  go_enter Tryz.func15, Tryz.ntmps15
  go_wp2_with fail
  go_loopw [5, 6] (fun o i wr => ∃ (k n c f : Nat) (A : Option Addr) (out : List St), i = .int .i64 k ∧ o = .slice A n c ∧ k ≤ s.size ∧ n ≤ k ∧ Hid (Own wr w.heap.size 46 3 St.enc A n c out) ∧ Hid (∀ x ∈ out, x.name.size ≤ 100000) ∧ Hid ((s.data.toList.drop k).length < f) ∧ Hid (P = pathRd f out k (s.data.toList.drop k)) ∧ Hid (New w wr)) (fun _ i _ => s.size - (intOf i).toNat)
  case atStart => exact ⟨0, 0, 0, s.size + 1, none, [], by go_num, rfl, by omega, by omega, Lib.hid Own.nil, Lib.hid (fun x h => by cases h), Lib.hid (by rw [List.drop_zero, HLEN.out]; omega), HP0, Lib.hid (Mod.refl _ _)⟩
  case round =>
    clear HP0
    rename World => wr
    obtain ⟨k, n, c, f, A, out, rfl, rfl, hk, hn, HO, HNM, HF, HP, HM⟩ := hrel
    have HOF : Hid (∀ g', blkOf A = some g' → w.heap.size ≤ g') := Lib.hid (fun g' e => (HO.out.far' g' e).1)
    by_cases hlt : k < s.size
    · have hkl : k < s.data.toList.length := by have := HLEN.out; omega
      have hdrop : s.data.toList.drop k = s.data.toList[k] :: s.data.toList.drop (k + 1) := List.drop_eq_getElem_cons _
      obtain ⟨f', rfl⟩ : ∃ f', f = f' + 1 := ⟨f - 1, by have := HF.out; omega⟩
      have hp : P = match stepRd (s.data.toList.drop k) with | none => ([], (k : Int), 9) | some (st, m) => pathRd f' (out ++ [st]) (k + m) ((s.data.toList.drop k).drop m) := by
        rw [HP.out, hdrop, pathRd]
        cases stepRd (s.data.toList[k] :: s.data.toList.drop (k + 1)) with
        | none => rfl
        | some q => rfl
      have hle := fun st m (h : stepRd (s.data.toList.drop k) = some (st, m)) => stepRd_le h
      have hps := fun st m (h : stepRd (s.data.toList.drop k) = some (st, m)) => stepRd_pos h
      have HDL : Hid ((s.data.toList.drop k).length = s.size - k) := Lib.hid (by rw [List.length_drop, HLEN.out])
      rw [HDL.out] at hle
      have hki : (k : Int) < (s.size : Int) := by omega
      have hk0 : (0 : Int) ≤ (k : Int) := by omega
      have hki2 : (k : Int) ≤ (s.size : Int) := by omega
      have hcall := (by have h := ref_stepFrom (s.extract k s.size) wr (by simp only [ByteArray.size_extract]; omega) (by simp only [ByteArray.size_extract]; omega) (HPW.out.new HM.out); rw [hex] at h; exact h)
      generalize stepRd (s.data.toList.drop k) = q at *
      have HLE := Lib.hid hle
      have HPS := Lib.hid hps
      have HPP := Lib.hid hp
      clear hdrop hp hle hps HP
      go_wp2_with fail
      refine hcall.mono ?_
      clear hcall
      rintro e w2 ⟨st, m, rfl, hm2, ⟨rfl, rfl⟩ | ⟨mm, rfl, rfl⟩⟩
      · obtain ⟨nm, sn, at_⟩ := st
        have HN2 := Lib.hid (HM.out.trans hm2)
        have HF0 : Hid (P = ([], (k : Int), 9)) := Lib.hid HPP.out
        have hmx : New w2 (w2.alloc (.cells #[.bool nm, .string sn, .int .i64 at_] 46)) := (Mod.refl _ _).alloc _
        have HMX := Lib.hid (HN2.out.trans hmx)
        clear hm2 hmx
        unfold St.val
        simp only
        go_wp2_with fail
        go_ret3
        exact RRead.fault HF0.out HMX.out
      · have hmz := HPS.out st mm rfl
        obtain ⟨hm1, hm3⟩ := HLE.out st mm rfl
        have HF1 : Hid ((s.data.toList.drop (k + mm)).length < f') := Lib.hid (by have h1 := HF.out; have h2 := HDL.out; rw [h2] at h1; rw [List.length_drop, HLEN.out]; omega)
        have HP1 : Hid (P = pathRd f' (out ++ [st]) (k + mm) (s.data.toList.drop (k + mm))) := Lib.hid (by
          have h := HPP.out
          simp only at h
          rw [List.drop_drop] at h
          exact h)
        have HN2 := Lib.hid (HM.out.trans hm2)
        have HO2 := Lib.hid (HO.out.new hm2)
        have HNM1 : Hid (∀ x ∈ out ++ [st], x.name.size ≤ 100000) := Lib.hid (fun x hx => by
          rcases List.mem_append.1 hx with h | h
          · exact HNM.out x h
          · rw [List.mem_singleton.1 h]; omega)
        obtain ⟨nm, sn, at_⟩ := st
        have hsz := hm2.size
        have hmx : New w2 (w2.alloc (.cells #[.bool nm, .string sn, .int .i64 at_] 46)) := (Mod.refl _ _).alloc _
        have hx := Blk.new w2 46 #[.bool nm, .string sn, .int .i64 at_]
        have hszw : w.heap.size ≤ w2.heap.size := HN2.out.size
        unfold St.val
        simp only
        clear hm2 hsz
        go_upto_region 7 with fail
        have HMX := Lib.hid (HN2.out.trans hmx)
        have HOX := Lib.hid (HO2.out.new hmx)
        have e0 := hx.cell 0
        have e1 := hx.cell 1
        have e2 := hx.cell 2
        have el := hx.lt
        simp only [List.getElem?_toArray, List.getElem?_cons_zero, List.getElem?_cons_succ] at e0 e1 e2
        clear hx hmx HO2 HN2 HO HM
        generalize w2.alloc (.cells #[.bool nm, .string sn, .int .i64 at_] 46) = w3 at *
        generalize w2.heap.size = xb at *
        have hkn : ((mm : Int) == 0) = false := by simp; omega
        have hB : w.heap.size ≤ (w3.alloc (.cells #[.bool nm, .string sn, .int .i64 at_] 46)).heap.size := by simp; omega
        have hown := HOX.out.alloc (.cells #[.bool nm, .string sn, .int .i64 at_] 46)
        have hbl := Blk.new w3 46 #[.bool nm, .string sn, .int .i64 at_]
        go_wp2_with (at_builtin; refine wpList_push rfl _ _ _ rfl 32 Tryz.underlying32 einfo_step rfl hown (⟨nm, sn, at_⟩ : St) w3.heap.size rfl hbl (fun j hj => St.one _ j hj) (by omega) (by omega) hB ?_; intro g8 cap8 w8 own8 hm8 hat8 hlt8)
        have HO8 := Lib.hid own8
        have HM8 : Hid (New w w8) := Lib.hid ((HMX.out.alloc _).step hm8 (fun i hi e => by have := HOF.out i e; omega))
        clear own8 hm8
        go_roundw
        case rel => exact ⟨k + mm, n + 1, cap8, f', some ⟨g8, 0, none⟩, out ++ [⟨nm, sn, at_⟩], by go_num, rfl, by omega, by omega, HO8, HNM1, HF1, HP1, HM8⟩
        case measure => simp [intOf]; omega
    · have hnil : s.data.toList.drop k = [] := List.drop_of_length_le (by have := HLEN.out; omega)
      have hpe : P = if pathF out ≠ 0 then ([], 0, pathF out) else (out, 0, 0) := by
        have h := HP.out
        rw [hnil] at h
        obtain ⟨f', rfl⟩ : ∃ f', f = f' + 1 := ⟨f - 1, by have := HF.out; omega⟩
        rw [pathRd] at h
        exact h
      have hge : ¬ (k : Int) < (s.size : Int) := by omega
      have hcp := pathFault_v A n c out wr HO.out.sl (by omega) (fun x h => by have := HNM.out x h; omega) (HU.out.new HM.out)
      generalize pathF out = F at *
      have HPE := Lib.hid hpe
      clear hnil hpe HP
      go_wp2_with fail
      refine hcp.mono ?_
      clear hcp
      rintro e w2 ⟨rfl, hm2⟩
      have HM2 := Lib.hid (HM.out.trans hm2)
      have HS2 := Lib.hid (HO.out.sl.new hm2)
      have HNC := Lib.hid HO.out.cap
      clear hm2
      by_cases h0 : F = 0
      · subst h0
        have HF0 : Hid (P = (out, 0, 0)) := Lib.hid (by rw [HPE.out, if_neg (by simp)])
        go_wp2_with fail
        go_ret3
        exact ⟨A, n, c, by rw [HF0.out]; rfl, by rw [HF0.out]; exact HS2.out, HM2.out, HNC.out⟩
      · have h0' : ((F : Int) != 0) = true := by simpa using h0
        have HF0 : Hid (P = ([], 0, F)) := Lib.hid (by rw [HPE.out, if_pos h0])
        clear h0
        go_wp2_with fail
        go_ret3
        exact RRead.fault HF0.out HM2.out

end Go.Proofs.YtpgcbehpknghdaaGreatDoor
