/- Several texts in one. (1) A segment of a template (package route): a parameter, or words. Conditions: a segment of modest size. (2) A segment of a template that is words (package route). Conditions: a segment of modest size. -/
import Derived.Test.YtnbcfpjalgfikaaGreatDoorSegGrp
import Derived.Test.YtnbcfpjalgfikaaGreatDoorParamGrp

namespace Go.Proofs.YtnbcfpjalgfikaaGreatDoor
open Go.RowKit
set_option linter.unusedVariables false
set_option linter.unusedSimpArgs false

/-- what a reading of a segment hands back -/
def RPt (q : Int × PartD) (w : World) (e : Ending) (w' : World) : Prop := e = .returned (.tuple #[q.2.val, .int .i64 q.1]) ∧ New w w'
theorem dots_eq (s : ByteArray) : dotsL s.data.toList = (decide (s = ⟨#[46]⟩) || decide (s = ⟨#[46, 46]⟩)) := by
  unfold dotsL
  congr 1
  · rw [Bool.eq_iff_iff, decide_eq_true_eq, decide_eq_true_eq]
    exact ⟨fun h => ByteArray.ext (Array.toList_inj.mp h), fun h => by rw [h]⟩
  · rw [Bool.eq_iff_iff, decide_eq_true_eq, decide_eq_true_eq]
    exact ⟨fun h => ByteArray.ext (Array.toList_inj.mp h), fun h => by rw [h]⟩
theorem beq_const (s : ByteArray) (l : List UInt8) : (s.toList == l) = decide (s.data.toList = l) := by
  rw [Bool.eq_iff_iff, ByteArray.toList_eq]; simp
set_option maxHeartbeats 1000000 in
theorem route_isDots (s : ByteArray) (w : World) : Calls Tryz.prog 98 #[.string s] w fun e w' => e = .returned (.bool (dotsL s.data.toList)) ∧ w = w' := by
  have b1 := beq_const s [46]
  have b2 := beq_const s [46, 46]
  have HD : Hid (dotsL s.data.toList = (decide (s.data.toList = [46]) || decide (s.data.toList = [46, 46]))) := Lib.hid rfl
  generalize decide (s.data.toList = [46]) = p at *
  generalize decide (s.data.toList = [46, 46]) = q at *
  cases p
  · go_enter Tryz.func98, Tryz.ntmps98
    go_wp2_with fail
    all_goals go_ret
    all_goals exact ⟨ret_bool (by rw [HD.out]; simp_all), rfl⟩
  · go_enter Tryz.func98, Tryz.ntmps98
    go_wp2_with fail
    all_goals go_ret
    all_goals exact ⟨ret_bool (by rw [HD.out]; simp_all), rfl⟩

theorem suffix_cons (a c : UInt8) (y : List UInt8) (h : a ≠ c) : Lib.hasSuffix (a :: y) [c] = Lib.hasSuffix y [c] := by
  unfold Lib.hasSuffix
  rw [Bool.eq_iff_iff, List.isSuffixOf_iff_suffix, List.isSuffixOf_iff_suffix, List.suffix_cons_iff]
  constructor
  · rintro (h1 | h1)
    · injection h1 with h2 h3
      exact absurd h2.symm h
    · exact h1
  · exact .inr
theorem param_list {s : ByteArray} (h1 : Lib.hasPrefix s.data.toList [123] = true) (h2 : Lib.hasSuffix s.data.toList [125] = true) :
    2 ≤ s.size ∧ (s.extract 1 (s.size - 1)).data.toList = Lib.trimSuffix (s.data.toList.drop 1) [125] := by
  have hsz : s.data.toList.length = s.size := rfl
  rw [extract_data]
  generalize s.data.toList = l at *
  match l, h1, h2 with
  | [], h1, _ => exact absurd h1 (by decide)
  | a :: y, h1, h2 =>
    have ha : a = 123 := by
      simp only [Lib.hasPrefix, List.isPrefixOf, Bool.and_true, beq_iff_eq] at h1
      exact h1.symm
    subst ha
    rw [suffix_cons 123 125 y (by decide)] at h2
    have hy : 1 ≤ y.length := by
      cases y with
      | nil => exact absurd h2 (by decide)
      | cons b z => simp
    rw [List.length_cons] at hsz
    refine ⟨by omega, ?_⟩
    unfold Lib.trimSuffix
    rw [List.drop_succ_cons, List.drop_zero, if_pos h2]
    congr 1
    simp only [List.length_cons, List.length_nil]
    omega
set_option maxRecDepth 100000 in
set_option maxHeartbeats 2000000 in
theorem route_paramOf (s : ByteArray) (A : Option Addr) (n c : Nat) (ps : List PartD) (last : Bool) (w : World) (hs : s.size ≤ 900000) (h1 : Lib.hasPrefix s.data.toList [123] = true) (hps : PSl w A n ps) (hn : n ≤ 100000) :
    Calls Tryz.prog 64 #[.string s, .slice A n c, .bool last] w (RPt (partOf s ps last) w) := by
  have hP : partOf s ps last = if !Lib.hasSuffix s.data.toList [125] then (9, ⟨0, ⟨#[]⟩⟩) else
      if !isWord (Lib.trimSuffix (Lib.trimSuffix (s.data.toList.drop 1) [125]) [42]) then (5, ⟨0, ⟨#[]⟩⟩)
      else if hasP ps ⟨(Lib.trimSuffix (Lib.trimSuffix (s.data.toList.drop 1) [125]) [42]).toArray⟩ then (6, ⟨0, ⟨#[]⟩⟩)
      else if Lib.hasSuffix (Lib.trimSuffix (s.data.toList.drop 1) [125]) [42] && !last then (7, ⟨0, ⟨#[]⟩⟩)
      else (0, ⟨if Lib.hasSuffix (Lib.trimSuffix (s.data.toList.drop 1) [125]) [42] then 3 else 2, ⟨(Lib.trimSuffix (Lib.trimSuffix (s.data.toList.drop 1) [125]) [42]).toArray⟩⟩) := by
    unfold partOf; rw [if_pos h1]
  have hsf := fun W => Tryz.strings_HasSuffix s ⟨#[125]⟩ W (by omega)
  rw [show (⟨#[125]⟩ : ByteArray).data.toList = [125] from rfl] at hsf
  have hb0 := Blk.new w 80 #[.int .i64 0, .string ⟨#[]⟩]
  have hm0 : New w (w.alloc (.cells #[.int .i64 0, .string ⟨#[]⟩] 80)) := (Mod.refl _ _).alloc _
  go_enter Tryz.func64, Tryz.ntmps64
  go_upto_region 1 with (fail)
  generalize w.alloc (.cells #[.int .i64 0, .string ⟨#[]⟩] 80) = w1 at *
  generalize hre : w.heap.size = r at *
  have HR := Lib.hid hb0
  have HM : Hid (New w w1) := Lib.hid hm0
  have HRE := Lib.hid hre
  have hsf := hsf w1
  clear hb0 hm0 hre
  cases h2 : Lib.hasSuffix s.data.toList [125] <;> rw [h2] at hsf hP
  · have HQ : Hid (partOf s ps last = (9, ⟨0, ⟨#[]⟩⟩)) := Lib.hid hP
    clear hP h1 h2
    go_upto_region 2 with (first | (refine hsf.mono ?_; clear hsf; rintro e w' ⟨rfl, rfl⟩))
    have d0 := HR.out.cell 0
    have d1 := HR.out.cell 1
    have f0 := HR.out.frozen 0
    have f1 := HR.out.frozen 1
    have dl := HR.out.lt
    simp only [List.getElem?_toArray, List.getElem?_cons_zero, List.getElem?_cons_succ] at d0 d1
    go_wp2_with fail
    refine bodyPost_ret (v := .tuple #[PartD.val ⟨0, ⟨#[]⟩⟩, .int .i64 9]) (by simp [results, Tryz.results64, go_sem, d0, d1, f0, f1, PartD.val]) rfl ⟨by rw [HQ.out] <;> rfl, ?_⟩
    exact (HM.out.setCell (p := ⟨r, 0, none⟩) (.inr (Nat.le_of_eq HRE.out)) _).setCell (p := ⟨r, 1, none⟩) (.inr (Nat.le_of_eq HRE.out)) _
  · obtain ⟨hs2, hyl⟩ := param_list h1 h2
    rw [if_neg (by decide)] at hP
    clear h1 h2
    have hcs := fun W => Tryz.strings_CutSuffix (s.extract 1 (s.size - 1)) ⟨#[42]⟩ W (by simp only [ByteArray.size_extract]; omega)
    rw [hyl, show (⟨#[42]⟩ : ByteArray).data.toList = [42] from rfl] at hcs
    have hyl2 : (Lib.trimSuffix (s.data.toList.drop 1) [125]).length ≤ 900000 := by
      rw [← hyl, extract_data]
      have : s.data.toList.length = s.size := rfl
      simp only [List.length_take, List.length_drop]
      omega
    generalize Lib.trimSuffix (s.data.toList.drop 1) [125] = y at *
    have hnl : (Lib.trimSuffix y [42]).length ≤ y.length := by
      unfold Lib.trimSuffix
      split
      · simp
      · exact Nat.le_refl _
    generalize Lib.trimSuffix y [42] = nm at *
    generalize Lib.hasSuffix y [42] = rst at *
    have hiw := fun W => val_isWord ⟨nm.toArray⟩ W (by unfold maxLen; show (nm.toArray).size ≤ _; simp; omega)
    rw [show (⟨nm.toArray⟩ : ByteArray).data.toList = nm from rfl] at hiw
    have hhp := fun W (h : New w W) => route_hasParam A n c ps ⟨nm.toArray⟩ W (hps.new h) hn
    have n1 : ((s.size : Int) - 1).toNat = s.size - 1 := by omega
    have n2 : (1 : Int) ≤ (s.size : Int) - 1 := by omega
    have HHP := Lib.hid hhp
    have HIW := Lib.hid hiw
    have hcs := hcs w1
    clear hhp hiw hyl hnl hyl2
    generalize hN : (⟨nm.toArray⟩ : ByteArray) = N at *
    have hiw := HIW.out w1
    generalize isWord nm = q1 at *
    generalize hasP ps N = q2 at *
    cases q1
    · have HQ : Hid (partOf s ps last = (5, ⟨0, ⟨#[]⟩⟩)) := Lib.hid hP
      clear hP
      go_upto_region 5 with (first | (refine hsf.mono ?_; clear hsf; rintro e w' ⟨rfl, rfl⟩) | (refine hcs.mono ?_; clear hcs; rintro e w' ⟨rfl, rfl⟩) | (refine hiw.mono ?_; clear hiw; rintro e w2 ⟨rfl, hm2⟩))
      have HR1 := Lib.hid (HR.out.new2 hm2)
      have HM1 := Lib.hid (HM.out.trans hm2)
      clear HR HM
      have HR := HR1
      have HM := HM1
      clear HR1 HM1
      clear hm2
      have d0 := HR.out.cell 0
      have d1 := HR.out.cell 1
      have f0 := HR.out.frozen 0
      have f1 := HR.out.frozen 1
      have dl := HR.out.lt
      simp only [List.getElem?_toArray, List.getElem?_cons_zero, List.getElem?_cons_succ] at d0 d1
      go_wp2_with fail
      refine bodyPost_ret (v := .tuple #[PartD.val ⟨0, ⟨#[]⟩⟩, .int .i64 5]) (by simp [results, Tryz.results64, go_sem, d0, d1, f0, f1, PartD.val]) rfl ⟨by rw [HQ.out] <;> rfl, ?_⟩
      exact (HM.out.setCell (p := ⟨r, 0, none⟩) (.inr (Nat.le_of_eq HRE.out)) _).setCell (p := ⟨r, 1, none⟩) (.inr (Nat.le_of_eq HRE.out)) _
    · rw [if_neg (by decide)] at hP
      cases q2
      · rw [if_neg (by decide)] at hP
        by_cases hlst : rst = true ∧ last = false
        · obtain ⟨rfl, rfl⟩ := hlst
          have HQ : Hid (partOf s ps false = (7, ⟨0, ⟨#[]⟩⟩)) := Lib.hid hP
          clear hP
          go_upto_region 6 with (first | (refine hsf.mono ?_; clear hsf; rintro e w' ⟨rfl, rfl⟩) | (refine hcs.mono ?_; clear hcs; rintro e w' ⟨rfl, rfl⟩) | (refine hiw.mono ?_; clear hiw; rintro e w2 ⟨rfl, hm2⟩))
          have HR1 := Lib.hid (HR.out.new2 hm2)
          have HM1 := Lib.hid (HM.out.trans hm2)
          clear HR HM
          have HR := HR1
          have HM := HM1
          clear HR1 HM1
          clear hm2
          have hhp := HHP.out w2 HM.out
          go_upto_region 9 with (first | (refine hhp.mono ?_; clear hhp; rintro e w3 ⟨rfl, hm3⟩))
          have HR1 := Lib.hid (HR.out.new2 hm3)
          have HM1 := Lib.hid (HM.out.trans hm3)
          clear HR HM
          have HR := HR1
          have HM := HM1
          clear HR1 HM1
          clear hm3
          have d0 := HR.out.cell 0
          have d1 := HR.out.cell 1
          have f0 := HR.out.frozen 0
          have f1 := HR.out.frozen 1
          have dl := HR.out.lt
          simp only [List.getElem?_toArray, List.getElem?_cons_zero, List.getElem?_cons_succ] at d0 d1
          go_wp2_with fail
          refine bodyPost_ret (v := .tuple #[PartD.val ⟨0, ⟨#[]⟩⟩, .int .i64 7]) (by simp [results, Tryz.results64, go_sem, d0, d1, f0, f1, PartD.val]) rfl ⟨by rw [HQ.out] <;> rfl, ?_⟩
          exact (HM.out.setCell (p := ⟨r, 0, none⟩) (.inr (Nat.le_of_eq HRE.out)) _).setCell (p := ⟨r, 1, none⟩) (.inr (Nat.le_of_eq HRE.out)) _
        · have hx : (rst && !last) = false := by cases rst <;> cases last <;> simp_all
          rw [hx, if_neg (by decide)] at hP
          clear hlst
          cases rst
          · have HQ : Hid (partOf s ps last = (0, ⟨2, N⟩)) := Lib.hid hP
            clear hP hx
            go_upto_region 6 with (first | (refine hsf.mono ?_; clear hsf; rintro e w' ⟨rfl, rfl⟩) | (refine hcs.mono ?_; clear hcs; rintro e w' ⟨rfl, rfl⟩) | (refine hiw.mono ?_; clear hiw; rintro e w2 ⟨rfl, hm2⟩))
            have HR1 := Lib.hid (HR.out.new2 hm2)
            have HM1 := Lib.hid (HM.out.trans hm2)
            clear HR HM
            have HR := HR1
            have HM := HM1
            clear HR1 HM1
            clear hm2
            have hhp := HHP.out w2 HM.out
            go_upto_region 12 with (first | (refine hhp.mono ?_; clear hhp; rintro e w3 ⟨rfl, hm3⟩))
            have HR1 := Lib.hid (HR.out.new2 hm3)
            have HM1 := Lib.hid (HM.out.trans hm3)
            clear HR HM
            have HR := HR1
            have HM := HM1
            clear HR1 HM1
            clear hm3
            have d0 := HR.out.cell 0
            have d1 := HR.out.cell 1
            have f0 := HR.out.frozen 0
            have f1 := HR.out.frozen 1
            have dl := HR.out.lt
            simp only [List.getElem?_toArray, List.getElem?_cons_zero, List.getElem?_cons_succ] at d0 d1
            go_wp2_with fail
            refine bodyPost_ret (v := .tuple #[PartD.val ⟨2, N⟩, .int .i64 0]) (by simp [results, Tryz.results64, go_sem, d0, d1, f0, f1, PartD.val]) rfl ⟨by rw [HQ.out] <;> rfl, ?_⟩
            exact (HM.out.setCell (p := ⟨r, 0, none⟩) (.inr (Nat.le_of_eq HRE.out)) _).setCell (p := ⟨r, 1, none⟩) (.inr (Nat.le_of_eq HRE.out)) _
          · have hl : last = true := by cases last <;> simp_all
            subst hl
            have HQ : Hid (partOf s ps true = (0, ⟨3, N⟩)) := Lib.hid hP
            clear hP hx
            go_upto_region 6 with (first | (refine hsf.mono ?_; clear hsf; rintro e w' ⟨rfl, rfl⟩) | (refine hcs.mono ?_; clear hcs; rintro e w' ⟨rfl, rfl⟩) | (refine hiw.mono ?_; clear hiw; rintro e w2 ⟨rfl, hm2⟩))
            have HR1 := Lib.hid (HR.out.new2 hm2)
            have HM1 := Lib.hid (HM.out.trans hm2)
            clear HR HM
            have HR := HR1
            have HM := HM1
            clear HR1 HM1
            clear hm2
            have hhp := HHP.out w2 HM.out
            go_upto_region 11 with (first | (refine hhp.mono ?_; clear hhp; rintro e w3 ⟨rfl, hm3⟩))
            have HR1 := Lib.hid (HR.out.new2 hm3)
            have HM1 := Lib.hid (HM.out.trans hm3)
            clear HR HM
            have HR := HR1
            have HM := HM1
            clear HR1 HM1
            clear hm3
            have d0 := HR.out.cell 0
            have d1 := HR.out.cell 1
            have f0 := HR.out.frozen 0
            have f1 := HR.out.frozen 1
            have dl := HR.out.lt
            simp only [List.getElem?_toArray, List.getElem?_cons_zero, List.getElem?_cons_succ] at d0 d1
            go_wp2_with fail
            refine bodyPost_ret (v := .tuple #[PartD.val ⟨3, N⟩, .int .i64 0]) (by simp [results, Tryz.results64, go_sem, d0, d1, f0, f1, PartD.val]) rfl ⟨by rw [HQ.out] <;> rfl, ?_⟩
            exact (HM.out.setCell (p := ⟨r, 0, none⟩) (.inr (Nat.le_of_eq HRE.out)) _).setCell (p := ⟨r, 1, none⟩) (.inr (Nat.le_of_eq HRE.out)) _
      · have HQ : Hid (partOf s ps last = (6, ⟨0, ⟨#[]⟩⟩)) := Lib.hid hP
        clear hP
        go_upto_region 6 with (first | (refine hsf.mono ?_; clear hsf; rintro e w' ⟨rfl, rfl⟩) | (refine hcs.mono ?_; clear hcs; rintro e w' ⟨rfl, rfl⟩) | (refine hiw.mono ?_; clear hiw; rintro e w2 ⟨rfl, hm2⟩))
        have HR1 := Lib.hid (HR.out.new2 hm2)
        have HM1 := Lib.hid (HM.out.trans hm2)
        clear HR HM
        have HR := HR1
        have HM := HM1
        clear HR1 HM1
        clear hm2
        have hhp := HHP.out w2 HM.out
        go_upto_region 7 with (first | (refine hhp.mono ?_; clear hhp; rintro e w3 ⟨rfl, hm3⟩))
        have HR1 := Lib.hid (HR.out.new2 hm3)
        have HM1 := Lib.hid (HM.out.trans hm3)
        clear HR HM
        have HR := HR1
        have HM := HM1
        clear HR1 HM1
        clear hm3
        have d0 := HR.out.cell 0
        have d1 := HR.out.cell 1
        have f0 := HR.out.frozen 0
        have f1 := HR.out.frozen 1
        have dl := HR.out.lt
        simp only [List.getElem?_toArray, List.getElem?_cons_zero, List.getElem?_cons_succ] at d0 d1
        go_wp2_with fail
        refine bodyPost_ret (v := .tuple #[PartD.val ⟨0, ⟨#[]⟩⟩, .int .i64 6]) (by simp [results, Tryz.results64, go_sem, d0, d1, f0, f1, PartD.val]) rfl ⟨by rw [HQ.out] <;> rfl, ?_⟩
        exact (HM.out.setCell (p := ⟨r, 0, none⟩) (.inr (Nat.le_of_eq HRE.out)) _).setCell (p := ⟨r, 1, none⟩) (.inr (Nat.le_of_eq HRE.out)) _

end Go.Proofs.YtnbcfpjalgfikaaGreatDoor

namespace Go.Proofs.YtnbcfpjalgfikaaGreatDoor
open Go.RowKit
set_option linter.unusedVariables false
set_option linter.unusedSimpArgs false

theorem indexAny_any (cs : List UInt8) : ∀ l : List UInt8, decide (0 ≤ Lib.indexAny l cs) = l.any (cs.contains ·)
  | [] => by simp [Lib.indexAny]
  | a :: l => by
    have ih := indexAny_any cs l
    rw [List.any_cons, ← ih, Lib.indexAny]
    have hge := Lib.indexAny_ge cs l
    cases h : cs.contains a
    · simp only [Bool.false_eq_true, if_false, Bool.false_or]
      by_cases e : Lib.indexAny l cs = -1
      · rw [e]; simp
      · rw [if_neg (by simpa using e), Bool.eq_iff_iff]
        simp only [decide_eq_true_eq]
        omega
    · simp
theorem containsAny_any (l cs : List UInt8) : Lib.containsAny l cs = l.any (cs.contains ·) := indexAny_any cs l
theorem bad_split (l : List UInt8) : l.any (fun c => badC c.toNat) = (!(inR 33 126 l) || Lib.containsAny l [63, 35] || Lib.containsAny l [123, 125]) := by
  rw [containsAny_any, containsAny_any]
  unfold inR
  induction l with
  | nil => rfl
  | cons a l ih =>
    simp only [List.any_cons, List.all_cons]
    rw [ih]
    have h1 : badC a.toNat = (!(decide (33 ≤ a.toNat) && decide (a.toNat ≤ 126)) || List.contains [63, 35] a || List.contains [123, 125] a) := by
      revert a
      apply byteOf
      decide +kernel
    rw [h1]
    generalize (decide (33 ≤ a.toNat) && decide (a.toNat ≤ 126)) = p1
    generalize List.contains [63, 35] a = p2
    generalize List.contains [123, 125] a = p3
    generalize (l.all fun c => decide (33 ≤ c.toNat) && decide (c.toNat ≤ 126)) = q1
    generalize (l.any fun x => List.contains [63, 35] x) = q2
    generalize (l.any fun x => List.contains [123, 125] x) = q3
    cases p1 <;> cases p2 <;> cases p3 <;> cases q1 <;> cases q2 <;> cases q3 <;> rfl
theorem pathBad_slash {l : List UInt8} (h : l.length + 1 ≤ 1000) : pathBad (47 :: l) = if (!(inR 33 126 l) || Lib.containsAny l [63, 35]) = true then 3 else 0 := by
  unfold pathBad
  rw [if_neg (by simp; omega), if_neg (by simp [Lib.hasPrefix, List.isPrefixOf])]
  have e1 : inR 33 126 (47 :: l) = inR 33 126 l := by unfold inR; rw [List.all_cons]; rfl
  have e2 : Lib.containsAny (47 :: l) [63, 35] = Lib.containsAny l [63, 35] := by rw [containsAny_any, containsAny_any, List.any_cons]; rfl
  rw [e1, e2]
  cases inR 33 126 l <;> cases Lib.containsAny l [63, 35] <;> rfl
theorem slash_list (s : ByteArray) : ((⟨#[47]⟩ : ByteArray) ++ s).data.toList = 47 :: s.data.toList := by simp [ByteArray.data_append]
def wordsPart : Option (List UInt8) → Int × PartD
  | none => (9, ⟨0, ⟨#[]⟩⟩)
  | some n => if dotsL n then (5, ⟨0, ⟨#[]⟩⟩) else (0, ⟨1, ⟨n.toArray⟩⟩)
theorem partOf_words {x : ByteArray} (h : Lib.hasPrefix x.data.toList [123] = false) (before : List PartD) (last : Bool) :
    partOf x before last = if x.data.toList.any (fun c => badC c.toNat) then (3, ⟨0, ⟨#[]⟩⟩) else wordsPart (decL x.data.toList) := by
  unfold partOf wordsPart
  rw [if_neg (by rw [h]; decide)]
  cases decL x.data.toList <;> rfl
set_option maxRecDepth 100000 in
set_option maxHeartbeats 8000000 in
theorem route_wordsOf (s : ByteArray) (ps : List PartD) (last : Bool) (w : World) (hs : s.size + 1 ≤ 1000) (h1 : Lib.hasPrefix s.data.toList [123] = false) :
    Calls Tryz.prog 65 #[.string s] w (RPt (partOf s ps last) w) := by
  have hP := partOf_words h1 ps last
  rw [bad_split] at hP
  have hlen : s.data.toList.length = s.size := rfl
  have hpf := fun W => msg_pathFault (⟨#[47]⟩ ++ s) W (by simp only [ByteArray.size_append]; show 1 + s.size ≤ _; omega)
  rw [slash_list, pathBad_slash (by omega)] at hpf
  have hadd : ¬ (9223372036854775807 : Int) < ((⟨#[47]⟩ : ByteArray).size : Int) + (s.size : Int) := by show ¬ _ < (1 : Int) + _; omega
  have hadd2 : ¬ 9223372036854775807 < (⟨#[47]⟩ : ByteArray).size + s.size := by show ¬ _ < 1 + _; omega
  have hb0 := Blk.new w 80 #[.int .i64 0, .string ⟨#[]⟩]
  have hm0 : New w (w.alloc (.cells #[.int .i64 0, .string ⟨#[]⟩] 80)) := (Mod.refl _ _).alloc _
  have hdc := fun W => msg_decodedW s W (by omega)
  go_enter Tryz.func65, Tryz.ntmps65
  go_upto_region 1 with (fail)
  generalize w.alloc (.cells #[.int .i64 0, .string ⟨#[]⟩] 80) = w1 at *
  generalize hre : w.heap.size = r at *
  have HR := Lib.hid hb0
  have HM : Hid (New w w1) := Lib.hid hm0
  have HRE := Lib.hid hre
  have hpf := hpf w1
  have HDC := Lib.hid hdc
  clear hb0 hm0 hre hdc
  cases hq : (!(inR 33 126 s.data.toList) || Lib.containsAny s.data.toList [63, 35]) <;> rw [hq] at hpf hP
  · rw [if_neg (by decide)] at hpf
    have hir : inR 33 126 s.data.toList = true := by
      cases h : inR 33 126 s.data.toList
      · rw [h] at hq; simp at hq
      · rfl
    have hca := fun W => Tryz.strings_ContainsAny_laid s ⟨#[123, 125]⟩ W (by omega) (by decide) (inR_ascii hir) (asciiAll (by decide))
    rw [show (⟨#[123, 125]⟩ : ByteArray).data.toList = [123, 125] from rfl] at hca
    have HCA := Lib.hid hca
    clear hca hir hq
    rw [Bool.false_or] at hP
    cases hq2 : Lib.containsAny s.data.toList [123, 125] <;> rw [hq2] at hP
    · rw [if_neg (by decide)] at hP
      go_upto_region 3 with (first | (refine hpf.mono ?_; clear hpf; rintro e w2 ⟨rfl, hm2⟩; have hca := HCA.out w2; rw [hq2] at hca) | (refine hca.mono ?_; clear hca; rintro e w3 ⟨rfl, hm3⟩))
      have HR1 := Lib.hid (HR.out.new2 hm2)
      have HM1 := Lib.hid (HM.out.trans hm2)
      clear HR HM
      have HR := HR1
      have HM := HM1
      clear HR1 HM1
      have HR1 := Lib.hid (HR.out.new2 (Mod.of_below hm3))
      have HM1 := Lib.hid (HM.out.trans (Mod.of_below hm3))
      clear HR HM
      have HR := HR1
      have HM := HM1
      clear HR1 HM1
      clear hm2 hm3 hq2
      have hdc := HDC.out w3
      cases hd : decL s.data.toList with
      | none =>
        rw [decV_none hd] at hdc
        rw [hd] at hP
        have HQ : Hid (partOf s ps last = (9, ⟨0, ⟨#[]⟩⟩)) := Lib.hid hP
        clear hP hd
        go_upto_region 5 with (first | (refine hdc.mono ?_; clear hdc; rintro e w4 ⟨rfl, hm4⟩))
        have HR1 := Lib.hid (HR.out.new2 hm4)
        have HM1 := Lib.hid (HM.out.trans hm4)
        clear HR HM
        have HR := HR1
        have HM := HM1
        clear HR1 HM1
        clear hm4
        have d0 := HR.out.cell 0
        have d1 := HR.out.cell 1
        have f0 := HR.out.frozen 0
        have f1 := HR.out.frozen 1
        have dl := HR.out.lt
        simp only [List.getElem?_toArray, List.getElem?_cons_zero, List.getElem?_cons_succ] at d0 d1
        go_wp2_with fail
        refine bodyPost_ret (v := .tuple #[PartD.val ⟨0, ⟨#[]⟩⟩, .int .i64 9]) (by simp [results, Tryz.results65, go_sem, d0, d1, f0, f1, PartD.val]) rfl ⟨by rw [HQ.out] <;> rfl, ?_⟩
        exact (HM.out.setCell (p := ⟨r, 0, none⟩) (.inr (Nat.le_of_eq HRE.out)) _).setCell (p := ⟨r, 1, none⟩) (.inr (Nat.le_of_eq HRE.out)) _
      | some n =>
        rw [decV_some hd] at hdc
        rw [hd] at hP
        have hdt := fun W => route_isDots ⟨n.toArray⟩ W
        rw [show (⟨n.toArray⟩ : ByteArray).data.toList = n from rfl] at hdt
        generalize hN : (⟨n.toArray⟩ : ByteArray) = N at *
        unfold wordsPart at hP
        simp only at hP
        rw [hN] at hP
        clear hd
        have HDT := Lib.hid hdt
        clear hdt
        go_upto_region 6 with (first | (refine hdc.mono ?_; clear hdc; rintro e w4 ⟨rfl, hm4⟩))
        have HR1 := Lib.hid (HR.out.new2 hm4)
        have HM1 := Lib.hid (HM.out.trans hm4)
        clear HR HM
        have HR := HR1
        have HM := HM1
        clear HR1 HM1
        clear hm4
        have hdt := HDT.out w4
        cases hq3 : dotsL n <;> rw [hq3] at hdt hP
        · have HQ : Hid (partOf s ps last = (0, ⟨1, N⟩)) := Lib.hid hP
          clear hP hq3
          go_upto_region 8 with (first | (refine hdt.mono ?_; clear hdt; rintro e w5 ⟨rfl, rfl⟩))
          have d0 := HR.out.cell 0
          have d1 := HR.out.cell 1
          have f0 := HR.out.frozen 0
          have f1 := HR.out.frozen 1
          have dl := HR.out.lt
          simp only [List.getElem?_toArray, List.getElem?_cons_zero, List.getElem?_cons_succ] at d0 d1
          go_wp2_with fail
          refine bodyPost_ret (v := .tuple #[PartD.val ⟨1, N⟩, .int .i64 0]) (by simp [results, Tryz.results65, go_sem, d0, d1, f0, f1, PartD.val]) rfl ⟨by rw [HQ.out] <;> rfl, ?_⟩
          exact (HM.out.setCell (p := ⟨r, 0, none⟩) (.inr (Nat.le_of_eq HRE.out)) _).setCell (p := ⟨r, 1, none⟩) (.inr (Nat.le_of_eq HRE.out)) _
        · have HQ : Hid (partOf s ps last = (5, ⟨0, ⟨#[]⟩⟩)) := Lib.hid hP
          clear hP hq3
          go_upto_region 7 with (first | (refine hdt.mono ?_; clear hdt; rintro e w5 ⟨rfl, rfl⟩))
          have d0 := HR.out.cell 0
          have d1 := HR.out.cell 1
          have f0 := HR.out.frozen 0
          have f1 := HR.out.frozen 1
          have dl := HR.out.lt
          simp only [List.getElem?_toArray, List.getElem?_cons_zero, List.getElem?_cons_succ] at d0 d1
          go_wp2_with fail
          refine bodyPost_ret (v := .tuple #[PartD.val ⟨0, ⟨#[]⟩⟩, .int .i64 5]) (by simp [results, Tryz.results65, go_sem, d0, d1, f0, f1, PartD.val]) rfl ⟨by rw [HQ.out] <;> rfl, ?_⟩
          exact (HM.out.setCell (p := ⟨r, 0, none⟩) (.inr (Nat.le_of_eq HRE.out)) _).setCell (p := ⟨r, 1, none⟩) (.inr (Nat.le_of_eq HRE.out)) _
    · have HQ : Hid (partOf s ps last = (3, ⟨0, ⟨#[]⟩⟩)) := Lib.hid hP
      clear hP
      go_upto_region 2 with (first | (refine hpf.mono ?_; clear hpf; rintro e w2 ⟨rfl, hm2⟩; have hca := HCA.out w2; rw [hq2] at hca) | (refine hca.mono ?_; clear hca; rintro e w3 ⟨rfl, hm3⟩))
      have HR1 := Lib.hid (HR.out.new2 hm2)
      have HM1 := Lib.hid (HM.out.trans hm2)
      clear HR HM
      have HR := HR1
      have HM := HM1
      clear HR1 HM1
      have HR1 := Lib.hid (HR.out.new2 (Mod.of_below hm3))
      have HM1 := Lib.hid (HM.out.trans (Mod.of_below hm3))
      clear HR HM
      have HR := HR1
      have HM := HM1
      clear HR1 HM1
      clear hm2 hm3 hq2
      have d0 := HR.out.cell 0
      have d1 := HR.out.cell 1
      have f0 := HR.out.frozen 0
      have f1 := HR.out.frozen 1
      have dl := HR.out.lt
      simp only [List.getElem?_toArray, List.getElem?_cons_zero, List.getElem?_cons_succ] at d0 d1
      go_wp2_with fail
      refine bodyPost_ret (v := .tuple #[PartD.val ⟨0, ⟨#[]⟩⟩, .int .i64 3]) (by simp [results, Tryz.results65, go_sem, d0, d1, f0, f1, PartD.val]) rfl ⟨by rw [HQ.out] <;> rfl, ?_⟩
      exact (HM.out.setCell (p := ⟨r, 0, none⟩) (.inr (Nat.le_of_eq HRE.out)) _).setCell (p := ⟨r, 1, none⟩) (.inr (Nat.le_of_eq HRE.out)) _
  · have HQ : Hid (partOf s ps last = (3, ⟨0, ⟨#[]⟩⟩)) := Lib.hid hP
    rw [if_pos rfl] at hpf
    clear hP hq
    go_upto_region 2 with (first | (refine hpf.mono ?_; clear hpf; rintro e w2 ⟨rfl, hm2⟩))
    have HR1 := Lib.hid (HR.out.new2 hm2)
    have HM1 := Lib.hid (HM.out.trans hm2)
    clear HR HM
    have HR := HR1
    have HM := HM1
    clear HR1 HM1
    clear hm2
    have d0 := HR.out.cell 0
    have d1 := HR.out.cell 1
    have f0 := HR.out.frozen 0
    have f1 := HR.out.frozen 1
    have dl := HR.out.lt
    simp only [List.getElem?_toArray, List.getElem?_cons_zero, List.getElem?_cons_succ] at d0 d1
    go_wp2_with fail
    refine bodyPost_ret (v := .tuple #[PartD.val ⟨0, ⟨#[]⟩⟩, .int .i64 3]) (by simp [results, Tryz.results65, go_sem, d0, d1, f0, f1, PartD.val]) rfl ⟨by rw [HQ.out] <;> rfl, ?_⟩
    exact (HM.out.setCell (p := ⟨r, 0, none⟩) (.inr (Nat.le_of_eq HRE.out)) _).setCell (p := ⟨r, 1, none⟩) (.inr (Nat.le_of_eq HRE.out)) _

end Go.Proofs.YtnbcfpjalgfikaaGreatDoor
