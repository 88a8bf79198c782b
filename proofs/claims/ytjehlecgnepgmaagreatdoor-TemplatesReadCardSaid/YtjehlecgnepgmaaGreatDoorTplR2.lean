/- The reference reads a segment of a template. Conditions: a segment of modest size. -/
import Derived.Test.YtjehlecgnepgmaaGreatDoorTplR1
import Derived.Test.YtjehlecgnepgmaaGreatDoorTpl3
namespace Go.Proofs.YtjehlecgnepgmaaGreatDoor
open Go.RowKit
set_option linter.unusedVariables false
set_option linter.unusedSimpArgs false

theorem Mod.set2 {S : Nat → Prop} {a w : World} (h : Mod S a w) {g : Nat} (hg : a.heap.size ≤ g) (u v : Value) : Mod S a ((w.setCell ⟨g, 0, none⟩ u).setCell ⟨g, 1, none⟩ v) :=
  (h.setCell (p := ⟨g, 0, none⟩) (.inr hg) _).setCell (p := ⟨g, 1, none⟩) (.inr hg) _
theorem partOf_param {x : ByteArray} (h : Lib.hasPrefix x.data.toList [123] = true) (before : List PartD) (last : Bool) : partOf x before last =
    if Lib.hasSuffix (x.data.toList.drop 1) [125] = false then (9, ⟨0, ⟨#[]⟩⟩)
    else if isWord (Lib.trimSuffix (Lib.trimSuffix (x.data.toList.drop 1) [125]) [42]) = false then (5, ⟨0, ⟨#[]⟩⟩)
    else if hasP before ⟨(Lib.trimSuffix (Lib.trimSuffix (x.data.toList.drop 1) [125]) [42]).toArray⟩ = true then (6, ⟨0, ⟨#[]⟩⟩)
    else if (Lib.hasSuffix (Lib.trimSuffix (x.data.toList.drop 1) [125]) [42] && !last) = true then (7, ⟨0, ⟨#[]⟩⟩)
    else (0, ⟨if Lib.hasSuffix (Lib.trimSuffix (x.data.toList.drop 1) [125]) [42] then 3 else 2, ⟨(Lib.trimSuffix (Lib.trimSuffix (x.data.toList.drop 1) [125]) [42]).toArray⟩⟩) := by
  have hs : Lib.hasSuffix x.data.toList [125] = Lib.hasSuffix (x.data.toList.drop 1) [125] := by
    generalize x.data.toList = l at *
    match l, h with
    | [], h => exact absurd h (by decide)
    | a :: y, h =>
      have ha : a = 123 := by
        simp only [Lib.hasPrefix, List.isPrefixOf, Bool.and_true, beq_iff_eq] at h
        exact h.symm
      subst ha
      exact suffix_cons 123 125 y (by decide)
  unfold partOf
  rw [if_pos h, hs]
  simp only [Bool.not_eq_true']
/-- the order of parts is asked last -/
theorem partOf_last (x : ByteArray) (before : List PartD) (last : Bool) :
    partOf x before last = if (partOf x before true).1 = 0 ∧ (partOf x before true).2.kind = 3 ∧ last = false then (7, ⟨0, ⟨#[]⟩⟩) else partOf x before true := by
  cases last
  · cases h : Lib.hasPrefix x.data.toList [123]
    · rw [partOf_words h, partOf_words h]
      split
      · rfl
      · unfold wordsPart
        split
        · rfl
        · split <;> rfl
    · rw [partOf_param h, partOf_param h]
      split
      · rfl
      · split
        · rfl
        · split
          · rfl
          · cases Lib.hasSuffix (Lib.trimSuffix (x.data.toList.drop 1) [125]) [42] <;> rfl
  · rw [if_neg (by simp)]
set_option maxRecDepth 100000 in
set_option maxHeartbeats 4000000 in
theorem ref_partOf_param (s : ByteArray) (A : Option Addr) (n c : Nat) (ps : List PartD) (w : World) (hs : s.size ≤ 900000) (h1 : Lib.hasPrefix s.data.toList [123] = true) (hps : PSl w A n ps) (hn : n ≤ 100000) :
    Calls Tryz.prog 33 #[.string s, .slice A n c] w (RPt (partOf s ps true) w) := by
  have hP := partOf_param h1 ps true
  have hpx := fun W => Tryz.strings_HasPrefix s ⟨#[123]⟩ W
  rw [show (⟨#[123]⟩ : ByteArray).data.toList = [123] from rfl, h1] at hpx
  have hpos : 1 ≤ s.size := by
    rcases Nat.eq_zero_or_pos s.size with h | h
    · have : s.data.toList = [] := List.eq_nil_of_length_eq_zero h
      rw [this] at h1; exact absurd h1 (by decide)
    · exact h
  have hxl : (s.extract 1 s.size).data.toList = s.data.toList.drop 1 := by
    rw [extract_data, List.take_of_length_le]
    have : s.data.toList.length = s.size := rfl
    simp only [List.length_drop]; omega
  have hcs := fun W => Tryz.strings_CutSuffix (s.extract 1 s.size) ⟨#[125]⟩ W (by simp only [ByteArray.size_extract]; omega)
  rw [hxl, show (⟨#[125]⟩ : ByteArray).data.toList = [125] from rfl] at hcs
  have hyl : (Lib.trimSuffix (s.data.toList.drop 1) [125]).length ≤ 900000 := by
    have h0 : s.data.toList.length = s.size := rfl
    unfold Lib.trimSuffix
    split <;> simp only [List.length_take, List.length_drop] <;> omega
  generalize Lib.hasSuffix (s.data.toList.drop 1) [125] = ended at *
  generalize Lib.trimSuffix (s.data.toList.drop 1) [125] = y at *
  have hb1 : (1 : Int) ≤ (s.size : Int) := by omega
  have hb0 := Blk.new w 34 #[.int .i64 0, .string ⟨#[]⟩]
  have hm0 : New w (w.alloc (.cells #[.int .i64 0, .string ⟨#[]⟩] 34)) := (Mod.refl _ _).alloc _
  clear h1 hxl
  go_enter Tryz.func33, Tryz.ntmps33
  go_upto_region 1 with (fail)
  generalize w.alloc (.cells #[.int .i64 0, .string ⟨#[]⟩] 34) = w1 at *
  generalize hre : w.heap.size = r at *
  have HR := Lib.hid hb0
  have HM : Hid (New w w1) := Lib.hid hm0
  have HRE := Lib.hid hre
  have hpx := hpx w1
  have hcs := hcs w1
  have hrl := hb0.lt
  clear hb0 hm0 hre
  cases ended
  · have HQ : Hid (partOf s ps true = (9, ⟨0, ⟨#[]⟩⟩)) := Lib.hid hP
    clear hP
    go_upto_region 4 with (first | (refine hpx.mono ?_; clear hpx; rintro e w' ⟨rfl, hw⟩; rw [hw]; clear hw) | (refine hcs.mono ?_; clear hcs; rintro e w' ⟨rfl, hw⟩; rw [hw]; clear hw))
    have d0 := HR.out.cell 0
    have d1 := HR.out.cell 1
    have f0 := HR.out.frozen 0
    have f1 := HR.out.frozen 1
    have dl := HR.out.lt
    simp only [List.getElem?_toArray, List.getElem?_cons_zero, List.getElem?_cons_succ] at d0 d1
    go_wp2_with fail
    refine bodyPost_ret (v := .tuple #[PartD.val ⟨0, ⟨#[]⟩⟩, .int .i64 9]) (by simp [results, Tryz.results33, go_sem, d0, d1, f0, f1, PartD.val]) rfl ⟨by rw [HQ.out] <;> rfl, ?_⟩
    exact (HM.out.setCell (p := ⟨r, 0, none⟩) (.inr (Nat.le_of_eq HRE.out)) _).setCell (p := ⟨r, 1, none⟩) (.inr (Nat.le_of_eq HRE.out)) _
  · rw [if_neg (by decide)] at hP
    have hcs2 := fun W => Tryz.strings_CutSuffix ⟨y.toArray⟩ ⟨#[42]⟩ W (by show (y.toArray).size ≤ _; simp; omega)
    rw [show (⟨y.toArray⟩ : ByteArray).data.toList = y from rfl, show (⟨#[42]⟩ : ByteArray).data.toList = [42] from rfl] at hcs2
    have hnl : (Lib.trimSuffix y [42]).length ≤ y.length := by
      unfold Lib.trimSuffix
      split
      · simp
      · exact Nat.le_refl _
    generalize Lib.trimSuffix y [42] = nm at *
    generalize Lib.hasSuffix y [42] = rst at *
    have hiw := fun W => ref_word ⟨nm.toArray⟩ W (by show (nm.toArray).size ≤ _; simp; omega)
    rw [show (⟨nm.toArray⟩ : ByteArray).data.toList = nm from rfl] at hiw
    have hhp := fun W (h : New w W) => ref_hasParam A n c ps ⟨nm.toArray⟩ W (hps.new h) hn
    have HHP := Lib.hid hhp
    have HIW := Lib.hid hiw
    have HC2 := Lib.hid hcs2
    clear hhp hiw hnl hyl hcs2
    generalize hN : (⟨nm.toArray⟩ : ByteArray) = N at *
    generalize (⟨y.toArray⟩ : ByteArray) = Y at *
    generalize isWord nm = q1 at *
    generalize hasP ps N = q2 at *
    go_upto_region 6 with (first | (refine hpx.mono ?_; clear hpx; rintro e w' ⟨rfl, hw⟩; rw [hw]; clear hw) | (refine hcs.mono ?_; clear hcs; rintro e w' ⟨rfl, hw⟩; rw [hw]; clear hw))
    have bP := Blk.new w1 34 #[.int .i64 2, .string ⟨#[]⟩]
    have mP : New w1 (w1.alloc (.cells #[.int .i64 2, .string ⟨#[]⟩] 34)) := (Mod.refl _ _).alloc _
    have HR1 := Lib.hid (HR.out.new2 mP)
    have HM1 : Hid (New w _) := Lib.hid (HM.out.trans mP)
    clear HR HM mP hpx hcs
    generalize w1.alloc (.cells #[.int .i64 2, .string ⟨#[]⟩] 34) = w2 at *
    generalize w1.heap.size = pb at *
    have HP := Lib.hid bP
    have HR := HR1
    have HM := HM1
    clear bP HR1 HM1
    have hrw : w.heap.size ≤ pb := by have := HRE.out; omega
    have HRW := Lib.hid hrw
    have hne : ¬ r = pb := by omega
    have hc2 := HC2.out w2
    have p0 := HP.out.cell 0
    have p1 := HP.out.cell 1
    have fp0 := HP.out.frozen 0
    have fp1 := HP.out.frozen 1
    have pl := HP.out.lt
    simp only [List.getElem?_toArray, List.getElem?_cons_zero, List.getElem?_cons_succ] at p0 p1
    have hP3 := HP.out.set 1 (.string N)
    simp at hP3
    have HP3 := Lib.hid hP3
    have hm3 : Mod (fun k => k = pb) w2 (w2.setCell ⟨pb, 1, none⟩ (.string N)) := Mod.setCell (S := fun k => k = pb) (p := ⟨pb, 1, none⟩) (Mod.refl _ _) (.inl rfl) _
    have HR3 := Lib.hid (HR.out.mod hm3 hne)
    have HM3 : Hid (New w (w2.setCell ⟨pb, 1, none⟩ (.string N))) := Lib.hid (HM.out.setCell (p := ⟨pb, 1, none⟩) (.inr HRW.out) _)
    clear hP3 hm3 HR HM HP hrw
    go_upto_region 8 with (first | (refine hc2.mono ?_; clear hc2; rintro e w' ⟨rfl, hw⟩; rw [hw]; clear hw))
    clear p0 p1 fp0 fp1 pl
    generalize w2.setCell ⟨pb, 1, none⟩ (.string N) = w3 at *
    have HP := HP3
    have HR := HR3
    have HM := HM3
    clear HP3 HR3 HM3
    cases rst
    · go_upto_region 10 with fail
      have w4 := w3
      clear w4
      generalize hw34 : w3 = w4 at *
      clear hw34
      have hiw := HIW.out w4
      have p0 := HP.out.cell 0
      have p1 := HP.out.cell 1
      have fp0 := HP.out.frozen 0
      have fp1 := HP.out.frozen 1
      have pl := HP.out.lt
      simp only [List.getElem?_toArray, List.getElem?_cons_zero, List.getElem?_cons_succ] at p0 p1
      cases q1
      · have HQ : Hid (partOf s ps true = (5, ⟨0, ⟨#[]⟩⟩)) := Lib.hid hP
        clear hP
        go_upto_region 11 with (first | (refine hiw.mono ?_; clear hiw; rintro e w5 ⟨rfl, hm5⟩))
        clear p0 p1 fp0 fp1 pl
        have HR1 := Lib.hid (HR.out.new2 hm5)
        have HP1 := Lib.hid (HP.out.new2 hm5)
        have HM1 : Hid (New w _) := Lib.hid (HM.out.trans hm5)
        clear HR HM HP
        have HR := HR1
        have HM := HM1
        have HP := HP1
        clear HR1 HM1 HP1
        clear hm5
        have d0 := HR.out.cell 0
        have d1 := HR.out.cell 1
        have f0 := HR.out.frozen 0
        have f1 := HR.out.frozen 1
        have dl := HR.out.lt
        simp only [List.getElem?_toArray, List.getElem?_cons_zero, List.getElem?_cons_succ] at d0 d1
        go_wp2_with fail
        refine bodyPost_ret (v := .tuple #[PartD.val ⟨0, ⟨#[]⟩⟩, .int .i64 5]) (by simp [results, Tryz.results33, go_sem, d0, d1, f0, f1, PartD.val]) rfl ⟨by rw [HQ.out] <;> rfl, ?_⟩
        exact (HM.out.setCell (p := ⟨r, 0, none⟩) (.inr (Nat.le_of_eq HRE.out)) _).setCell (p := ⟨r, 1, none⟩) (.inr (Nat.le_of_eq HRE.out)) _
      · rw [if_neg (by decide)] at hP
        go_upto_region 12 with (first | (refine hiw.mono ?_; clear hiw; rintro e w5 ⟨rfl, hm5⟩))
        clear p0 p1 fp0 fp1 pl
        have HR1 := Lib.hid (HR.out.new2 hm5)
        have HP1 := Lib.hid (HP.out.new2 hm5)
        have HM1 : Hid (New w _) := Lib.hid (HM.out.trans hm5)
        clear HR HM HP
        have HR := HR1
        have HM := HM1
        have HP := HP1
        clear HR1 HM1 HP1
        clear hm5
        have hhp := HHP.out w5 HM.out
        have p0 := HP.out.cell 0
        have p1 := HP.out.cell 1
        have fp0 := HP.out.frozen 0
        have fp1 := HP.out.frozen 1
        have pl := HP.out.lt
        simp only [List.getElem?_toArray, List.getElem?_cons_zero, List.getElem?_cons_succ] at p0 p1
        cases q2
        · rw [if_neg (by decide)] at hP
          have HQ : Hid (partOf s ps true = (0, ⟨2, N⟩)) := Lib.hid hP
          clear hP
          go_upto_region 14 with (first | (refine hhp.mono ?_; clear hhp; rintro e w6 ⟨rfl, hm6⟩))
          clear p0 p1 fp0 fp1 pl
          have HR1 := Lib.hid (HR.out.new2 hm6)
          have HP1 := Lib.hid (HP.out.new2 hm6)
          have HM1 : Hid (New w _) := Lib.hid (HM.out.trans hm6)
          clear HR HM HP
          have HR := HR1
          have HM := HM1
          have HP := HP1
          clear HR1 HM1 HP1
          clear hm6
          have p0 := HP.out.cell 0
          have p1 := HP.out.cell 1
          have fp0 := HP.out.frozen 0
          have fp1 := HP.out.frozen 1
          have pl := HP.out.lt
          simp only [List.getElem?_toArray, List.getElem?_cons_zero, List.getElem?_cons_succ] at p0 p1
          have d0 := HR.out.cell 0
          have d1 := HR.out.cell 1
          have f0 := HR.out.frozen 0
          have f1 := HR.out.frozen 1
          have dl := HR.out.lt
          simp only [List.getElem?_toArray, List.getElem?_cons_zero, List.getElem?_cons_succ] at d0 d1
          go_wp2_with fail
          refine bodyPost_ret (v := .tuple #[PartD.val ⟨2, N⟩, .int .i64 0]) (by simp [results, Tryz.results33, go_sem, d0, d1, f0, f1, PartD.val]) rfl ⟨by rw [HQ.out] <;> rfl, ?_⟩
          exact (HM.out.setCell (p := ⟨r, 0, none⟩) (.inr (Nat.le_of_eq HRE.out)) _).setCell (p := ⟨r, 1, none⟩) (.inr (Nat.le_of_eq HRE.out)) _
        · have HQ : Hid (partOf s ps true = (6, ⟨0, ⟨#[]⟩⟩)) := Lib.hid hP
          clear hP
          go_upto_region 13 with (first | (refine hhp.mono ?_; clear hhp; rintro e w6 ⟨rfl, hm6⟩))
          clear p0 p1 fp0 fp1 pl
          have HR1 := Lib.hid (HR.out.new2 hm6)
          have HP1 := Lib.hid (HP.out.new2 hm6)
          have HM1 : Hid (New w _) := Lib.hid (HM.out.trans hm6)
          clear HR HM HP
          have HR := HR1
          have HM := HM1
          have HP := HP1
          clear HR1 HM1 HP1
          clear hm6
          have d0 := HR.out.cell 0
          have d1 := HR.out.cell 1
          have f0 := HR.out.frozen 0
          have f1 := HR.out.frozen 1
          have dl := HR.out.lt
          simp only [List.getElem?_toArray, List.getElem?_cons_zero, List.getElem?_cons_succ] at d0 d1
          go_wp2_with fail
          refine bodyPost_ret (v := .tuple #[PartD.val ⟨0, ⟨#[]⟩⟩, .int .i64 6]) (by simp [results, Tryz.results33, go_sem, d0, d1, f0, f1, PartD.val]) rfl ⟨by rw [HQ.out] <;> rfl, ?_⟩
          exact (HM.out.setCell (p := ⟨r, 0, none⟩) (.inr (Nat.le_of_eq HRE.out)) _).setCell (p := ⟨r, 1, none⟩) (.inr (Nat.le_of_eq HRE.out)) _
    · have p0 := HP.out.cell 0
      have p1 := HP.out.cell 1
      have fp0 := HP.out.frozen 0
      have fp1 := HP.out.frozen 1
      have pl := HP.out.lt
      simp only [List.getElem?_toArray, List.getElem?_cons_zero, List.getElem?_cons_succ] at p0 p1
      have hP4 := HP.out.set 0 (.int .i64 3)
      simp at hP4
      have HP4 := Lib.hid hP4
      have hm4 : Mod (fun k => k = pb) w3 (w3.setCell ⟨pb, 0, none⟩ (.int .i64 3)) := Mod.setCell (S := fun k => k = pb) (p := ⟨pb, 0, none⟩) (Mod.refl _ _) (.inl rfl) _
      have HR4 := Lib.hid (HR.out.mod hm4 hne)
      have HM4 : Hid (New w (w3.setCell ⟨pb, 0, none⟩ (.int .i64 3))) := Lib.hid (HM.out.setCell (p := ⟨pb, 0, none⟩) (.inr HRW.out) _)
      clear hP4 hm4 HR HM HP
      go_upto_region 10 with fail
      clear p0 p1 fp0 fp1 pl
      generalize w3.setCell ⟨pb, 0, none⟩ (.int .i64 3) = w4 at *
      have HP := HP4
      have HR := HR4
      have HM := HM4
      clear HP4 HR4 HM4
      have hiw := HIW.out w4
      have p0 := HP.out.cell 0
      have p1 := HP.out.cell 1
      have fp0 := HP.out.frozen 0
      have fp1 := HP.out.frozen 1
      have pl := HP.out.lt
      simp only [List.getElem?_toArray, List.getElem?_cons_zero, List.getElem?_cons_succ] at p0 p1
      cases q1
      · have HQ : Hid (partOf s ps true = (5, ⟨0, ⟨#[]⟩⟩)) := Lib.hid hP
        clear hP
        go_upto_region 11 with (first | (refine hiw.mono ?_; clear hiw; rintro e w5 ⟨rfl, hm5⟩))
        clear p0 p1 fp0 fp1 pl
        have HR1 := Lib.hid (HR.out.new2 hm5)
        have HP1 := Lib.hid (HP.out.new2 hm5)
        have HM1 : Hid (New w _) := Lib.hid (HM.out.trans hm5)
        clear HR HM HP
        have HR := HR1
        have HM := HM1
        have HP := HP1
        clear HR1 HM1 HP1
        clear hm5
        have d0 := HR.out.cell 0
        have d1 := HR.out.cell 1
        have f0 := HR.out.frozen 0
        have f1 := HR.out.frozen 1
        have dl := HR.out.lt
        simp only [List.getElem?_toArray, List.getElem?_cons_zero, List.getElem?_cons_succ] at d0 d1
        go_wp2_with fail
        refine bodyPost_ret (v := .tuple #[PartD.val ⟨0, ⟨#[]⟩⟩, .int .i64 5]) (by simp [results, Tryz.results33, go_sem, d0, d1, f0, f1, PartD.val]) rfl ⟨by rw [HQ.out] <;> rfl, ?_⟩
        exact (HM.out.setCell (p := ⟨r, 0, none⟩) (.inr (Nat.le_of_eq HRE.out)) _).setCell (p := ⟨r, 1, none⟩) (.inr (Nat.le_of_eq HRE.out)) _
      · rw [if_neg (by decide)] at hP
        go_upto_region 12 with (first | (refine hiw.mono ?_; clear hiw; rintro e w5 ⟨rfl, hm5⟩))
        clear p0 p1 fp0 fp1 pl
        have HR1 := Lib.hid (HR.out.new2 hm5)
        have HP1 := Lib.hid (HP.out.new2 hm5)
        have HM1 : Hid (New w _) := Lib.hid (HM.out.trans hm5)
        clear HR HM HP
        have HR := HR1
        have HM := HM1
        have HP := HP1
        clear HR1 HM1 HP1
        clear hm5
        have hhp := HHP.out w5 HM.out
        have p0 := HP.out.cell 0
        have p1 := HP.out.cell 1
        have fp0 := HP.out.frozen 0
        have fp1 := HP.out.frozen 1
        have pl := HP.out.lt
        simp only [List.getElem?_toArray, List.getElem?_cons_zero, List.getElem?_cons_succ] at p0 p1
        cases q2
        · rw [if_neg (by decide)] at hP
          have HQ : Hid (partOf s ps true = (0, ⟨3, N⟩)) := Lib.hid hP
          clear hP
          go_upto_region 14 with (first | (refine hhp.mono ?_; clear hhp; rintro e w6 ⟨rfl, hm6⟩))
          clear p0 p1 fp0 fp1 pl
          have HR1 := Lib.hid (HR.out.new2 hm6)
          have HP1 := Lib.hid (HP.out.new2 hm6)
          have HM1 : Hid (New w _) := Lib.hid (HM.out.trans hm6)
          clear HR HM HP
          have HR := HR1
          have HM := HM1
          have HP := HP1
          clear HR1 HM1 HP1
          clear hm6
          have p0 := HP.out.cell 0
          have p1 := HP.out.cell 1
          have fp0 := HP.out.frozen 0
          have fp1 := HP.out.frozen 1
          have pl := HP.out.lt
          simp only [List.getElem?_toArray, List.getElem?_cons_zero, List.getElem?_cons_succ] at p0 p1
          have d0 := HR.out.cell 0
          have d1 := HR.out.cell 1
          have f0 := HR.out.frozen 0
          have f1 := HR.out.frozen 1
          have dl := HR.out.lt
          simp only [List.getElem?_toArray, List.getElem?_cons_zero, List.getElem?_cons_succ] at d0 d1
          go_wp2_with fail
          refine bodyPost_ret (v := .tuple #[PartD.val ⟨3, N⟩, .int .i64 0]) (by simp [results, Tryz.results33, go_sem, d0, d1, f0, f1, PartD.val]) rfl ⟨by rw [HQ.out] <;> rfl, ?_⟩
          exact (HM.out.setCell (p := ⟨r, 0, none⟩) (.inr (Nat.le_of_eq HRE.out)) _).setCell (p := ⟨r, 1, none⟩) (.inr (Nat.le_of_eq HRE.out)) _
        · have HQ : Hid (partOf s ps true = (6, ⟨0, ⟨#[]⟩⟩)) := Lib.hid hP
          clear hP
          go_upto_region 13 with (first | (refine hhp.mono ?_; clear hhp; rintro e w6 ⟨rfl, hm6⟩))
          clear p0 p1 fp0 fp1 pl
          have HR1 := Lib.hid (HR.out.new2 hm6)
          have HP1 := Lib.hid (HP.out.new2 hm6)
          have HM1 : Hid (New w _) := Lib.hid (HM.out.trans hm6)
          clear HR HM HP
          have HR := HR1
          have HM := HM1
          have HP := HP1
          clear HR1 HM1 HP1
          clear hm6
          have d0 := HR.out.cell 0
          have d1 := HR.out.cell 1
          have f0 := HR.out.frozen 0
          have f1 := HR.out.frozen 1
          have dl := HR.out.lt
          simp only [List.getElem?_toArray, List.getElem?_cons_zero, List.getElem?_cons_succ] at d0 d1
          go_wp2_with fail
          refine bodyPost_ret (v := .tuple #[PartD.val ⟨0, ⟨#[]⟩⟩, .int .i64 6]) (by simp [results, Tryz.results33, go_sem, d0, d1, f0, f1, PartD.val]) rfl ⟨by rw [HQ.out] <;> rfl, ?_⟩
          exact (HM.out.setCell (p := ⟨r, 0, none⟩) (.inr (Nat.le_of_eq HRE.out)) _).setCell (p := ⟨r, 1, none⟩) (.inr (Nat.le_of_eq HRE.out)) _

end Go.Proofs.YtjehlecgnepgmaaGreatDoor
