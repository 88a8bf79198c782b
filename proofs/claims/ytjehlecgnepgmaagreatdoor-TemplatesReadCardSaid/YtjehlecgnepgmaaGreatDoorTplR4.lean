/- The reference reads a template (TemplateOf). Conditions: a string of modest size; the library's variable on searching is an int. -/
import Derived.Test.YtjehlecgnepgmaaGreatDoorTplR3
namespace Go.Proofs.YtjehlecgnepgmaaGreatDoor
open Go.RowKit
set_option linter.unusedVariables false
set_option linter.unusedSimpArgs false

theorem ref_partOf (s : ByteArray) (A : Option Addr) (n c : Nat) (ps : List PartD) (w : World) (hs : s.size ≤ 100000) (hps : PSl w A n ps) (hn : n ≤ 100000) :
    Calls Tryz.prog 33 #[.string s, .slice A n c] w (RPt (partOf s ps true) w) := by
  cases h : Lib.hasPrefix s.data.toList [123]
  · exact ref_partOf_words s A n c ps w hs h
  · exact ref_partOf_param s A n c ps w (by omega) h hps hn
theorem prefix_head {l : List UInt8} {c : UInt8} (h : 0 < l.length) : Lib.hasPrefix l [c] = decide (l[0] = c) := by
  cases l with
  | nil => simp at h
  | cons a r =>
    simp only [Lib.hasPrefix, List.isPrefixOf, Bool.and_true, List.getElem_cons_zero]
    rw [Bool.eq_iff_iff]
    simp only [beq_iff_eq, decide_eq_true_eq]
    exact eq_comm
theorem tplOf_head {s : ByteArray} (h0 : 0 < s.size) : Lib.hasPrefix s.data.toList [47] = decide (s[0] = 47) := by
  have hg : s[0] = s.data.toList[0]'h0 := rfl
  rw [hg]
  exact prefix_head h0
set_option maxRecDepth 100000 in
set_option maxHeartbeats 8000000 in
theorem ref_templateOf (s : ByteArray) (w : World) (hs : s.size ≤ 100000) (hx : MaxLn w) :
    Calls Tryz.prog 8 #[.string s] w (RTp (tplOf s) w) := by
  by_cases h0 : s.size = 0
  · have hl : s.data.toList = [] := List.eq_nil_of_length_eq_zero h0
    have hse : (s.toList == []) = true := by rw [ByteArray.toList_eq, hl]; rfl
    have HQ : Hid (tplOf s = (3, [])) := Lib.hid (by unfold tplOf; rw [if_neg (by omega), hl]; rfl)
    clear hl h0
    go_enter Tryz.func8, Tryz.ntmps8
    go_wp2_with fail
    go_ret2
    exact RTp.fault HQ.out (Mod.refl _ _)
  have hpos : 0 < s.size := by omega
  have hse : (s.toList == []) = false := by
    rw [ByteArray.toList_eq]
    simp only [beq_eq_false_iff_ne, ne_eq]
    intro h
    exact h0 (by have : s.data.toList.length = s.size := rfl; rw [h] at this; simpa using this.symm)
  clear h0
  by_cases h1 : 1000 < s.size
  · have h1' : (1000 : Int) < (s.size : Int) := by omega
    have HQ : Hid (tplOf s = (3, [])) := Lib.hid (by unfold tplOf; rw [if_pos h1])
    go_enter Tryz.func8, Tryz.ntmps8
    go_wp2_with fail
    go_ret2
    exact RTp.fault HQ.out (Mod.refl _ _)
  have hQ : tplOf s = if Lib.hasPrefix s.data.toList [47] = false then (3, []) else templateOf (pieces (s.extract 1 s.size) slB) := by unfold tplOf; rw [if_neg h1]
  rw [tplOf_head hpos] at hQ
  have h1' : ¬ (1000 : Int) < (s.size : Int) := by omega
  have hcc : ((s[0].toNat : Int) != 47) = !decide (s[0] = 47) := by
    rw [Bool.eq_iff_iff]
    simp only [bne_iff_ne, ne_eq, Bool.not_eq_true', decide_eq_false_iff_not]
    constructor
    · intro h e; rw [e] at h; exact h rfl
    · intro h e; exact h (UInt8.toNat_inj.1 (by have : (47 : UInt8).toNat = 47 := rfl; omega))
  by_cases h2 : s[0] = 47
  rotate_left
  · rw [decide_eq_false h2] at hcc hQ
    have HQ : Hid (tplOf s = (3, [])) := Lib.hid hQ
    have hcc : ((s[0].toNat : Int) != 47) = true := hcc
    clear hQ h2 h1
    go_enter Tryz.func8, Tryz.ntmps8
    go_wp2_with fail
    go_ret2
    exact RTp.fault HQ.out (Mod.refl _ _)
  · rw [decide_eq_true h2, if_neg (by decide)] at hQ
    rw [decide_eq_true h2] at hcc
    have hcc : ((s[0].toNat : Int) != 47) = false := hcc
    have hez : (s.extract 1 s.size).size + 1 ≤ 1000 := by simp only [ByteArray.size_extract]; omega
    have hsp := split_any (s.extract 1 s.size) 47 w (by omega) hx
    have hle : ∀ x ∈ pieces (s.extract 1 s.size) slB, x.size + 1 ≤ 1000 := fun x hx => by have := pieces_le hx; omega
    have hln : (pieces (s.extract 1 s.size) slB).length ≤ 1001 := by
      rw [pieces_length (show 1 ≤ (slB : ByteArray).size from Nat.le_refl _)]
      have := Lib.countB_le slB (Nat.le_refl _) (s.extract 1 s.size).size (s.extract 1 s.size) (Nat.le_refl _)
      omega
    generalize pieces (s.extract 1 s.size) slB = segs at *
    have n1 : (1 : Int) ≤ (s.size : Int) := by omega
    have HQ := Lib.hid hQ
    have HLE := Lib.hid hle
    have hbL := Blk.new w 9 (strCs segs)
    have hmL : New w (w.alloc (.cells (strCs segs) 9)) := (Mod.refl _ _).alloc _
    clear hQ hle hez h2 hx h1
    go_enter Tryz.func8, Tryz.ntmps8
    go_upto_region 4 with (first | (refine hsp.mono ?_; clear hsp; rintro e w' ⟨rfl, hw⟩; rw [hw]; clear hw))
    generalize w.alloc (.cells (strCs segs) 9) = w1 at *
    have hLz := hbL.lt
    generalize hwz : w.heap.size = L at *
    have HL1 := Lib.hid hbL
    have HM1 : Hid (New w w1) := Lib.hid hmL
    clear hbL hmL hcc
    go_wp2_with fail
    go_loopw [5, 27] (fun o i wr => ∃ (k : Nat) (A : Option Addr) (c : Nat) (acc : List PartD), k ≤ segs.length ∧ i = .int .i64 k ∧ o = .slice A k c ∧ Hid (acc.length = k) ∧ Hid (partsOf segs [] = partsOf (segs.drop k) acc) ∧ Hid (Own wr (L + 1) 34 2 PartD.enc A k c acc) ∧ Hid (Blk wr L 9 (strCs segs)) ∧ Hid (New w wr)) (fun _ i _ => segs.length - (intOf i).toNat)
    case atStart => exact ⟨0, none, 0, [], Nat.zero_le _, rfl, rfl, Lib.hid rfl, Lib.hid rfl, Lib.hid Own.nil, HL1, HM1⟩
    case round =>
      clear HL1 HM1
      rename World => wr
      obtain ⟨k, A, c, acc, hk, rfl, rfl, HAC, HP, HO, HL, HM⟩ := hrel
      by_cases hlt : k < segs.length
      · have hcell := strs_at HL.out k hlt
        have hget : segs.getD k ByteArray.empty = segs[k] := by simp [List.getD_eq_getElem?_getD, hlt]
        rw [hget] at hcell
        have hll := HL.out.lt
        have hxz := HLE.out _ (List.getElem_mem hlt)
        have hpl := partOf_last segs[k] acc (decide (k + 1 = segs.length))
        have hsp1 : (partOf segs[k] acc (decide (k + 1 = segs.length))).1 ≠ 0 → tplOf s = ((partOf segs[k] acc (decide (k + 1 = segs.length))).1, []) := fun h => HQ.out.trans (partsOf_stop hlt HP.out h)
        have hst1 : (partOf segs[k] acc (decide (k + 1 = segs.length))).1 = 0 → partsOf segs [] = partsOf (segs.drop (k + 1)) (acc ++ [(partOf segs[k] acc (decide (k + 1 = segs.length))).2]) := fun h => partsOf_step hlt HP.out h
        have hcall : Calls Tryz.prog 33 #[.string segs[k], .slice A k c] wr (fun e w' => e = .returned (.tuple #[.agg #[.int .i64 (partOf segs[k] acc true).2.kind, .string (partOf segs[k] acc true).2.name], .int .i64 (partOf segs[k] acc true).1]) ∧ New wr w') := ref_partOf segs[k] A k c acc wr (by omega) HO.out.sl (by omega)
        have hlast : (decide (k + 1 = segs.length) = false) ↔ (k : Int) < (segs.length : Int) - 1 := by
          rw [decide_eq_false_iff_not]; omega
        have hb1 : (0 : Int) ≤ k := by omega
        have hb2 : (k : Int) < segs.length := by omega
        generalize segs[k] = x at *
        generalize partOf x acc (decide (k + 1 = segs.length)) = ql at *
        generalize decide (k + 1 = segs.length) = lst at *
        have heta : partOf x acc true = ((partOf x acc true).1, ⟨(partOf x acc true).2.kind, (partOf x acc true).2.name⟩) := rfl
        generalize (partOf x acc true).2.kind = qk at *
        generalize (partOf x acc true).2.name = qn at *
        generalize (partOf x acc true).1 = qe at *
        rw [heta] at hpl
        have HSP := Lib.hid hsp1
        have HST := Lib.hid hst1
        have HPL := Lib.hid hpl
        have HOF : Hid (∀ g, blkOf A = some g → L + 1 ≤ g) := Lib.hid (fun g e => HO.out.farB g e)
        clear hget hxz HP hsp1 hst1 hpl heta
        go_upto_region 8 with (fail)
        go_wp2_with fail
        refine hcall.mono ?_
        clear hcall hcell
        rintro e w2 ⟨rfl, hm2⟩
        have HM2 : Hid (New w w2) := Lib.hid (HM.out.trans hm2)
        have HL2 := Lib.hid (HL.out.new2 hm2)
        have HO2 := Lib.hid (HO.out.new hm2)
        have hz2 := hm2.size
        clear HM HL HO hm2
        go_upto_region 9 with (fail)
        have hbp := Blk.new w2 34 #[.int .i64 qk, .string qn]
        have hmp : New w2 (w2.alloc (.cells #[.int .i64 qk, .string qn] 34)) := (Mod.refl _ _).alloc _
        have HM3 : Hid (New w _) := Lib.hid (HM2.out.trans hmp)
        have HL3 := Lib.hid (HL2.out.new2 hmp)
        have HO3 := Lib.hid (HO2.out.new hmp)
        have hz3 := hmp.size
        clear HM2 HL2 HO2 hmp
        generalize w2.alloc (.cells #[.int .i64 qk, .string qn] 34) = w3 at *
        generalize w2.heap.size = pb at *
        have d0 := hbp.cell 0
        have d1 := hbp.cell 1
        have dl := hbp.lt
        simp only [List.getElem?_toArray, List.getElem?_cons_zero, List.getElem?_cons_succ] at d0 d1
        clear hbp
        by_cases hqe : qe = 0
        · subst hqe
          by_cases hord : qk = 3 ∧ lst = false
          · obtain ⟨rfl, hlf⟩ := hord
            have hls := hlast.1 hlf
            have HE : Hid (tplOf s = (7, [])) := Lib.hid (by
              have hp := HPL.out
              rw [if_pos ⟨rfl, rfl, hlf⟩] at hp
              have := HSP.out (by rw [hp]; decide)
              rw [hp] at this; exact this)
            clear hlast hlf
            go_wp2_with fail
            go_ret2
            exact RTp.fault HE.out HM3.out
          · have HS1 : Hid (partsOf segs [] = partsOf (segs.drop (k + 1)) (acc ++ [⟨qk, qn⟩])) := Lib.hid (by
              have hp := HPL.out
              rw [if_neg (fun h => hord ⟨h.2.1, h.2.2⟩)] at hp
              have := HST.out (by rw [hp])
              rw [hp] at this; exact this)
            by_cases hk3 : qk = 3
            · subst hk3
              have hls : ¬ (k : Int) < (segs.length : Int) - 1 := fun h => hord ⟨rfl, hlast.2 h⟩
              clear hord hlast
              go_wp2_with (at_builtin; refine wpList_push rfl _ _ _ rfl 24 Tryz.underlying27 einfo_part rfl (HO3.out.alloc _) ⟨3, qn⟩ w3.heap.size rfl (Blk.new _ _ _) (fun j hj => PartD.one _ j hj) (by omega) (by omega) (by simp; omega) ?_; intro g8 cap8 w8 own8 hm8 hat8 hlt8)
              have HO8 := Lib.hid own8
              have HM8 : Hid (New w w8) := Lib.hid ((HM3.out.alloc _).step hm8 (fun i hi e => by have := HOF.out i e; omega))
              have HL8 := Lib.hid ((HL3.out.new2 ((Mod.refl _ _).alloc _)).mod hm8 (fun e => by have := HOF.out L e; omega))
              clear own8 hm8
              go_roundw
              case rel => exact ⟨k + 1, some ⟨g8, 0, none⟩, cap8, acc ++ [⟨3, qn⟩], by omega, by go_num, rfl, Lib.hid (by have := HAC.out; simp; omega), HS1, HO8, HL8, HM8⟩
              case measure => simp [intOf]; omega
            · have hk3' : ((qk : Int) == 3) = false := by simpa using hk3
              clear hord hlast
              go_wp2_with (at_builtin; refine wpList_push rfl _ _ _ rfl 24 Tryz.underlying27 einfo_part rfl (HO3.out.alloc _) ⟨qk, qn⟩ w3.heap.size rfl (Blk.new _ _ _) (fun j hj => PartD.one _ j hj) (by omega) (by omega) (by simp; omega) ?_; intro g8 cap8 w8 own8 hm8 hat8 hlt8)
              have HO8 := Lib.hid own8
              have HM8 : Hid (New w w8) := Lib.hid ((HM3.out.alloc _).step hm8 (fun i hi e => by have := HOF.out i e; omega))
              have HL8 := Lib.hid ((HL3.out.new2 ((Mod.refl _ _).alloc _)).mod hm8 (fun e => by have := HOF.out L e; omega))
              clear own8 hm8
              go_roundw
              case rel => exact ⟨k + 1, some ⟨g8, 0, none⟩, cap8, acc ++ [⟨qk, qn⟩], by omega, by go_num, rfl, Lib.hid (by have := HAC.out; simp; omega), HS1, HO8, HL8, HM8⟩
              case measure => simp [intOf]; omega
        · have hq0 : ((qe : Int) == 0) = false := by simpa using hqe
          have hq1 : ((qe : Int) != 0) = true := by simpa using hqe
          have HE : Hid (tplOf s = (qe, [])) := Lib.hid (by
            have hp := HPL.out
            rw [if_neg (fun h => hqe h.1)] at hp
            have := HSP.out (by rw [hp]; exact hqe)
            rw [hp] at this; exact this)
          clear hqe hlast
          go_wp2_with fail
          go_ret2
          exact RTp.fault HE.out HM3.out
      · obtain rfl : k = segs.length := by omega
        have HE := Lib.hid (HQ.out.trans (partsOf_end HP.out))
        have hal := HAC.out
        by_cases h30 : 30 < segs.length
        · have h30' : (30 : Int) < (segs.length : Int) := by omega
          have HE2 : Hid (tplOf s = (2, [])) := Lib.hid (by rw [HE.out, if_pos (by omega)])
          clear hal
          go_wp2_with fail
          go_ret2
          exact RTp.fault HE2.out HM.out
        · have h30' : ¬ (30 : Int) < (segs.length : Int) := by omega
          have HE2 : Hid (tplOf s = (0, acc)) := Lib.hid (by rw [HE.out, if_neg (by omega)])
          clear hal
          go_wp2_with fail
          go_ret2
          exact ⟨A, segs.length, c, by rw [HE2.out]; rfl, by rw [HE2.out]; exact HO.out.sl, HM.out, by omega⟩

end Go.Proofs.YtjehlecgnepgmaaGreatDoor
