/- A template read (package route: ParseTemplate). Conditions: a string of modest size; the library's variable on searching is an int. -/
import Derived.Test.YtnbcfpjalgfikaaGreatDoorTpl1Grp
import Derived.Test.YtnbcfpjalgfikaaGreatDoorTxt
namespace Go.Proofs.YtnbcfpjalgfikaaGreatDoor
open Go.RowKit
set_option linter.unusedVariables false
set_option linter.unusedSimpArgs false

abbrev slB : ByteArray := ⟨#[47]⟩
/-- what a template's string gives -/
def tplOf (s : ByteArray) : Int × List PartD :=
  if 1000 < s.size then (3, []) else if Lib.hasPrefix s.data.toList [47] = false then (3, []) else templateOf (pieces (s.extract 1 s.size) slB)
/-- an error and parts handed back -/
def RTp (q : Int × List PartD) (w : World) (e : Ending) (w' : World) : Prop := ∃ A n c, e = .returned (.tuple #[.slice A n c, .int .i64 q.1]) ∧ PSl w' A n q.2 ∧ New w w' ∧ n ≤ 100000
theorem RTp.fault {q : Int × List PartD} {w w' : World} {x : Int} (h : q = (x, [])) (hm : New w w') : RTp q w (.returned (.tuple #[.slice none 0 0, .int .i64 x])) w' :=
  ⟨none, 0, 0, by rw [h], by rw [h]; exact Sl.nil, hm, by omega⟩
theorem einfo_part : EInfo Tryz.prog 80 2 24 := EInfo.of (z := .agg #[.int .i64 0, .string ⟨#[]⟩]) (by kernel_rfl) rfl (by decide)
theorem PartD.one (p : PartD) (j : Nat) (hj : j < 2) : (p.enc j).oneCell' = true := by
  match j, hj with
  | 0, _ => rfl
  | 1, _ => rfl
theorem Own.farB {α : Type} {w : World} {B : Nat} {t : TypeId} {sz : Nat} {enc : α → Nat → Value} {A : Option Addr} {n c : Nat} {xs : List α} (h : Own w B t sz enc A n c xs) (g : Nat) (e : blkOf A = some g) : B ≤ g := by
  rcases h.blk with ⟨rfl, _, _⟩ | ⟨g', rfl, hB, _⟩
  · cases e
  · injection e with e; subst e; exact hB
theorem partsOf_stop {segs : List ByteArray} {acc : List PartD} {k : Nat} (hk : k < segs.length) (h : partsOf segs [] = partsOf (segs.drop k) acc) (hne : (partOf segs[k] acc (decide (k + 1 = segs.length))).1 ≠ 0) :
    templateOf segs = ((partOf segs[k] acc (decide (k + 1 = segs.length))).1, []) := by
  unfold templateOf
  rw [h, partsOf_more hk, if_pos hne, if_pos hne]
theorem partsOf_step {segs : List ByteArray} {acc : List PartD} {k : Nat} (hk : k < segs.length) (h : partsOf segs [] = partsOf (segs.drop k) acc) (h0 : (partOf segs[k] acc (decide (k + 1 = segs.length))).1 = 0) :
    partsOf segs [] = partsOf (segs.drop (k + 1)) (acc ++ [(partOf segs[k] acc (decide (k + 1 = segs.length))).2]) := by
  rw [h, partsOf_more hk, if_neg (fun e => e h0)]
theorem partsOf_end {segs : List ByteArray} {acc : List PartD} (h : partsOf segs [] = partsOf (segs.drop segs.length) acc) : templateOf segs = if acc.length > 30 then (2, []) else (0, acc) := by
  unfold templateOf
  rw [h, List.drop_length]
  rfl

set_option maxRecDepth 100000 in
set_option maxHeartbeats 8000000 in
theorem route_parseTemplate (s : ByteArray) (w : World) (hs : s.size ≤ 100000) (hx : MaxLn w) :
    Calls Tryz.prog 36 #[.string s] w (RTp (tplOf s) w) := by
  have hpx := Tryz.strings_HasPrefix s slB w
  rw [show (slB : ByteArray).data.toList = [47] from rfl] at hpx
  by_cases h1 : 1000 < s.size
  · have hQ : tplOf s = (3, []) := by unfold tplOf; rw [if_pos h1]
    have h1' : (1000 : Int) < (s.size : Int) := by omega
    have HQ := Lib.hid hQ
    clear hQ
    go_enter Tryz.func36, Tryz.ntmps36
    go_wp2_with fail
    go_ret2
    exact RTp.fault HQ.out (Mod.refl _ _)
  have hQ : tplOf s = if Lib.hasPrefix s.data.toList [47] = false then (3, []) else templateOf (pieces (s.extract 1 s.size) slB) := by unfold tplOf; rw [if_neg h1]
  have h1' : ¬ (1000 : Int) < (s.size : Int) := by omega
  cases h2 : Lib.hasPrefix s.data.toList [47] <;> rw [h2] at hpx hQ
  · have HQ : Hid (tplOf s = (3, [])) := Lib.hid hQ
    clear hQ h2
    go_enter Tryz.func36, Tryz.ntmps36
    go_wp2_with (first | (refine hpx.mono ?_; clear hpx; rintro e w' ⟨rfl, hw⟩; rw [hw]; clear hw))
    go_ret2
    exact RTp.fault HQ.out (Mod.refl _ _)
  · rw [if_neg (by decide)] at hQ
    have hpos : 1 ≤ s.size := by
      have hl : s.data.toList.length = s.size := rfl
      rcases Nat.eq_zero_or_pos s.size with h | h
      · have : s.data.toList = [] := List.eq_nil_of_length_eq_zero (by omega)
        rw [this] at h2; exact absurd h2 (by decide)
      · exact h
    have hez : (s.extract 1 s.size).size + 1 ≤ 1000 := by simp only [ByteArray.size_extract]; omega
    have hsp := split_any (s.extract 1 s.size) 47 w (by omega) hx
    have hle : ∀ x ∈ pieces (s.extract 1 s.size) slB, x.size + 1 ≤ 1000 := fun x hx => by have := pieces_le hx; omega
    have hln : (pieces (s.extract 1 s.size) slB).length ≤ 1001 := by
      rw [pieces_length (show 1 ≤ (slB : ByteArray).size from Nat.le_refl _)]
      have := Lib.countB_le slB (Nat.le_refl _) (s.extract 1 s.size).size (s.extract 1 s.size) (Nat.le_refl _)
      omega
    generalize pieces (s.extract 1 s.size) slB = segs at *
    have n1 : (1 : Int) ≤ (s.size : Int) := by omega
    have HQ := Lib.hid hQ
    have HLE := Lib.hid hle
    have hbL := Blk.new w 9 (strCs segs)
    have hmL : New w (w.alloc (.cells (strCs segs) 9)) := (Mod.refl _ _).alloc _
    clear hQ hle hez h2 hx h1
    go_enter Tryz.func36, Tryz.ntmps36
    go_upto_region 4 with (first | (refine hpx.mono ?_; clear hpx; rintro e w' ⟨rfl, hw⟩; rw [hw]; clear hw) | (refine hsp.mono ?_; clear hsp; rintro e w' ⟨rfl, hw⟩; rw [hw]; clear hw))
    generalize w.alloc (.cells (strCs segs) 9) = w1 at *
    have hLz := hbL.lt
    generalize hwz : w.heap.size = L at *
    have HL1 := Lib.hid hbL
    have HM1 : Hid (New w w1) := Lib.hid hmL
    clear hbL hmL
    go_wp2_with fail
    go_loopw [5, 23] (fun o i wr => ∃ (k : Nat) (A : Option Addr) (c : Nat) (acc : List PartD), k ≤ segs.length ∧ i = .int .i64 k ∧ o = .slice A k c ∧ Hid (acc.length = k) ∧ Hid (partsOf segs [] = partsOf (segs.drop k) acc) ∧ Hid (Own wr (L + 1) 80 2 PartD.enc A k c acc) ∧ Hid (Blk wr L 9 (strCs segs)) ∧ Hid (New w wr)) (fun _ i _ => segs.length - (intOf i).toNat)
    case atStart => exact ⟨0, none, 0, [], Nat.zero_le _, rfl, rfl, Lib.hid rfl, Lib.hid rfl, Lib.hid Own.nil, HL1, HM1⟩
    case round =>
      clear HL1 HM1
      rename World => wr
      obtain ⟨k, A, c, acc, hk, rfl, rfl, HAC, HP, HO, HL, HM⟩ := hrel
      by_cases hlt : k < segs.length
      · have hcell := strs_at HL.out k hlt
        have hget : segs.getD k ByteArray.empty = segs[k] := by simp [List.getD_eq_getElem?_getD, hlt]
        rw [hget] at hcell
        have hll := HL.out.lt
        have hxz := HLE.out _ (List.getElem_mem hlt)
        have hsp1 : (partOf segs[k] acc (decide (k + 1 = segs.length))).1 ≠ 0 → tplOf s = ((partOf segs[k] acc (decide (k + 1 = segs.length))).1, []) := fun h => HQ.out.trans (partsOf_stop hlt HP.out h)
        have hst1 : (partOf segs[k] acc (decide (k + 1 = segs.length))).1 = 0 → partsOf segs [] = partsOf (segs.drop (k + 1)) (acc ++ [⟨(partOf segs[k] acc (decide (k + 1 = segs.length))).2.kind, (partOf segs[k] acc (decide (k + 1 = segs.length))).2.name⟩]) := fun h => partsOf_step hlt HP.out h
        have hlast : ((k : Int) == (segs.length : Int) - 1) = decide (k + 1 = segs.length) := by
          rw [Bool.eq_iff_iff]; simp only [beq_iff_eq, decide_eq_true_eq]; omega
        have hpre := fun W => Tryz.strings_HasPrefix segs[k] ⟨#[123]⟩ W
        rw [show (⟨#[123]⟩ : ByteArray).data.toList = [123] from rfl] at hpre
        have hbp := Blk.new wr 80 #[.int .i64 0, .string ⟨#[]⟩]
        have hmp : New wr (wr.alloc (.cells #[.int .i64 0, .string ⟨#[]⟩] 80)) := (Mod.refl _ _).alloc _
        have hb1 : (0 : Int) ≤ k := by omega
        have hb2 : (k : Int) < segs.length := by omega
        generalize segs[k] = x at *
        generalize decide (k + 1 = segs.length) = lst at *
        have hcalls : (∀ W, New wr W → Lib.hasPrefix x.data.toList [123] = true → Calls Tryz.prog 64 #[.string x, .slice A k c, .bool lst] W (fun e w' => e = .returned (.tuple #[.agg #[.int .i64 (partOf x acc lst).2.kind, .string (partOf x acc lst).2.name], .int .i64 (partOf x acc lst).1]) ∧ New W w')) ∧ (∀ W, Lib.hasPrefix x.data.toList [123] = false → Calls Tryz.prog 65 #[.string x] W (fun e w' => e = .returned (.tuple #[.agg #[.int .i64 (partOf x acc lst).2.kind, .string (partOf x acc lst).2.name], .int .i64 (partOf x acc lst).1]) ∧ New W w')) :=
          ⟨fun W h hp => route_paramOf x A k c acc lst W (by omega) hp (HO.out.sl.new h) (by omega), fun W hp => route_wordsOf x acc lst W (by omega) hp⟩
        generalize (partOf x acc lst).2.kind = qk at *
        generalize (partOf x acc lst).2.name = qn at *
        generalize (partOf x acc lst).1 = qe at *
        have HSP := Lib.hid hsp1
        have HST := Lib.hid hst1
        clear hsp1 hst1
        have HC := Lib.hid hcalls
        have HOF : Hid (∀ g, blkOf A = some g → L + 1 ≤ g ∧ g < wr.heap.size) := Lib.hid (fun g e => by
          rcases HO.out.blk with ⟨rfl, _, _⟩ | ⟨g', rfl, hB, htb⟩
          · cases e
          · injection e with e; subst e; exact ⟨hB, htb.lt⟩)
        clear hcalls hget hxz HP
        go_upto_region 9 with (fail)
        have HB := Lib.hid hbp
        have HM1 := Lib.hid (HM.out.trans hmp)
        have HL1 := Lib.hid (HL.out.new2 hmp)
        have HO1 := Lib.hid (HO.out.new hmp)
        have hz0 := hmp.size
        have HN0 := Lib.hid hmp
        clear hbp hmp HM HL HO
        have HM := HM1
        have HL := HL1
        have HO := HO1
        clear HM1 HL1 HO1
        generalize wr.alloc (.cells #[.int .i64 0, .string ⟨#[]⟩] 80) = wp at *
        generalize hpb : wr.heap.size = pb at *
        have HPB : Hid (L + 1 ≤ pb) := Lib.hid (by omega)
        have hpx1 := hpre wp
        clear hpre
        cases hp : Lib.hasPrefix x.data.toList [123] <;> rw [hp] at hpx1
        · have hcl := HC.out.2 wp hp
          clear HC HN0 hp
          go_upto_region 12 with (first | (refine hpx1.mono ?_; clear hpx1; rintro e w' ⟨rfl, rfl⟩))
          go_wp2_with fail
          refine hcl.mono ?_
          clear hcl
          rintro e w2 ⟨rfl, hm2⟩
          -- ex : what the segment gives; w2 the world behind the call
          have HM2 := Lib.hid (HM.out.trans hm2)
          have HB2 := Lib.hid (HB.out.new2 hm2)
          have HL2 := Lib.hid (HL.out.new2 hm2)
          have HO2 := Lib.hid (HO.out.mod hm2 (fun _ _ e => e))
          have hz2 := hm2.size
          clear HM HB HL HO hm2
          have d0 := HB2.out.cell 0
          have d1 := HB2.out.cell 1
          have f0 := HB2.out.frozen 0
          have f1 := HB2.out.frozen 1
          have dl := HB2.out.lt
          simp only [List.getElem?_toArray, List.getElem?_cons_zero, List.getElem?_cons_succ] at d0 d1
          have hB3 := (HB2.out.set 0 (.int .i64 qk)).set 1 (.string qn)
          simp at hB3
          have HB3 := Lib.hid hB3
          have hm3 : Mod (fun k => k = pb) w2 ((w2.setCell ⟨pb, 0, none⟩ (.int .i64 qk)).setCell ⟨pb, 1, none⟩ (.string qn)) := Mod.setCell (S := fun k => k = pb) (p := ⟨pb, 1, none⟩) (Mod.setCell (S := fun k => k = pb) (p := ⟨pb, 0, none⟩) (Mod.refl _ _) (.inl rfl) _) (.inl rfl) _
          have HM3 : Hid (New w ((w2.setCell ⟨pb, 0, none⟩ (.int .i64 qk)).setCell ⟨pb, 1, none⟩ (.string qn))) := Lib.hid (HM2.out.step hm3 (fun i hi e => by have := HPB.out; omega))
          have HL3 := Lib.hid (HL2.out.mod hm3 (by have := HPB.out; omega))
          have HO3 := Lib.hid (HO2.out.mod hm3 (fun g e e2 => by have := HOF.out g e; omega))
          have hz3 := hm3.size
          clear hB3 hm3 HM2 HL2 HO2 HB2
          go_upto_region 13 with (fail)
          clear d0 d1 f0 f1 dl
          generalize (w2.setCell ⟨pb, 0, none⟩ (.int .i64 qk)).setCell ⟨pb, 1, none⟩ (.string qn) = w3 at *
          by_cases h0 : qe = 0
          · subst h0
            have HS1 := HST.out rfl
            have d0 := HB3.out.cell 0
            have d1 := HB3.out.cell 1
            have dl := HB3.out.lt
            simp only [List.getElem?_toArray, List.getElem?_cons_zero, List.getElem?_cons_succ] at d0 d1
            go_wp2_with (at_builtin; refine wpList_push rfl _ _ _ rfl 24 Tryz.underlying76 einfo_part rfl (HO3.out.alloc _) ⟨qk, qn⟩ w3.heap.size rfl (Blk.new _ _ _) (fun j hj => PartD.one _ j hj) (by omega) (by omega) (by simp; omega) ?_; intro g8 cap8 w8 own8 hm8 hat8 hlt8)
            have HO8 := Lib.hid own8
            have HM8 : Hid (New w w8) := Lib.hid ((HM3.out.alloc _).step hm8 (fun i hi e => by have := HOF.out i e; have := HPB.out; omega))
            have HL8 := Lib.hid ((HL3.out.new2 ((Mod.refl _ _).alloc _)).mod hm8 (fun e => by have := HOF.out L e; omega))
            clear own8 hm8
            go_roundw
            case rel => exact ⟨k + 1, some ⟨g8, 0, none⟩, cap8, acc ++ [⟨qk, qn⟩], by omega, by go_num, rfl, Lib.hid (by have := HAC.out; simp; omega), Lib.hid HS1, HO8, HL8, HM8⟩
            case measure => simp [intOf]; omega
          · have h0' : (qe != 0) = true := by simpa using h0
            have HE := HSP.out h0
            clear h0
            go_wp2_with fail
            go_ret2
            exact RTp.fault HE HM3.out
        · have hcl := HC.out.1 wp HN0.out hp
          clear HC HN0 hp
          go_upto_region 11 with (first | (refine hpx1.mono ?_; clear hpx1; rintro e w' ⟨rfl, rfl⟩))
          go_wp2_with fail
          refine hcl.mono ?_
          clear hcl
          rintro e w2 ⟨rfl, hm2⟩
          -- ex : what the segment gives; w2 the world behind the call
          have HM2 := Lib.hid (HM.out.trans hm2)
          have HB2 := Lib.hid (HB.out.new2 hm2)
          have HL2 := Lib.hid (HL.out.new2 hm2)
          have HO2 := Lib.hid (HO.out.mod hm2 (fun _ _ e => e))
          have hz2 := hm2.size
          clear HM HB HL HO hm2
          have d0 := HB2.out.cell 0
          have d1 := HB2.out.cell 1
          have f0 := HB2.out.frozen 0
          have f1 := HB2.out.frozen 1
          have dl := HB2.out.lt
          simp only [List.getElem?_toArray, List.getElem?_cons_zero, List.getElem?_cons_succ] at d0 d1
          have hB3 := (HB2.out.set 0 (.int .i64 qk)).set 1 (.string qn)
          simp at hB3
          have HB3 := Lib.hid hB3
          have hm3 : Mod (fun k => k = pb) w2 ((w2.setCell ⟨pb, 0, none⟩ (.int .i64 qk)).setCell ⟨pb, 1, none⟩ (.string qn)) := Mod.setCell (S := fun k => k = pb) (p := ⟨pb, 1, none⟩) (Mod.setCell (S := fun k => k = pb) (p := ⟨pb, 0, none⟩) (Mod.refl _ _) (.inl rfl) _) (.inl rfl) _
          have HM3 : Hid (New w ((w2.setCell ⟨pb, 0, none⟩ (.int .i64 qk)).setCell ⟨pb, 1, none⟩ (.string qn))) := Lib.hid (HM2.out.step hm3 (fun i hi e => by have := HPB.out; omega))
          have HL3 := Lib.hid (HL2.out.mod hm3 (by have := HPB.out; omega))
          have HO3 := Lib.hid (HO2.out.mod hm3 (fun g e e2 => by have := HOF.out g e; omega))
          have hz3 := hm3.size
          clear hB3 hm3 HM2 HL2 HO2 HB2
          go_upto_region 13 with (fail)
          clear d0 d1 f0 f1 dl
          generalize (w2.setCell ⟨pb, 0, none⟩ (.int .i64 qk)).setCell ⟨pb, 1, none⟩ (.string qn) = w3 at *
          by_cases h0 : qe = 0
          · subst h0
            have HS1 := HST.out rfl
            have d0 := HB3.out.cell 0
            have d1 := HB3.out.cell 1
            have dl := HB3.out.lt
            simp only [List.getElem?_toArray, List.getElem?_cons_zero, List.getElem?_cons_succ] at d0 d1
            go_wp2_with (at_builtin; refine wpList_push rfl _ _ _ rfl 24 Tryz.underlying76 einfo_part rfl (HO3.out.alloc _) ⟨qk, qn⟩ w3.heap.size rfl (Blk.new _ _ _) (fun j hj => PartD.one _ j hj) (by omega) (by omega) (by simp; omega) ?_; intro g8 cap8 w8 own8 hm8 hat8 hlt8)
            have HO8 := Lib.hid own8
            have HM8 : Hid (New w w8) := Lib.hid ((HM3.out.alloc _).step hm8 (fun i hi e => by have := HOF.out i e; have := HPB.out; omega))
            have HL8 := Lib.hid ((HL3.out.new2 ((Mod.refl _ _).alloc _)).mod hm8 (fun e => by have := HOF.out L e; omega))
            clear own8 hm8
            go_roundw
            case rel => exact ⟨k + 1, some ⟨g8, 0, none⟩, cap8, acc ++ [⟨qk, qn⟩], by omega, by go_num, rfl, Lib.hid (by have := HAC.out; simp; omega), Lib.hid HS1, HO8, HL8, HM8⟩
            case measure => simp [intOf]; omega
          · have h0' : (qe != 0) = true := by simpa using h0
            have HE := HSP.out h0
            clear h0
            go_wp2_with fail
            go_ret2
            exact RTp.fault HE HM3.out
      · obtain rfl : k = segs.length := by omega
        have HE := Lib.hid (HQ.out.trans (partsOf_end HP.out))
        have hal := HAC.out
        by_cases h30 : 30 < segs.length
        · have h30' : (30 : Int) < (segs.length : Int) := by omega
          have HE2 : Hid (tplOf s = (2, [])) := Lib.hid (by rw [HE.out, if_pos (by omega)])
          clear hal
          go_wp2_with fail
          go_ret2
          exact RTp.fault HE2.out HM.out
        · have h30' : ¬ (30 : Int) < (segs.length : Int) := by omega
          have HE2 : Hid (tplOf s = (0, acc)) := Lib.hid (by rw [HE.out, if_neg (by omega)])
          clear hal
          go_wp2_with fail
          go_ret2
          exact ⟨A, segs.length, c, by rw [HE2.out]; rfl, by rw [HE2.out]; exact HO.out.sl, HM.out, by omega⟩

end Go.Proofs.YtnbcfpjalgfikaaGreatDoor
