/- Several texts in one. (1) A template read (package route: ParseTemplate). Conditions: a string of modest size; the library's variable on searching is an int. (2) Paths and their parameters, the plain law: what reading, matching and building answer. No program in sight. No conditions. (3) Letters' case, trimming one byte, tokens, fields and the names of hosts: the plain law. No program in sight. No conditions. (4) Keys: the program's test and the reference's test are one function of the string. Conditions: none but that a string is no longer than an int can count. -/
import Derived.Test.YtnlloaimplgjnaaGreatDoorTpl2Grp
import Derived.Test.YtnlloaimplgjnaaGreatDoorMatLawGrp
import Derived.Test.YtnlloaimplgjnaaGreatDoorSeg3Grp
import Derived.Test.YtnlloaimplgjnaaGreatDoorWordLaw
import Derived.Lib.Case
import Derived.Test.YtnlloaimplgjnaaGreatDoorShelf
import Derived.BigGuardPart

namespace Go.Proofs.YtnlloaimplgjnaaGreatDoor
open Go.RowKit
set_option linter.unusedVariables false
set_option linter.unusedSimpArgs false

abbrev slB : ByteArray := ⟨#[47]⟩
/-- what a template's string gives -/
def tplOf (s : ByteArray) : Int × List PartD :=
  if 1000 < s.size then (3, []) else if Lib.hasPrefix s.data.toList [47] = false then (3, []) else templateOf (pieces (s.extract 1 s.size) slB)
/-- an error and parts handed back -/
def RTp (q : Int × List PartD) (w : World) (e : Ending) (w' : World) : Prop := ∃ A n c, e = .returned (.tuple #[.slice A n c, .int .i64 q.1]) ∧ PSl w' A n q.2 ∧ New w w' ∧ n ≤ 100000
theorem RTp.fault {q : Int × List PartD} {w w' : World} {x : Int} (h : q = (x, [])) (hm : New w w') : RTp q w (.returned (.tuple #[.slice none 0 0, .int .i64 x])) w' :=
  ⟨none, 0, 0, by rw [h], by rw [h]; exact Sl.nil, hm, by omega⟩
theorem einfo_part : EInfo Tryz.prog 78 2 24 := EInfo.of (z := .agg #[.int .i64 0, .string ⟨#[]⟩]) (by kernel_rfl) rfl (by decide)
theorem PartD.one (p : PartD) (j : Nat) (hj : j < 2) : (p.enc j).oneCell' = true := by
  match j, hj with
  | 0, _ => rfl
  | 1, _ => rfl
theorem Own.farB {α : Type} {w : World} {B : Nat} {t : TypeId} {sz : Nat} {enc : α → Nat → Value} {A : Option Addr} {n c : Nat} {xs : List α} (h : Own w B t sz enc A n c xs) (g : Nat) (e : blkOf A = some g) : B ≤ g := by
  rcases h.blk with ⟨rfl, _, _⟩ | ⟨g', rfl, hB, _⟩
  · cases e
  · injection e with e; subst e; exact hB
theorem partsOf_stop {segs : List ByteArray} {acc : List PartD} {k : Nat} (hk : k < segs.length) (h : partsOf segs [] = partsOf (segs.drop k) acc) (hne : (partOf segs[k] acc (decide (k + 1 = segs.length))).1 ≠ 0) :
    templateOf segs = ((partOf segs[k] acc (decide (k + 1 = segs.length))).1, []) := by
  unfold templateOf
  rw [h, partsOf_more hk, if_pos hne, if_pos hne]
theorem partsOf_step {segs : List ByteArray} {acc : List PartD} {k : Nat} (hk : k < segs.length) (h : partsOf segs [] = partsOf (segs.drop k) acc) (h0 : (partOf segs[k] acc (decide (k + 1 = segs.length))).1 = 0) :
    partsOf segs [] = partsOf (segs.drop (k + 1)) (acc ++ [(partOf segs[k] acc (decide (k + 1 = segs.length))).2]) := by
  rw [h, partsOf_more hk, if_neg (fun e => e h0)]
theorem partsOf_end {segs : List ByteArray} {acc : List PartD} (h : partsOf segs [] = partsOf (segs.drop segs.length) acc) : templateOf segs = if acc.length > 30 then (2, []) else (0, acc) := by
  unfold templateOf
  rw [h, List.drop_length]
  rfl

set_option maxRecDepth 100000 in
set_option maxHeartbeats 8000000 in
theorem route_parseTemplate (s : ByteArray) (w : World) (hs : s.size ≤ 100000) (hx : MaxLn w) :
    Calls Tryz.prog 56 #[.string s] w (RTp (tplOf s) w) := by
  have hpx := Tryz.strings_HasPrefix s slB w
  rw [show (slB : ByteArray).data.toList = [47] from rfl] at hpx
  by_cases h1 : 1000 < s.size
  · have hQ : tplOf s = (3, []) := by unfold tplOf; rw [if_pos h1]
    have h1' : (1000 : Int) < (s.size : Int) := by omega
    have HQ := hId hQ
    clear hQ
    go_enter Tryz.func56, Tryz.ntmps56
    go_wp2_with fail
    go_ret2
    exact RTp.fault HQ.out (Mod.refl _ _)
  have hQ : tplOf s = if Lib.hasPrefix s.data.toList [47] = false then (3, []) else templateOf (pieces (s.extract 1 s.size) slB) := by unfold tplOf; rw [if_neg h1]
  have h1' : ¬ (1000 : Int) < (s.size : Int) := by omega
  cases h2 : Lib.hasPrefix s.data.toList [47] <;> rw [h2] at hpx hQ
  · have HQ : Hid (tplOf s = (3, [])) := hId hQ
    clear hQ h2
    go_enter Tryz.func56, Tryz.ntmps56
    go_wp2_with (first | (refine hpx.mono ?_; clear hpx; rintro e w' ⟨rfl, hw⟩; rw [hw]; clear hw))
    go_ret2
    exact RTp.fault HQ.out (Mod.refl _ _)
  · rw [if_neg (by decide)] at hQ
    have hpos : 1 ≤ s.size := by
      have hl : s.data.toList.length = s.size := rfl
      rcases Nat.eq_zero_or_pos s.size with h | h
      · have : s.data.toList = [] := List.eq_nil_of_length_eq_zero (by omega)
        rw [this] at h2; exact absurd h2 (by decide)
      · exact h
    have hez : (s.extract 1 s.size).size + 1 ≤ 1000 := by simp only [ByteArray.size_extract]; omega
    have hsp := split_any (s.extract 1 s.size) 47 w (by omega) hx
    have hle : ∀ x ∈ pieces (s.extract 1 s.size) slB, x.size + 1 ≤ 1000 := fun x hx => by have := pieces_le hx; omega
    have hln : (pieces (s.extract 1 s.size) slB).length ≤ 1001 := by
      rw [pieces_length (show 1 ≤ (slB : ByteArray).size from Nat.le_refl _)]
      have := Lib.countB_le slB (Nat.le_refl _) (s.extract 1 s.size).size (s.extract 1 s.size) (Nat.le_refl _)
      omega
    generalize pieces (s.extract 1 s.size) slB = segs at *
    have n1 : (1 : Int) ≤ (s.size : Int) := by omega
    have HQ := hId hQ
    have HLE := hId hle
    have hbL := Blk.new w 9 (strCs segs)
    have hmL : New w (w.alloc (.cells (strCs segs) 9)) := (Mod.refl _ _).alloc _
    clear hQ hle hez h2 hx h1
    go_enter Tryz.func56, Tryz.ntmps56
    go_upto_region 4 with (first | (refine hpx.mono ?_; clear hpx; rintro e w' ⟨rfl, hw⟩; rw [hw]; clear hw) | (refine hsp.mono ?_; clear hsp; rintro e w' ⟨rfl, hw⟩; rw [hw]; clear hw))
    generalize w.alloc (.cells (strCs segs) 9) = w1 at *
    have hLz := hbL.lt
    generalize hwz : w.heap.size = L at *
    have HL1 := hId hbL
    have HM1 : Hid (New w w1) := hId hmL
    clear hbL hmL
    go_wp2_with fail
    go_loopw [5, 23] (fun o i wr => ∃ (k : Nat) (A : Option Addr) (c : Nat) (acc : List PartD), k ≤ segs.length ∧ i = .int .i64 k ∧ o = .slice A k c ∧ Hid (acc.length = k) ∧ Hid (partsOf segs [] = partsOf (segs.drop k) acc) ∧ Hid (Own wr (L + 1) 78 2 PartD.enc A k c acc) ∧ Hid (Blk wr L 9 (strCs segs)) ∧ Hid (New w wr)) (fun _ i _ => segs.length - (intOf i).toNat)
    case atStart => exact ⟨0, none, 0, [], Nat.zero_le _, rfl, rfl, hId rfl, hId rfl, hId Own.nil, HL1, HM1⟩
    case round =>
      clear HL1 HM1
      rename World => wr
      obtain ⟨k, A, c, acc, hk, rfl, rfl, HAC, HP, HO, HL, HM⟩ := hrel
      by_cases hlt : k < segs.length
      · have hcell := strs_at HL.out k hlt
        have hget : segs.getD k ByteArray.empty = segs[k] := by simp [List.getD_eq_getElem?_getD, hlt]
        rw [hget] at hcell
        have hll := HL.out.lt
        have hxz := HLE.out _ (List.getElem_mem hlt)
        have hsp1 : (partOf segs[k] acc (decide (k + 1 = segs.length))).1 ≠ 0 → tplOf s = ((partOf segs[k] acc (decide (k + 1 = segs.length))).1, []) := fun h => HQ.out.trans (partsOf_stop hlt HP.out h)
        have hst1 : (partOf segs[k] acc (decide (k + 1 = segs.length))).1 = 0 → partsOf segs [] = partsOf (segs.drop (k + 1)) (acc ++ [⟨(partOf segs[k] acc (decide (k + 1 = segs.length))).2.kind, (partOf segs[k] acc (decide (k + 1 = segs.length))).2.name⟩]) := fun h => partsOf_step hlt HP.out h
        have hlast : ((k : Int) == (segs.length : Int) - 1) = decide (k + 1 = segs.length) := by
          rw [Bool.eq_iff_iff]; simp only [beq_iff_eq, decide_eq_true_eq]; omega
        have hpre := fun W => Tryz.strings_HasPrefix segs[k] ⟨#[123]⟩ W
        rw [show (⟨#[123]⟩ : ByteArray).data.toList = [123] from rfl] at hpre
        have hbp := Blk.new wr 78 #[.int .i64 0, .string ⟨#[]⟩]
        have hmp : New wr (wr.alloc (.cells #[.int .i64 0, .string ⟨#[]⟩] 78)) := (Mod.refl _ _).alloc _
        have hb1 : (0 : Int) ≤ k := by omega
        have hb2 : (k : Int) < segs.length := by omega
        generalize segs[k] = x at *
        generalize decide (k + 1 = segs.length) = lst at *
        have hcalls : (∀ W, New wr W → Lib.hasPrefix x.data.toList [123] = true → Calls Tryz.prog 129 #[.string x, .slice A k c, .bool lst] W (fun e w' => e = .returned (.tuple #[.agg #[.int .i64 (partOf x acc lst).2.kind, .string (partOf x acc lst).2.name], .int .i64 (partOf x acc lst).1]) ∧ New W w')) ∧ (∀ W, Lib.hasPrefix x.data.toList [123] = false → Calls Tryz.prog 130 #[.string x] W (fun e w' => e = .returned (.tuple #[.agg #[.int .i64 (partOf x acc lst).2.kind, .string (partOf x acc lst).2.name], .int .i64 (partOf x acc lst).1]) ∧ New W w')) :=
          ⟨fun W h hp => route_paramOf x A k c acc lst W (by omega) hp (HO.out.sl.new h) (by omega), fun W hp => route_wordsOf x acc lst W (by omega) hp⟩
        generalize (partOf x acc lst).2.kind = qk at *
        generalize (partOf x acc lst).2.name = qn at *
        generalize (partOf x acc lst).1 = qe at *
        have HSP := hId hsp1
        have HST := hId hst1
        clear hsp1 hst1
        have HC := hId hcalls
        have HOF : Hid (∀ g, blkOf A = some g → L + 1 ≤ g ∧ g < wr.heap.size) := hId (fun g e => by
          rcases HO.out.blk with ⟨rfl, _, _⟩ | ⟨g', rfl, hB, htb⟩
          · cases e
          · injection e with e; subst e; exact ⟨hB, htb.lt⟩)
        clear hcalls hget hxz HP
        go_upto_region 9 with (fail)
        have HB := hId hbp
        have HM1 := hId (HM.out.trans hmp)
        have HL1 := hId (HL.out.new2 hmp)
        have HO1 := hId (HO.out.new hmp)
        have hz0 := hmp.size
        have HN0 := hId hmp
        clear hbp hmp HM HL HO
        have HM := HM1
        have HL := HL1
        have HO := HO1
        clear HM1 HL1 HO1
        generalize wr.alloc (.cells #[.int .i64 0, .string ⟨#[]⟩] 78) = wp at *
        generalize hpb : wr.heap.size = pb at *
        have HPB : Hid (L + 1 ≤ pb) := hId (by omega)
        have hpx1 := hpre wp
        clear hpre
        cases hp : Lib.hasPrefix x.data.toList [123] <;> rw [hp] at hpx1
        · have hcl := HC.out.2 wp hp
          clear HC HN0 hp
          go_upto_region 12 with (first | (refine hpx1.mono ?_; clear hpx1; rintro e w' ⟨rfl, rfl⟩))
          go_wp2_with fail
          refine hcl.mono ?_
          clear hcl
          rintro e w2 ⟨rfl, hm2⟩
          -- ex : what the segment gives; w2 the world behind the call
          have HM2 := hId (HM.out.trans hm2)
          have HB2 := hId (HB.out.new2 hm2)
          have HL2 := hId (HL.out.new2 hm2)
          have HO2 := hId (HO.out.mod hm2 (fun _ _ e => e))
          have hz2 := hm2.size
          clear HM HB HL HO hm2
          have d0 := HB2.out.cell 0
          have d1 := HB2.out.cell 1
          have f0 := HB2.out.frozen 0
          have f1 := HB2.out.frozen 1
          have dl := HB2.out.lt
          simp only [lqt, lqz, lqs] at d0 d1
          have hB3 := (HB2.out.set 0 (.int .i64 qk)).set 1 (.string qn)
          simp at hB3
          have HB3 := hId hB3
          have hm3 : Mod (fun k => k = pb) w2 ((w2.setCell ⟨pb, 0, none⟩ (.int .i64 qk)).setCell ⟨pb, 1, none⟩ (.string qn)) := Mod.setCell (S := fun k => k = pb) (p := ⟨pb, 1, none⟩) (Mod.setCell (S := fun k => k = pb) (p := ⟨pb, 0, none⟩) (Mod.refl _ _) (.inl rfl) _) (.inl rfl) _
          have HM3 : Hid (New w ((w2.setCell ⟨pb, 0, none⟩ (.int .i64 qk)).setCell ⟨pb, 1, none⟩ (.string qn))) := hId (HM2.out.step hm3 (fun i hi e => by have := HPB.out; omega))
          have HL3 := hId (HL2.out.mod hm3 (by have := HPB.out; omega))
          have HO3 := hId (HO2.out.mod hm3 (fun g e e2 => by have := HOF.out g e; omega))
          have hz3 := hm3.size
          clear hB3 hm3 HM2 HL2 HO2 HB2
          go_upto_region 13 with (fail)
          clear d0 d1 f0 f1 dl
          generalize (w2.setCell ⟨pb, 0, none⟩ (.int .i64 qk)).setCell ⟨pb, 1, none⟩ (.string qn) = w3 at *
          by_cases h0 : qe = 0
          · subst h0
            have HS1 := HST.out rfl
            have d0 := HB3.out.cell 0
            have d1 := HB3.out.cell 1
            have dl := HB3.out.lt
            simp only [lqt, lqz, lqs] at d0 d1
            go_wp2_with (at_builtin; refine wpList_push rfl _ _ _ rfl 24 Tryz.underlying72 einfo_part rfl (HO3.out.alloc _) ⟨qk, qn⟩ w3.heap.size rfl (Blk.new _ _ _) (fun j hj => PartD.one _ j hj) (by omega) (by omega) (by simp; omega) ?_; intro g8 cap8 w8 own8 hm8 hat8 hlt8)
            have HO8 := hId own8
            have HM8 : Hid (New w w8) := hId ((HM3.out.alloc _).step hm8 (fun i hi e => by have := HOF.out i e; have := HPB.out; omega))
            have HL8 := hId ((HL3.out.new2 ((Mod.refl _ _).alloc _)).mod hm8 (fun e => by have := HOF.out L e; omega))
            clear own8 hm8
            go_roundw
            case rel => exact ⟨k + 1, some ⟨g8, 0, none⟩, cap8, acc ++ [⟨qk, qn⟩], by omega, by go_num, rfl, hId (by have := HAC.out; simp; omega), hId HS1, HO8, HL8, HM8⟩
            case measure => simp [intOf]; omega
          · have h0' : (qe != 0) = true := by simpa using h0
            have HE := HSP.out h0
            clear h0
            go_wp2_with fail
            go_ret2
            exact RTp.fault HE HM3.out
        · have hcl := HC.out.1 wp HN0.out hp
          clear HC HN0 hp
          go_upto_region 11 with (first | (refine hpx1.mono ?_; clear hpx1; rintro e w' ⟨rfl, rfl⟩))
          go_wp2_with fail
          refine hcl.mono ?_
          clear hcl
          rintro e w2 ⟨rfl, hm2⟩
          -- ex : what the segment gives; w2 the world behind the call
          have HM2 := hId (HM.out.trans hm2)
          have HB2 := hId (HB.out.new2 hm2)
          have HL2 := hId (HL.out.new2 hm2)
          have HO2 := hId (HO.out.mod hm2 (fun _ _ e => e))
          have hz2 := hm2.size
          clear HM HB HL HO hm2
          have d0 := HB2.out.cell 0
          have d1 := HB2.out.cell 1
          have f0 := HB2.out.frozen 0
          have f1 := HB2.out.frozen 1
          have dl := HB2.out.lt
          simp only [lqt, lqz, lqs] at d0 d1
          have hB3 := (HB2.out.set 0 (.int .i64 qk)).set 1 (.string qn)
          simp at hB3
          have HB3 := hId hB3
          have hm3 : Mod (fun k => k = pb) w2 ((w2.setCell ⟨pb, 0, none⟩ (.int .i64 qk)).setCell ⟨pb, 1, none⟩ (.string qn)) := Mod.setCell (S := fun k => k = pb) (p := ⟨pb, 1, none⟩) (Mod.setCell (S := fun k => k = pb) (p := ⟨pb, 0, none⟩) (Mod.refl _ _) (.inl rfl) _) (.inl rfl) _
          have HM3 : Hid (New w ((w2.setCell ⟨pb, 0, none⟩ (.int .i64 qk)).setCell ⟨pb, 1, none⟩ (.string qn))) := hId (HM2.out.step hm3 (fun i hi e => by have := HPB.out; omega))
          have HL3 := hId (HL2.out.mod hm3 (by have := HPB.out; omega))
          have HO3 := hId (HO2.out.mod hm3 (fun g e e2 => by have := HOF.out g e; omega))
          have hz3 := hm3.size
          clear hB3 hm3 HM2 HL2 HO2 HB2
          go_upto_region 13 with (fail)
          clear d0 d1 f0 f1 dl
          generalize (w2.setCell ⟨pb, 0, none⟩ (.int .i64 qk)).setCell ⟨pb, 1, none⟩ (.string qn) = w3 at *
          by_cases h0 : qe = 0
          · subst h0
            have HS1 := HST.out rfl
            have d0 := HB3.out.cell 0
            have d1 := HB3.out.cell 1
            have dl := HB3.out.lt
            simp only [lqt, lqz, lqs] at d0 d1
            go_wp2_with (at_builtin; refine wpList_push rfl _ _ _ rfl 24 Tryz.underlying72 einfo_part rfl (HO3.out.alloc _) ⟨qk, qn⟩ w3.heap.size rfl (Blk.new _ _ _) (fun j hj => PartD.one _ j hj) (by omega) (by omega) (by simp; omega) ?_; intro g8 cap8 w8 own8 hm8 hat8 hlt8)
            have HO8 := hId own8
            have HM8 : Hid (New w w8) := hId ((HM3.out.alloc _).step hm8 (fun i hi e => by have := HOF.out i e; have := HPB.out; omega))
            have HL8 := hId ((HL3.out.new2 ((Mod.refl _ _).alloc _)).mod hm8 (fun e => by have := HOF.out L e; omega))
            clear own8 hm8
            go_roundw
            case rel => exact ⟨k + 1, some ⟨g8, 0, none⟩, cap8, acc ++ [⟨qk, qn⟩], by omega, by go_num, rfl, hId (by have := HAC.out; simp; omega), hId HS1, HO8, HL8, HM8⟩
            case measure => simp [intOf]; omega
          · have h0' : (qe != 0) = true := by simpa using h0
            have HE := HSP.out h0
            clear h0
            go_wp2_with fail
            go_ret2
            exact RTp.fault HE HM3.out
      · obtain rfl : k = segs.length := by omega
        have HE := hId (HQ.out.trans (partsOf_end HP.out))
        have hal := HAC.out
        by_cases h30 : 30 < segs.length
        · have h30' : (30 : Int) < (segs.length : Int) := by omega
          have HE2 : Hid (tplOf s = (2, [])) := hId (by rw [HE.out, if_pos (by omega)])
          clear hal
          go_wp2_with fail
          go_ret2
          exact RTp.fault HE2.out HM.out
        · have h30' : ¬ (30 : Int) < (segs.length : Int) := by omega
          have HE2 : Hid (tplOf s = (0, acc)) := hId (by rw [HE.out, if_neg (by omega)])
          clear hal
          go_wp2_with fail
          go_ret2
          exact ⟨A, segs.length, c, by rw [HE2.out]; rfl, by rw [HE2.out]; exact HO.out.sl, HM.out, by omega⟩


/-- the text of segments that stand -/
def slashed (l : List ByteArray) : List UInt8 := 47 :: Lib.join (l.map (·.data.toList)) [47]
/-- a path in its normal form: its error, and its text -/
def pathN (s : ByteArray) : Int × List UInt8 :=
  if pathBad s.data.toList ≠ 0 then (pathBad s.data.toList, []) else
  match normL s.data.toList with
  | none => (9, [])
  | some t => (0, slashed (dotsF (pieces ⟨(t.drop 1).toArray⟩ slB) []))
def decB (x : ByteArray) : ByteArray := ⟨((decL x.data.toList).getD []).toArray⟩
/-- a path's segments: the error, and what they stand for -/
def segsOf (s : ByteArray) : Int × List ByteArray :=
  if (pathN s).1 ≠ 0 then ((pathN s).1, []) else
  if 100 < (pieces ⟨((pathN s).2.drop 1).toArray⟩ slB).length then (2, []) else (0, (pieces ⟨((pathN s).2.drop 1).toArray⟩ slB).map decB)
/-- the text of segments, however long -/
def pathT (l : List ByteArray) : List UInt8 := l.flatMap fun s => 47 :: segL s.data.toList
def isDotB (s : ByteArray) : Bool := decide (s = dot1) || decide (s = dot2)
/-- the path that has some segments -/
def joinP (l : List ByteArray) : Int × List UInt8 :=
  if 100 < l.length then (2, []) else if l.length = 0 then (3, []) else if l.any isDotB then (5, []) else if 1000 < (pathT l).length then (2, []) else (0, pathT l)

/-- the parameters that parts take of segments -/
def matchL : List PartD → List ByteArray → List PairD → Option (List PairD)
  | [], segs, out => if segs = [] then some out else none
  | p :: ps, segs, out =>
    if p.kind = 3 then some (out ++ [(p.name, ⟨(pathT segs).toArray⟩)]) else
    match segs with
    | [] => none
    | s :: ss => if (p.kind = 1 ∧ s ≠ p.name) ∨ (p.kind = 2 ∧ s = emptyB) then none else matchL ps ss (if p.kind = 2 then out ++ [(p.name, s)] else out)
/-- what Match answers: the parameters, whether the path fits, the error -/
def matchOf (t path : ByteArray) : List PairD × Bool × Int :=
  if (tplOf t).1 ≠ 0 then ([], false, (tplOf t).1) else
  if (segsOf path).1 ≠ 0 then ([], false, (segsOf path).1) else
  match matchL (tplOf t).2 (segsOf path).2 [] with
  | none => ([], false, 0)
  | some l => (l, true, 0)

/-- the segments that a part makes -/
def builtP (p : PartD) (params : List PairD) : Int × List ByteArray :=
  if p.kind = 1 then (0, [p.name]) else
  match lookP params p.name with
  | none => (8, [])
  | some v => if p.kind = 2 then (if v = emptyB then (3, []) else (0, [v])) else if v = emptyB then (0, []) else segsOf v
def builtL : List PartD → List PairD → List ByteArray → Int × List ByteArray
  | [], _, out => (0, out)
  | p :: ps, params, out => if (builtP p params).1 ≠ 0 then ((builtP p params).1, []) else builtL ps params (out ++ (builtP p params).2)
def buildOf (t : ByteArray) (params : List PairD) : Int × List UInt8 :=
  if (tplOf t).1 ≠ 0 then ((tplOf t).1, []) else if 30 < params.length then (2, []) else if twiceP params then (6, []) else
  if (builtL (tplOf t).2 params []).1 ≠ 0 then ((builtL (tplOf t).2 params []).1, []) else joinP (builtL (tplOf t).2 params []).2

/-- how much segments weigh -/
def wtL (l : List ByteArray) : Nat := (l.map fun x => x.size + 1).sum
theorem wtL_cons (x : ByteArray) (l : List ByteArray) : wtL (x :: l) = x.size + 1 + wtL l := by simp [wtL]
theorem wtL_snoc (l : List ByteArray) (x : ByteArray) : wtL (l ++ [x]) = wtL l + (x.size + 1) := by simp [wtL]
theorem wtL_dropLast (l : List ByteArray) : wtL l.dropLast ≤ wtL l := by
  rcases List.eq_nil_or_concat l with rfl | ⟨l', x, rfl⟩
  · simp
  · rw [List.concat_eq_append, List.dropLast_concat, wtL_snoc]; omega
theorem wtL_mem {l : List ByteArray} {x : ByteArray} (h : x ∈ l) : x.size < wtL l := by
  induction l with
  | nil => cases h
  | cons a l ih =>
    rw [wtL_cons]
    rcases List.mem_cons.1 h with rfl | h
    · omega
    · have := ih h; omega
theorem dotsF_wt : ∀ (xs st : List ByteArray), wtL (dotsF xs st) ≤ wtL xs + wtL st
  | [], st => by simp [dotsF]
  | x :: xs, st => by
    rw [dotsF, wtL_cons]
    have hd := wtL_dropLast st
    have he : (emptyB : ByteArray).size = 0 := rfl
    split
    · rename_i h
      have : x.size = 1 := by rw [h]; rfl
      have := dotsF_wt xs (if xs.isEmpty then st ++ [emptyB] else st)
      split at this
      · rename_i h2; rw [if_pos h2]; rw [wtL_snoc] at this; omega
      · rename_i h2; rw [if_neg h2]; omega
    · split
      · rename_i h
        have : x.size = 2 := by rw [h]; rfl
        have := dotsF_wt xs (if xs.isEmpty then st.dropLast ++ [emptyB] else st.dropLast)
        split at this
        · rename_i h2; rw [if_pos h2]; rw [wtL_snoc] at this; omega
        · rename_i h2; rw [if_neg h2]; omega
      · have := dotsF_wt xs (st ++ [x])
        rw [wtL_snoc] at this
        omega
theorem pieces_wt : ∀ (n : Nat) (t : ByteArray), t.size ≤ n → wtL (pieces t slB) = t.size + 1 := by
  intro n
  induction n with
  | zero =>
    intro t ht
    rcases Lib.indexB_cases t slB with h | ⟨i, h, hi⟩
    · rw [pieces_miss h]; simp [wtL]
    · have : (slB : ByteArray).size = 1 := rfl
      omega
  | succ n ih =>
    intro t ht
    have h1 : (slB : ByteArray).size = 1 := rfl
    rcases Lib.indexB_cases t slB with h | ⟨i, h, hi⟩
    · rw [pieces_miss h]; simp [wtL]
    · rw [pieces_hit (Nat.le_refl _) h, wtL_cons, ih]
      · simp only [ByteArray.size_extract, h1]
        omega
      · simp only [ByteArray.size_extract, h1]
        omega
theorem join_wt (l : List ByteArray) : (Lib.join (l.map (·.data.toList)) [47]).length ≤ wtL l := by
  cases l with
  | nil => simp [Lib.join_nil, wtL]
  | cons x l =>
    have key : ∀ (x : ByteArray) (l : List ByteArray), (Lib.join ((x :: l).map (·.data.toList)) [47]).length + 1 ≤ wtL (x :: l) := by
      intro x l
      induction l generalizing x with
      | nil =>
        rw [wtL_cons]
        have : x.data.toList.length = x.size := rfl
        simp only [List.map_cons, List.map_nil, Lib.join_one]
        omega
      | cons y l ih =>
        have h1 := ih y
        rw [wtL_cons]
        have : x.data.toList.length = x.size := rfl
        have e : Lib.join ((x :: y :: l).map (·.data.toList)) [47] = x.data.toList ++ [47] ++ Lib.join ((y :: l).map (·.data.toList)) [47] := by
          simp [Lib.join, List.intercalate, List.intersperse]
        rw [e, List.length_append, List.length_append, List.length_singleton]
        omega
    have := key x l
    omega
theorem pathT_wt (l : List ByteArray) : (pathT l).length ≤ 3 * wtL l := by
  induction l with
  | nil => simp [pathT]
  | cons x l ih =>
    have h1 := segL_length x.data.toList
    have h2 : x.data.toList.length = x.size := rfl
    rw [wtL_cons]
    unfold pathT at ih ⊢
    rw [List.flatMap_cons, List.length_append, List.length_cons]
    omega
theorem decB_size (x : ByteArray) : (decB x).size ≤ x.size := by
  unfold decB
  show (List.toArray _).size ≤ _
  rw [List.size_toArray]
  cases h : decL x.data.toList with
  | none => simp
  | some o => exact decL_length _ _ _ (Nat.le_refl _) h
theorem decB_wt (l : List ByteArray) : wtL (l.map decB) ≤ wtL l := by
  induction l with
  | nil => simp
  | cons x l ih => have := decB_size x; rw [List.map_cons, wtL_cons, wtL_cons]; omega
/-- a path in its normal form is no longer than three times the path -/
theorem pathN_ok {s : ByteArray} (h : (pathN s).1 = 0) (hs : s.size ≤ 1000) : ∃ t, (pathN s).2 = 47 :: t ∧ t.length ≤ 3001 := by
  unfold pathN at h ⊢
  split at h
  · rename_i h1; exact absurd h h1
  · rename_i h1
    rw [if_neg h1]
    cases hn : normL s.data.toList with
    | none => rw [hn] at h; cases h
    | some t =>
      simp only
      refine ⟨_, rfl, ?_⟩
      have h2 := normL_length hn
      have h3 : s.data.toList.length = s.size := rfl
      have h4 := join_wt (dotsF (pieces ⟨(t.drop 1).toArray⟩ slB) [])
      have h5 := dotsF_wt (pieces ⟨(t.drop 1).toArray⟩ slB) []
      have h6 := pieces_wt _ (⟨(t.drop 1).toArray⟩ : ByteArray) (Nat.le_refl _)
      have h7 : (⟨(t.drop 1).toArray⟩ : ByteArray).size ≤ t.length := by
        show (List.toArray _).size ≤ _
        rw [List.size_toArray, List.length_drop]
        omega
      have h8 : wtL [] = 0 := rfl
      omega


theorem dropW_self (p : UInt8 → Bool) : ∀ l : List UInt8, l.dropWhile p = l ↔ ∀ c, l.head? = some c → p c = false
  | [] => by simp
  | a :: l => by
    rw [List.dropWhile_cons]
    cases h : p a
    · simp [h]
    · simp only [if_true, List.head?_cons, Option.some.injEq]
      constructor
      · intro e
        have h1 := congrArg List.length e
        have h2 := (List.dropWhile_sublist p (l := l)).length_le
        simp at h1
        omega
      · intro e
        rw [e a rfl] at h
        cases h
theorem dropW_len (p : UInt8 → Bool) (l : List UInt8) : (l.dropWhile p).length ≤ l.length := (List.dropWhile_sublist p).length_le
theorem trimS_one (l : List UInt8) (k : UInt8) : Lib.trimS l [k] = l ↔ l.head? ≠ some k ∧ l.getLast? ≠ some k := by
  have hc : ∀ c : UInt8, ([k] : List UInt8).contains c = false ↔ c ≠ k := fun c => by simp [List.contains_cons]
  have hR : (l.reverse.dropWhile (([k] : List UInt8).contains ·)).reverse = l ↔ l.getLast? ≠ some k := by
    rw [show ((l.reverse.dropWhile (([k] : List UInt8).contains ·)).reverse = l) ↔ (l.reverse.dropWhile (([k] : List UInt8).contains ·) = l.reverse) from ⟨fun e => by rw [← List.reverse_reverse (List.dropWhile _ _), e], fun e => by rw [e, List.reverse_reverse]⟩]
    rw [dropW_self, List.head?_reverse]
    constructor
    · intro h e
      exact (hc k).1 (h k e) rfl
    · intro h c e
      exact (hc c).2 (fun q => h (by rw [e, q]))
  have hL : ∀ m : List UInt8, m.dropWhile (([k] : List UInt8).contains ·) = m ↔ m.head? ≠ some k := fun m => by
    rw [dropW_self]
    constructor
    · intro h e
      exact (hc k).1 (h k e) rfl
    · intro h c e
      exact (hc c).2 (fun q => h (by rw [e, q]))
  unfold Lib.trimS Lib.trimLeftS Lib.trimRightS
  constructor
  · intro e
    have h1 := dropW_len (([k] : List UInt8).contains ·) (l.reverse.dropWhile (([k] : List UInt8).contains ·)).reverse
    have h2 := dropW_len (([k] : List UInt8).contains ·) l.reverse
    have h3 := congrArg List.length e
    simp only [List.length_reverse] at h1 h2 h3
    have h4 : l.reverse.dropWhile (([k] : List UInt8).contains ·) = l.reverse := (List.dropWhile_sublist _).eq_of_length (by simp only [List.length_reverse]; omega)
    have h5 : (l.reverse.dropWhile (([k] : List UInt8).contains ·)).reverse = l := by rw [h4, List.reverse_reverse]
    rw [h5] at e
    exact ⟨(hL l).1 e, hR.1 h5⟩
  · rintro ⟨h1, h2⟩
    rw [hR.2 h2]
    exact (hL l).2 h1

/-- what may stand in a token -/
def tokMarks : List UInt8 := [33, 35, 36, 37, 38, 39, 42, 43, 45, 46, 94, 95, 96, 124, 126]
def tokN (c : UInt8) : Bool := isLetN c.toNat || isDigN c.toNat || tokMarks.contains c
def isTok (s : ByteArray) : Bool := s.data.toList.all tokN && decide (s.size ≠ 0) && decide (s.size ≤ 100)
def tokB : ByteArray := ⟨#[97, 98, 99, 100, 101, 102, 103, 104, 105, 106, 107, 108, 109, 110, 111, 112, 113, 114, 115, 116, 117, 118, 119, 120, 121, 122, 65, 66, 67, 68, 69, 70, 71, 72, 73, 74, 75, 76, 77, 78, 79, 80, 81, 82, 83, 84, 85, 86, 87, 88, 89, 90, 48, 49, 50, 51, 52, 53, 54, 55, 56, 57, 33, 35, 36, 37, 38, 39, 42, 43, 45, 46, 94, 95, 96, 124, 126]⟩
theorem tok_at (c : UInt8) : decide (0 ≤ Lib.indexByte tokB.data.toList c) = tokN c := by
  revert c
  apply byteOf
  decide +kernel
theorem tmark_at (c : UInt8) : decide (0 ≤ Lib.indexByte tokMarks c) = tokMarks.contains c := by
  revert c
  apply byteOf
  decide +kernel
theorem tok_ascii {c : UInt8} (h : tokN c = true) : c.toNat < 128 := by
  revert h
  revert c
  apply byteOf
  decide +kernel

/-- no small letter; no great one -/
def noLow (l : List UInt8) : Bool := l.all fun c => !(decide (97 ≤ c.toNat) && decide (c.toNat ≤ 122))
def noUp (l : List UInt8) : Bool := l.all fun c => !(decide (65 ≤ c.toNat) && decide (c.toNat ≤ 90))
theorem upperB_self (c : UInt8) : decide (Lib.upperB c = c) = !(decide (97 ≤ c.toNat) && decide (c.toNat ≤ 122)) := by
  revert c
  apply byteOf
  decide +kernel
theorem lowerB_self (c : UInt8) : decide (Lib.lowerB c = c) = !(decide (65 ≤ c.toNat) && decide (c.toNat ≤ 90)) := by
  revert c
  apply byteOf
  decide +kernel
theorem map_self {f : UInt8 → UInt8} : ∀ l : List UInt8, decide (l.map f = l) = l.all fun c => decide (f c = c)
  | [] => rfl
  | a :: l => by
    rw [List.all_cons, ← map_self l, List.map_cons, Bool.eq_iff_iff]
    simp
theorem upper_self (l : List UInt8) : decide (Lib.toUpperA l = l) = noLow l := by
  unfold Lib.toUpperA noLow
  rw [map_self]
  congr 1
  funext c
  exact upperB_self c
theorem lower_self (l : List UInt8) : decide (Lib.toLowerA l = l) = noUp l := by
  unfold Lib.toLowerA noUp
  rw [map_self]
  congr 1
  funext c
  exact lowerB_self c

/-- a field's value -/
def isFld (s : ByteArray) : Bool := decide (s.size ≤ 2000) && s.data.toList.all (fun c => decide (32 ≤ c.toNat) && decide (c.toNat ≤ 126)) && decide (Lib.trimS s.data.toList [32] = s.data.toList)

/-- a part of a host's name -/
def labC (c : UInt8) : Bool := isLetN c.toNat || isDigN c.toNat || decide (c = 45)
def labOk (l : List UInt8) : Bool := l.all labC && decide (l ≠ []) && decide (l.length ≤ 63) && decide (l.head? ≠ some 45) && decide (l.getLast? ≠ some 45)
def labB : ByteArray := ⟨#[97, 98, 99, 100, 101, 102, 103, 104, 105, 106, 107, 108, 109, 110, 111, 112, 113, 114, 115, 116, 117, 118, 119, 120, 121, 122, 65, 66, 67, 68, 69, 70, 71, 72, 73, 74, 75, 76, 77, 78, 79, 80, 81, 82, 83, 84, 85, 86, 87, 88, 89, 90, 48, 49, 50, 51, 52, 53, 54, 55, 56, 57, 45]⟩
theorem lab_at (c : UInt8) : decide (0 ≤ Lib.indexByte labB.data.toList c) = labC c := by
  revert c
  apply byteOf
  decide +kernel
theorem lab_ascii {c : UInt8} (h : labC c = true) : c.toNat < 128 := by
  revert h
  revert c
  apply byteOf
  decide +kernel
theorem labOk_ref (l : List UInt8) : labOk l = (decide (1 ≤ l.length) && decide (l.length ≤ 63) && l.all labC && decide (Lib.trimS l [45] = l)) := by
  unfold labOk
  rw [Bool.eq_iff_iff]
  simp only [Bool.and_eq_true, decide_eq_true_eq, trimS_one]
  constructor
  · rintro ⟨⟨⟨⟨h1, h2⟩, h3⟩, h4⟩, h5⟩
    refine ⟨⟨⟨?_, h3⟩, h1⟩, h4, h5⟩
    cases l with
    | nil => exact absurd rfl h2
    | cons a l => simp
  · rintro ⟨⟨⟨h1, h2⟩, h3⟩, h4, h5⟩
    refine ⟨⟨⟨⟨h3, ?_⟩, h2⟩, h4⟩, h5⟩
    rintro rfl
    simp at h1

/-- may this byte stand at place i of a key? -/
def okAt (i : Nat) (c : Nat) : Bool := (decide (97 ≤ c) && decide (c ≤ 122)) || (decide (0 < i) && ((decide (48 ≤ c) && decide (c ≤ 57)) || decide (c = 45) || decide (c = 95)))
def okTo (s : ByteArray) (k : Nat) : Bool := (List.range k).all fun i => okAt i (s[i]?.getD 0).toNat
def isKey (s : ByteArray) : Bool := okTo s s.size && decide (s.size ≠ 0) && decide (s.size ≤ 40)

theorem okTo_succ (s : ByteArray) (k : Nat) : okTo s (k + 1) = (okTo s k && okAt k (s[k]?.getD 0).toNat) := by
  simp [okTo, List.range_succ]
theorem okTo_false {s : ByteArray} {k n : Nat} (h : okTo s k = false) (hk : k ≤ n) : okTo s n = false := by
  induction n with
  | zero => obtain rfl : k = 0 := by omega
            exact h
  | succ n ih =>
    by_cases e : k = n + 1
    · subst e; exact h
    · rw [okTo_succ, ih (by omega)]; rfl

theorem str_empty {s : ByteArray} : s.size = 0 ↔ s.toList = [] := by
  rw [ByteArray.toList_eq]
  cases s with | mk d => simp [ByteArray.size]

set_option maxHeartbeats 1000000 in
theorem kit_isKey (s : ByteArray) (w : World) (hs : s.size ≤ maxLen) :
    Calls Tryz.prog 74 #[.string s] w fun e w' => e = .returned (.bool (isKey s)) ∧ w = w' := by
  unfold maxLen at hs
  go_enter Tryz.func74, Tryz.ntmps74
  go_wp2
  go_loop [3, 4] (fun i c => ∃ k : Nat, k ≤ s.size ∧ i = .int .i64 k ∧ okTo s k = true) (fun i _ => s.size - (intOf i).toNat)
  case atStart => exact ⟨0, Nat.zero_le _, rfl, rfl⟩
  case round =>
    obtain ⟨k, hk, rfl, hto⟩ := hrel
    have HT := hId hto
    clear hto
    by_cases hlt : k < s.size
    · have hg : s[k]?.getD 0 = s[k] := by simp [hlt]
      have HG := hId hg
      clear hg
      go_wp2
      all_goals (try go_ret)
      all_goals simp only [Bool.not_eq_true', beq_eq_false_iff_ne, Bool.not_eq_false', beq_iff_eq] at *
      all_goals first
        | (refine ⟨⟨k + 1, by omega, by go_num, ?_⟩, by simp [intOf]; omega⟩
           rw [okTo_succ, HT.out, HG.out]; simp [okAt]; omega)
        | (refine ⟨?_, by first | rfl | trivial⟩
           have hz : okAt k s[k].toNat = false := by simp [okAt]; omega
           have := okTo_false (n := s.size) (show okTo s (k + 1) = false by rw [okTo_succ, HT.out, HG.out, hz]; rfl) (by omega)
           simp [isKey, this])
    · obtain rfl : k = s.size := by omega
      go_wp2
      all_goals go_ret
      · have : s.size ≠ 0 := by intro h; rw [str_empty] at h; simp_all
        refine ⟨?_, rfl⟩
        simp [isKey, HT.out, this]
        omega
      · refine ⟨?_, rfl⟩
        have : s.size = 0 := by rw [str_empty]; simp_all
        simp [isKey, this]

/-- does each of the first k bytes of s stand in t? -/
def onlyTo (s t : ByteArray) (k : Nat) : Bool := (List.range k).all fun i => decide (0 ≤ Lib.indexByte t.data.toList (s[i]?.getD 0))
theorem onlyTo_succ (s t : ByteArray) (k : Nat) : onlyTo s t (k + 1) = (onlyTo s t k && decide (0 ≤ Lib.indexByte t.data.toList (s[k]?.getD 0))) := by
  simp [onlyTo, List.range_succ]
theorem onlyTo_false {s t : ByteArray} {k n : Nat} (h : onlyTo s t k = false) (hk : k ≤ n) : onlyTo s t n = false := by
  induction n with
  | zero => obtain rfl : k = 0 := by omega
            exact h
  | succ n ih =>
    by_cases e : k = n + 1
    · subst e; exact h
    · rw [onlyTo_succ, ih (by omega)]; rfl

set_option maxHeartbeats 1000000 in
theorem ref_only (s t : ByteArray) (w : World) (hs : s.size ≤ maxLen) :
    Calls Tryz.prog 94 #[.string s, .string t] w fun e w' => e = .returned (.bool (onlyTo s t s.size)) ∧ w = w' := by
  unfold maxLen at hs
  go_enter Tryz.func94, Tryz.ntmps94
  go_wp2
  go_loop [5, 8] (fun _ i => ∃ k : Nat, k ≤ s.size ∧ i = .int .i64 k ∧ onlyTo s t k = true) (fun _ i => s.size - (intOf i).toNat)
  case atStart => exact ⟨0, Nat.zero_le _, rfl, rfl⟩
  case round =>
    obtain ⟨k, hk, rfl, hto⟩ := hrel
    have HT := hId hto
    clear hto
    by_cases hlt : k < s.size
    · have hg : s[k]?.getD 0 = s[k] := by simp [hlt]
      have HG := hId hg
      clear hg
      go_wp2_with fail
      refine (Tryz.strings_IndexByte t _ _).mono ?_
      rintro e w' ⟨rfl, rfl⟩
      have hcv : ((s[k].toNat : Int)).toNat.toUInt8 = s[k] := by simp
      rw [hcv]
      clear hcv
      go_wp2_with fail
      all_goals (try go_ret)
      · refine ⟨?_, rfl⟩
        rw [onlyTo_false (n := s.size) (show onlyTo s t (k + 1) = false by rw [onlyTo_succ, HT.out, HG.out]; simp; assumption) (by omega)]; rfl
      · refine ⟨⟨k + 1, by omega, by go_num, ?_⟩, by simp [intOf]; omega⟩
        rw [onlyTo_succ, HT.out, HG.out]; simp; assumption
    · obtain rfl : k = s.size := by omega
      go_wp2_with fail
      all_goals go_ret
      exact ⟨by rw [HT.out]; rfl, rfl⟩

def smalls : ByteArray := ⟨#[97, 98, 99, 100, 101, 102, 103, 104, 105, 106, 107, 108, 109, 110, 111, 112, 113, 114, 115, 116, 117, 118, 119, 120, 121, 122]⟩
def keyChars : ByteArray := ⟨#[97, 98, 99, 100, 101, 102, 103, 104, 105, 106, 107, 108, 109, 110, 111, 112, 113, 114, 115, 116, 117, 118, 119, 120, 121, 122, 48, 49, 50, 51, 52, 53, 54, 55, 56, 57, 45, 95]⟩

theorem of_byte {p : UInt8 → Prop} (h : ∀ n, n < 256 → p (UInt8.ofNat n)) (c : UInt8) : p c := by
  have := h c.toNat (by have := c.toNat_lt; simpa using this)
  simpa using this
theorem smalls_at (c : UInt8) : decide (0 ≤ Lib.indexByte smalls.data.toList c) = (decide (97 ≤ c.toNat) && decide (c.toNat ≤ 122)) := by
  revert c
  apply of_byte
  decide +kernel
theorem keyChars_at (c : UInt8) : decide (0 ≤ Lib.indexByte keyChars.data.toList c) = okAt 1 c.toNat := by
  revert c
  apply of_byte
  decide +kernel

theorem okAt_pos {i : Nat} (h : 0 < i) (c : Nat) : okAt i c = okAt 1 c := by simp [okAt, h]
theorem okAt_zero (c : Nat) : okAt 0 c = (decide (97 ≤ c) && decide (c ≤ 122)) := by simp [okAt]
theorem okAt_one_of_zero {c : Nat} (h : okAt 0 c = true) : okAt 1 c = true := by simp [okAt] at *; omega

theorem okTo_eq (s : ByteArray) (k : Nat) : okTo s (k + 1) = (okAt 0 (s[0]?.getD 0).toNat && onlyTo s keyChars (k + 1)) := by
  induction k with
  | zero =>
    rw [okTo_succ, onlyTo_succ, keyChars_at]
    simp only [okTo, onlyTo, List.range_zero, List.all_nil, Bool.true_and]
    cases h : okAt 0 (s[0]?.getD 0).toNat
    · rfl
    · rw [okAt_one_of_zero h]; rfl
  | succ k ih =>
    rw [okTo_succ, ih, onlyTo_succ s keyChars (k + 1), keyChars_at, okAt_pos (show 0 < k + 1 by omega), Bool.and_assoc]

/-- the first byte alone -/
theorem only_head (s : ByteArray) (h : 0 < s.size) : onlyTo (s.extract 0 1) smalls (s.extract 0 1).size = okAt 0 (s[0]?.getD 0).toNat := by
  have hz : (s.extract 0 1).size = 1 := by simp; omega
  rw [hz, onlyTo_succ, smalls_at, okAt_zero]
  have : (s.extract 0 1)[0]? = s[0]? := by
    rw [getElem?_pos (s.extract 0 1) 0 (by omega), getElem?_pos s 0 h]
    simp [ByteArray.getElem_extract]
  rw [this]
  simp [onlyTo]

def refKey (s : ByteArray) : Bool := decide (1 ≤ s.size) && decide (s.size ≤ 40) && onlyTo (s.extract 0 1) smalls (s.extract 0 1).size && onlyTo s keyChars s.size
theorem refKey_eq (s : ByteArray) : refKey s = isKey s := by
  unfold refKey isKey
  by_cases h : s.size = 0
  · simp [h]
  · obtain ⟨k, hk⟩ : ∃ k, s.size = k + 1 := ⟨s.size - 1, by omega⟩
    rw [only_head s (by omega), hk, okTo_eq]
    simp
    cases okAt 0 (s[0]?.getD 0).toNat <;> cases onlyTo s keyChars (k + 1) <;> simp

set_option maxHeartbeats 1000000 in
theorem ref2_in (n a b : Int) (w : World) :
    Calls Tryz.prog 93 #[.int .i64 n, .int .i64 a, .int .i64 b] w fun e w' => e = .returned (.bool (decide (a ≤ n) && decide (n ≤ b))) ∧ w = w' := by
  by_cases h : a ≤ n
  · go_enter Tryz.func93, Tryz.ntmps93
    go_wp2
    go_ret
    exact ⟨by simp [h], rfl⟩
  · have h' : decide (a ≤ n) = false := by simpa using h
    go_enter Tryz.func93, Tryz.ntmps93
    go_wp2
    go_ret
    exact ⟨by simp [h'], rfl⟩

set_option maxHeartbeats 1000000 in
theorem ref_key (s : ByteArray) (w : World) (hs : s.size ≤ maxLen) :
    Calls Tryz.prog 34 #[.string s] w fun e w' => e = .returned (.bool (isKey s)) ∧ w = w' := by
  rw [← refKey_eq]
  unfold maxLen at hs
  go_enter Tryz.func34, Tryz.ntmps34
  go_wp2_with fail
  refine (ref2_in _ _ _ _).mono ?_
  rintro e w' ⟨rfl, rfl⟩
  by_cases h1 : 1 ≤ s.size ∧ s.size ≤ 40
  · have e1 : (decide (1 ≤ (s.size : Int)) && decide ((s.size : Int) ≤ 40)) = true := by simp; omega
    rw [e1]
    have e2 : (s.size : Int) ≥ 1 := by omega
    go_wp2_with fail
    refine (ref_only (s.extract 0 1) smalls _ (by simp [maxLen]; omega)).mono ?_
    rintro e w' ⟨rfl, rfl⟩
    cases h2 : onlyTo (s.extract 0 1) smalls (s.extract 0 1).size
    · go_wp2_with fail
      go_ret
      refine ⟨?_, rfl⟩
      simp only [refKey, h2, h1.1, h1.2]
      simp
    · go_wp2_with fail
      refine (ref_only s keyChars _ (by simp [maxLen]; omega)).mono ?_
      rintro e w' ⟨rfl, rfl⟩
      go_wp2_with fail
      go_ret
      refine ⟨?_, rfl⟩
      simp only [refKey, h2, h1.1, h1.2]
      simp
  · have e1 : (decide (1 ≤ (s.size : Int)) && decide ((s.size : Int) ≤ 40)) = false := by simp; omega
    rw [e1]
    go_wp2_with fail
    go_ret
    refine ⟨?_, rfl⟩
    simp [refKey]
    omega

end Go.Proofs.YtnlloaimplgjnaaGreatDoor
