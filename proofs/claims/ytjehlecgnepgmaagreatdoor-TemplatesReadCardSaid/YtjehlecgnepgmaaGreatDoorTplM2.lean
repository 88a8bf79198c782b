/- What the maker of a template's parts hands out: up to three parts with short names. Conditions: those of the stream. -/
import Derived.Test.YtjehlecgnepgmaaGreatDoorTplM
import Derived.Test.YtjehlecgnepgmaaGreatDoorTpl3
import Derived.Test.YtjehlecgnepgmaaGreatDoorRow
namespace Go.Proofs.YtjehlecgnepgmaaGreatDoor
open Go.RowKit
set_option linter.unusedVariables false
set_option linter.unusedSimpArgs false

theorem flat_set2 {α : Type} (enc : α → Nat → Value) (y : α) : ∀ (xs : List α) (i : Nat) (h : i < xs.length),
    ((xs.flatMap (encL 2 enc)).set (i * 2) (enc y 0)).set (i * 2 + 1) (enc y 1) = (xs.set i y).flatMap (encL 2 enc)
  | [], i, h => by simp at h
  | x :: xs, 0, _ => by simp [encL, List.range_succ, List.range_zero]
  | x :: xs, i + 1, h => by
    have ih := flat_set2 enc y xs i (by simpa using h)
    have e : (i + 1) * 2 = i * 2 + 2 := by omega
    rw [e, show i * 2 + 2 + 1 = i * 2 + 1 + 2 by omega]
    simp only [List.flatMap_cons, List.set_cons_succ]
    rw [← ih]
    simp [encL, List.range_succ, List.range_zero]
theorem Own.set2 {α : Type} {w : World} {B : Nat} {t : TypeId} {enc : α → Nat → Value} {n c g : Nat} {xs : List α} (h : Own w B t 2 enc (some ⟨g, 0, none⟩) n c xs) {i : Nat} (hi : i < xs.length) (y : α) :
    Own ((w.setCell ⟨g, i * 2, none⟩ (enc y 0)).setCell ⟨g, i * 2 + 1, none⟩ (enc y 1)) B t 2 enc (some ⟨g, 0, none⟩) n c (xs.set i y) :=
  ⟨by simpa using h.1, by rw [← flat_set2 enc y xs i hi]; exact ((h.2.stored _ _).1.stored _ _).1⟩
def PTiny (ps : List PartD) : Prop := ∀ p ∈ ps, p.name.size ≤ 10
def RParts (b : Nat) (w : World) (k : Nat) (e : Ending) (w' : World) : Prop := ∃ A n c ls, e = .returned (.slice A n c) ∧ PSl w' A n ls ∧ n ≤ c ∧ n ≤ 3 ∧ PTiny ls ∧ SStep b w w' k

set_option maxRecDepth 100000 in
set_option maxHeartbeats 700000 in
theorem parts_any (b k : Nat) (w : World) (hs : SInv b w k) (hk : k < 4611686018426000000) :
    Calls Tryz.prog 6 #[.pointer (some ⟨b, 0, none⟩)] w (RParts b w (k + 60)) := by
  have hbl := hs.lt
  have T0 := (SStep.refl hs).alloc (.cells #[.string ⟨#[105, 100]⟩, .string ⟨#[120]⟩, .string ⟨#[114, 101, 115, 116]⟩] 9)
  have BK := Blk.new w 9 #[.string ⟨#[105, 100]⟩, .string ⟨#[120]⟩, .string ⟨#[114, 101, 115, 116]⟩]
  go_enter Tryz.func6, Tryz.ntmps6
  go_wp2_with fail
  have hz0 : (w.alloc (.cells #[.string ⟨#[105, 100]⟩, .string ⟨#[120]⟩, .string ⟨#[114, 101, 115, 116]⟩] 9)).heap.size = w.heap.size + 1 := by simp
  generalize w.alloc (.cells #[.string ⟨#[105, 100]⟩, .string ⟨#[120]⟩, .string ⟨#[114, 101, 115, 116]⟩] 9) = w0 at *
  generalize hnb : w.heap.size = nb at *
  refine (range_any b k 0 3 w0 T0.inv (by omega) (by omega) (by omega) (by omega)).mono ?_
  rintro e w1 ⟨m, rfl, m0, m1, h1⟩
  obtain ⟨m, rfl⟩ := Int.eq_ofNat_of_zero_le m0
  have BK1 := BK.mod h1.only (by omega)
  have T1 := (T0.trans h1)
  have hz1 := h1.only.size
  have hb1' : (m : Int) ≤ 3 := by omega
  have hm3 : m ≤ 3 := by omega
  clear BK h1 T0 hs
  go_wp2_with fail
  have HNB0 := Lib.hid BK1
  have T10 := Lib.hid (T1.more (show k + 1 ≤ k + 10 by omega))
  clear BK1 T1
  go_loopw [3, 13] (fun o i wr => ∃ (j : Nat) (A : Option Addr) (c : Nat) (ls : List PartD), j ≤ m ∧ i = .int .i64 j ∧ o = .slice A j c ∧ Hid (Own wr (nb + 1) 34 2 PartD.enc A j c ls) ∧ Hid (PTiny ls) ∧ Hid (SStep b w wr (k + 10 + 10 * j)) ∧ Hid (Blk wr nb 9 #[.string ⟨#[105, 100]⟩, .string ⟨#[120]⟩, .string ⟨#[114, 101, 115, 116]⟩])) (fun _ i _ => m - (intOf i).toNat)
  case atStart => exact ⟨0, none, 0, [], Nat.zero_le _, rfl, rfl, Lib.hid Own.nil, Lib.hid (fun p hp => by simp at hp), T10, HNB0⟩
  case round =>
    clear T10 HNB0
    rename World => wr
    obtain ⟨j, A, c, ls, hj, rfl, rfl, HO, HPT, T, HNB⟩ := hrel
    have HOF : Hid (∀ g', blkOf A = some g' → nb + 1 ≤ g') := Lib.hid (fun g' e => HO.out.farB g' e)
    have hTz := T.out.only.size
    by_cases hlt : j < m
    · have hkey : ∃ key : ByteArray, key.size ≤ 10 ∧ wr.cell? ⟨nb, j, none⟩ = some (.string key) := by
        rcases (by omega : j = 0 ∨ j = 1 ∨ j = 2) with rfl | rfl | rfl
        · exact ⟨⟨#[105, 100]⟩, by decide, (HNB.out.cell 0).trans rfl⟩
        · exact ⟨⟨#[120]⟩, by decide, (HNB.out.cell 1).trans rfl⟩
        · exact ⟨⟨#[114, 101, 115, 116]⟩, by decide, (HNB.out.cell 2).trans rfl⟩
      obtain ⟨key, hks, hkc⟩ := hkey
      have hnl := HNB.out.lt
      have hb1 : (0 : Int) ≤ j := by omega
      have hb2 : (j : Int) < m := by omega
      go_wp2_with fail
      refine (pick_any [1, 2] b _ wr.heap.size 2 _ (T.out.alloc _).inv (by omega) (Blk.new _ _ _) rfl (by omega) (by omega)).mono ?_
      rintro e w2 ⟨z, rfl, hz, h2⟩
      have hzz : z = 1 ∨ z = 2 := by simpa using hz
      have T2 := Lib.hid ((T.out.alloc (.cells #[.int .i64 1, .int .i64 2] 3)).trans h2)
      have HO2 := Lib.hid ((HO.out.alloc (.cells #[.int .i64 1, .int .i64 2] 3)).mod h2.only (fun g e e2 => by have := HOF.out g e; omega))
      have HN2 := Lib.hid ((HNB.out.new2 ((Mod.refl _ _).alloc (.cells #[.int .i64 1, .int .i64 2] 3))).mod h2.only (by omega))
      have hTz2 := T2.out.only.size
      clear h2 hz T HO HNB hkc
      go_upto_region 6 with fail
      have hbp := Blk.new w2 34 #[.int .i64 z, .string key]
      have hmp : New w2 (w2.alloc (.cells #[.int .i64 z, .string key] 34)) := (Mod.refl _ _).alloc _
      have T3 := Lib.hid (T2.out.new hmp)
      have HO3 := Lib.hid (HO2.out.new hmp)
      have HN3 := Lib.hid (HN2.out.new2 hmp)
      have HO2' := HO2
      have hnl2 := HN2.out.lt
      clear hmp T2 HO2 HN2
      have hwz3 : w2.heap.size + 1 ≤ (w2.alloc (.cells #[.int .i64 z, .string key] 34)).heap.size := by simp
      have HPB := Lib.hid hbp
      have HKZ := Lib.hid hks
      have HPF : Hid (∀ g', blkOf A = some g' → g' < w2.heap.size) := Lib.hid (fun g' e => by
        rcases HO2'.out.blk with ⟨rfl, _, _⟩ | ⟨g'', rfl, hB, htb⟩
        · cases e
        · injection e with e; subst e; exact htb.lt)
      clear hbp HO2'
      have hnp : nb < w2.heap.size := by omega
      generalize w2.alloc (.cells #[.int .i64 z, .string key] 34) = w3 at *
      generalize w2.heap.size = pb at *
      have HO := HO3
      have HNB := HN3
      have T := T3
      clear HO3 HN3 T3
      rcases hzz with rfl | rfl
      · have p0 := HPB.out.cell 0
        have p1 := HPB.out.cell 1
        have fp0 := HPB.out.frozen 0
        have fp1 := HPB.out.frozen 1
        have pl := HPB.out.lt
        simp only [List.getElem?_toArray, List.getElem?_cons_zero, List.getElem?_cons_succ] at p0 p1
        go_wp2_with fail
        refine (some_any [⟨#[97]⟩, ⟨#[98, 32, 99]⟩, ⟨#[]⟩, ⟨#[97, 47, 98]⟩, ⟨#[255]⟩, ⟨#[46, 46]⟩, ⟨#[123]⟩] b _ w3.heap.size 7 _ (T.out.alloc _).inv (by omega) (Blk.new _ _ _) rfl (by omega) (by omega)).mono ?_
        rintro e w4 ⟨t, rfl, ht, h4⟩
        have HSZ : Hid (t.size ≤ 10) := Lib.hid (by
          simp only [List.mem_cons, List.not_mem_nil, or_false] at ht
          rcases ht with rfl | rfl | rfl | rfl | rfl | rfl | rfl <;> decide)
        clear p0 p1 fp0 fp1 pl ht
        have m34 : Mod (fun i => i = b) w3 w4 := ((Mod.refl (fun i => i = b) w3).alloc (.cells #[.string ⟨#[97]⟩, .string ⟨#[98, 32, 99]⟩, .string ⟨#[]⟩, .string ⟨#[97, 47, 98]⟩, .string ⟨#[255]⟩, .string ⟨#[46, 46]⟩, .string ⟨#[123]⟩] 9)).trans h4.only
        have T4 := Lib.hid ((T.out.alloc (.cells #[.string ⟨#[97]⟩, .string ⟨#[98, 32, 99]⟩, .string ⟨#[]⟩, .string ⟨#[97, 47, 98]⟩, .string ⟨#[255]⟩, .string ⟨#[46, 46]⟩, .string ⟨#[123]⟩] 9)).trans h4)
        have HO4 := Lib.hid (HO.out.mod m34 (fun g e e2 => by have := HOF.out g e; omega))
        have HN4 := Lib.hid (HNB.out.mod m34 (by omega))
        have HP4 := Lib.hid (HPB.out.mod m34 (by omega))
        have hz4 := m34.size
        clear h4 m34 HO HNB HPB T
        have HPB := HP4
        have p0 := HPB.out.cell 0
        have p1 := HPB.out.cell 1
        have fp0 := HPB.out.frozen 0
        have fp1 := HPB.out.frozen 1
        have pl := HPB.out.lt
        simp only [List.getElem?_toArray, List.getElem?_cons_zero, List.getElem?_cons_succ] at p0 p1
        have hP5 := HPB.out.set 1 (.string t)
        simp at hP5
        have HP5 := Lib.hid hP5
        have hm5 : Mod (fun k => k = pb) w4 (w4.setCell ⟨pb, 1, none⟩ (.string t)) := Mod.setCell (S := fun k => k = pb) (p := ⟨pb, 1, none⟩) (Mod.refl _ _) (.inl rfl) _
        have HO5 := Lib.hid (HO4.out.mod hm5 (fun g e e2 => by have := HPF.out g e; omega))
        have HN5 := Lib.hid (HN4.out.mod hm5 (by omega))
        have T5 := Lib.hid (T4.out.mod hm5 (fun i e => by omega))
        have hz5 := hm5.size
        clear hP5 hm5 HO4 HN4 HPB HP4 T4
        go_upto_region 8 with fail
        clear p0 p1 fp0 fp1 pl
        generalize hw5 : w4.setCell ⟨pb, 1, none⟩ (.string t) = w5 at *
        clear hw5
        have HO := HO5
        have HNB := HN5
        have HPB := HP5
        have T := T5
        clear HO5 HN5 HP5 T5
        by_cases hj2 : j = 2
        · have hj2' : ((j : Int) == 2) = true := by simp; omega
          clear hj2
          go_wp2_with fail
          refine (flip_any b _ 2 w5 T.out.inv (by omega) (by omega) (by omega)).mono ?_
          rintro e w9 ⟨q, rfl, h9⟩
          have HO9 := Lib.hid (HO.out.mod h9.only (fun g e e2 => by have := HOF.out g e; omega))
          have HN9 := Lib.hid (HNB.out.mod h9.only (by omega))
          have HPB9 := Lib.hid (HPB.out.mod h9.only (by omega))
          have T9 := Lib.hid (T.out.trans h9)
          have hT9 := h9.only.size
          clear h9 HO HNB HPB T
          have HO := HO9
          have HNB := HN9
          have HPB := HPB9
          have T := T9
          clear HO9 HN9 HPB9 T9
          cases q
          · have p0 := HPB.out.cell 0
            have p1 := HPB.out.cell 1
            have fp0 := HPB.out.frozen 0
            have fp1 := HPB.out.frozen 1
            have pl := HPB.out.lt
            simp only [List.getElem?_toArray, List.getElem?_cons_zero, List.getElem?_cons_succ] at p0 p1
            have TN := Lib.hid (T.out.more (show _ ≤ k + 10 + 10 * (j + 1) by omega))
            have hBq : nb + 1 ≤ (w9.alloc (.cells #[.int .i64 1, .string t] 34)).heap.size := by simp; omega
            have HOA := HO.out.alloc (.cells #[.int .i64 1, .string t] 34)
            have hBn := Blk.new w9 34 #[.int .i64 1, .string t]
            go_wp2_with (at_builtin; refine wpList_push rfl _ _ _ rfl 24 Tryz.underlying27 einfo_part rfl HOA ⟨1, t⟩ w9.heap.size rfl hBn (fun j hj => PartD.one _ j hj) (by omega) (by omega) hBq ?_; intro g8 cap8 w8 own8 hm8 hat8 hlt8)
            have HO8 := Lib.hid own8
            have T8 := Lib.hid ((TN.out.alloc (.cells #[.int .i64 1, .string t] 34)).mod hm8 (fun i e => by have := HOF.out i e; omega))
            have HN8 := Lib.hid ((HNB.out.new2 ((Mod.refl _ _).alloc (.cells #[.int .i64 1, .string t] 34))).mod hm8 (fun e => by have := HOF.out nb e; omega))
            clear own8 hm8
            go_roundw
            case rel => exact ⟨j + 1, some ⟨g8, 0, none⟩, cap8, ls ++ [⟨1, t⟩], by omega, by go_num, rfl, HO8, Lib.hid (fun p hp => by
              rcases List.mem_append.1 hp with h | h
              · exact HPT.out p h
              · simp at h; subst h; exact HSZ.out), T8, HN8⟩
            case measure => simp [intOf]; omega
          · have p0 := HPB.out.cell 0
            have p1 := HPB.out.cell 1
            have fp0 := HPB.out.frozen 0
            have fp1 := HPB.out.frozen 1
            have pl := HPB.out.lt
            simp only [List.getElem?_toArray, List.getElem?_cons_zero, List.getElem?_cons_succ] at p0 p1
            have hP4 := (HPB.out.set 0 (.int .i64 3)).set 1 (.string key)
            simp at hP4
            have HP4 := Lib.hid hP4
            have hm4 : Mod (fun k => k = pb) w9 ((w9.setCell ⟨pb, 0, none⟩ (.int .i64 3)).setCell ⟨pb, 1, none⟩ (.string key)) := Mod.setCell (S := fun k => k = pb) (p := ⟨pb, 1, none⟩) (Mod.setCell (S := fun k => k = pb) (p := ⟨pb, 0, none⟩) (Mod.refl _ _) (.inl rfl) _) (.inl rfl) _
            have HO4 := Lib.hid (HO.out.mod hm4 (fun g e e2 => by have := HPF.out g e; omega))
            have HN4 := Lib.hid (HNB.out.mod hm4 (by omega))
            have T4 := Lib.hid (T.out.mod hm4 (fun i e => by omega))
            have hz4 := hm4.size
            clear hP4 hm4 HO HNB HPB T
            go_upto_region 10 with fail
            clear p0 p1 fp0 fp1 pl
            generalize hw9 : (w9.setCell ⟨pb, 0, none⟩ (.int .i64 3)).setCell ⟨pb, 1, none⟩ (.string key) = wA at *
            clear hw9
            have hwAw : w9.heap.size ≤ wA.heap.size := hz4
            have HO := HO4
            have HNB := HN4
            have HPB := HP4
            have T := T4
            have HSZ := HKZ
            clear HO4 HN4 HP4 T4
            have p0 := HPB.out.cell 0
            have p1 := HPB.out.cell 1
            have fp0 := HPB.out.frozen 0
            have fp1 := HPB.out.frozen 1
            have pl := HPB.out.lt
            simp only [List.getElem?_toArray, List.getElem?_cons_zero, List.getElem?_cons_succ] at p0 p1
            have TN := Lib.hid (T.out.more (show _ ≤ k + 10 + 10 * (j + 1) by omega))
            have hBq : nb + 1 ≤ (wA.alloc (.cells #[.int .i64 3, .string key] 34)).heap.size := by simp; omega
            have HOA := HO.out.alloc (.cells #[.int .i64 3, .string key] 34)
            have hBn := Blk.new wA 34 #[.int .i64 3, .string key]
            go_wp2_with (at_builtin; refine wpList_push rfl _ _ _ rfl 24 Tryz.underlying27 einfo_part rfl HOA ⟨3, key⟩ wA.heap.size rfl hBn (fun j hj => PartD.one _ j hj) (by omega) (by omega) hBq ?_; intro g8 cap8 w8 own8 hm8 hat8 hlt8)
            have HO8 := Lib.hid own8
            have T8 := Lib.hid ((TN.out.alloc (.cells #[.int .i64 3, .string key] 34)).mod hm8 (fun i e => by have := HOF.out i e; omega))
            have HN8 := Lib.hid ((HNB.out.new2 ((Mod.refl _ _).alloc (.cells #[.int .i64 3, .string key] 34))).mod hm8 (fun e => by have := HOF.out nb e; omega))
            clear own8 hm8
            go_roundw
            case rel => exact ⟨j + 1, some ⟨g8, 0, none⟩, cap8, ls ++ [⟨3, key⟩], by omega, by go_num, rfl, HO8, Lib.hid (fun p hp => by
              rcases List.mem_append.1 hp with h | h
              · exact HPT.out p h
              · simp at h; subst h; exact HSZ.out), T8, HN8⟩
            case measure => simp [intOf]; omega
        · have hj2' : ((j : Int) == 2) = false := by simp; omega
          generalize hw95 : w5 = w9 at *
          clear hw95
          have p0 := HPB.out.cell 0
          have p1 := HPB.out.cell 1
          have fp0 := HPB.out.frozen 0
          have fp1 := HPB.out.frozen 1
          have pl := HPB.out.lt
          simp only [List.getElem?_toArray, List.getElem?_cons_zero, List.getElem?_cons_succ] at p0 p1
          have TN := Lib.hid (T.out.more (show _ ≤ k + 10 + 10 * (j + 1) by omega))
          have hBq : nb + 1 ≤ (w9.alloc (.cells #[.int .i64 1, .string t] 34)).heap.size := by simp; omega
          have HOA := HO.out.alloc (.cells #[.int .i64 1, .string t] 34)
          have hBn := Blk.new w9 34 #[.int .i64 1, .string t]
          go_wp2_with (at_builtin; refine wpList_push rfl _ _ _ rfl 24 Tryz.underlying27 einfo_part rfl HOA ⟨1, t⟩ w9.heap.size rfl hBn (fun j hj => PartD.one _ j hj) (by omega) (by omega) hBq ?_; intro g8 cap8 w8 own8 hm8 hat8 hlt8)
          have HO8 := Lib.hid own8
          have T8 := Lib.hid ((TN.out.alloc (.cells #[.int .i64 1, .string t] 34)).mod hm8 (fun i e => by have := HOF.out i e; omega))
          have HN8 := Lib.hid ((HNB.out.new2 ((Mod.refl _ _).alloc (.cells #[.int .i64 1, .string t] 34))).mod hm8 (fun e => by have := HOF.out nb e; omega))
          clear own8 hm8
          go_roundw
          case rel => exact ⟨j + 1, some ⟨g8, 0, none⟩, cap8, ls ++ [⟨1, t⟩], by omega, by go_num, rfl, HO8, Lib.hid (fun p hp => by
            rcases List.mem_append.1 hp with h | h
            · exact HPT.out p h
            · simp at h; subst h; exact HSZ.out), T8, HN8⟩
          case measure => simp [intOf]; omega
      · have w5 := w3
        clear w5
        generalize hw35 : w3 = w5 at *
        clear hw35
        have HSZ := HKZ
        have p0 := HPB.out.cell 0
        have p1 := HPB.out.cell 1
        have fp0 := HPB.out.frozen 0
        have fp1 := HPB.out.frozen 1
        have pl := HPB.out.lt
        simp only [List.getElem?_toArray, List.getElem?_cons_zero, List.getElem?_cons_succ] at p0 p1
        go_upto_region 8 with fail
        clear p0 p1 fp0 fp1 pl
        by_cases hj2 : j = 2
        · have hj2' : ((j : Int) == 2) = true := by simp; omega
          clear hj2
          go_wp2_with fail
          refine (flip_any b _ 2 w5 T.out.inv (by omega) (by omega) (by omega)).mono ?_
          rintro e w9 ⟨q, rfl, h9⟩
          have HO9 := Lib.hid (HO.out.mod h9.only (fun g e e2 => by have := HOF.out g e; omega))
          have HN9 := Lib.hid (HNB.out.mod h9.only (by omega))
          have HPB9 := Lib.hid (HPB.out.mod h9.only (by omega))
          have T9 := Lib.hid (T.out.trans h9)
          have hT9 := h9.only.size
          clear h9 HO HNB HPB T
          have HO := HO9
          have HNB := HN9
          have HPB := HPB9
          have T := T9
          clear HO9 HN9 HPB9 T9
          cases q
          · have p0 := HPB.out.cell 0
            have p1 := HPB.out.cell 1
            have fp0 := HPB.out.frozen 0
            have fp1 := HPB.out.frozen 1
            have pl := HPB.out.lt
            simp only [List.getElem?_toArray, List.getElem?_cons_zero, List.getElem?_cons_succ] at p0 p1
            have TN := Lib.hid (T.out.more (show _ ≤ k + 10 + 10 * (j + 1) by omega))
            have hBq : nb + 1 ≤ (w9.alloc (.cells #[.int .i64 2, .string key] 34)).heap.size := by simp; omega
            have HOA := HO.out.alloc (.cells #[.int .i64 2, .string key] 34)
            have hBn := Blk.new w9 34 #[.int .i64 2, .string key]
            go_wp2_with (at_builtin; refine wpList_push rfl _ _ _ rfl 24 Tryz.underlying27 einfo_part rfl HOA ⟨2, key⟩ w9.heap.size rfl hBn (fun j hj => PartD.one _ j hj) (by omega) (by omega) hBq ?_; intro g8 cap8 w8 own8 hm8 hat8 hlt8)
            have HO8 := Lib.hid own8
            have T8 := Lib.hid ((TN.out.alloc (.cells #[.int .i64 2, .string key] 34)).mod hm8 (fun i e => by have := HOF.out i e; omega))
            have HN8 := Lib.hid ((HNB.out.new2 ((Mod.refl _ _).alloc (.cells #[.int .i64 2, .string key] 34))).mod hm8 (fun e => by have := HOF.out nb e; omega))
            clear own8 hm8
            go_roundw
            case rel => exact ⟨j + 1, some ⟨g8, 0, none⟩, cap8, ls ++ [⟨2, key⟩], by omega, by go_num, rfl, HO8, Lib.hid (fun p hp => by
              rcases List.mem_append.1 hp with h | h
              · exact HPT.out p h
              · simp at h; subst h; exact HSZ.out), T8, HN8⟩
            case measure => simp [intOf]; omega
          · have p0 := HPB.out.cell 0
            have p1 := HPB.out.cell 1
            have fp0 := HPB.out.frozen 0
            have fp1 := HPB.out.frozen 1
            have pl := HPB.out.lt
            simp only [List.getElem?_toArray, List.getElem?_cons_zero, List.getElem?_cons_succ] at p0 p1
            have hP4 := (HPB.out.set 0 (.int .i64 3)).set 1 (.string key)
            simp at hP4
            have HP4 := Lib.hid hP4
            have hm4 : Mod (fun k => k = pb) w9 ((w9.setCell ⟨pb, 0, none⟩ (.int .i64 3)).setCell ⟨pb, 1, none⟩ (.string key)) := Mod.setCell (S := fun k => k = pb) (p := ⟨pb, 1, none⟩) (Mod.setCell (S := fun k => k = pb) (p := ⟨pb, 0, none⟩) (Mod.refl _ _) (.inl rfl) _) (.inl rfl) _
            have HO4 := Lib.hid (HO.out.mod hm4 (fun g e e2 => by have := HPF.out g e; omega))
            have HN4 := Lib.hid (HNB.out.mod hm4 (by omega))
            have T4 := Lib.hid (T.out.mod hm4 (fun i e => by omega))
            have hz4 := hm4.size
            clear hP4 hm4 HO HNB HPB T
            go_upto_region 10 with fail
            clear p0 p1 fp0 fp1 pl
            generalize hw9 : (w9.setCell ⟨pb, 0, none⟩ (.int .i64 3)).setCell ⟨pb, 1, none⟩ (.string key) = wA at *
            clear hw9
            have hwAw : w9.heap.size ≤ wA.heap.size := hz4
            have HO := HO4
            have HNB := HN4
            have HPB := HP4
            have T := T4
            have HSZ := HKZ
            clear HO4 HN4 HP4 T4
            have p0 := HPB.out.cell 0
            have p1 := HPB.out.cell 1
            have fp0 := HPB.out.frozen 0
            have fp1 := HPB.out.frozen 1
            have pl := HPB.out.lt
            simp only [List.getElem?_toArray, List.getElem?_cons_zero, List.getElem?_cons_succ] at p0 p1
            have TN := Lib.hid (T.out.more (show _ ≤ k + 10 + 10 * (j + 1) by omega))
            have hBq : nb + 1 ≤ (wA.alloc (.cells #[.int .i64 3, .string key] 34)).heap.size := by simp; omega
            have HOA := HO.out.alloc (.cells #[.int .i64 3, .string key] 34)
            have hBn := Blk.new wA 34 #[.int .i64 3, .string key]
            go_wp2_with (at_builtin; refine wpList_push rfl _ _ _ rfl 24 Tryz.underlying27 einfo_part rfl HOA ⟨3, key⟩ wA.heap.size rfl hBn (fun j hj => PartD.one _ j hj) (by omega) (by omega) hBq ?_; intro g8 cap8 w8 own8 hm8 hat8 hlt8)
            have HO8 := Lib.hid own8
            have T8 := Lib.hid ((TN.out.alloc (.cells #[.int .i64 3, .string key] 34)).mod hm8 (fun i e => by have := HOF.out i e; omega))
            have HN8 := Lib.hid ((HNB.out.new2 ((Mod.refl _ _).alloc (.cells #[.int .i64 3, .string key] 34))).mod hm8 (fun e => by have := HOF.out nb e; omega))
            clear own8 hm8
            go_roundw
            case rel => exact ⟨j + 1, some ⟨g8, 0, none⟩, cap8, ls ++ [⟨3, key⟩], by omega, by go_num, rfl, HO8, Lib.hid (fun p hp => by
              rcases List.mem_append.1 hp with h | h
              · exact HPT.out p h
              · simp at h; subst h; exact HSZ.out), T8, HN8⟩
            case measure => simp [intOf]; omega
        · have hj2' : ((j : Int) == 2) = false := by simp; omega
          generalize hw95 : w5 = w9 at *
          clear hw95
          have p0 := HPB.out.cell 0
          have p1 := HPB.out.cell 1
          have fp0 := HPB.out.frozen 0
          have fp1 := HPB.out.frozen 1
          have pl := HPB.out.lt
          simp only [List.getElem?_toArray, List.getElem?_cons_zero, List.getElem?_cons_succ] at p0 p1
          have TN := Lib.hid (T.out.more (show _ ≤ k + 10 + 10 * (j + 1) by omega))
          have hBq : nb + 1 ≤ (w9.alloc (.cells #[.int .i64 2, .string key] 34)).heap.size := by simp; omega
          have HOA := HO.out.alloc (.cells #[.int .i64 2, .string key] 34)
          have hBn := Blk.new w9 34 #[.int .i64 2, .string key]
          go_wp2_with (at_builtin; refine wpList_push rfl _ _ _ rfl 24 Tryz.underlying27 einfo_part rfl HOA ⟨2, key⟩ w9.heap.size rfl hBn (fun j hj => PartD.one _ j hj) (by omega) (by omega) hBq ?_; intro g8 cap8 w8 own8 hm8 hat8 hlt8)
          have HO8 := Lib.hid own8
          have T8 := Lib.hid ((TN.out.alloc (.cells #[.int .i64 2, .string key] 34)).mod hm8 (fun i e => by have := HOF.out i e; omega))
          have HN8 := Lib.hid ((HNB.out.new2 ((Mod.refl _ _).alloc (.cells #[.int .i64 2, .string key] 34))).mod hm8 (fun e => by have := HOF.out nb e; omega))
          clear own8 hm8
          go_roundw
          case rel => exact ⟨j + 1, some ⟨g8, 0, none⟩, cap8, ls ++ [⟨2, key⟩], by omega, by go_num, rfl, HO8, Lib.hid (fun p hp => by
            rcases List.mem_append.1 hp with h | h
            · exact HPT.out p h
            · simp at h; subst h; exact HSZ.out), T8, HN8⟩
          case measure => simp [intOf]; omega
    · obtain rfl : j = m := by omega
      have hjl := HO.out.1
      by_cases h0 : j = 0
      · subst h0
        clear hjl
        go_wp2_with fail
        go_ret
        exact ⟨A, 0, c, ls, rfl, HO.out.sl, Nat.zero_le _, by omega, HPT.out, T.out.more (by omega)⟩
      · obtain ⟨g, rfl, hBg, htb, hjc, hcm⟩ := HO.out.form (by omega)
        have hj0 : (0 : Int) < (j : Int) := by omega
        have hj0' : 0 < j := by omega
        clear h0 htb
        have HJL := Lib.hid hjl
        clear hjl
        have HG : Hid (nb + 1 ≤ g ∧ j ≤ c) := Lib.hid ⟨hBg, hjc⟩
        go_wp2_with fail
        refine (flip_any b _ 12 wr T.out.inv (by omega) (by omega) (by omega)).mono ?_
        rintro e w2 ⟨q, rfl, h2⟩
        have HO2 := Lib.hid (HO.out.mod h2.only (fun g' e e2 => by have := HOF.out g' e; omega))
        have T2 := Lib.hid (T.out.trans h2)
        clear h2 HO T HNB
        cases q
        · go_wp2_with fail
          go_ret
          exact ⟨some ⟨g, 0, none⟩, j, c, ls, rfl, HO2.out.sl, hjc, by omega, HPT.out, T2.out.more (by omega)⟩
        · go_wp2_with fail
          refine (next_any b _ j w2 T2.out.inv (by omega) (by omega) (by omega)).mono ?_
          rintro e w3 ⟨i, rfl, i0, i1, h3⟩
          obtain ⟨i, rfl⟩ := Int.eq_ofNat_of_zero_le i0
          have HO3 := Lib.hid (HO2.out.mod h3.only (fun g' e e2 => by have := HOF.out g' e; omega))
          have T3 := Lib.hid (T2.out.trans h3)
          clear h3 HO2 T2
          go_wp2_with fail
          refine (odd_any b _ 1 3 w3 T3.out.inv (by omega) (by omega) (by omega) (by omega)).mono ?_
          rintro e w4 ⟨o, rfl, o0, o1, h4⟩
          have HO4 := Lib.hid (HO3.out.mod h4.only (fun g' e e2 => by have := HOF.out g' e; omega))
          have T4 := Lib.hid (T3.out.trans h4)
          clear h4 HO3 T3
          go_wp2_with fail
          refine (some_any [⟨#[105, 100]⟩, ⟨#[]⟩, ⟨#[49]⟩, ⟨#[46, 46]⟩, ⟨#[105, 110]⟩] b _ w4.heap.size 5 _ (T4.out.alloc _).inv (by omega) (Blk.new _ _ _) rfl (by omega) (by omega)).mono ?_
          rintro e w5 ⟨s, rfl, hsm, h5⟩
          have HSZ : Hid (s.size ≤ 10) := Lib.hid (by
            simp only [List.mem_cons, List.not_mem_nil, or_false] at hsm
            rcases hsm with rfl | rfl | rfl | rfl | rfl <;> decide)
          have HO5 := Lib.hid ((HO4.out.new ((Mod.refl _ _).alloc _)).mod h5.only (fun g' e e2 => by have := HOF.out g' e; omega))
          have T5 := Lib.hid ((T4.out.alloc _).trans h5)
          clear h5 HO4 T4 hsm
          have hil : i < ls.length := by have := HJL.out; omega
          have hw5 : g < w5.heap.size := by
            obtain ⟨cur, hb, _⟩ := HO5.out.row
            exact hb.lt
          obtain ⟨g', o', hA, _, hcc⟩ := HO5.out.sl.2 (by omega)
          injection hA with hA
          injection hA with e1 e2 e3
          subst e1 e2
          have q0 := hcc i hil 0 (by decide)
          have q1 := hcc i hil 1 (by decide)
          have f0 := HO5.out.frozen (i * 2)
          have f1 := HO5.out.frozen (i * 2 + 1)
          simp only [Nat.zero_add, Nat.add_zero] at q0 q1
          clear hcc
          have HO6 := Lib.hid (HO5.out.set2 hil ⟨o, s⟩)
          have T6 := Lib.hid ((T5.out.set (p := ⟨g, i * 2, none⟩) (by have := HG.out; show _ ≤ g; omega) (.int .i64 o)).set (p := ⟨g, i * 2 + 1, none⟩) (by have := HG.out; show _ ≤ g; omega) (.string s))
          clear HO5 T5
          go_wp2_with fail
          go_ret
          exact ⟨some ⟨g, 0, none⟩, j, c, ls.set i ⟨o, s⟩, rfl, HO6.out.sl, hjc, by omega, (fun p hp => by
            rcases List.mem_or_eq_of_mem_set hp with h | rfl
            · exact HPT.out p h
            · exact HSZ.out), T6.out.more (by omega)⟩

end Go.Proofs.YtjehlecgnepgmaaGreatDoor
