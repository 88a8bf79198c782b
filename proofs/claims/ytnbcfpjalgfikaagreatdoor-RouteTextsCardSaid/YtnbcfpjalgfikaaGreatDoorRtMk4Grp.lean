/- Several texts in one. (1) Stream.RightRoutes and Stream.Routes: rows of routes of modest size. Conditions: those of the stream; the library's variable on searching is an int. (2) Stream.Routes: a row of routes of modest size. Conditions: those of the stream; the library's variable on searching is an int. -/
import Derived.Test.YtnbcfpjalgfikaaGreatDoorRtMk2Grp
import Derived.Test.YtnbcfpjalgfikaaGreatDoorRdLine

namespace Go.Proofs.YtnbcfpjalgfikaaGreatDoor
open Go.RowKit
set_option linter.unusedVariables false
set_option linter.unusedSimpArgs false

theorem RtAt.modP {S : Nat → Prop} {w w' : World} {x : RA} {r : RtD} (h : RtAt w x r) (hm : Mod S w w') (hs : ∀ g, TB w g 9 ∨ TB w g 55 → ¬ S g) : RtAt w' x r :=
  ⟨h.key, h.path, h.dest, h.hosts.mod hm (fun g e => hs g (.inl e)), h.methods.mod hm (fun g e => hs g (.inl e)), h.needs.mod hm (fun g e => hs g (.inr e)), h.hcap, h.mcap, h.ncap⟩
/-- stores of a whole element of six cells -/
theorem flat_set6 {α : Type} (enc : α → Nat → Value) (y : α) : ∀ (xs : List α) (i : Nat), i < xs.length →
    ((((((xs.flatMap (encL 6 enc)).set (i * 6) (enc y 0)).set (i * 6 + 1) (enc y 1)).set (i * 6 + 2) (enc y 2)).set (i * 6 + 3) (enc y 3)).set (i * 6 + 4) (enc y 4)).set (i * 6 + 5) (enc y 5) = (xs.set i y).flatMap (encL 6 enc)
  | [], i, h => by simp at h
  | x :: xs, 0, _ => by simp [encL, List.range_succ, List.range_zero]
  | x :: xs, i + 1, h => by
    have ih := flat_set6 enc y xs i (by simpa using h)
    have e : (i + 1) * 6 = i * 6 + 6 := by omega
    rw [e, show i * 6 + 6 + 1 = i * 6 + 1 + 6 by omega, show i * 6 + 6 + 2 = i * 6 + 2 + 6 by omega, show i * 6 + 6 + 3 = i * 6 + 3 + 6 by omega, show i * 6 + 6 + 4 = i * 6 + 4 + 6 by omega, show i * 6 + 6 + 5 = i * 6 + 5 + 6 by omega]
    simp only [List.flatMap_cons, List.set_cons_succ]
    rw [← ih]
    simp [encL, List.range_succ, List.range_zero]
theorem Own.set6 {α : Type} {w : World} {B : Nat} {t : TypeId} {enc : α → Nat → Value} {n c g : Nat} {xs : List α} (h : Own w B t 6 enc (some ⟨g, 0, none⟩) n c xs) {i : Nat} (hi : i < xs.length) (y : α) :
    Own ((((((w.setCell ⟨g, i * 6, none⟩ (enc y 0)).setCell ⟨g, i * 6 + 1, none⟩ (enc y 1)).setCell ⟨g, i * 6 + 2, none⟩ (enc y 2)).setCell ⟨g, i * 6 + 3, none⟩ (enc y 3)).setCell ⟨g, i * 6 + 4, none⟩ (enc y 4)).setCell ⟨g, i * 6 + 5, none⟩ (enc y 5)) B t 6 enc (some ⟨g, 0, none⟩) n c (xs.set i y) :=
  ⟨by simpa using h.1, by rw [← flat_set6 enc y xs i hi]; exact ((((((h.2.stored _ _).1.stored _ _).1.stored _ _).1.stored _ _).1.stored _ _).1.stored _ _).1⟩
/-- a row of routes that the maker owns -/
def RRts (b : Nat) (w : World) (k most : Nat) (e : Ending) (w' : World) : Prop :=
  ∃ A m c xs rs, e = .returned (.slice A m c) ∧ Own w' w.heap.size 44 6 RA.enc A m c xs ∧ Al (RtAt w') xs rs ∧ (∀ r ∈ rs, RtMini r) ∧ m ≤ most ∧ SStep b w w' k
abbrev keys6 : Array Value := #[.string ⟨#[114, 97]⟩, .string ⟨#[114, 98]⟩, .string ⟨#[114, 99]⟩, .string ⟨#[114, 100]⟩, .string ⟨#[114, 101]⟩, .string ⟨#[114, 102]⟩]
set_option maxRecDepth 100000 in
set_option maxHeartbeats 1000000 in
theorem rightRoutes_any (b k most : Nat) (w : World) (hs : SInv b w k) (hk : k < 4611686018424000000) (hx : MaxB b w) (hm6 : most ≤ 6) :
    Calls Tryz.prog 13 #[.pointer (some ⟨b, 0, none⟩), .int .i64 (most : Int)] w (RRts b w (k + 180) most) := by
  have hbl := hs.lt
  have T0 := (SStep.refl hs).alloc (.cells #[.string ⟨#[114, 97]⟩, .string ⟨#[114, 98]⟩, .string ⟨#[114, 99]⟩, .string ⟨#[114, 100]⟩, .string ⟨#[114, 101]⟩, .string ⟨#[114, 102]⟩] 9)
  have hK := Blk.new w 9 keys6
  have hx0 : MaxB b (w.alloc (.cells #[.string ⟨#[114, 97]⟩, .string ⟨#[114, 98]⟩, .string ⟨#[114, 99]⟩, .string ⟨#[114, 100]⟩, .string ⟨#[114, 101]⟩, .string ⟨#[114, 102]⟩] 9)) := hx.mod ((Mod.refl (fun _ => False) _).alloc _) (fun e => e)
  have hm7 : (most : Int) ≤ 6 := by omega
  have hm0 : (0 : Int) ≤ most := by omega
  have HML : Hid (0 < w.heap.size) := Lib.hid hx.1.lt
  unfold keys6 at hK
  go_enter Tryz.func13, Tryz.ntmps13
  go_upto_region 3 with fail
  generalize w.alloc (.cells #[.string ⟨#[114, 97]⟩, .string ⟨#[114, 98]⟩, .string ⟨#[114, 99]⟩, .string ⟨#[114, 100]⟩, .string ⟨#[114, 101]⟩, .string ⟨#[114, 102]⟩] 9) = w0 at *
  have T := Lib.hid (T0.more (show k ≤ k + 25 * 0 by omega))
  have HK := Lib.hid hK
  have HX := Lib.hid hx0
  clear T0 hK hx0 hs hx
  go_loopw [5, 12] (fun o i wr => ∃ (j m c : Nat) (A : Option Addr) (xs : List RA) (rs : List RtD), j ≤ most ∧ m ≤ j ∧ i = .int .i64 j ∧ o = .slice A m c ∧ Hid (Own wr w.heap.size 44 6 RA.enc A m c xs) ∧ Hid (Al (RtAt wr) xs rs) ∧ Hid (∀ r ∈ rs, RtMini r) ∧ Hid (SStep b w wr (k + 25 * j)) ∧ Hid (Blk wr w.heap.size 9 #[.string ⟨#[114, 97]⟩, .string ⟨#[114, 98]⟩, .string ⟨#[114, 99]⟩, .string ⟨#[114, 100]⟩, .string ⟨#[114, 101]⟩, .string ⟨#[114, 102]⟩]) ∧ Hid (MaxB b wr)) (fun _ i _ => most - (intOf i).toNat)
  case atStart => exact ⟨0, 0, 0, none, [], [], Nat.zero_le _, Nat.le_refl _, rfl, rfl, Lib.hid Own.nil, Lib.hid trivial, Lib.hid (fun r h => by cases h), T, HK, HX⟩
  case round =>
    clear T HK HX
    rename World => wr
    obtain ⟨j, m, c, A, xs, rs, hj, hmj, rfl, rfl, HO, HA, HMN, T, HK, HX⟩ := hrel
    by_cases hlt : j < most
    · have hkey : ∃ key : ByteArray, key.size ≤ 10 ∧ wr.cell? ⟨w.heap.size, j, none⟩ = some (.string key) := by
        rcases (by omega : j = 0 ∨ j = 1 ∨ j = 2 ∨ j = 3 ∨ j = 4 ∨ j = 5) with rfl | rfl | rfl | rfl | rfl | rfl
        · exact ⟨⟨#[114, 97]⟩, by decide, (HK.out.cell 0).trans rfl⟩
        · exact ⟨⟨#[114, 98]⟩, by decide, (HK.out.cell 1).trans rfl⟩
        · exact ⟨⟨#[114, 99]⟩, by decide, (HK.out.cell 2).trans rfl⟩
        · exact ⟨⟨#[114, 100]⟩, by decide, (HK.out.cell 3).trans rfl⟩
        · exact ⟨⟨#[114, 101]⟩, by decide, (HK.out.cell 4).trans rfl⟩
        · exact ⟨⟨#[114, 102]⟩, by decide, (HK.out.cell 5).trans rfl⟩
      obtain ⟨key, hks, hkc⟩ := hkey
      have hkl := HK.out.lt
      have hb1 : (0 : Int) ≤ j := by omega
      have hb2 : (j : Int) < most := by omega
      have hfl := flip_any b _ 4 wr T.out.inv (by omega) (by omega) (by omega)
      go_wp2_with fail
      refine hfl.mono ?_
      clear hfl
      rintro e w3 ⟨q, rfl, h3⟩
      have HO3 := Lib.hid (HO.out.mod h3.only (fun g e e2 => by have := (HO.out.blk_tb e).1; omega))
      have HA3 := Lib.hid (HA.out.imp (fun _ _ q => q.stream T.out.inv h3))
      have HK3 := Lib.hid (HK.out.mod h3.only (by omega))
      have HX3 := Lib.hid (HX.out.stream h3)
      have T3 := T.out.trans h3
      clear h3 HO HA HK HX T hkc hkl
      cases q
      · have hrr := rightRoute_any key b _ w3 T3.inv (by omega) HX3.out hks
        go_wp2_with fail
        refine hrr.mono ?_
        clear hrr
        rintro e w4 ⟨x, r, rfl, hat, hmi, h4⟩
        have HO4 := Lib.hid (HO3.out.mod h4.only (fun g e e2 => by have := (HO3.out.blk_tb e).1; omega))
        have HA4 := Lib.hid (HA3.out.imp (fun _ _ q => q.stream T3.inv h4))
        have HK4 := Lib.hid (HK3.out.mod h4.only (by omega))
        have HX4 := Lib.hid (HX3.out.stream h4)
        have T4 := T3.trans h4
        have HAT := Lib.hid hat
        have HMI := Lib.hid hmi
        clear h4 HO3 HA3 HK3 HX3 T3 hat hmi
        obtain ⟨y0, y1, y2, y3, y4, y5, y6, y7, y8, y9, ya, yc⟩ := x
        simp only [RA.val]
        have hwz := T4.only.size
        have HZZ : Hid (w.heap.size ≤ (w4.alloc (.cells #[.string y0, .slice y1 y2 y3, .string y4, .slice y5 y6 y7, .slice y8 y9 ya, .string yc] 44)).heap.size) := Lib.hid (by simp; omega)
        have mA : New w4 (w4.alloc (.cells #[.string y0, .slice y1 y2 y3, .string y4, .slice y5 y6 y7, .slice y8 y9 ya, .string yc] 44)) := (Mod.refl _ _).alloc _
        have ownA := HO4.out.new mA
        have HOA := Lib.hid ownA
        have HAA := Lib.hid (HA4.out.imp (fun _ _ q => q.new mA))
        have HTA := Lib.hid (HAT.out.new mA)
        have HKA := Lib.hid (HK4.out.mod mA (fun e => e))
        have HXA := Lib.hid (HX4.out.mod mA (fun e => e))
        have TA := T4.new mA
        have blkA : Blk (w4.alloc (.cells #[.string y0, .slice y1 y2 y3, .string y4, .slice y5 y6 y7, .slice y8 y9 ya, .string yc] 44)) w4.heap.size 44 (encL 6 RA.enc ⟨y0, y1, y2, y3, y4, y5, y6, y7, y8, y9, ya, yc⟩).toArray := Blk.new _ _ _
        clear HO4 HA4 HK4 HX4 mA HAT
        go_wp2_with (at_builtin; refine wpList_push rfl _ _ _ rfl 120 Tryz.underlying26 einfo_rt rfl ownA ⟨y0, y1, y2, y3, y4, y5, y6, y7, y8, y9, ya, yc⟩ w4.heap.size rfl blkA (fun j hj => RA.one _ j hj) (by omega) (by omega) HZZ.out ?_; intro g9 cap9 w9 own9 hm9 hat9 hlt9)
        have hne : ∀ i, blkOf A = some i → w.heap.size ≤ i ∧ TB (w4.alloc (.cells #[.string y0, .slice y1 y2 y3, .string y4, .slice y5 y6 y7, .slice y8 y9 ya, .string yc] 44)) i 44 := fun i e => HOA.out.blk_tb e
        have key9 : ∀ x r, RtAt (w4.alloc (.cells #[.string y0, .slice y1 y2 y3, .string y4, .slice y5 y6 y7, .slice y8 y9 ya, .string yc] 44)) x r → RtAt w9 x r := fun x r q => q.modP hm9 (fun g hg e => by
          rcases hg with hg | hg
          · exact hg.ne (hne _ e).2 (by decide) rfl
          · exact hg.ne (hne _ e).2 (by decide) rfl)
        go_roundw
        case rel =>
          exact ⟨j + 1, m + 1, cap9, some ⟨g9, 0, none⟩, xs ++ [⟨y0, y1, y2, y3, y4, y5, y6, y7, y8, y9, ya, yc⟩], rs ++ [r], by omega, by omega, by go_num, rfl, Lib.hid own9, Lib.hid ((HAA.out.imp key9).snoc (key9 _ _ HTA.out)), Lib.hid (all_snoc HMN.out HMI.out), Lib.hid ((TA.mod hm9 (fun i e => (hne i e).1)).more (by omega)), Lib.hid (HKA.out.mod hm9 (fun e => HKA.out.tb.ne (hne _ e).2 (by decide) rfl)), Lib.hid (HXA.out.mod hm9 (fun e => by have := (hne _ e).1; have := HML.out; omega))⟩
        case measure => simp [intOf]; omega
      · go_wp2_with fail
        go_roundw
        case rel => exact ⟨j + 1, m, c, A, xs, rs, by omega, by omega, by go_num, rfl, HO3, HA3, HMN, Lib.hid (T3.more (by omega)), HK3, HX3⟩
        case measure => simp [intOf]; omega
    · obtain rfl : j = most := by omega
      go_wp2_with fail
      go_ret
      exact ⟨A, m, c, xs, rs, rfl, HO.out, HA.out, HMN.out, hmj, T.out.more (by omega)⟩
end Go.Proofs.YtnbcfpjalgfikaaGreatDoor

namespace Go.Proofs.YtnbcfpjalgfikaaGreatDoor
open Go.RowKit
set_option linter.unusedVariables false
set_option linter.unusedSimpArgs false

set_option maxRecDepth 100000 in
set_option maxHeartbeats 1000000 in
theorem routes_any (b k most : Nat) (w : World) (hs : SInv b w k) (hk : k < 4611686018424000000) (hx : MaxB b w) (hm6 : most ≤ 6) :
    Calls Tryz.prog 4 #[.pointer (some ⟨b, 0, none⟩), .int .i64 (most : Int)] w (RRts b w (k + 300) most) := by
  have hbl := hs.lt
  have hrr := rightRoutes_any b k most w hs hk hx hm6
  have HML : Hid (0 < w.heap.size) := Lib.hid hx.1.lt
  have HX0 := Lib.hid hx
  clear hs hx
  go_enter Tryz.func4, Tryz.ntmps4
  go_wp2_with fail
  refine hrr.mono ?_
  clear hrr
  rintro e w1 ⟨A, m, c, xs, rs, rfl, ho, ha, hmi, hmm, T⟩
  have HO := Lib.hid ho
  have HA := Lib.hid ha
  have HMI := Lib.hid hmi
  have HX1 := Lib.hid (HX0.out.stream T)
  have hwz := T.only.size
  clear ho ha hmi HX0
  have HEND : Hid (∀ W, Own W w.heap.size 44 6 RA.enc A m c xs → Al (RtAt W) xs rs → SStep b w W (k + 300) → RRts b w (k + 300) most (.returned (.slice A m c)) W) := Lib.hid (fun W h1 h2 h3 => ⟨A, m, c, xs, rs, rfl, h1, h2, HMI.out, hmm, h3⟩)
  by_cases h0 : m = 0
  · subst h0
    have hd : decide ((0 : Int) < ((0 : Nat) : Int)) = false := by simp
    go_wp2_with fail
    go_ret
    exact HEND.out _ HO.out HA.out (T.more (by omega))
  · have hm0 : (0 : Int) < m := by omega
    have hmn : 0 < m := by omega
    have hmd : decide ((0 : Int) < (m : Int)) = true := by simp; omega
    have hfl := flip_any b _ 10 w1 T.inv (by omega) (by omega) (by omega)
    go_wp2_with fail
    refine hfl.mono ?_
    clear hfl
    rintro e w3 ⟨q, rfl, h3⟩
    have HO3 := Lib.hid (HO.out.mod h3.only (fun g e e2 => by have := (HO.out.blk_tb e).1; omega))
    have HA3 := Lib.hid (HA.out.imp (fun _ _ q => q.stream T.inv h3))
    have HX3 := Lib.hid (HX1.out.stream h3)
    have T3 := T.trans h3
    clear h3 HO HA HX1 T
    cases q
    · go_wp2_with fail
      go_ret
      exact HEND.out _ HO3.out HA3.out (T3.more (by omega))
    · have hnx := next_any b _ m w3 T3.inv (by omega) (by omega) (by omega)
      go_wp2_with fail
      refine hnx.mono ?_
      clear hnx
      rintro e w4 ⟨z, rfl, z0, z1, h4⟩
      obtain ⟨i, rfl⟩ := Int.eq_ofNat_of_zero_le z0
      have hi : i < m := by omega
      have HO4 := Lib.hid (HO3.out.mod h4.only (fun g e e2 => by have := (HO3.out.blk_tb e).1; omega))
      have HA4 := Lib.hid (HA3.out.imp (fun _ _ q => q.stream T3.inv h4))
      have HX4 := Lib.hid (HX3.out.stream h4)
      have T4 := T3.trans h4
      clear h4 HO3 HA3 HX3 T3
      obtain ⟨g, rfl, hgB, hgt, hcap, -⟩ := HO4.out.form (by omega)
      have hix : i < xs.length := by have := HO4.out.1; omega
      have hir : i < rs.length := by have := HA4.out.len; omega
      obtain ⟨g', o', hA', -, hc⟩ := HO4.out.sl.2 (by omega)
      injection hA' with hA'
      injection hA' with e1 e2
      subst e1 e2
      have hck := hc i hix 0 (by omega)
      simp only [RA.enc, Nat.add_zero, Nat.zero_add] at hck
      have hks := (HMI.out _ (List.getElem_mem hir)).key
      rw [← (HA4.out.get i hix hir).key] at hks
      have hgl := hgt.lt
      clear hc
      have hon := oneRoute_any xs[i].key b _ w4 T4.inv (by omega) HX4.out hks
      go_wp2_with fail
      refine hon.mono ?_
      clear hon
      rintro e w5 ⟨x, r, rfl, hat, hmi, h5⟩
      have HO5 := Lib.hid (HO4.out.mod h5.only (fun g e e2 => by have := (HO4.out.blk_tb e).1; omega))
      have HA5 := Lib.hid (HA4.out.imp (fun _ _ q => q.stream T4.inv h5))
      have T5 := T4.trans h5
      have HAT := Lib.hid hat
      have HMR := Lib.hid hmi
      clear h5 HO4 HA4 HX4 T4 hck hat hmi hgt hgl
      obtain ⟨-, htb5⟩ := HO5.out.blk_tb rfl
      have hgl5 := htb5.lt
      have HTB := Lib.hid htb5
      obtain ⟨g', o', hA', -, hc⟩ := HO5.out.sl.2 (by omega)
      injection hA' with hA'
      injection hA' with e1 e2
      subst e1 e2
      have s0 := hc i hix 0 (by omega)
      have s1 := hc i hix 1 (by omega)
      have s2 := hc i hix 2 (by omega)
      have s3 := hc i hix 3 (by omega)
      have s4 := hc i hix 4 (by omega)
      have s5 := hc i hix 5 (by omega)
      simp only [RA.enc, Nat.add_zero, Nat.zero_add] at s0 s1 s2 s3 s4 s5
      have sf := HO5.out.frozen
      clear hc htb5
      have HOW := Lib.hid (HO5.out.set6 hix x)
      have hmF := fun (v0 v1 v2 v3 v4 v5 : Value) => (Mod.setCell (S := fun i => i = g) (p := ⟨g, i * 6 + 5, none⟩) (Mod.setCell (S := fun i => i = g) (p := ⟨g, i * 6 + 4, none⟩) (Mod.setCell (S := fun i => i = g) (p := ⟨g, i * 6 + 3, none⟩) (Mod.setCell (S := fun i => i = g) (p := ⟨g, i * 6 + 2, none⟩) (Mod.setCell (S := fun i => i = g) (p := ⟨g, i * 6 + 1, none⟩) (Mod.setCell (S := fun i => i = g) (p := ⟨g, i * 6, none⟩) (Mod.refl _ w5) (.inl rfl) v0) (.inl rfl) v1) (.inl rfl) v2) (.inl rfl) v3) (.inl rfl) v4) (.inl rfl) v5)
      have HMF := Lib.hid hmF
      have HFIN : Hid (∀ W, Mod (fun i => i = g) w5 W → Own W w.heap.size 44 6 RA.enc (some ⟨g, 0, none⟩) m c (xs.set i x) → RRts b w (k + 300) most (.returned (.slice (some ⟨g, 0, none⟩) m c)) W) := Lib.hid (fun W hm ho => by
        have key9 : ∀ x r, RtAt w5 x r → RtAt W x r := fun x r q => q.modP hm (fun b hb e => by
          rcases hb with hb | hb
          · exact hb.ne HTB.out (by decide) e
          · exact hb.ne HTB.out (by decide) e)
        refine ⟨_, m, c, xs.set i x, rs.set i r, rfl, ho, (HA5.out.imp key9).set i (key9 _ _ HAT.out), fun y hy => ?_, hmm, (T5.mod hm (fun i e => by omega)).more (by omega)⟩
        rcases List.mem_or_eq_of_mem_set hy with h | rfl
        · exact HMI.out y h
        · exact HMR.out)
      clear hmF HO5 HA5
      obtain ⟨y0, y1, y2, y3, y4, y5, y6, y7, y8, y9, ya, yc⟩ := x
      simp only [RA.val]
      simp only [RA.enc] at HOW
      go_wp2_with fail
      go_ret
      exact HFIN.out _ (HMF.out _ _ _ _ _ _) HOW.out
end Go.Proofs.YtnbcfpjalgfikaaGreatDoor
