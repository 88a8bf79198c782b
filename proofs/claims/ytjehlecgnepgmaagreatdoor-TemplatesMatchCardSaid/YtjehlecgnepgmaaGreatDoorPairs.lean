/- The maker of parameters (Stream.Pairs). Conditions: as for the stream. -/
import Derived.Test.YtjehlecgnepgmaaGreatDoorPair
import Derived.Test.YtjehlecgnepgmaaGreatDoorStream
import Derived.Test.YtjehlecgnepgmaaGreatDoorOwn
namespace Go.Proofs.YtjehlecgnepgmaaGreatDoor
open Go.RowKit
set_option linter.unusedVariables false
set_option linter.unusedSimpArgs false

def QTiny (l : List PairD) : Prop := ∀ p ∈ l, p.1.size ≤ 10 ∧ p.2.size ≤ 10
theorem QTiny.snoc {l : List PairD} {a b : ByteArray} (h : QTiny l) (ha : a.size ≤ 10) (hb : b.size ≤ 10) : QTiny (l ++ [(a, b)]) := fun p hp => by
  rcases List.mem_append.1 hp with h1 | h1
  · exact h p h1
  · simp at h1; subst h1; exact ⟨ha, hb⟩
def RPairs (b : Nat) (w : World) (k : Nat) (e : Ending) (w' : World) : Prop := ∃ A n c ls, e = .returned (.slice A n c) ∧ QSl w' A n ls ∧ n ≤ c ∧ n ≤ 4 ∧ QTiny ls ∧ SStep b w w' k
theorem Own.farP {α : Type} {w : World} {B : Nat} {t : TypeId} {sz : Nat} {enc : α → Nat → Value} {A : Option Addr} {n c : Nat} {xs : List α} (h : Own w B t sz enc A n c xs) (g : Nat) (e : blkOf A = some g) : B ≤ g := by
  rcases h.blk with ⟨rfl, _, _⟩ | ⟨g', rfl, hB, _⟩
  · cases e
  · injection e with e; subst e; exact hB
theorem SStep.modP {S : Nat → Prop} {b k : Nat} {w w' w'' : World} (h : SStep b w w' k) (hm : Mod S w' w'') (hS : ∀ i, S i → w.heap.size ≤ i) : SStep b w w'' k :=
  ⟨h.lt, h.only.step hm (fun i hi e => by have := hS i e; omega), h.inv.mod hm (fun i hi e => by have := hS i e; have := h.lt; omega)⟩
theorem Own.ncap {α : Type} {w : World} {B : Nat} {t : TypeId} {sz : Nat} {enc : α → Nat → Value} {A : Option Addr} {n c : Nat} {xs : List α} (h : Own w B t sz enc A n c xs) : n ≤ c := by
  rcases Nat.eq_zero_or_pos n with rfl | h0
  · exact Nat.zero_le _
  · obtain ⟨_, _, _, _, h5, _⟩ := h.form h0
    exact h5

set_option maxRecDepth 100000 in
set_option maxHeartbeats 1000000 in
theorem pairs_any (b k : Nat) (w : World) (hs : SInv b w k) (hk : k < 4611686018426000000) :
    Calls Tryz.prog 14 #[.pointer (some ⟨b, 0, none⟩)] w (RPairs b w (k + 40)) := by
  have hbl := hs.lt
  have T0 := (SStep.refl hs).alloc (.cells #[.string ⟨#[105, 100]⟩, .string ⟨#[120]⟩, .string ⟨#[114, 101, 115, 116]⟩] 9)
  have BK := Blk.new w 9 #[.string ⟨#[105, 100]⟩, .string ⟨#[120]⟩, .string ⟨#[114, 101, 115, 116]⟩]
  go_enter Tryz.func14, Tryz.ntmps14
  go_wp2_with fail
  have hz0 : (w.alloc (.cells #[.string ⟨#[105, 100]⟩, .string ⟨#[120]⟩, .string ⟨#[114, 101, 115, 116]⟩] 9)).heap.size = w.heap.size + 1 := by simp
  generalize w.alloc (.cells #[.string ⟨#[105, 100]⟩, .string ⟨#[120]⟩, .string ⟨#[114, 101, 115, 116]⟩] 9) = w0 at *
  generalize hnb : w.heap.size = nb at *
  have HNB0 := Lib.hid BK
  have T10 := Lib.hid T0
  clear BK T0 hs hz0
  go_loopw [3, 9] (fun o i wr => ∃ (j m : Nat) (A : Option Addr) (c : Nat) (ls : List PairD), j ≤ 3 ∧ m ≤ j ∧ i = .int .i64 j ∧ o = .slice A m c ∧ Hid (Own wr (nb + 1) 50 2 pairEnc A m c ls) ∧ Hid (QTiny ls) ∧ Hid (SStep b w wr (k + 10 * j)) ∧ Hid (Blk wr nb 9 #[.string ⟨#[105, 100]⟩, .string ⟨#[120]⟩, .string ⟨#[114, 101, 115, 116]⟩])) (fun _ i _ => 3 - (intOf i).toNat)
  case atStart => exact ⟨0, 0, none, 0, [], Nat.zero_le _, Nat.zero_le _, rfl, rfl, Lib.hid Own.nil, Lib.hid (fun p hp => by simp at hp), T10, HNB0⟩
  case round =>
    clear T10 HNB0
    rename World => wr
    obtain ⟨j, m, A, c, ls, hj, hmj, rfl, rfl, HO, HQT, T, HNB⟩ := hrel
    have HOF : Hid (∀ g', blkOf A = some g' → nb + 1 ≤ g') := Lib.hid (fun g' e => HO.out.farP g' e)
    have hTz := T.out.only.size
    by_cases hlt : j < 3
    · have hkey : ∃ key : ByteArray, key.size ≤ 10 ∧ wr.cell? ⟨nb, j, none⟩ = some (.string key) ∧ (key.toList == [114, 101, 115, 116]) = decide (j = 2) := by
        rcases (by omega : j = 0 ∨ j = 1 ∨ j = 2) with rfl | rfl | rfl
        · exact ⟨⟨#[105, 100]⟩, by decide, (HNB.out.cell 0).trans rfl, by rw [ByteArray.toList_eq]; rfl⟩
        · exact ⟨⟨#[120]⟩, by decide, (HNB.out.cell 1).trans rfl, by rw [ByteArray.toList_eq]; rfl⟩
        · exact ⟨⟨#[114, 101, 115, 116]⟩, by decide, (HNB.out.cell 2).trans rfl, by rw [ByteArray.toList_eq]; rfl⟩
      obtain ⟨key, hks, hkc, hkr⟩ := hkey
      have hnl := HNB.out.lt
      have hb1 : (0 : Int) ≤ j := by omega
      have hb2 : (j : Int) < 3 := by omega
      go_wp2_with fail
      refine (flip_any b _ 5 wr T.out.inv (by omega) (by omega) (by omega)).mono ?_
      rintro e w2 ⟨q, rfl, h2⟩
      have T2 := Lib.hid (T.out.trans h2)
      have HO2 := Lib.hid (HO.out.mod h2.only (fun g e e2 => by have := HOF.out g e; omega))
      have HN2 := Lib.hid (HNB.out.mod h2.only (by omega))
      have hTz2 := h2.only.size
      clear h2 T HO HNB hkc
      cases q
      · go_wp2_with fail
        refine (some_any [⟨#[55]⟩, ⟨#[97, 32, 98]⟩, ⟨#[97, 47, 98]⟩, ⟨#[]⟩, ⟨#[46, 46]⟩, ⟨#[46]⟩] b _ w2.heap.size 6 _ (T2.out.alloc _).inv (by omega) (Blk.new _ _ _) rfl (by omega) (by omega)).mono ?_
        rintro e w3 ⟨t, rfl, ht, h3⟩
        have hvs : t.size ≤ 10 := by
          simp only [List.mem_cons, List.not_mem_nil, or_false] at ht
          rcases ht with rfl | rfl | rfl | rfl | rfl | rfl <;> decide
        have m23 := ((Mod.refl (fun i => i = b) w2).alloc (.cells #[.string ⟨#[55]⟩, .string ⟨#[97, 32, 98]⟩, .string ⟨#[97, 47, 98]⟩, .string ⟨#[]⟩, .string ⟨#[46, 46]⟩, .string ⟨#[46]⟩] 9)).trans h3.only
        have T3 := Lib.hid ((T2.out.alloc (.cells #[.string ⟨#[55]⟩, .string ⟨#[97, 32, 98]⟩, .string ⟨#[97, 47, 98]⟩, .string ⟨#[]⟩, .string ⟨#[46, 46]⟩, .string ⟨#[46]⟩] 9)).trans h3)
        have HO3 := Lib.hid (HO2.out.mod m23 (fun g e e2 => by have := HOF.out g e; omega))
        have HN3 := Lib.hid (HN2.out.mod m23 (by omega))
        have hz3 := m23.size
        clear h3 m23 T2 HO2 HN2 ht
        by_cases hj2 : j = 2
        · rw [decide_eq_true hj2] at hkr
          clear hj2
          go_wp2_with fail
          refine (some_any [⟨#[]⟩, ⟨#[47]⟩, ⟨#[47, 97, 47, 98]⟩, ⟨#[97]⟩, ⟨#[47, 37, 122, 122]⟩, ⟨#[47, 47]⟩] b _ w3.heap.size 6 _ (T3.out.alloc _).inv (by omega) (Blk.new _ _ _) rfl (by omega) (by omega)).mono ?_
          rintro e w9 ⟨v, rfl, hv, h9⟩
          clear hvs
          have hvs : v.size ≤ 10 := by
            simp only [List.mem_cons, List.not_mem_nil, or_false] at hv
            rcases hv with rfl | rfl | rfl | rfl | rfl | rfl <;> decide
          have m39 := ((Mod.refl (fun i => i = b) w3).alloc (.cells #[.string ⟨#[]⟩, .string ⟨#[47]⟩, .string ⟨#[47, 97, 47, 98]⟩, .string ⟨#[97]⟩, .string ⟨#[47, 37, 122, 122]⟩, .string ⟨#[47, 47]⟩] 9)).trans h9.only
          have T := Lib.hid ((T3.out.alloc (.cells #[.string ⟨#[]⟩, .string ⟨#[47]⟩, .string ⟨#[47, 97, 47, 98]⟩, .string ⟨#[97]⟩, .string ⟨#[47, 37, 122, 122]⟩, .string ⟨#[47, 47]⟩] 9)).trans h9)
          have HO := Lib.hid (HO3.out.mod m39 (fun g e e2 => by have := HOF.out g e; omega))
          have HNB := Lib.hid (HN3.out.mod m39 (by omega))
          have hz9 := m39.size
          clear h9 m39 T3 HO3 HN3 hv
          have TN := Lib.hid (T.out.more (show _ ≤ k + 10 * (j + 1) by omega))
          have hBq : nb + 1 ≤ (w9.alloc (.cells #[.string key, .string v] 50)).heap.size := by simp; omega
          have HOA := HO.out.alloc (.cells #[.string key, .string v] 50)
          have hBn := Blk.new w9 50 #[.string key, .string v]
          go_wp2_with (at_builtin; refine wpList_push rfl _ _ _ rfl 32 Tryz.underlying39 einfo_pair rfl HOA (key, v) w9.heap.size rfl hBn (fun j hj => pairEnc_one _ j hj) (by omega) (by omega) hBq ?_; intro g8 cap8 w8 own8 hm8 hat8 hlt8)
          have HO8 := Lib.hid own8
          have T8 := Lib.hid ((TN.out.alloc (.cells #[.string key, .string v] 50)).modP hm8 (fun i e => by have := HOF.out i e; omega))
          have HN8 := Lib.hid ((HNB.out.new2 ((Mod.refl _ _).alloc (.cells #[.string key, .string v] 50))).mod hm8 (fun e => by have := HOF.out nb e; omega))
          clear own8 hm8
          go_roundw
          case rel => exact ⟨j + 1, m + 1, some ⟨g8, 0, none⟩, cap8, ls ++ [(key, v)], by omega, by omega, by go_num, rfl, HO8, Lib.hid (HQT.out.snoc hks hvs), T8, HN8⟩
          case measure => simp [intOf]; omega
        · rw [decide_eq_false hj2] at hkr
          clear hj2
          generalize hw39 : w3 = w9 at *
          clear hw39
          have T := T3
          have HO := HO3
          have HNB := HN3
          clear T3 HO3 HN3
          have TN := Lib.hid (T.out.more (show _ ≤ k + 10 * (j + 1) by omega))
          have hBq : nb + 1 ≤ (w9.alloc (.cells #[.string key, .string t] 50)).heap.size := by simp; omega
          have HOA := HO.out.alloc (.cells #[.string key, .string t] 50)
          have hBn := Blk.new w9 50 #[.string key, .string t]
          go_wp2_with (at_builtin; refine wpList_push rfl _ _ _ rfl 32 Tryz.underlying39 einfo_pair rfl HOA (key, t) w9.heap.size rfl hBn (fun j hj => pairEnc_one _ j hj) (by omega) (by omega) hBq ?_; intro g8 cap8 w8 own8 hm8 hat8 hlt8)
          have HO8 := Lib.hid own8
          have T8 := Lib.hid ((TN.out.alloc (.cells #[.string key, .string t] 50)).modP hm8 (fun i e => by have := HOF.out i e; omega))
          have HN8 := Lib.hid ((HNB.out.new2 ((Mod.refl _ _).alloc (.cells #[.string key, .string t] 50))).mod hm8 (fun e => by have := HOF.out nb e; omega))
          clear own8 hm8
          go_roundw
          case rel => exact ⟨j + 1, m + 1, some ⟨g8, 0, none⟩, cap8, ls ++ [(key, t)], by omega, by omega, by go_num, rfl, HO8, Lib.hid (HQT.out.snoc hks hvs), T8, HN8⟩
          case measure => simp [intOf]; omega
      · have T3 := Lib.hid (T2.out.more (show _ ≤ k + 10 * (j + 1) by omega))
        clear T2 hkr
        go_wp2_with fail
        go_roundw
        case rel => exact ⟨j + 1, m, A, c, ls, by omega, by omega, by go_num, rfl, HO2, HQT, T3, HN2⟩
        case measure => simp [intOf]; omega
    · obtain rfl : j = 3 := by omega
      have hjl := Lib.hid HO.out.1
      go_wp2_with fail
      refine (flip_any b _ 15 wr T.out.inv (by omega) (by omega) (by omega)).mono ?_
      rintro e w2 ⟨q, rfl, h2⟩
      have T2 := Lib.hid (T.out.trans h2)
      have HO2 := Lib.hid (HO.out.mod h2.only (fun g e e2 => by have := HOF.out g e; omega))
      have hTz2 := h2.only.size
      clear h2 T HO HNB
      cases q
      · go_wp2_with fail
        go_ret
        exact ⟨A, m, c, ls, rfl, HO2.out.sl, HO2.out.ncap, by omega, HQT.out, T2.out.more (by omega)⟩
      · go_wp2_with fail
        refine (some_any [⟨#[105, 100]⟩, ⟨#[122, 122]⟩] b _ w2.heap.size 2 _ (T2.out.alloc _).inv (by omega) (Blk.new _ _ _) rfl (by omega) (by omega)).mono ?_
        rintro e w9 ⟨v, rfl, hv, h9⟩
        have hvs : v.size ≤ 10 := by
          simp only [List.mem_cons, List.not_mem_nil, or_false] at hv
          rcases hv with rfl | rfl <;> decide
        have m29 := ((Mod.refl (fun i => i = b) w2).alloc (.cells #[.string ⟨#[105, 100]⟩, .string ⟨#[122, 122]⟩] 9)).trans h9.only
        have T := Lib.hid ((T2.out.alloc (.cells #[.string ⟨#[105, 100]⟩, .string ⟨#[122, 122]⟩] 9)).trans h9)
        have HO := Lib.hid (HO2.out.mod m29 (fun g e e2 => by have := HOF.out g e; omega))
        have hz9 := m29.size
        clear h9 m29 T2 HO2 hv
        have hBq : nb + 1 ≤ (w9.alloc (.cells #[.string v, .string ⟨#[118]⟩] 50)).heap.size := by simp; omega
        have HOA := HO.out.alloc (.cells #[.string v, .string ⟨#[118]⟩] 50)
        have hBn := Blk.new w9 50 #[.string v, .string ⟨#[118]⟩]
        go_wp2_with (at_builtin; refine wpList_push rfl _ _ _ rfl 32 Tryz.underlying39 einfo_pair rfl HOA (v, ⟨#[118]⟩) w9.heap.size rfl hBn (fun j hj => pairEnc_one _ j hj) (by omega) (by omega) hBq ?_; intro g8 cap8 w8 own8 hm8 hat8 hlt8)
        have HO8 := Lib.hid own8
        have T8 := Lib.hid ((T.out.alloc (.cells #[.string v, .string ⟨#[118]⟩] 50)).modP hm8 (fun i e => by have := HOF.out i e; omega))
        clear own8 hm8
        go_ret
        exact ⟨some ⟨g8, 0, none⟩, m + 1, cap8, ls ++ [(v, ⟨#[118]⟩)], rfl, HO8.out.sl, HO8.out.ncap, by omega, HQT.out.snoc hvs (by decide), T8.out.more (by omega)⟩

end Go.Proofs.YtjehlecgnepgmaaGreatDoor
