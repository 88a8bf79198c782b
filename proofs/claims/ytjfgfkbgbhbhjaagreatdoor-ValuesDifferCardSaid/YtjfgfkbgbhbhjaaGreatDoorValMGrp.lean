/- Several texts in one. (1) What the maker of values hands out: right values. Conditions: as for the stream; no deeper than 3. (2) What the maker of values hands out: nearly right values. Conditions: as for the stream; no deeper than 3. (3) What the maker of values hands out: Stream.Value. Conditions: as for the stream; no deeper than 3. -/
import Derived.Test.YtjfgfkbgbhbhjaaGreatDoorValK
import Derived.Test.YtjfgfkbgbhbhjaaGreatDoorStreamGrp
import Derived.Test.YtjfgfkbgbhbhjaaGreatDoorRowGrp
import Derived.Test.YtjfgfkbgbhbhjaaGreatDoorHeldGrp
import Derived.Deep.CutBlock
import Derived.Test.YtjfgfkbgbhbhjaaGreatDoorVal1Grp
import Derived.Test.YtjfgfkbgbhbhjaaGreatDoorValCGrp

namespace Go.Proofs.YtjfgfkbgbhbhjaaGreatDoor
open Go.RowKit
set_option linter.unusedVariables false
set_option linter.unusedSimpArgs false


theorem SStep.mod {S : Nat → Prop} {b k : Nat} {w w' w'' : World} (h : SStep b w w' k) (hm : Mod S w' w'') (hS : ∀ i, S i → w.heap.size ≤ i) : SStep b w w'' k :=
  ⟨h.lt, h.only.step hm (fun i hi e => by have := hS i e; omega), h.inv.mod hm (fun i hi e => by have := hS i e; have := h.lt; omega)⟩
theorem leaf_tree (w : World) (G : Nat → Prop) (d : Nat) (kind : Int) (flag : Bool) (num : Int) (words : ByteArray) : Tree w G (d + 1) ⟨kind, flag, num, words, none, 0, 0, none, 0, 0⟩ (.mk kind flag num words [] []) :=
  ⟨[], [], rfl, ⟨[], Row.nil, rfl, fun i h => absurd h (by simp)⟩, ⟨[], Row.nil, rfl, fun i h => absurd h (by simp)⟩⟩
theorem einfo_memM : EInfo Tryz.prog 54 7 104 := EInfo.of (z := .agg #[.string ⟨#[]⟩, .int .i64 0, .bool false, .int .i64 0, .string ⟨#[]⟩, .slice none 0 0, .slice none 0 0]) (by kernel_rfl) rfl (by decide)
/-- how often the maker asks the stream, how large its values are -/
def rvK : Nat → Nat | 0 => 12 | d + 1 => 12 + 6 * (rvK d + 1)
def rvW : Nat → Nat | 0 => 100 | d + 1 => 100 + 6 * (rvW d + 30)
theorem rvK_ge : ∀ d, 12 ≤ rvK d
  | 0 => by decide
  | d + 1 => by simp only [rvK]; omega
def rvP : Nat → Nat | 0 => 0 | d + 1 => rvK d + 1
theorem rvP_le : ∀ d, 4 + 6 * rvP d ≤ rvK d
  | 0 => by decide
  | d + 1 => by simp only [rvP, rvK]; omega
theorem rvW_ge : ∀ d, 100 ≤ rvW d
  | 0 => by decide
  | d + 1 => by simp only [rvW]; omega
theorem leaf_w (d : Nat) (kind : Int) (flag : Bool) (num : Int) (words : ByteArray) (h : words.size ≤ 6) : vW (d + 1) (.mk kind flag num words [] []) ≤ rvW d := by
  have := rvW_ge d
  simp only [vW, VT.words, VT.list, VT.mem, List.map_nil, List.sum_nil]
  omega
theorem leaf_wide (d : Nat) (kind : Int) (flag : Bool) (num : Int) (words : ByteArray) (h : words.size ≤ 6) : Wide 6 (d + 1) (.mk kind flag num words [] []) :=
  ⟨Nat.zero_le _, Nat.zero_le _, by show words.size ≤ 100000; omega, fun x hx => by simp [VT.list] at hx, fun x hx => by simp [VT.mem] at hx⟩
def nms6 : List ByteArray := [⟨#[]⟩, ⟨#[97]⟩, ⟨#[98]⟩, ⟨#[99, 32, 100]⟩, ⟨#[110]⟩, ⟨#[115]⟩]
theorem nms6_le (j : Nat) (h : j < nms6.length) : nms6[j].size ≤ 3 := by
  have : ∀ s ∈ nms6, s.size ≤ 3 := by decide
  exact this _ (List.getElem_mem h)
theorem sumList_fit {d d' : Nat} {vs : List VT} (hd : d = d' + 1) (hl : vs.length ≤ 3) (hv : ∀ u ∈ vs, vW d u ≤ rvW d' ∧ Wide 6 d u) : (vs.map fun x => vW d x + 1).sum ≤ 3 * (rvW d' + 1) := by
  have := sum_le_all (fun x => vW d x + 1) (rvW d' + 1) vs (fun x hx => by have := (hv x hx).1; omega)
  have h2 : vs.length * (rvW d' + 1) ≤ 3 * (rvW d' + 1) := Nat.mul_le_mul_right _ hl
  omega
theorem list_fit {d : Nat} {vs : List VT} (hl : vs.length ≤ 3) (h0 : d = 0 → vs = []) (hv : ∀ d', d = d' + 1 → ∀ u ∈ vs, vW d u ≤ rvW d' ∧ Wide 6 d u) : vW (d + 1) (.mk 4 false 0 ⟨#[]⟩ vs []) ≤ rvW d ∧ Wide 6 (d + 1) (.mk 4 false 0 ⟨#[]⟩ vs []) := by
  have hs0 : (⟨#[]⟩ : ByteArray).size = 0 := rfl
  cases d with
  | zero =>
    rw [h0 rfl]
    exact ⟨leaf_w _ _ _ _ _ (by decide), leaf_wide _ _ _ _ _ (by decide)⟩
  | succ d' =>
    have h1 := sumList_fit rfl hl (hv d' rfl)
    constructor
    · show 40 + 6 * (⟨#[]⟩ : ByteArray).size + ((vs.map fun x => vW (d' + 1) x + 1).sum + ([].map fun p : ByteArray × VT => vW (d' + 1) p.2 + (6 * p.1.size + 4)).sum) ≤ rvW (d' + 1)
      simp only [List.map_nil, List.sum_nil, rvW, hs0]
      omega
    · exact ⟨by show vs.length ≤ 6; omega, Nat.zero_le _, by show (⟨#[]⟩ : ByteArray).size ≤ 100000; rw [hs0]; omega, fun x hx => (hv d' rfl x hx).2, fun x hx => by simp [VT.mem] at hx⟩
theorem mem_fit {d : Nat} {ps : List (ByteArray × VT)} (hl : ps.length ≤ 6) (h0 : d = 0 → ps = []) (hv : ∀ d', d = d' + 1 → ∀ p ∈ ps, p.1.size ≤ 3 ∧ vW d p.2 ≤ rvW d' ∧ Wide 6 d p.2) : vW (d + 1) (.mk 5 false 0 ⟨#[]⟩ [] ps) ≤ rvW d ∧ Wide 6 (d + 1) (.mk 5 false 0 ⟨#[]⟩ [] ps) := by
  have hs0 : (⟨#[]⟩ : ByteArray).size = 0 := rfl
  cases d with
  | zero =>
    rw [h0 rfl]
    exact ⟨leaf_w _ _ _ _ _ (by decide), leaf_wide _ _ _ _ _ (by decide)⟩
  | succ d' =>
    have h1 := sum_le_all (fun p : ByteArray × VT => vW (d' + 1) p.2 + (6 * p.1.size + 4)) (rvW d' + 22) ps (fun p hp => by have := hv d' rfl p hp; omega)
    have h2 : ps.length * (rvW d' + 22) ≤ 6 * (rvW d' + 22) := Nat.mul_le_mul_right _ hl
    constructor
    · show 40 + 6 * (⟨#[]⟩ : ByteArray).size + (([].map fun x : VT => vW (d' + 1) x + 1).sum + (ps.map fun p : ByteArray × VT => vW (d' + 1) p.2 + (6 * p.1.size + 4)).sum) ≤ rvW (d' + 1)
      simp only [List.map_nil, List.sum_nil, rvW, hs0]
      omega
    · exact ⟨Nat.zero_le _, by show ps.length ≤ 6; omega, by show (⟨#[]⟩ : ByteArray).size ≤ 100000; rw [hs0]; omega, fun x hx => by simp [VT.list] at hx, fun x hx => ⟨by have := (hv d' rfl x hx).1; omega, (hv d' rfl x hx).2.2⟩⟩
theorem rvK_le {d : Nat} (h : d ≤ 3) : rvK d ≤ 10000 := by
  obtain rfl | rfl | rfl | rfl : d = 0 ∨ d = 1 ∨ d = 2 ∨ d = 3 := by omega
  all_goals decide
def RVal (b : Nat) (w : World) (d k : Nat) (e : Ending) (w' : World) : Prop :=
  ∃ (x : VA) (v : VT), e = .returned x.val ∧ Tree w' (fun g => w.heap.size ≤ g) (d + 1) x v ∧ vW (d + 1) v ≤ rvW d ∧ Wide 6 (d + 1) v ∧ SStep b w w' k
def RVSpec (d : Nat) : Prop := ∀ (b k : Nat) (w : World), SInv b w k → k + rvK d < 4611686018426000000 →
  Calls Tryz.prog 17 #[.pointer (some ⟨b, 0, none⟩), .int .i64 d] w (RVal b w d (k + rvK d))

set_option maxRecDepth 100000 in
set_option maxHeartbeats 700000 in
theorem rv_walk (d : Nat) (hd : d ≤ 3) (IH : ∀ d', d = d' + 1 → RVSpec d') : RVSpec d := by
  intro b k w hs hk
  have hb := hs.lt
  have hkd := rvK_le hd
  have HIH := Lib.hid IH
  clear IH
  go_enter Tryz.func17, Tryz.ntmps17
  go_wp2_with fail
  refine (pick_any [0, 1, 2, 2, 3, 3, 4, 5] b k _ 8 _ (((SStep.refl hs).alloc _).alloc _).inv (by omega) (Blk.new' _ _ (by simp)) rfl (by omega) (by omega)).mono ?_
  rintro e w1 ⟨kd, rfl, mk, h1⟩
  have T1 := (((SStep.refl hs).alloc (.cells #[.int .i64 0, .bool false, .int .i64 0, .string ⟨#[]⟩, .slice none 0 0, .slice none 0 0] 29)).alloc _).trans h1
  obtain ⟨o1, z1, -⟩ := h1.only.pre
  obtain ⟨o0, z0, n0⟩ := o1.pre
  have R1 : Blk w1 w.heap.size 29 _ := n0 (by omega)
  clear h1 o0 o1 n0
  have hkd5 : 0 ≤ kd ∧ kd ≤ 5 := by simp at mk; omega
  clear mk
  go_upto_region 2 with (fail)
  have X2 := Blk.new w1 29 #[.int .i64 kd, .bool false, .int .i64 0, .string ⟨#[]⟩, .slice none 0 0, .slice none 0 0]
  have R2 := R1.mod ((Mod.refl (fun _ => False) w1).alloc (.cells #[.int .i64 kd, .bool false, .int .i64 0, .string ⟨#[]⟩, .slice none 0 0, .slice none 0 0] 29)) (fun e => e)
  have T2 := T1.alloc (.cells #[.int .i64 kd, .bool false, .int .i64 0, .string ⟨#[]⟩, .slice none 0 0, .slice none 0 0] 29)
  generalize w1.alloc (.cells #[.int .i64 kd, .bool false, .int .i64 0, .string ⟨#[]⟩, .slice none 0 0, .slice none 0 0] 29) = w2 at *
  have hrx : w.heap.size < w1.heap.size := by omega
  generalize hxb : w1.heap.size = xb at *
  have HX2 := Lib.hid X2
  have HR2 := Lib.hid R2
  have HT2 := Lib.hid T2
  clear R1 T1 z0 z1 hxb X2 R2 T2
  go_cut [17] (fun c wx => ∃ m : Bool, c = .bool m ∧ (m = true → 0 < d) ∧ Hid (Blk wx xb 29 #[.int .i64 kd, .bool false, .int .i64 0, .string ⟨#[]⟩, .slice none 0 0, .slice none 0 0]) ∧ Hid (Blk wx w.heap.size 29 #[.int .i64 0, .bool false, .int .i64 0, .string ⟨#[]⟩, .slice none 0 0, .slice none 0 0]) ∧ Hid (SStep b w wx (k + 2)))
  case first =>
    rcases Nat.eq_zero_or_pos d with h0 | h0
    · have hd0 : decide ((0 : Int) < (d : Int)) = false := by simp; omega
      go_wp2_with fail
      go_meet
      case rel => exact ⟨false, rfl, (fun h => by cases h), HX2, HR2, Lib.hid (HT2.out.more (by omega))⟩
    · have hd0 : (0 : Int) < (d : Int) := by omega
      have h0D := Lib.hid h0
      have hfl := flip_any b _ 2 _ HT2.out.inv (by omega) (by omega) (by omega)
      clear h0
      go_wp2_with fail
      refine hfl.mono ?_
      clear hfl
      rintro e w3 ⟨m, rfl, h3⟩
      have HX3 := Lib.hid (HX2.out.mod h3.only (by omega))
      have HR3 := Lib.hid (HR2.out.mod h3.only (by omega))
      have HT3 := Lib.hid (HT2.out.trans h3)
      clear h3
      go_wp2_with fail
      go_meet
      case rel => exact ⟨m, rfl, fun _ => h0D.out, HX3, HR3, Lib.hid (HT3.out.more (by omega))⟩
  case rest =>
    rename World => w3
    clear HX2 HR2 HT2
    obtain ⟨m, rfl, hm, HX3, HR3, HT3⟩ := hcut
    go_upto_if 17 with (fail)
    go_cut [] (fun wx => ∃ kd : Int, (0 ≤ kd ∧ kd ≤ 5) ∧ Hid (Blk wx xb 29 #[.int .i64 kd, .bool false, .int .i64 0, .string ⟨#[]⟩, .slice none 0 0, .slice none 0 0]) ∧ Hid (Blk wx w.heap.size 29 #[.int .i64 0, .bool false, .int .i64 0, .string ⟨#[]⟩, .slice none 0 0, .slice none 0 0]) ∧ Hid (SStep b w wx (k + 3)))
    case first =>
      cases m with
      | false =>
        go_wp2_with fail
        go_meet
        case rel => exact ⟨kd, hkd5, HX3, HR3, Lib.hid (HT3.out.more (by omega))⟩
      | true =>
        have hpk := pick_any [4, 5, 5] b _ w3.heap.size 3 _ (HT3.out.alloc _).inv (by omega) (Blk.new _ _ _) rfl (by omega) (by omega)
        go_wp2_with fail
        refine hpk.mono ?_
        clear hpk
        rintro e w4 ⟨kd2, rfl, mk, h4⟩
        have hk2 : 0 ≤ kd2 ∧ kd2 ≤ 5 := by simp at mk; omega
        have hx4 := HX3.out.mod h4.only.pre.1 (by omega)
        have hr4 := HR3.out.mod h4.only.pre.1 (by omega)
        have ht4 := (HT3.out.alloc _).trans h4
        have HX5 := Lib.hid (hx4.set 0 (.int .i64 kd2))
        have HR5 := Lib.hid (hr4.mod (Only.set (Mod.refl (fun g => g = xb) w4) 0 (.int .i64 kd2)) (by omega))
        have HT5 := Lib.hid (ht4.set (p := ⟨xb, 0, none⟩) (by simp only; omega) (.int .i64 kd2))
        have e0 := hx4.cell 0
        have f0 := hx4.frozen 0
        have el := hx4.lt
        simp only [List.getElem?_toArray, List.getElem?_cons_zero] at e0
        clear h4 mk hx4 hr4 ht4
        go_wp2_with fail
        go_meet
        case rel => exact ⟨kd2, hk2, by simpa using HX5, HR5, Lib.hid (HT5.out.more (by omega))⟩
    case rest =>
      rename World => w4
      clear HX3 HR3 HT3 hkd5 m hm kd
      obtain ⟨kd, hk5, HX, HR, HT⟩ := hcut
      have hxx := HX.out
      have e0 := hxx.cell 0
      have e1 := hxx.cell 1
      have e2 := hxx.cell 2
      have e3 := hxx.cell 3
      have e4 := hxx.cell 4
      have e5 := hxx.cell 5
      have el := hxx.lt
      have ef := hxx.frozen
      simp only [List.getElem?_toArray, List.getElem?_cons_zero, List.getElem?_cons_succ] at e0 e1 e2 e3 e4 e5
      clear hxx
      have rl := HR.out.lt
      have rf := HR.out.frozen
      have r0 := HR.out.cell 0
      have r1 := HR.out.cell 1
      have r2 := HR.out.cell 2
      have r3 := HR.out.cell 3
      have r4 := HR.out.cell 4
      have r5 := HR.out.cell 5
      have hne : w.heap.size ≠ xb := by omega
      simp only [List.getElem?_toArray, List.getElem?_cons_zero, List.getElem?_cons_succ] at r0 r1 r2 r3 r4 r5
      have hgk : 100 ≤ rvW d := rvW_ge d
      have hgk2 : 12 ≤ rvK d := rvK_ge d
      obtain rfl | rfl | rfl | rfl | rfl | rfl : kd = 0 ∨ kd = 1 ∨ kd = 2 ∨ kd = 3 ∨ kd = 4 ∨ kd = 5 := by omega
      · go_wp2_with fail
        refine bodyPost_ret (v := VA.val ⟨0, false, 0, ⟨#[]⟩, none, 0, 0, none, 0, 0⟩) (by simp [results, Tryz.results17, go_sem, r0, r1, r2, r3, r4, r5, rf, hne]) rfl ⟨⟨0, false, 0, ⟨#[]⟩, none, 0, 0, none, 0, 0⟩, (.mk 0 false 0 ⟨#[]⟩ [] []), rfl, ?_, ?_, ?_, ?_⟩
        · exact leaf_tree _ _ _ _ _ _ _
        · exact leaf_w _ _ _ _ _ (by first | decide | assumption)
        · exact leaf_wide _ _ _ _ _ (by first | decide | assumption)
        · repeat (with_reducible (first | exact HT.out.more (by omega) | (refine SStep.set ?_ ?_ _; rotate_left; (simp <;> omega))))
      · have hfl := flip_any b _ 2 _ HT.out.inv (by omega) (by omega) (by omega)
        go_wp2_with fail
        refine hfl.mono ?_
        clear hfl
        rintro e w5 ⟨m, rfl, h5⟩
        have hx5 := HX.out.mod h5.only (by omega)
        have hr5 := HR.out.mod h5.only (by omega)
        have ht5 := HT.out.trans h5
        clear e0 e1 e2 e3 e4 e5 el ef rl rf r0 r1 r2 r3 r4 r5 hne
        have f1 := hx5.frozen 1
        have e1 := hx5.cell 1
        have el := hx5.lt
        simp only [List.getElem?_toArray, List.getElem?_cons_zero, List.getElem?_cons_succ] at e1
        go_upto_region 24 with (fail)
        have HX6 := Lib.hid (hx5.set 1 (.bool m))
        have HR6 := Lib.hid (hr5.mod (Only.set (Mod.refl (fun g => g = xb) w5) 1 (.bool m)) (by omega))
        have HT6 := Lib.hid (ht5.set (p := ⟨xb, 1, none⟩) (by simp only; omega) (.bool m))
        simp only [Array.setIfInBounds, List.size_toArray, List.length_cons, List.length_nil, Nat.reduceAdd, Nat.reduceLT, ↓reduceDIte, List.set_toArray, List.set_cons_zero, List.set_cons_succ] at HX6
        generalize (w5).setCell ⟨xb, 1, none⟩ (.bool m) = w6 at *
        clear HX HR HT
        have HX := HX6
        have HR := HR6
        have HT := HT6
        clear HX6 HR6 HT6
        clear f1 e1 el hx5 hr5 ht5 h5
        have hxx := HX.out
        have e0 := hxx.cell 0
        have e1 := hxx.cell 1
        have e2 := hxx.cell 2
        have e3 := hxx.cell 3
        have e4 := hxx.cell 4
        have e5 := hxx.cell 5
        have el := hxx.lt
        have ef := hxx.frozen
        simp only [List.getElem?_toArray, List.getElem?_cons_zero, List.getElem?_cons_succ] at e0 e1 e2 e3 e4 e5
        clear hxx
        have rl := HR.out.lt
        have rf := HR.out.frozen
        have r0 := HR.out.cell 0
        have r1 := HR.out.cell 1
        have r2 := HR.out.cell 2
        have r3 := HR.out.cell 3
        have r4 := HR.out.cell 4
        have r5 := HR.out.cell 5
        have hne : w.heap.size ≠ xb := by omega
        simp only [List.getElem?_toArray, List.getElem?_cons_zero, List.getElem?_cons_succ] at r0 r1 r2 r3 r4 r5
        go_wp2_with fail
        refine bodyPost_ret (v := VA.val ⟨1, m, 0, ⟨#[]⟩, none, 0, 0, none, 0, 0⟩) (by simp [results, Tryz.results17, go_sem, r0, r1, r2, r3, r4, r5, rf, hne]) rfl ⟨⟨1, m, 0, ⟨#[]⟩, none, 0, 0, none, 0, 0⟩, (.mk 1 m 0 ⟨#[]⟩ [] []), rfl, ?_, ?_, ?_, ?_⟩
        · exact leaf_tree _ _ _ _ _ _ _
        · exact leaf_w _ _ _ _ _ (by first | decide | assumption)
        · exact leaf_wide _ _ _ _ _ (by first | decide | assumption)
        · repeat (with_reducible (first | exact HT.out.more (by omega) | (refine SStep.set ?_ ?_ _; rotate_left; (simp <;> omega))))
      · have hnx := next_any b _ 100 _ HT.out.inv (by omega) (by omega) (by omega)
        go_wp2_with fail
        refine hnx.mono ?_
        clear hnx
        rintro e w5 ⟨n, rfl, n1, n2, h5⟩
        have hx5 := HX.out.mod h5.only (by omega)
        have hr5 := HR.out.mod h5.only (by omega)
        have ht5 := HT.out.trans h5
        clear e0 e1 e2 e3 e4 e5 el ef rl rf r0 r1 r2 r3 r4 r5 hne
        clear HX HR HT
        have hpk := pick_any [0, 1, -1, 5, 12, 1000000000000000, -1000000000000000, n] b _ w5.heap.size 8 _ (ht5.alloc _).inv (by omega) (Blk.new _ _ _) rfl (by omega) (by omega)
        go_wp2_with fail
        refine hpk.mono ?_
        clear hpk
        rintro e w7 ⟨m, rfl, mm, h7⟩
        have hx5 := hx5.mod h7.only.pre.1 (by omega)
        have hr5 := hr5.mod h7.only.pre.1 (by omega)
        have ht5 := (ht5.alloc _).trans h7
        have HX := Lib.hid hx5
        have HR := Lib.hid hr5
        have HT := Lib.hid ht5
        have f2 := hx5.frozen 2
        have e2 := hx5.cell 2
        have el := hx5.lt
        simp only [List.getElem?_toArray, List.getElem?_cons_zero, List.getElem?_cons_succ] at e2
        go_upto_region 24 with (fail)
        have HX6 := Lib.hid (hx5.set 2 (.int .i64 m))
        have HR6 := Lib.hid (hr5.mod (Only.set (Mod.refl (fun g => g = xb) w7) 2 (.int .i64 m)) (by omega))
        have HT6 := Lib.hid (ht5.set (p := ⟨xb, 2, none⟩) (by simp only; omega) (.int .i64 m))
        simp only [Array.setIfInBounds, List.size_toArray, List.length_cons, List.length_nil, Nat.reduceAdd, Nat.reduceLT, ↓reduceDIte, List.set_toArray, List.set_cons_zero, List.set_cons_succ] at HX6
        generalize (w7).setCell ⟨xb, 2, none⟩ (.int .i64 m) = w6 at *
        clear HX HR HT
        have HX := HX6
        have HR := HR6
        have HT := HT6
        clear HX6 HR6 HT6
        clear f2 e2 el hx5 hr5 ht5 h7 mm
        have hxx := HX.out
        have e0 := hxx.cell 0
        have e1 := hxx.cell 1
        have e2 := hxx.cell 2
        have e3 := hxx.cell 3
        have e4 := hxx.cell 4
        have e5 := hxx.cell 5
        have el := hxx.lt
        have ef := hxx.frozen
        simp only [List.getElem?_toArray, List.getElem?_cons_zero, List.getElem?_cons_succ] at e0 e1 e2 e3 e4 e5
        clear hxx
        have rl := HR.out.lt
        have rf := HR.out.frozen
        have r0 := HR.out.cell 0
        have r1 := HR.out.cell 1
        have r2 := HR.out.cell 2
        have r3 := HR.out.cell 3
        have r4 := HR.out.cell 4
        have r5 := HR.out.cell 5
        have hne : w.heap.size ≠ xb := by omega
        simp only [List.getElem?_toArray, List.getElem?_cons_zero, List.getElem?_cons_succ] at r0 r1 r2 r3 r4 r5
        go_wp2_with fail
        refine bodyPost_ret (v := VA.val ⟨2, false, m, ⟨#[]⟩, none, 0, 0, none, 0, 0⟩) (by simp [results, Tryz.results17, go_sem, r0, r1, r2, r3, r4, r5, rf, hne]) rfl ⟨⟨2, false, m, ⟨#[]⟩, none, 0, 0, none, 0, 0⟩, (.mk 2 false m ⟨#[]⟩ [] []), rfl, ?_, ?_, ?_, ?_⟩
        · exact leaf_tree _ _ _ _ _ _ _
        · exact leaf_w _ _ _ _ _ (by first | decide | assumption)
        · exact leaf_wide _ _ _ _ _ (by first | decide | assumption)
        · repeat (with_reducible (first | exact HT.out.more (by omega) | (refine SStep.set ?_ ?_ _; rotate_left; (simp <;> omega))))
      · have hsm := some_any [⟨#[]⟩, ⟨#[97]⟩, ⟨#[98]⟩, ⟨#[97, 32, 98]⟩, ⟨#[120, 34, 121, 92, 122]⟩, ⟨#[195, 169, 10, 9]⟩, ⟨#[1, 127]⟩, ⟨#[49, 50]⟩, ⟨#[45, 51]⟩, ⟨#[65, 98, 44, 99, 68]⟩] b _ w4.heap.size 10 _ (HT.out.alloc _).inv (by omega) (Blk.new _ _ _) rfl (by omega) (by omega)
        go_wp2_with fail
        refine hsm.mono ?_
        clear hsm
        rintro e w7 ⟨m, rfl, mm, h7⟩
        have hm6 : m.size ≤ 6 := by
          simp only [List.mem_cons, List.not_mem_nil, or_false] at mm
          rcases mm with rfl | rfl | rfl | rfl | rfl | rfl | rfl | rfl | rfl | rfl <;> decide
        have hx5 := HX.out.mod h7.only.pre.1 (by omega)
        have hr5 := HR.out.mod h7.only.pre.1 (by omega)
        have ht5 := (HT.out.alloc _).trans h7
        clear e0 e1 e2 e3 e4 e5 el ef rl rf r0 r1 r2 r3 r4 r5 hne
        have f2 := hx5.frozen 3
        have e2 := hx5.cell 3
        have el := hx5.lt
        simp only [List.getElem?_toArray, List.getElem?_cons_zero, List.getElem?_cons_succ] at e2
        go_upto_region 24 with (fail)
        have HX6 := Lib.hid (hx5.set 3 (.string m))
        have HR6 := Lib.hid (hr5.mod (Only.set (Mod.refl (fun g => g = xb) w7) 3 (.string m)) (by omega))
        have HT6 := Lib.hid (ht5.set (p := ⟨xb, 3, none⟩) (by simp only; omega) (.string m))
        simp only [Array.setIfInBounds, List.size_toArray, List.length_cons, List.length_nil, Nat.reduceAdd, Nat.reduceLT, ↓reduceDIte, List.set_toArray, List.set_cons_zero, List.set_cons_succ] at HX6
        generalize (w7).setCell ⟨xb, 3, none⟩ (.string m) = w6 at *
        clear HX HR HT
        have HX := HX6
        have HR := HR6
        have HT := HT6
        clear HX6 HR6 HT6
        clear f2 e2 el hx5 hr5 ht5 h7 mm
        have hxx := HX.out
        have e0 := hxx.cell 0
        have e1 := hxx.cell 1
        have e2 := hxx.cell 2
        have e3 := hxx.cell 3
        have e4 := hxx.cell 4
        have e5 := hxx.cell 5
        have el := hxx.lt
        have ef := hxx.frozen
        simp only [List.getElem?_toArray, List.getElem?_cons_zero, List.getElem?_cons_succ] at e0 e1 e2 e3 e4 e5
        clear hxx
        have rl := HR.out.lt
        have rf := HR.out.frozen
        have r0 := HR.out.cell 0
        have r1 := HR.out.cell 1
        have r2 := HR.out.cell 2
        have r3 := HR.out.cell 3
        have r4 := HR.out.cell 4
        have r5 := HR.out.cell 5
        have hne : w.heap.size ≠ xb := by omega
        simp only [List.getElem?_toArray, List.getElem?_cons_zero, List.getElem?_cons_succ] at r0 r1 r2 r3 r4 r5
        go_wp2_with fail
        refine bodyPost_ret (v := VA.val ⟨3, false, 0, m, none, 0, 0, none, 0, 0⟩) (by simp [results, Tryz.results17, go_sem, r0, r1, r2, r3, r4, r5, rf, hne]) rfl ⟨⟨3, false, 0, m, none, 0, 0, none, 0, 0⟩, (.mk 3 false 0 m [] []), rfl, ?_, ?_, ?_, ?_⟩
        · exact leaf_tree _ _ _ _ _ _ _
        · exact leaf_w _ _ _ _ _ (by first | decide | assumption)
        · exact leaf_wide _ _ _ _ _ (by first | decide | assumption)
        · repeat (with_reducible (first | exact HT.out.more (by omega) | (refine SStep.set ?_ ?_ _; rotate_left; (simp <;> omega))))
      · have hnx := next_any b _ 4 _ HT.out.inv (by omega) (by omega) (by omega)
        go_wp2_with fail
        refine hnx.mono ?_
        clear hnx
        rintro e w5 ⟨n, rfl, n1, n2, h5⟩
        obtain ⟨n, rfl⟩ := Int.eq_ofNat_of_zero_le n1
        have hn4 : n ≤ 3 := by omega
        have HX5 := Lib.hid (HX.out.mod h5.only (by omega))
        have HR5 := Lib.hid (HR.out.mod h5.only (by omega))
        have HT5 := Lib.hid (HT.out.trans h5)
        clear e0 e1 e2 e3 e4 e5 el ef rl rf r0 r1 r2 r3 r4 r5 hne
        clear HX HR HT n1 n2 h5
        go_wp2_with fail
        go_loopw [47] (fun i wr => ∃ (j c m : Nat) (A : Option Addr) (xs : List VA) (vs : List VT), j ≤ n ∧ i = .int .i64 j ∧ m ≤ j ∧ Hid (Blk wr xb 29 #[.int .i64 4, .bool false, .int .i64 0, .string ⟨#[]⟩, .slice A m c, .slice none 0 0]) ∧ Hid (Blk wr w.heap.size 29 #[.int .i64 0, .bool false, .int .i64 0, .string ⟨#[]⟩, .slice none 0 0, .slice none 0 0]) ∧
          Hid (Kids (TrV d) 29 6 VA.enc wr (xb + 1) (fun g => xb < g) A m c xs vs) ∧ Hid (∀ d', d = d' + 1 → ∀ u ∈ vs, vW d u ≤ rvW d' ∧ Wide 6 d u) ∧ (d = 0 → m = 0) ∧ Hid (SStep b w wr (k + 4 + j * rvP d))) (fun i _ => n - (intOf i).toNat)
        case atStart => exact ⟨0, 0, 0, none, [], [], Nat.zero_le _, rfl, Nat.le_refl _, HX5, HR5, Lib.hid Kids.nil, Lib.hid (fun _ _ u hu => by simp at hu), fun _ => rfl, Lib.hid (HT5.out.more (by omega))⟩
        case round =>
          clear HX5 HR5 HT5
          rename World => wr
          obtain ⟨j, c, m, A, xs, vs, hj, rfl, hmj, HX, HR, HK, HV, hd0, HT⟩ := hrel
          by_cases hlt : j < n
          · rcases Nat.eq_zero_or_pos d with hz | hz
            · have hdz : decide ((0 : Int) < (d : Int)) = false := by simp; omega
              have hdy : ¬ (0 : Int) < (d : Int) := by omega
              have HZ := Lib.hid (hd0 hz)
              clear hd0 hz
              go_wp2_with fail
              go_roundw
              case rel => exact ⟨j + 1, c, m, A, xs, vs, by omega, by go_num, by omega, HX, HR, HK, HV, fun _ => HZ.out, Lib.hid (HT.out.more (by rw [Nat.succ_mul]; omega))⟩
              case measure => simp [intOf]; omega
            · obtain ⟨d', hd'⟩ : ∃ d', d = d' + 1 := ⟨d - 1, by omega⟩
              have hsp := HIH.out d' hd'
              have hsub : (d : Int) - 1 = (d' : Int) := by omega
              have hdz : (0 : Int) < (d : Int) := by omega
              have HDE := Lib.hid hd'
              have hkk : rvP d = rvK d' + 1 := by rw [hd']; rfl
              have HKK := Lib.hid hkk
              have hrk : rvK d = 12 + 6 * (rvK d' + 1) := by rw [hd']; rfl
              have hjk : j * rvP d ≤ 2 * (rvK d' + 1) := Nat.mul_le_mul (by omega) (Nat.le_of_eq hkk)
              have hwr : IntKind.i64.wrap (d' : Int) = (d' : Int) := by
                simp [IntKind.wrap, IntKind.signed, IntKind.bits]; omega
              have hcall := hsp b _ wr.drew (HT.out.drew).inv (by omega)
              clear hrk hjk
              have HCS : Hid (∀ W, Blk W xb 29 #[.int .i64 4, .bool false, .int .i64 0, .string ⟨#[]⟩, .slice A m c, .slice none 0 0] → (W.cell? ⟨xb, 4, none⟩ = some (.slice A m c) ∧ xb < W.heap.size)) := Lib.hid (fun W hb => ⟨(hb.cell 4).trans rfl, hb.lt⟩)
              clear hd' hsp hz hd0 hkk
              go_upto_region 15 with (fail)
              refine wp_region_held_ord (fun W => W.cell? ⟨xb, 4, none⟩ = some (.slice A m c) ∧ xb < W.heap.size) [5, 6, 7] [0, 1, 2, 3, 4, 5, 6, 7] (by kernel_rfl) (by kernel_rfl) (fun _ _ d _ _ h => by cases d <;> exact h) ?_ (fun hHeld => ?_)
              · exact HCS.out _ (HX.out.mod (Mod.refl (fun _ => False) wr).drew (fun e => e))
              simp only [List.length_cons, List.length_nil, List.drop_succ_cons, List.drop_zero]
              refine heldO_take ?_ (by rfl) (by rfl) (by rfl) (fun w hSw => ?_) ?_
              rotate_left
              · (try dsimp only at hSw); go_simp; any_goals (with_reducible rfl)
              simp only [Act.put, List.setIfInBounds_toArray, List.set_cons_zero, List.set_cons_succ]
              refine heldO_take ?_ (by rfl) (by rfl) (by rfl) (fun w hSw => ?_) ?_
              rotate_left
              · (try dsimp only at hSw); go_simp; any_goals (with_reducible rfl)
              simp only [Act.put, List.setIfInBounds_toArray, List.set_cons_zero, List.set_cons_succ]
              refine heldO_take ?_ (by rfl) (by rfl) (by rfl) (fun w hSw => ?_) ?_
              rotate_left
              · (try dsimp only at hSw); go_simp; any_goals (with_reducible rfl)
              simp only [Act.put, List.setIfInBounds_toArray, List.set_cons_zero, List.set_cons_succ]
              refine heldO_take ?_ (by rfl) (by rfl) (by rfl) (fun w hSw => ?_) ?_
              rotate_left
              · (try dsimp only at hSw); go_simp; any_goals (with_reducible rfl)
              simp only [Act.put, List.setIfInBounds_toArray, List.set_cons_zero, List.set_cons_succ]
              refine heldO_take ?_ (by rfl) (by rfl) (by rfl) (fun w hSw => ?_) ?_
              rotate_left
              · (try dsimp only at hSw); go_simp; any_goals (with_reducible rfl)
              simp only [Act.put, List.setIfInBounds_toArray, List.set_cons_zero, List.set_cons_succ]
              refine heldO_step (by rfl) (by rfl) (by rfl) (fun K hK => ?_)
              go_simp
              refine hcall.mono ?_
              clear hcall
              rintro e w5 ⟨y, u, rfl, hty, hwu, hwd, h5⟩
              have hx5 := (HX.out.mod (Mod.refl (fun _ => False) wr).drew (fun e => e)).mod h5.only (by omega)
              have hr5 := (HR.out.mod (Mod.refl (fun _ => False) wr).drew (fun e => e)).mod h5.only (by omega)
              have hk5 := (HK.out.new (trV_ok d) (Mod.refl _ wr).drew).mod (trV_ok d) h5.only (fun g hg _ e => by subst e; have := hg; omega) (fun g hg e => by have := (HK.out.own.far' g hg).1; omega)
              have ht5 := HT.out.drew.trans h5
              have hfar : ∀ g, blkOf A = some g → g < wr.heap.size := fun g hg => (HK.out.own.far' g hg).2.1
              have hxl : xb < wr.heap.size := HX.out.lt
              have hty5 : Tree w5 (fun g => xb < g ∧ blkOf A ≠ some g) d y u := by
                have h1 := HDE.out
                subst h1
                exact Tree.imp (fun g (hg : wr.drew.heap.size ≤ g) _ => by
                  have hdz : wr.drew.heap.size = wr.heap.size := rfl
                  exact ⟨by omega, fun e => by have := hfar g e; omega⟩) _ _ _ hty
              have HX5 := Lib.hid hx5
              have HR5 := Lib.hid hr5
              have HK5 := Lib.hid hk5
              have HT5 := Lib.hid ht5
              have HTY := Lib.hid hty5
              have HU : Hid (vW d u ≤ rvW d' ∧ Wide 6 d u) := Lib.hid (by have h1 := HDE.out; subst h1; exact ⟨hwu, hwd⟩)
              clear hx5 hr5 hk5 ht5 hty5 h5 hty hwu hwd hfar HX HR HK HT
              go_wp2_with fail
              refine hK.out _ _ (HCS.out _ HX5.out) (fun hHeld => ?_)
              clear hK K
              try simp only [Act.put, List.setIfInBounds_toArray, List.set_cons_zero, List.set_cons_succ]
              obtain ⟨yk, yf, yn, yw, yla, yln, ylc, yma, ymn, ymc⟩ := y
              refine heldO_step (by rfl) (by rfl) (by rfl) (fun K hK => ?_)
              go_simp
              have m6 : New w5 (w5.alloc (.cells #[.int .i64 yk, .bool yf, .int .i64 yn, .string yw, .slice yla yln ylc, .slice yma ymn ymc] 29)) := (Mod.refl _ _).alloc _
              have hx6 := HX5.out.mod m6 (fun e => e)
              refine hK.out _ _ (HCS.out _ hx6) (fun hHeld => ?_)
              clear hK K
              try simp only [Act.put, List.setIfInBounds_toArray, List.set_cons_zero, List.set_cons_succ]
              have hk6 := HK5.out.new (trV_ok d) m6
              have hty6 := HTY.out.new m6
              have blk6 : Blk (w5.alloc (.cells #[.int .i64 yk, .bool yf, .int .i64 yn, .string yw, .slice yla yln ylc, .slice yma ymn ymc] 29)) w5.heap.size 29 (encL 6 VA.enc ⟨yk, yf, yn, yw, yla, yln, ylc, yma, ymn, ymc⟩).toArray := Blk.new _ _ _
              have HZ : Hid (xb + 1 ≤ (w5.alloc (.cells #[.int .i64 yk, .bool yf, .int .i64 yn, .string yw, .slice yla yln ylc, .slice yma ymn ymc] 29)).heap.size) := Lib.hid hx6.lt
              refine heldO_step (by rfl) (by rfl) (by rfl) (fun K hK => ?_)
              refine wp_push (.tmp 52) (.tmp 57) _ rfl 88 Tryz.underlying26 einfo_val rfl (by exact hk6.own) ⟨yk, yf, yn, yw, yla, yln, ylc, yma, ymn, ymc⟩ w5.heap.size rfl (by exact blk6) (fun j hj => VA.one _ j hj) (by omega) (by omega) HZ.out ?_
              intro g9 cap9 w9 own9 hm9 hat9 hlt9
              have hnx : ∀ g, blkOf A = some g → g ≠ xb ∧ g ≠ w.heap.size ∧ g ≠ b ∧ w.heap.size ≤ g := fun g hg => by
                have := (hk6.own.far' g hg).1
                omega
              have hx9 := hx6.mod hm9 (fun e => (hnx _ e).1 rfl)
              have hr9 := (HR5.out.mod m6 (fun e => e)).mod hm9 (fun e => (hnx _ e).2.1 rfl)
              have hk9 := hk6.push (trV_ok d) hty6 own9 hm9 hat9
              have hg9 : xb < g9 := by
                rcases hat9 with h | h
                · have := (hk6.own.far' g9 h).1; omega
                · have := hx6.lt; omega
              have ht9 := (HT5.out.alloc (.cells #[.int .i64 yk, .bool yf, .int .i64 yn, .string yw, .slice yla yln ylc, .slice yma ymn ymc] 29)).mod hm9 (fun i e => (hnx i e).2.2.2)
              refine hK.out _ _ (by exact ⟨(hx9.cell 4).trans rfl, hx9.lt⟩) (fun hHeld => ?_)
              clear hK K
              try simp only [Act.put, List.setIfInBounds_toArray, List.set_cons_zero, List.set_cons_succ]
              refine heldO_nil ?_
              have hms : Only xb w9 (w9.setCell ⟨xb, 4, none⟩ (.slice (some ⟨g9, 0, none⟩) (m + 1) cap9)) := Only.set (Mod.refl _ _) 4 _
              have HX9 := Lib.hid (hx9.set 4 (.slice (some ⟨g9, 0, none⟩) (m + 1) cap9))
              have HR9 := Lib.hid (hr9.mod hms (by omega))
              have HK9 := Lib.hid (hk9.mod (trV_ok d) hms (fun g hg _ e => by subst e; exact absurd hg (Nat.lt_irrefl _)) (fun g hg e => by injection hg with hg; simp only at hg; omega))
              have HT9 := Lib.hid (ht9.set (p := ⟨xb, 4, none⟩) (by simp only; omega) (.slice (some ⟨g9, 0, none⟩) (m + 1) cap9))
              simp only [Array.setIfInBounds, List.size_toArray, List.length_cons, List.length_nil, Nat.reduceAdd, Nat.reduceLT, ↓reduceDIte, List.set_toArray, List.set_cons_zero, List.set_cons_succ] at HX9
              have f4 := hx9.frozen 4
              have c4 := hx9.cell 4
              have l9 := hx9.lt
              simp only [List.getElem?_toArray, List.getElem?_cons_zero, List.getElem?_cons_succ] at c4
              clear hx6 hk6 hty6 blk6 own9 hm9 hat9 hlt9 hnx hx9 hr9 hk9 hg9 ht9 hms m6 HX5 HR5 HK5 HT5 HTY hHeld
              go_wp2_with fail
              generalize w9.setCell ⟨xb, 4, none⟩ (.slice (some ⟨g9, 0, none⟩) (m + 1) cap9) = w10 at *
              go_roundw
              case rel => exact ⟨j + 1, cap9, m + 1, some ⟨g9, 0, none⟩, _, vs ++ [u], by omega, by go_num, by omega, HX9, HR9, HK9, Lib.hid (fun d2 h2 z hz => by
                have h1 := HDE.out
                have h3 : d2 = d' := by omega
                subst h3
                rcases List.mem_append.1 hz with hz | hz
                · exact HV.out d2 h2 z hz
                · simp only [List.mem_singleton] at hz; subst hz; exact HU.out), fun h => by omega, Lib.hid (HT9.out.more (by rw [HKK.out, Nat.succ_mul]; omega))⟩
              case measure => simp [intOf]; omega
          · obtain rfl : j = n := by omega
            have hxx := HX.out
            have e0 := hxx.cell 0
            have e1 := hxx.cell 1
            have e2 := hxx.cell 2
            have e3 := hxx.cell 3
            have e4 := hxx.cell 4
            have e5 := hxx.cell 5
            have el := hxx.lt
            have ef := hxx.frozen
            simp only [List.getElem?_toArray, List.getElem?_cons_zero, List.getElem?_cons_succ] at e0 e1 e2 e3 e4 e5
            clear hxx
            have rl := HR.out.lt
            have rf := HR.out.frozen
            have r0 := HR.out.cell 0
            have r1 := HR.out.cell 1
            have r2 := HR.out.cell 2
            have r3 := HR.out.cell 3
            have r4 := HR.out.cell 4
            have r5 := HR.out.cell 5
            have hne : w.heap.size ≠ xb := by omega
            simp only [List.getElem?_toArray, List.getElem?_cons_zero, List.getElem?_cons_succ] at r0 r1 r2 r3 r4 r5
            have hfit := list_fit (d := d) (vs := vs) (by have := HK.out.len; omega) (fun h => List.eq_nil_of_length_eq_zero (by rw [HK.out.len]; exact hd0 h)) HV.out
            have hjk : j * rvP d ≤ 3 * rvP d := Nat.mul_le_mul_right _ hn4
            have hrk := rvP_le d
            go_wp2_with fail
            refine bodyPost_ret (v := VA.val ⟨4, false, 0, ⟨#[]⟩, A, m, c, none, 0, 0⟩) (by simp [results, Tryz.results17, go_sem, r0, r1, r2, r3, r4, r5, rf, hne]) rfl ⟨⟨4, false, 0, ⟨#[]⟩, A, m, c, none, 0, 0⟩, (.mk 4 false 0 ⟨#[]⟩ vs []), rfl, ?_, ?_, ?_, ?_⟩
            · refine Tree.of_kids (HK.out.mod (trV_ok d) (S := fun g => g = w.heap.size) ?_ (fun g hg _ e => by subst e; have := hg; omega) (fun g hg e => by subst e; have := (HK.out.own.far' _ hg).1; omega)) (B' := w.heap.size) (G2 := fun g => w.heap.size ≤ g) Kids.nil (fun g hg _ => by have := hg; omega) (fun g hg _ => hg) (fun g hg => by omega) (fun g hg => hg)
              repeat (with_reducible (first | exact Mod.refl _ _ | refine Only.set ?_ _ _))
            · exact hfit.1
            · exact hfit.2
            · repeat (with_reducible (first | exact HT.out.more (by omega) | (refine SStep.set ?_ ?_ _; rotate_left; (simp <;> omega))))
      · have NB := Blk.new w4 9 #[.string ⟨#[]⟩, .string ⟨#[97]⟩, .string ⟨#[98]⟩, .string ⟨#[99, 32, 100]⟩, .string ⟨#[110]⟩, .string ⟨#[115]⟩]
        have nm4 : New w4 (w4.alloc (.cells #[.string ⟨#[]⟩, .string ⟨#[97]⟩, .string ⟨#[98]⟩, .string ⟨#[99, 32, 100]⟩, .string ⟨#[110]⟩, .string ⟨#[115]⟩] 9)) := (Mod.refl _ _).alloc _
        go_upto_region 19 with (fail)
        generalize w4.alloc (.cells #[.string ⟨#[]⟩, .string ⟨#[97]⟩, .string ⟨#[98]⟩, .string ⟨#[99, 32, 100]⟩, .string ⟨#[110]⟩, .string ⟨#[115]⟩] 9) = w5 at *
        have HX5 := Lib.hid (HX.out.mod nm4 (fun e => e))
        have HR5 := Lib.hid (HR.out.mod nm4 (fun e => e))
        have HT5 := Lib.hid (HT.out.new nm4)
        have HNX : Hid (w4.heap.size ≠ xb ∧ w4.heap.size ≠ w.heap.size ∧ w4.heap.size ≠ b ∧ w.heap.size ≤ w4.heap.size) := Lib.hid (by have := HX.out.lt; have := HR.out.lt; have := HT.out.inv.lt; omega)
        have hcs : #[Value.string ⟨#[]⟩, .string ⟨#[97]⟩, .string ⟨#[98]⟩, .string ⟨#[99, 32, 100]⟩, .string ⟨#[110]⟩, .string ⟨#[115]⟩] = (nms6.map Value.string).toArray := rfl
        have HNB : Hid (Blk w5 w4.heap.size 9 (nms6.map Value.string).toArray) := Lib.hid (by rw [← hcs]; exact NB)
        generalize w4.heap.size = nb at *
        clear e0 e1 e2 e3 e4 e5 el ef rl rf r0 r1 r2 r3 r4 r5 hne
        clear HX HR HT nm4 NB hcs
        go_wp2_with fail
        go_loopw [65] (fun i wr => ∃ (j c m : Nat) (A : Option Addr) (xs : List MA) (vs : List (ByteArray × VT)), j ≤ 6 ∧ i = .int .i64 j ∧ m ≤ j ∧ Hid (Blk wr xb 29 #[.int .i64 5, .bool false, .int .i64 0, .string ⟨#[]⟩, .slice none 0 0, .slice A m c]) ∧ Hid (Blk wr w.heap.size 29 #[.int .i64 0, .bool false, .int .i64 0, .string ⟨#[]⟩, .slice none 0 0, .slice none 0 0]) ∧
          Hid (Kids (TrM d) 54 7 MA.enc wr (xb + 1) (fun g => xb < g) A m c xs vs) ∧ Hid (∀ d', d = d' + 1 → ∀ p ∈ vs, p.1.size ≤ 3 ∧ vW d p.2 ≤ rvW d' ∧ Wide 6 d p.2) ∧ (d = 0 → m = 0) ∧ Hid (Blk wr nb 9 (nms6.map Value.string).toArray) ∧ Hid (SStep b w wr (k + 4 + j * rvP d))) (fun i _ => 6 - (intOf i).toNat)
        case atStart => exact ⟨0, 0, 0, none, [], [], Nat.zero_le _, rfl, Nat.le_refl _, HX5, HR5, Lib.hid Kids.nil, Lib.hid (fun _ _ u hu => by simp at hu), fun _ => rfl, HNB, Lib.hid (HT5.out.more (by omega))⟩
        case round =>
          clear HX5 HR5 HT5 HNB
          rename World => wr
          obtain ⟨j, c, m, A, xs, vs, hj, rfl, hmj, HX, HR, HK, HV, hd0, HNB, HT⟩ := hrel
          by_cases hlt : j < 6
          · have hjn : j < nms6.length := hlt
            have hbk := HNB.out.cell j
            have hbl := HNB.out.lt
            rw [show (nms6.map Value.string).toArray[j]? = some (.string nms6[j]) by simp [hjn]] at hbk
            have hn3 : nms6[j].size ≤ 3 := nms6_le j hjn
            generalize nms6[j] = nm at *
            have hb1 : (0 : Int) ≤ j := by omega
            have hb2 : (j : Int) < 6 := by omega
            rcases Nat.eq_zero_or_pos d with hz | hz
            · have hdz : decide ((0 : Int) < (d : Int)) = false := by simp; omega
              have hdy : ¬ (0 : Int) < (d : Int) := by omega
              have HZ := Lib.hid (hd0 hz)
              clear hd0 hz
              go_wp2_with fail
              go_roundw
              case rel => exact ⟨j + 1, c, m, A, xs, vs, by omega, by go_num, by omega, HX, HR, HK, HV, fun _ => HZ.out, HNB, Lib.hid (HT.out.more (by rw [Nat.succ_mul]; omega))⟩
              case measure => simp [intOf]; omega
            · obtain ⟨d', hd'⟩ : ∃ d', d = d' + 1 := ⟨d - 1, by omega⟩
              have hsp := HIH.out d' hd'
              have hsub : (d : Int) - 1 = (d' : Int) := by omega
              have hdz : (0 : Int) < (d : Int) := by omega
              have HDE := Lib.hid hd'
              have hkk : rvP d = rvK d' + 1 := by rw [hd']; rfl
              have hrk : rvK d = 12 + 6 * (rvK d' + 1) := by rw [hd']; rfl
              have hjk : j * rvP d ≤ 5 * (rvK d' + 1) := Nat.mul_le_mul (by omega) (Nat.le_of_eq hkk)
              have hwr : IntKind.i64.wrap (d' : Int) = (d' : Int) := by
                simp [IntKind.wrap, IntKind.signed, IntKind.bits]; omega
              have HKK := Lib.hid hkk
              have hfl := flip_any b _ 3 _ HT.out.inv (by omega) (by omega) (by omega)
              have HCALL := Lib.hid (fun W (h : SStep b w W (k + 4 + j * rvP d + 1)) => hsp b _ W h.inv (by omega))
              clear hd' hsp hz hd0 hkk hrk hjk
              go_wp2_with fail
              refine hfl.mono ?_
              clear hfl
              rintro e wf ⟨mf, rfl, hf⟩
              have HX1 := Lib.hid (HX.out.mod hf.only (by omega))
              have HR1 := Lib.hid (HR.out.mod hf.only (by omega))
              have HK1 := Lib.hid (HK.out.mod (trM_ok d) hf.only (fun g hg _ e => by subst e; have := hg; omega) (fun g hg e => by have := (HK.out.own.far' g hg).1; omega))
              have HN1 := Lib.hid (HNB.out.mod hf.only (fun e => HNX.out.2.2.1 e))
              have HT1 := Lib.hid (HT.out.trans hf)
              clear HX HR HK HNB HT hf hbk hbl
              have HX := HX1
              have HR := HR1
              have HK := HK1
              have HNB := HN1
              have HT := HT1
              clear HX1 HR1 HK1 HN1 HT1
              cases mf with
              | false =>
                go_wp2_with fail
                go_roundw
                case rel => exact ⟨j + 1, c, m, A, xs, vs, by omega, by go_num, by omega, HX, HR, HK, HV, fun h => by have := HDE.out; omega, HNB, Lib.hid (HT.out.more (by rw [HKK.out, Nat.succ_mul]; omega))⟩
                case measure => simp [intOf]; omega
              | true =>
              have hcall := HCALL.out wf.drew HT.out.drew
              have HCS : Hid (∀ W, Blk W xb 29 #[.int .i64 5, .bool false, .int .i64 0, .string ⟨#[]⟩, .slice none 0 0, .slice A m c] → (W.cell? ⟨xb, 5, none⟩ = some (.slice A m c) ∧ xb < W.heap.size)) := Lib.hid (fun W hb => ⟨(hb.cell 5).trans rfl, hb.lt⟩)
              clear HCALL
              go_upto_region 22 with (fail)
              refine wp_region_held_ord (fun W => W.cell? ⟨xb, 5, none⟩ = some (.slice A m c) ∧ xb < W.heap.size) [6, 8, 9] [0, 1, 2, 3, 4, 5, 6, 7, 8, 9] (by kernel_rfl) (by kernel_rfl) (fun _ _ d _ _ h => by cases d <;> exact h) ?_ (fun hHeld => ?_)
              · exact HCS.out _ (HX.out.mod (Mod.refl (fun _ => False) wf).drew (fun e => e))
              simp only [List.length_cons, List.length_nil, List.drop_succ_cons, List.drop_zero]
              refine heldO_take ?_ (by rfl) (by rfl) (by rfl) (fun w hSw => ?_) ?_
              rotate_left
              · (try dsimp only at hSw); go_simp; any_goals (with_reducible rfl)
              simp only [Act.put, List.setIfInBounds_toArray, List.set_cons_zero, List.set_cons_succ]
              refine heldO_take ?_ (by rfl) (by rfl) (by rfl) (fun w hSw => ?_) ?_
              rotate_left
              · (try dsimp only at hSw); go_simp; any_goals (with_reducible rfl)
              simp only [Act.put, List.setIfInBounds_toArray, List.set_cons_zero, List.set_cons_succ]
              refine heldO_take ?_ (by rfl) (by rfl) (by rfl) (fun w hSw => ?_) ?_
              rotate_left
              · (try dsimp only at hSw); go_simp; any_goals (with_reducible rfl)
              simp only [Act.put, List.setIfInBounds_toArray, List.set_cons_zero, List.set_cons_succ]
              refine heldO_take ?_ (by rfl) (by rfl) (by rfl) (fun w hSw => ?_) ?_
              rotate_left
              · (try dsimp only at hSw); go_simp; any_goals (with_reducible rfl)
              simp only [Act.put, List.setIfInBounds_toArray, List.set_cons_zero, List.set_cons_succ]
              refine heldO_take ?_ (by rfl) (by rfl) (by rfl) (fun w hSw => ?_) ?_
              rotate_left
              · (try dsimp only at hSw); go_simp; any_goals (with_reducible rfl)
              simp only [Act.put, List.setIfInBounds_toArray, List.set_cons_zero, List.set_cons_succ]
              refine heldO_take ?_ (by rfl) (by rfl) (by rfl) (fun w hSw => ?_) ?_
              rotate_left
              · (try dsimp only at hSw); go_simp; any_goals (with_reducible rfl)
              simp only [Act.put, List.setIfInBounds_toArray, List.set_cons_zero, List.set_cons_succ]
              refine heldO_step (by rfl) (by rfl) (by rfl) (fun K hK => ?_)
              go_simp
              refine hcall.mono ?_
              clear hcall
              rintro e w5 ⟨y, u, rfl, hty, hwu, hwd, h5⟩
              have hx5 := (HX.out.mod (Mod.refl (fun _ => False) wf).drew (fun e => e)).mod h5.only (by omega)
              have hr5 := (HR.out.mod (Mod.refl (fun _ => False) wf).drew (fun e => e)).mod h5.only (by omega)
              have hn5 := (HNB.out.mod (Mod.refl (fun _ => False) wf).drew (fun e => e)).mod h5.only (fun e => HNX.out.2.2.1 e)
              have hk5 := (HK.out.new (trM_ok d) (Mod.refl _ wf).drew).mod (trM_ok d) h5.only (fun g hg _ e => by subst e; have := hg; omega) (fun g hg e => by have := (HK.out.own.far' g hg).1; omega)
              have ht5 := HT.out.drew.trans h5
              have hfar : ∀ g, blkOf A = some g → g < wf.heap.size := fun g hg => (HK.out.own.far' g hg).2.1
              have hxl : xb < wf.heap.size := HX.out.lt
              have hty5 : Tree w5 (fun g => xb < g ∧ blkOf A ≠ some g) d y u := by
                have h1 := HDE.out
                subst h1
                exact Tree.imp (fun g (hg : wf.drew.heap.size ≤ g) _ => by
                  have hdz : wf.drew.heap.size = wf.heap.size := rfl
                  exact ⟨by omega, fun e => by have := hfar g e; omega⟩) _ _ _ hty
              have HX5 := Lib.hid hx5
              have HR5 := Lib.hid hr5
              have HN5 := Lib.hid hn5
              have HK5 := Lib.hid hk5
              have HT5 := Lib.hid ht5
              have HTY := Lib.hid hty5
              have HU : Hid (vW d u ≤ rvW d' ∧ Wide 6 d u) := Lib.hid (by have h1 := HDE.out; subst h1; exact ⟨hwu, hwd⟩)
              clear hx5 hr5 hn5 hk5 ht5 hty5 h5 hty hwu hwd hfar HX HR HK HT HNB
              go_wp2_with fail
              refine hK.out _ _ (HCS.out _ HX5.out) (fun hHeld => ?_)
              clear hK K
              try simp only [Act.put, List.setIfInBounds_toArray, List.set_cons_zero, List.set_cons_succ]
              obtain ⟨yk, yf, yn, yw, yla, yln, ylc, yma, ymn, ymc⟩ := y
              refine heldO_take ?_ (by rfl) (by rfl) (by rfl) (fun w hSw => ?_) ?_
              rotate_left
              · (try dsimp only at hSw); go_simp; any_goals (with_reducible rfl)
              simp only [Act.put, List.setIfInBounds_toArray, List.set_cons_zero, List.set_cons_succ]
              refine heldO_step (by rfl) (by rfl) (by rfl) (fun K hK => ?_)
              go_simp
              have m6 : New w5 (w5.alloc (.cells #[.string nm, .int .i64 yk, .bool yf, .int .i64 yn, .string yw, .slice yla yln ylc, .slice yma ymn ymc] 54)) := (Mod.refl _ _).alloc _
              have hx6 := HX5.out.mod m6 (fun e => e)
              refine hK.out _ _ (HCS.out _ hx6) (fun hHeld => ?_)
              clear hK K
              try simp only [Act.put, List.setIfInBounds_toArray, List.set_cons_zero, List.set_cons_succ]
              have hk6 := HK5.out.new (trM_ok d) m6
              have hty6 := HTY.out.new m6
              have blk6 : Blk (w5.alloc (.cells #[.string nm, .int .i64 yk, .bool yf, .int .i64 yn, .string yw, .slice yla yln ylc, .slice yma ymn ymc] 54)) w5.heap.size 54 (encL 7 MA.enc ⟨nm, ⟨yk, yf, yn, yw, yla, yln, ylc, yma, ymn, ymc⟩⟩).toArray := Blk.new _ _ _
              have HZ : Hid (xb + 1 ≤ (w5.alloc (.cells #[.string nm, .int .i64 yk, .bool yf, .int .i64 yn, .string yw, .slice yla yln ylc, .slice yma ymn ymc] 54)).heap.size) := Lib.hid hx6.lt
              refine heldO_step (by rfl) (by rfl) (by rfl) (fun K hK => ?_)
              refine wp_push (.tmp 76) (.tmp 83) _ rfl 104 Tryz.underlying27 einfo_memM rfl (by exact hk6.own) ⟨nm, ⟨yk, yf, yn, yw, yla, yln, ylc, yma, ymn, ymc⟩⟩ w5.heap.size rfl (by exact blk6) (fun j hj => MA.one _ j hj) (by omega) (by omega) HZ.out ?_
              intro g9 cap9 w9 own9 hm9 hat9 hlt9
              have hnx : ∀ g, blkOf A = some g → g ≠ xb ∧ g ≠ w.heap.size ∧ g ≠ b ∧ w.heap.size ≤ g ∧ g ≠ nb := fun g hg => by
                have hq := hk6.own.far' g hg
                refine ⟨by omega, by omega, by omega, by omega, fun e => ?_⟩
                subst e
                exact hq.2.2.ne (HN5.out.mod m6 (fun e => e)).tb (by decide) rfl
              have hx9 := hx6.mod hm9 (fun e => (hnx _ e).1 rfl)
              have hr9 := (HR5.out.mod m6 (fun e => e)).mod hm9 (fun e => (hnx _ e).2.1 rfl)
              have hn9 := (HN5.out.mod m6 (fun e => e)).mod hm9 (fun e => (hnx _ e).2.2.2.2 rfl)
              have hk9 := hk6.push (trM_ok d) (y := ⟨nm, ⟨yk, yf, yn, yw, yla, yln, ylc, yma, ymn, ymc⟩⟩) (u := (nm, u)) ⟨rfl, hty6⟩ own9 hm9 hat9
              have hg9 : xb < g9 := by
                rcases hat9 with h | h
                · have := (hk6.own.far' g9 h).1; omega
                · have := hx6.lt; omega
              have ht9 := (HT5.out.alloc (.cells #[.string nm, .int .i64 yk, .bool yf, .int .i64 yn, .string yw, .slice yla yln ylc, .slice yma ymn ymc] 54)).mod hm9 (fun i e => (hnx i e).2.2.2.1)
              refine hK.out _ _ (by exact ⟨(hx9.cell 5).trans rfl, hx9.lt⟩) (fun hHeld => ?_)
              clear hK K
              try simp only [Act.put, List.setIfInBounds_toArray, List.set_cons_zero, List.set_cons_succ]
              refine heldO_nil ?_
              have hms : Only xb w9 (w9.setCell ⟨xb, 5, none⟩ (.slice (some ⟨g9, 0, none⟩) (m + 1) cap9)) := Only.set (Mod.refl _ _) 5 _
              have HX9 := Lib.hid (hx9.set 5 (.slice (some ⟨g9, 0, none⟩) (m + 1) cap9))
              have HR9 := Lib.hid (hr9.mod hms (by omega))
              have HN9 := Lib.hid (hn9.mod hms (fun e => HNX.out.1 e))
              have HK9 := Lib.hid (hk9.mod (trM_ok d) hms (fun g hg _ e => by subst e; exact absurd hg (Nat.lt_irrefl _)) (fun g hg e => by injection hg with hg; simp only at hg; omega))
              have HT9 := Lib.hid (ht9.set (p := ⟨xb, 5, none⟩) (by simp only; omega) (.slice (some ⟨g9, 0, none⟩) (m + 1) cap9))
              simp only [Array.setIfInBounds, List.size_toArray, List.length_cons, List.length_nil, Nat.reduceAdd, Nat.reduceLT, ↓reduceDIte, List.set_toArray, List.set_cons_zero, List.set_cons_succ] at HX9
              have f4 := hx9.frozen 5
              have c4 := hx9.cell 5
              have l9 := hx9.lt
              simp only [List.getElem?_toArray, List.getElem?_cons_zero, List.getElem?_cons_succ] at c4
              clear hx6 hk6 hty6 blk6 own9 hm9 hat9 hlt9 hnx hx9 hr9 hn9 hk9 hg9 ht9 hms m6 HX5 HR5 HN5 HK5 HT5 HTY hHeld
              go_wp2_with fail
              generalize w9.setCell ⟨xb, 5, none⟩ (.slice (some ⟨g9, 0, none⟩) (m + 1) cap9) = w10 at *
              go_roundw
              case rel => exact ⟨j + 1, cap9, m + 1, some ⟨g9, 0, none⟩, _, vs ++ [(nm, u)], by omega, by go_num, by omega, HX9, HR9, HK9, Lib.hid (fun d2 h2 z hz => by
                have h1 := HDE.out
                have h3 : d2 = d' := by omega
                subst h3
                rcases List.mem_append.1 hz with hz | hz
                · exact HV.out d2 h2 z hz
                · simp only [List.mem_singleton] at hz; subst hz; exact ⟨hn3, HU.out⟩), fun h => by have := HDE.out; omega, HN9, Lib.hid (HT9.out.more (by rw [HKK.out, Nat.succ_mul]; omega))⟩
              case measure => simp [intOf]; omega
          · obtain rfl : j = 6 := by omega
            have hxx := HX.out
            have e0 := hxx.cell 0
            have e1 := hxx.cell 1
            have e2 := hxx.cell 2
            have e3 := hxx.cell 3
            have e4 := hxx.cell 4
            have e5 := hxx.cell 5
            have el := hxx.lt
            have ef := hxx.frozen
            simp only [List.getElem?_toArray, List.getElem?_cons_zero, List.getElem?_cons_succ] at e0 e1 e2 e3 e4 e5
            clear hxx
            have rl := HR.out.lt
            have rf := HR.out.frozen
            have r0 := HR.out.cell 0
            have r1 := HR.out.cell 1
            have r2 := HR.out.cell 2
            have r3 := HR.out.cell 3
            have r4 := HR.out.cell 4
            have r5 := HR.out.cell 5
            have hne : w.heap.size ≠ xb := by omega
            simp only [List.getElem?_toArray, List.getElem?_cons_zero, List.getElem?_cons_succ] at r0 r1 r2 r3 r4 r5
            have hfit := mem_fit (d := d) (ps := vs) (by have := HK.out.len; omega) (fun h => List.eq_nil_of_length_eq_zero (by rw [HK.out.len]; exact hd0 h)) HV.out
            have hrk := rvP_le d
            go_wp2_with fail
            refine bodyPost_ret (v := VA.val ⟨5, false, 0, ⟨#[]⟩, none, 0, 0, A, m, c⟩) (by simp [results, Tryz.results17, go_sem, r0, r1, r2, r3, r4, r5, rf, hne]) rfl ⟨⟨5, false, 0, ⟨#[]⟩, none, 0, 0, A, m, c⟩, (.mk 5 false 0 ⟨#[]⟩ [] vs), rfl, ?_, ?_, ?_, ?_⟩
            · refine Tree.of_kids (B := w.heap.size) (G1 := fun g => w.heap.size ≤ g) Kids.nil (HK.out.mod (trM_ok d) (S := fun g => g = w.heap.size) ?_ (fun g hg _ e => by subst e; have := hg; omega) (fun g hg e => by subst e; have := (HK.out.own.far' _ hg).1; omega)) (fun g hg _ => hg) (fun g hg _ => by have := hg; omega) (fun g hg => hg) (fun g hg => by omega)
              repeat (with_reducible (first | exact Mod.refl _ _ | refine Only.set ?_ _ _))
            · exact hfit.1
            · exact hfit.2
            · repeat (with_reducible (first | exact HT.out.more (by omega) | (refine SStep.set ?_ ?_ _; rotate_left; (simp <;> omega))))

theorem stream_rv : ∀ d, d ≤ 3 → RVSpec d
  | 0, h => rv_walk 0 h (fun d' e => by omega)
  | d + 1, h => rv_walk (d + 1) h (fun d' e => by
    have : d' = d := by omega
    subst this
    exact stream_rv d' (by omega))

end Go.Proofs.YtjfgfkbgbhbhjaaGreatDoor

namespace Go.Proofs.YtjfgfkbgbhbhjaaGreatDoor
open Go.RowKit
set_option linter.unusedVariables false
set_option linter.unusedSimpArgs false

set_option maxHeartbeats 400000 in
theorem odd_any2 (b k : Nat) (lo hi : Int) (w : World) (hs : SInv b w k) (hk : k < 4611686018427380000) (h1 : lo ≤ hi) (h2 : -1000000000000000 ≤ lo) (h3 : hi ≤ 1000000000000000) :
    Calls Tryz.prog 19 #[.pointer (some ⟨b, 0, none⟩), .int .i64 lo, .int .i64 hi] w (RInt fun m w' => -1000000000000001 ≤ m ∧ m ≤ 1000000000000001 ∧ SStep b w w' (k + 2)) := by
  go_enter Tryz.func19, Tryz.ntmps19
  go_wp2_with fail
  refine (flip_any b k _ _ hs (by omega) (by omega) (by omega)).mono ?_
  rintro e w1 ⟨m, rfl, h4⟩
  cases m
  · go_wp2_with fail
    refine (range_any b (k + 1) _ _ _ h4.inv (by omega) (by omega) (by omega) (by omega)).mono ?_
    rintro e w2 ⟨m, rfl, h5, h6, h7⟩
    go_wp2_with fail
    go_ret
    exact ⟨_, rfl, by omega, by omega, h4.trans h7⟩
  · go_wp2_with fail
    refine (pick_any [lo - 1, hi + 1, lo, hi, -1099511627776, 1099511627776] b (k + 1) _ 6 _ (h4.alloc _).inv (by omega) (Blk.new _ _ _) rfl (by omega) (by omega)).mono ?_
    rintro e w2 ⟨m, rfl, h5, h6⟩
    go_wp2_with fail
    go_ret
    simp at h5
    exact ⟨_, rfl, by omega, by omega, (h4.alloc _).trans h6⟩

theorem Tree.vW_more {w : World} {G : Nat → Prop} : ∀ (d : Nat) (x : VA) (v : VT), Tree w G d x v → vW (d + 1) v = vW d v
  | 0, _, _, h => h.elim
  | d + 1, x, v, h => by
    obtain ⟨vs, ps, rfl, ⟨xs, -, h2, h3⟩, ⟨ms, -, h5, h6⟩⟩ := h
    have e1 : (vs.map fun x => vW (d + 1) x + 1) = vs.map fun x => vW d x + 1 := List.map_congr_left (fun y hy => by
      obtain ⟨i, hi, rfl⟩ := List.mem_iff_getElem.1 hy
      rw [Tree.vW_more d _ _ (h3 i (by omega) hi)])
    have e2 : (ps.map fun p => vW (d + 1) p.2 + (6 * p.1.size + 4)) = ps.map fun p => vW d p.2 + (6 * p.1.size + 4) := List.map_congr_left (fun y hy => by
      obtain ⟨i, hi, rfl⟩ := List.mem_iff_getElem.1 hy
      rw [Tree.vW_more d _ _ (h6 i (by omega) hi).2])
    show 40 + 6 * x.words.size + ((vs.map fun x => vW (d + 1) x + 1).sum + (ps.map fun p => vW (d + 1) p.2 + (6 * p.1.size + 4)).sum) = 40 + 6 * x.words.size + ((vs.map fun x => vW d x + 1).sum + (ps.map fun p => vW d p.2 + (6 * p.1.size + 4)).sum)
    rw [e1, e2]
theorem Tree.wide_more {w : World} {G : Nat → Prop} {m : Nat} : ∀ (d : Nat) (x : VA) (v : VT), Tree w G d x v → Wide m d v → Wide m (d + 1) v
  | 0, _, _, h, _ => h.elim
  | d + 1, x, v, h, hw => by
    obtain ⟨vs, ps, rfl, ⟨xs, -, h2, h3⟩, ⟨ms, -, h5, h6⟩⟩ := h
    obtain ⟨w1, w2, w3, w4, w5⟩ := hw
    refine ⟨w1, w2, w3, fun y hy => ?_, fun p hp => ⟨(w5 p hp).1, ?_⟩⟩
    · obtain ⟨i, hi, rfl⟩ := List.mem_iff_getElem.1 hy
      have hi' : i < vs.length := hi
      exact Tree.wide_more d _ _ (h3 i (by omega) hi') (w4 _ hy)
    · obtain ⟨i, hi, rfl⟩ := List.mem_iff_getElem.1 hp
      have hi' : i < ps.length := hi
      exact Tree.wide_more d _ _ (h6 i (by omega) hi').2 (w5 _ hp).2
/-- more room in depth changes nothing -/
theorem Tree.lift {w : World} {G : Nat → Prop} {d D m : Nat} {x : VA} {v : VT} (h : Tree w G d x v) (hw : Wide m d v) (hd : d ≤ D) : Tree w G D x v ∧ vW D v = vW d v ∧ Wide m D v := by
  obtain ⟨k, rfl⟩ := Nat.le.dest hd
  induction k with
  | zero => exact ⟨h, rfl, hw⟩
  | succ k ih =>
    obtain ⟨h1, h2, h3⟩ := ih (by omega)
    exact ⟨Tree.more _ _ _ h1, (Tree.vW_more _ _ _ h1).trans h2, Tree.wide_more _ _ _ h1 h3⟩
theorem Tree.reshape {w : World} {G : Nat → Prop} {d : Nat} {x : VA} {v : VT} (h : Tree w G (d + 1) x v) (kind : Int) (flag : Bool) (num : Int) (words : ByteArray) : Tree w G (d + 1) ⟨kind, flag, num, words, x.la, x.ln, x.lc, x.ma, x.mn, x.mc⟩ (.mk kind flag num words v.list v.mem) := by
  obtain ⟨vs, ps, rfl, h1, h2⟩ := h
  exact ⟨vs, ps, rfl, h1, h2⟩
theorem reshape_w {d : Nat} {v : VT} (kind : Int) (flag : Bool) (num : Int) (words : ByteArray) : vW (d + 1) (.mk kind flag num words v.list v.mem) + 6 * v.words.size = vW (d + 1) v + 6 * words.size := by
  have h1 : vW (d + 1) (.mk kind flag num words v.list v.mem) = 40 + 6 * words.size + ((v.list.map fun x => vW d x + 1).sum + (v.mem.map fun p => vW d p.2 + (6 * p.1.size + 4)).sum) := rfl
  have h2 : vW (d + 1) v = 40 + 6 * v.words.size + ((v.list.map fun x => vW d x + 1).sum + (v.mem.map fun p => vW d p.2 + (6 * p.1.size + 4)).sum) := rfl
  omega
theorem reshape_wide {m d : Nat} {v : VT} (kind : Int) (flag : Bool) (num : Int) {words : ByteArray} (h : Wide m (d + 1) v) (hw : words.size ≤ 100000) : Wide m (d + 1) (.mk kind flag num words v.list v.mem) :=
  ⟨h.1, h.2.1, hw, h.2.2.2.1, h.2.2.2.2⟩

/-- a value as it lies in a block, in 60 depths' room -/
def ValAt (w : World) (G : Nat → Prop) (W m : Nat) (x : VA) : Prop := ∃ v, Tree w G 60 x v ∧ vW 60 v ≤ W ∧ Wide m 60 v
theorem ValAt.of {w : World} {G : Nat → Prop} {W m d : Nat} {x : VA} {v : VT} (h : Tree w G d x v) (hw : vW d v ≤ W) (hwd : Wide m d v) (hd : d ≤ 60) : ValAt w G W m x := by
  obtain ⟨h1, h2, h3⟩ := h.lift hwd hd
  exact ⟨v, h1, by rw [h2]; exact hw, h3⟩
theorem ValAt.mod {w w' : World} {G S : Nat → Prop} {W m : Nat} {x : VA} (h : ValAt w G W m x) (hm : Mod S w w') (hs : ∀ g, G g → ¬ S g) : ValAt w' G W m x := by
  obtain ⟨v, h1, h2, h3⟩ := h
  exact ⟨v, Tree.mod hm (fun g hg _ => hs g hg) _ _ _ h1, h2, h3⟩

end Go.Proofs.YtjfgfkbgbhbhjaaGreatDoor

namespace Go.Proofs.YtjfgfkbgbhbhjaaGreatDoor
open Go.RowKit
set_option linter.unusedVariables false
set_option linter.unusedSimpArgs false

theorem Kids.cloned {α β : Type} {Tr : World → (Nat → Prop) → α → β → Prop} {t : TypeId} {sz : Nat} {enc : α → Nat → Value} {w w' : World} {G : Nat → Prop} {A : Option Addr} {n c : Nat} {xs : List α} {vs : List β}
    (hT : TrOk Tr) (hown : Own w' w.heap.size t sz enc A n c xs) (hm : New w w') (hl : vs.length = n) (htr : ∀ i (h : i < xs.length) (h' : i < vs.length), Tr w G xs[i] vs[i]) : Kids Tr t sz enc w' w.heap.size G A n c xs vs :=
  ⟨hown, hl, fun i h h' => hT.mod hm (fun _ _ _ e => e) (hT.imp (fun g hg hlt => ⟨hg, fun e => by have := (hown.far' g e).1; omega⟩) (htr i h h'))⟩
theorem Tree.set_mem {w : World} {G G1 : Nat → Prop} {d B m c : Nat} {x : VA} {v : VT} {A : Option Addr} {ms : List MA} {ps : List (ByteArray × VT)} (h : Tree w G (d + 1) x v) (hk : Kids (TrM d) 54 7 MA.enc w B G1 A m c ms ps)
    (g1 : ∀ g, G1 g → g < w.heap.size → G g) (b1 : ∀ g, B ≤ g → G g) : Tree w G (d + 1) ⟨x.kind, x.flag, x.num, x.words, x.la, x.ln, x.lc, A, m, c⟩ (.mk x.kind x.flag x.num x.words v.list ps) := by
  obtain ⟨vs, ps0, rfl, h1, h2⟩ := h
  exact ⟨vs, ps, rfl, h1, ⟨ms, hk.own.row' (fun g _ hB => b1 g hB), by rw [hk.own.1, hk.len], fun i hi hi' => ⟨(hk.tree i hi hi').1, Tree.imp (fun g hg hl => g1 g hg.1 hl) _ _ _ (hk.tree i hi hi').2⟩⟩⟩
theorem Tree.set_list {w : World} {G G1 : Nat → Prop} {d B m c : Nat} {x : VA} {v : VT} {A : Option Addr} {xs : List VA} {vs : List VT} (h : Tree w G (d + 1) x v) (hk : Kids (TrV d) 29 6 VA.enc w B G1 A m c xs vs)
    (g1 : ∀ g, G1 g → g < w.heap.size → G g) (b1 : ∀ g, B ≤ g → G g) : Tree w G (d + 1) ⟨x.kind, x.flag, x.num, x.words, A, m, c, x.ma, x.mn, x.mc⟩ (.mk x.kind x.flag x.num x.words vs v.mem) := by
  obtain ⟨vs0, ps, rfl, h1, h2⟩ := h
  exact ⟨vs, ps, rfl, ⟨xs, hk.own.row' (fun g _ hB => b1 g hB), by rw [hk.own.1, hk.len], fun i hi hi' => Tree.imp (fun g hg hl => g1 g hg.1 hl) _ _ _ (hk.tree i hi hi')⟩, h2⟩
theorem snoc_mem_w (d : Nat) (v : VT) (k : Int) (f : Bool) (n : Int) (p : ByteArray × VT) : vW (d + 1) (.mk k f n v.words v.list (v.mem ++ [p])) = vW (d + 1) v + (vW d p.2 + (6 * p.1.size + 4)) := by
  have h1 : vW (d + 1) (.mk k f n v.words v.list (v.mem ++ [p])) = 40 + 6 * v.words.size + ((v.list.map fun x => vW d x + 1).sum + ((v.mem ++ [p]).map fun p => vW d p.2 + (6 * p.1.size + 4)).sum) := rfl
  have h2 : vW (d + 1) v = 40 + 6 * v.words.size + ((v.list.map fun x => vW d x + 1).sum + (v.mem.map fun p => vW d p.2 + (6 * p.1.size + 4)).sum) := rfl
  rw [h1, h2]
  simp only [List.map_append, List.sum_append, List.map_cons, List.map_nil, List.sum_cons, List.sum_nil]
  omega
theorem snoc_list_w (d : Nat) (v : VT) (k : Int) (f : Bool) (n : Int) (u : VT) : vW (d + 1) (.mk k f n v.words (v.list ++ [u]) v.mem) = vW (d + 1) v + (vW d u + 1) := by
  have h1 : vW (d + 1) (.mk k f n v.words (v.list ++ [u]) v.mem) = 40 + 6 * v.words.size + (((v.list ++ [u]).map fun x => vW d x + 1).sum + (v.mem.map fun p => vW d p.2 + (6 * p.1.size + 4)).sum) := rfl
  have h2 : vW (d + 1) v = 40 + 6 * v.words.size + ((v.list.map fun x => vW d x + 1).sum + (v.mem.map fun p => vW d p.2 + (6 * p.1.size + 4)).sum) := rfl
  rw [h1, h2]
  simp only [List.map_append, List.sum_append, List.map_cons, List.map_nil, List.sum_cons, List.sum_nil]
  omega
theorem snoc_mem_wide {d m : Nat} {v : VT} {p : ByteArray × VT} (k : Int) (f : Bool) (n : Int) (h : Wide m (d + 1) v) (hp : p.1.size ≤ 100000 ∧ Wide m d p.2) : Wide (m + 1) (d + 1) (.mk k f n v.words v.list (v.mem ++ [p])) := by
  obtain ⟨h1, h2, h3, h4, h5⟩ := h
  refine ⟨by show v.list.length ≤ m + 1; omega, by show (v.mem ++ [p]).length ≤ m + 1; simp; omega, h3, fun x hx => Wide.mono (by omega) _ _ (h4 x hx), fun q hq => ?_⟩
  rcases List.mem_append.1 hq with hq | hq
  · exact ⟨(h5 q hq).1, Wide.mono (by omega) _ _ (h5 q hq).2⟩
  · simp only [List.mem_singleton] at hq; subst hq; exact ⟨hp.1, Wide.mono (by omega) _ _ hp.2⟩
theorem snoc_list_wide {d m : Nat} {v : VT} {u : VT} (k : Int) (f : Bool) (n : Int) (h : Wide m (d + 1) v) (hp : Wide m d u) : Wide (m + 1) (d + 1) (.mk k f n v.words (v.list ++ [u]) v.mem) := by
  obtain ⟨h1, h2, h3, h4, h5⟩ := h
  refine ⟨by show (v.list ++ [u]).length ≤ m + 1; simp; omega, by show v.mem.length ≤ m + 1; omega, h3, fun x hx => ?_, fun q hq => ⟨(h5 q hq).1, Wide.mono (by omega) _ _ (h5 q hq).2⟩⟩
  rcases List.mem_append.1 hx with hx | hx
  · exact Wide.mono (by omega) _ _ (h4 x hx)
  · simp only [List.mem_singleton] at hx; subst hx; exact Wide.mono (by omega) _ _ hp
theorem leaf_w0 (d : Nat) (k : Int) : vW (d + 1) (.mk k false 0 ⟨#[]⟩ [] []) = 40 := rfl
theorem leaf_wide0 (d m : Nat) (k : Int) : Wide m (d + 1) (.mk k false 0 ⟨#[]⟩ [] []) := ⟨Nat.zero_le _, Nat.zero_le _, by show (⟨#[]⟩ : ByteArray).size ≤ 100000; decide, fun x hx => by simp [VT.list] at hx, fun x hx => by simp [VT.mem] at hx⟩
theorem wrap_w (d : Nat) (u : VT) : vW (d + 1) (.mk 4 false 0 ⟨#[]⟩ [u] []) = 41 + vW d u := by
  have h : vW (d + 1) (.mk 4 false 0 ⟨#[]⟩ [u] []) = 40 + 6 * (⟨#[]⟩ : ByteArray).size + (([u].map fun x => vW d x + 1).sum + (([] : List (ByteArray × VT)).map fun p => vW d p.2 + (6 * p.1.size + 4)).sum) := rfl
  have h2 : (⟨#[]⟩ : ByteArray).size = 0 := rfl
  rw [h, h2]
  simp only [List.map_cons, List.map_nil, List.sum_cons, List.sum_nil]
  omega
theorem wrap_le {j W : Nat} {u : VT} (h : vW (5 + j) u ≤ W + 41 * j) : vW (5 + (j + 1)) (.mk 4 false 0 ⟨#[]⟩ [u] []) ≤ W + 41 * (j + 1) := by
  have h1 := wrap_w (5 + j) u
  rw [show 5 + (j + 1) = 5 + j + 1 by omega, h1, Nat.mul_succ]
  omega
theorem wrap_wide {j : Nat} {u : VT} (h : Wide 6 (5 + j) u) : Wide 6 (5 + (j + 1)) (.mk 4 false 0 ⟨#[]⟩ [u] []) := by
  rw [show 5 + (j + 1) = 5 + j + 1 by omega]
  refine ⟨by show 1 ≤ 6; omega, Nat.zero_le _, by show (⟨#[]⟩ : ByteArray).size ≤ 100000; decide, fun z hz => ?_, fun z hz => by simp [VT.mem] at hz⟩
  have : z = u := by simpa [VT.list] using hz
  subst this; exact h
theorem ValAt.ending {w w' : World} {r xb W m : Nat} {x : VA} (h : ValAt w (fun g => r < g ∧ g ≠ xb) W m x) (hm : Mod (fun g => g = r) w w') : ValAt w' (fun g => r ≤ g) W m x := by
  obtain ⟨v, a1, a2, a3⟩ := h.mod hm (fun g hg e => by have := hg.1; omega)
  exact ⟨v, Tree.imp (fun g hg _ => by have := hg.1; omega) _ _ _ a1, a2, a3⟩
def RValue (b : Nat) (w : World) (k : Nat) (e : Ending) (w' : World) : Prop :=
  ∃ x : VA, e = .returned x.val ∧ ValAt w' (fun g => w.heap.size ≤ g) 70000 7 x ∧ SStep b w w' k

set_option maxRecDepth 100000 in
set_option maxHeartbeats 1000000 in
theorem stream_val (d : Nat) (hd : d ≤ 3) (b k : Nat) (w : World) (hs : SInv b w k) (hk : k + 4000 < 4611686018426000000) :
    Calls Tryz.prog 4 #[.pointer (some ⟨b, 0, none⟩), .int .i64 d] w (RValue b w (k + 4000)) := by
  have hb := hs.lt
  have hkd : rvK d ≤ 3400 := by
    obtain rfl | rfl | rfl | rfl : d = 0 ∨ d = 1 ∨ d = 2 ∨ d = 3 := by omega
    all_goals decide
  have hwd : rvW d ≤ 33640 := by
    obtain rfl | rfl | rfl | rfl : d = 0 ∨ d = 1 ∨ d = 2 ∨ d = 3 := by omega
    all_goals decide
  have hrv := stream_rv d hd b k (w.alloc (.cells #[.int .i64 0, .bool false, .int .i64 0, .string ⟨#[]⟩, .slice none 0 0, .slice none 0 0] 29)) ((SStep.refl hs).alloc _).inv (by omega)
  go_enter Tryz.func4, Tryz.ntmps4
  go_wp2_with fail
  refine hrv.mono ?_
  clear hrv
  rintro e w1 ⟨x, v, rfl, hty, hwv, hwdv, h1⟩
  have T1 := ((SStep.refl hs).alloc (.cells #[.int .i64 0, .bool false, .int .i64 0, .string ⟨#[]⟩, .slice none 0 0, .slice none 0 0] 29)).trans h1
  have R1 := (Blk.new w 29 #[.int .i64 0, .bool false, .int .i64 0, .string ⟨#[]⟩, .slice none 0 0, .slice none 0 0]).mod h1.only (by omega)
  have hrx : w.heap.size < w1.heap.size := R1.lt
  obtain ⟨hty5, hw5, hwd5⟩ := hty.lift hwdv (show d + 1 ≤ 5 by omega)
  have hwv5 : vW 5 v ≤ 33640 := by rw [hw5]; omega
  obtain ⟨xk, xf, xn, xw, xla, xln, xlc, xma, xmn, xmc⟩ := x
  go_upto_region 2 with (fail)
  have X2 := Blk.new w1 29 #[.int .i64 xk, .bool xf, .int .i64 xn, .string xw, .slice xla xln xlc, .slice xma xmn xmc]
  have m2 : New w1 (w1.alloc (.cells #[.int .i64 xk, .bool xf, .int .i64 xn, .string xw, .slice xla xln xlc, .slice xma xmn xmc] 29)) := (Mod.refl _ _).alloc _
  have HX := Lib.hid X2
  have HR := Lib.hid (R1.mod m2 (fun e => e))
  have HT := Lib.hid ((T1.new m2).more (show k + rvK d ≤ k + 3400 by omega))
  have HY : Hid (Tree (w1.alloc (.cells #[.int .i64 xk, .bool xf, .int .i64 xn, .string xw, .slice xla xln xlc, .slice xma xmn xmc] 29)) (fun g => w.heap.size < g ∧ g ≠ w1.heap.size) 5 ⟨xk, xf, xn, xw, xla, xln, xlc, xma, xmn, xmc⟩ v) := Lib.hid ((Tree.imp (fun g hg hl => by
    simp at hg
    exact ⟨by omega, by omega⟩) _ _ _ hty5).new m2)
  generalize w1.alloc (.cells #[.int .i64 xk, .bool xf, .int .i64 xn, .string xw, .slice xla xln xlc, .slice xma xmn xmc] 29) = w2 at *
  generalize w1.heap.size = xb at *
  have HWV := Lib.hid hwv5
  have HWD := Lib.hid hwd5
  clear X2 R1 T1 m2 h1 hty hty5 hw5 hwd5 hwv hwdv hwv5
  have hfl := flip_any b _ 25 _ HT.out.inv (by omega) (by omega) (by omega)
  go_wp2_with fail
  refine hfl.mono ?_
  clear hfl
  rintro e w3 ⟨m, rfl, h3⟩
  have HX1 := Lib.hid (HX.out.mod h3.only (by omega))
  have HR1 := Lib.hid (HR.out.mod h3.only (by omega))
  have HY1 := Lib.hid (Tree.mod h3.only (fun g hg _ e => by subst e; have := hg.1; omega) _ _ _ HY.out)
  have HT1 := Lib.hid (HT.out.trans h3)
  clear HX HR HY HT
  have HX := HX1
  have HR := HR1
  have HY := HY1
  have HT := HT1
  clear HX1 HR1 HY1 HT1
  clear h3
  go_upto_if 10 with (fail)
  go_cut [] (fun wx => ∃ x : VA, Hid (Blk wx xb 29 #[.int .i64 x.kind, .bool x.flag, .int .i64 x.num, .string x.words, .slice x.la x.ln x.lc, .slice x.ma x.mn x.mc]) ∧ Hid (Blk wx w.heap.size 29 #[.int .i64 0, .bool false, .int .i64 0, .string ⟨#[]⟩, .slice none 0 0, .slice none 0 0]) ∧ Hid (ValAt wx (fun g => w.heap.size < g ∧ g ≠ xb) 70000 7 x) ∧ Hid (SStep b w wx (k + 4000)))
  case first =>
    cases m with
    | false =>
      go_wp2_with fail
      go_meet
      case rel => exact ⟨⟨xk, xf, xn, xw, xla, xln, xlc, xma, xmn, xmc⟩, HX, HR, Lib.hid (ValAt.of HY.out (by have := HWV.out; omega) (Wide.mono (by omega) _ _ HWD.out) (by omega)), Lib.hid (HT.out.more (by omega))⟩
    | true =>
    have hnx := next_any b _ 6 _ HT.out.inv (by omega) (by omega) (by omega)
    go_wp2_with fail
    refine hnx.mono ?_
    clear hnx
    rintro e w4 ⟨n, rfl, n1, n2, h4⟩
    have HX1 := Lib.hid (HX.out.mod h4.only (by omega))
    have HR1 := Lib.hid (HR.out.mod h4.only (by omega))
    have HY1 := Lib.hid (Tree.mod h4.only (fun g hg _ e => by subst e; have := hg.1; omega) _ _ _ HY.out)
    have HT1 := Lib.hid (HT.out.trans h4)
    clear HX HR HY HT
    have HX := HX1
    have HR := HR1
    have HY := HY1
    have HT := HT1
    clear HX1 HR1 HY1 HT1
    clear h4
    obtain rfl | rfl | rfl | rfl | rfl | rfl : n = 0 ∨ n = 1 ∨ n = 2 ∨ n = 3 ∨ n = 4 ∨ n = 5 := by omega
    · have hod := odd_any2 b _ 0 5 _ HT.out.inv (by omega) (by omega) (by omega) (by omega)
      go_wp2_with fail
      refine hod.mono ?_
      clear hod
      rintro e w5 ⟨q, rfl, q1, q2, h5⟩
      have HX1 := Lib.hid (HX.out.mod h5.only (by omega))
      have HR1 := Lib.hid (HR.out.mod h5.only (by omega))
      have HY1 := Lib.hid (Tree.mod h5.only (fun g hg _ e => by subst e; have := hg.1; omega) _ _ _ HY.out)
      have HT1 := Lib.hid (HT.out.trans h5)
      clear HX HR HY HT
      have HX := HX1
      have HR := HR1
      have HY := HY1
      have HT := HT1
      clear HX1 HR1 HY1 HT1
      clear h5
      have hv : ValAt w5 (fun g => w.heap.size < g ∧ g ≠ xb) 70000 7 ⟨q, xf, xn, xw, xla, xln, xlc, xma, xmn, xmc⟩ := ValAt.of (HY.out.reshape q xf xn xw) (by
        have h1 : vW 5 (.mk q xf xn xw v.list v.mem) + 6 * v.words.size = vW 5 v + 6 * xw.size := reshape_w (d := 4) (v := v) q xf xn xw
        have h2 := HY.out.fields.2.2.2.1
        simp only at h2
        rw [h2] at h1
        have := HWV.out
        show vW 5 _ ≤ 70000
        omega) (reshape_wide q xf xn (Wide.mono (by omega) _ _ HWD.out) (by have h2 := HY.out.fields.2.2.2.1; simp only at h2; rw [← h2]; exact HWD.out.2.2.1)) (by omega)
      have HXs := Lib.hid (HX.out.set 0 (.int .i64 q))
      have HRs := Lib.hid (HR.out.mod (Only.set (Mod.refl (fun g => g = xb) w5) 0 (.int .i64 q)) (by omega))
      have HVs := Lib.hid ((hv).mod (Only.set (Mod.refl (fun g => g = xb) w5) 0 (.int .i64 q)) (fun g hg e => hg.2 e))
      have HTs := Lib.hid (HT.out.set (p := ⟨xb, 0, none⟩) (by simp only; omega) (.int .i64 q))
      simp only [Array.setIfInBounds, List.size_toArray, List.length_cons, List.length_nil, Nat.reduceAdd, Nat.reduceLT, ↓reduceDIte, List.set_toArray, List.set_cons_zero, List.set_cons_succ] at HXs
      have hxx := HX.out
      have e0 := hxx.cell 0
      have e1 := hxx.cell 1
      have e2 := hxx.cell 2
      have e3 := hxx.cell 3
      have e4 := hxx.cell 4
      have e5 := hxx.cell 5
      have el := hxx.lt
      have ef := hxx.frozen
      simp only [List.getElem?_toArray, List.getElem?_cons_zero, List.getElem?_cons_succ] at e0 e1 e2 e3 e4 e5
      clear hxx
      go_wp2_with fail
      go_meet
      case rel => exact ⟨⟨q, xf, xn, xw, xla, xln, xlc, xma, xmn, xmc⟩, HXs, HRs, HVs, Lib.hid (HTs.out.more (by omega))⟩
    · have hod := odd_any2 b _ 0 1000000000000000 _ HT.out.inv (by omega) (by omega) (by omega) (by omega)
      go_wp2_with fail
      refine hod.mono ?_
      clear hod
      rintro e w5 ⟨q, rfl, q1, q2, h5⟩
      have HX1 := Lib.hid (HX.out.mod h5.only (by omega))
      have HR1 := Lib.hid (HR.out.mod h5.only (by omega))
      have HY1 := Lib.hid (Tree.mod h5.only (fun g hg _ e => by subst e; have := hg.1; omega) _ _ _ HY.out)
      have HT1 := Lib.hid (HT.out.trans h5)
      clear HX HR HY HT
      have HX := HX1
      have HR := HR1
      have HY := HY1
      have HT := HT1
      clear HX1 HR1 HY1 HT1
      clear h5
      have hv : ValAt w5 (fun g => w.heap.size < g ∧ g ≠ xb) 70000 7 ⟨xk, xf, q, xw, xla, xln, xlc, xma, xmn, xmc⟩ := ValAt.of (HY.out.reshape xk xf q xw) (by
        have h1 : vW 5 (.mk xk xf q xw v.list v.mem) + 6 * v.words.size = vW 5 v + 6 * xw.size := reshape_w (d := 4) (v := v) xk xf q xw
        have h2 := HY.out.fields.2.2.2.1
        simp only at h2
        rw [h2] at h1
        have := HWV.out
        show vW 5 _ ≤ 70000
        omega) (reshape_wide xk xf q (Wide.mono (by omega) _ _ HWD.out) (by have h2 := HY.out.fields.2.2.2.1; simp only at h2; rw [← h2]; exact HWD.out.2.2.1)) (by omega)
      have HXs := Lib.hid (HX.out.set 2 (.int .i64 q))
      have HRs := Lib.hid (HR.out.mod (Only.set (Mod.refl (fun g => g = xb) w5) 2 (.int .i64 q)) (by omega))
      have HVs := Lib.hid ((hv).mod (Only.set (Mod.refl (fun g => g = xb) w5) 2 (.int .i64 q)) (fun g hg e => hg.2 e))
      have HTs := Lib.hid (HT.out.set (p := ⟨xb, 2, none⟩) (by simp only; omega) (.int .i64 q))
      simp only [Array.setIfInBounds, List.size_toArray, List.length_cons, List.length_nil, Nat.reduceAdd, Nat.reduceLT, ↓reduceDIte, List.set_toArray, List.set_cons_zero, List.set_cons_succ] at HXs
      have hxx := HX.out
      have e0 := hxx.cell 0
      have e1 := hxx.cell 1
      have e2 := hxx.cell 2
      have e3 := hxx.cell 3
      have e4 := hxx.cell 4
      have e5 := hxx.cell 5
      have el := hxx.lt
      have ef := hxx.frozen
      simp only [List.getElem?_toArray, List.getElem?_cons_zero, List.getElem?_cons_succ] at e0 e1 e2 e3 e4 e5
      clear hxx
      go_wp2_with fail
      go_meet
      case rel => exact ⟨⟨xk, xf, q, xw, xla, xln, xlc, xma, xmn, xmc⟩, HXs, HRs, HVs, Lib.hid (HTs.out.more (by omega))⟩
    · have hr1 : Calls Tryz.prog 21 #[.string ⟨#[119]⟩, .int .i64 5000] w4 fun e w' => e = .returned (.string ⟨(Lib.repeatL [119] 5000).toArray⟩) ∧ Below w4.heap.size w4 w' := Tryz.strings_Repeat ⟨#[119]⟩ 5000 w4 (by omega) (by decide)
      have hr2 := fun W : World => (Tryz.strings_Repeat ⟨#[119]⟩ 5001 W (by omega) (by decide) : Calls Tryz.prog 21 #[.string ⟨#[119]⟩, .int .i64 5001] W fun e w' => e = .returned (.string ⟨(Lib.repeatL [119] 5001).toArray⟩) ∧ Below W.heap.size W w')
      have z1 : (⟨(Lib.repeatL [119] 5000).toArray⟩ : ByteArray).size ≤ 5001 := by
        have := Lib.repeatL_length [119] 5000
        simp only [ByteArray.size, List.size_toArray]; simp at this; omega
      have z2 : (⟨(Lib.repeatL [119] 5001).toArray⟩ : ByteArray).size ≤ 5001 := by
        have := Lib.repeatL_length [119] 5001
        simp only [ByteArray.size, List.size_toArray]; simp at this; omega
      generalize (⟨(Lib.repeatL [119] 5000).toArray⟩ : ByteArray) = S1 at *
      generalize (⟨(Lib.repeatL [119] 5001).toArray⟩ : ByteArray) = S2 at *
      go_wp2_with fail
      refine hr1.mono ?_
      clear hr1
      rintro e w5 ⟨rfl, hb5⟩
      have m5 : New w4 w5 := Mod.of_below hb5
      have HX1 := Lib.hid (HX.out.mod m5 (fun e => e))
      have HR1 := Lib.hid (HR.out.mod m5 (fun e => e))
      have HY1 := Lib.hid (HY.out.new m5)
      have HT1 := Lib.hid (HT.out.new m5)
      clear HX HR HY HT
      have HX := HX1
      have HR := HR1
      have HY := HY1
      have HT := HT1
      clear HX1 HR1 HY1 HT1
      clear hb5 m5
      have hr3 := hr2 w5
      clear hr2
      go_wp2_with fail
      refine hr3.mono ?_
      clear hr3
      rintro e w6 ⟨rfl, hb6⟩
      have m6 : New w5 w6 := Mod.of_below hb6
      have HX1 := Lib.hid (HX.out.mod m6 (fun e => e))
      have HR1 := Lib.hid (HR.out.mod m6 (fun e => e))
      have HY1 := Lib.hid (HY.out.new m6)
      have HT1 := Lib.hid (HT.out.new m6)
      clear HX HR HY HT
      have HX := HX1
      have HR := HR1
      have HY := HY1
      have HT := HT1
      clear HX1 HR1 HY1 HT1
      clear hb6 m6
      have hsm := some_any [⟨#[255]⟩, S1, S2, ⟨#[120]⟩] b _ w6.heap.size 4 _ (HT.out.alloc _).inv (by omega) (Blk.new _ _ _) rfl (by omega) (by omega)
      go_wp2_with fail
      refine hsm.mono ?_
      clear hsm
      rintro e w7 ⟨q, rfl, mq, h7⟩
      have hq : q.size ≤ 5001 := by
        simp only [List.mem_cons, List.not_mem_nil, or_false] at mq
        rcases mq with rfl | rfl | rfl | rfl
        · decide
        · exact z1
        · exact z2
        · decide
      have m6 : New w6 (w6.alloc (.cells #[.string ⟨#[255]⟩, .string S1, .string S2, .string ⟨#[120]⟩] 9)) := (Mod.refl _ _).alloc _
      have HX1 := Lib.hid (HX.out.mod m6 (fun e => e))
      have HR1 := Lib.hid (HR.out.mod m6 (fun e => e))
      have HY1 := Lib.hid (HY.out.new m6)
      have HT1 := Lib.hid (HT.out.new m6)
      clear HX HR HY HT
      have HX := HX1
      have HR := HR1
      have HY := HY1
      have HT := HT1
      clear HX1 HR1 HY1 HT1
      have HX1 := Lib.hid (HX.out.mod h7.only (by omega))
      have HR1 := Lib.hid (HR.out.mod h7.only (by omega))
      have HY1 := Lib.hid (Tree.mod h7.only (fun g hg _ e => by subst e; have := hg.1; omega) _ _ _ HY.out)
      have HT1 := Lib.hid (HT.out.trans h7)
      clear HX HR HY HT
      have HX := HX1
      have HR := HR1
      have HY := HY1
      have HT := HT1
      clear HX1 HR1 HY1 HT1
      clear h7 mq m6
      have hv : ValAt w7 (fun g => w.heap.size < g ∧ g ≠ xb) 70000 7 ⟨xk, xf, xn, q, xla, xln, xlc, xma, xmn, xmc⟩ := ValAt.of (d := 5) (HY.out.reshape xk xf xn q) (by
        have h1 : vW 5 (.mk xk xf xn q v.list v.mem) + 6 * v.words.size = vW 5 v + 6 * q.size := reshape_w (d := 4) (v := v) xk xf xn q
        have := HWV.out
        show vW 5 _ ≤ 70000
        omega) (reshape_wide xk xf xn (Wide.mono (by omega) _ _ HWD.out) (by omega)) (by omega)
      have HXs := Lib.hid (HX.out.set 3 (.string q))
      have HRs := Lib.hid (HR.out.mod (Only.set (Mod.refl (fun g => g = xb) w7) 3 (.string q)) (by omega))
      have HVs := Lib.hid ((hv).mod (Only.set (Mod.refl (fun g => g = xb) w7) 3 (.string q)) (fun g hg e => hg.2 e))
      have HTs := Lib.hid (HT.out.set (p := ⟨xb, 3, none⟩) (by simp only; omega) (.string q))
      simp only [Array.setIfInBounds, List.size_toArray, List.length_cons, List.length_nil, Nat.reduceAdd, Nat.reduceLT, ↓reduceDIte, List.set_toArray, List.set_cons_zero, List.set_cons_succ] at HXs
      have hxx := HX.out
      have e0 := hxx.cell 0
      have e1 := hxx.cell 1
      have e2 := hxx.cell 2
      have e3 := hxx.cell 3
      have e4 := hxx.cell 4
      have e5 := hxx.cell 5
      have el := hxx.lt
      have ef := hxx.frozen
      simp only [List.getElem?_toArray, List.getElem?_cons_zero, List.getElem?_cons_succ] at e0 e1 e2 e3 e4 e5
      clear hxx
      go_wp2_with fail
      go_meet
      case rel => exact ⟨⟨xk, xf, xn, q, xla, xln, xlc, xma, xmn, xmc⟩, HXs, HRs, HVs, Lib.hid (HTs.out.more (by omega))⟩
    · have HYI : Hid (Tree w4 (fun g => (w.heap.size < g ∧ g ≠ xb) ∧ g < w4.heap.size) 5 ⟨xk, xf, xn, xw, xla, xln, xlc, xma, xmn, xmc⟩ v) := Lib.hid (Tree.imp (fun g hg hl => ⟨hg, hl⟩) _ _ _ HY.out)
      clear HY
      have HY := HYI
      clear HYI
      obtain ⟨xs, ms, hxs, hxl, hxt, hms, hml, hmt⟩ := Tree.rows (d := 4) HY.out
      have hmn : v.mem.length = xmn := by rw [← hml]; exact hms.1
      have hmn10 : xmn ≤ 6 := by rw [← hmn]; exact HWD.out.2.1
      have hcl := cloneMA ms xma xmn xmc w4 hms.sl (by omega)
      have HMT := Lib.hid hmt
      have HMN := Lib.hid hmn
      have hr1 := fun W : World => (Tryz.strings_Repeat ⟨#[110]⟩ 101 W (by omega) (by decide) : Calls Tryz.prog 21 #[.string ⟨#[110]⟩, .int .i64 101] W fun e w' => e = .returned (.string ⟨(Lib.repeatL [110] 101).toArray⟩) ∧ Below W.heap.size W w')
      have z1 : (⟨(Lib.repeatL [110] 101).toArray⟩ : ByteArray).size ≤ 101 := by
        have := Lib.repeatL_length [110] 101
        simp only [ByteArray.size, List.size_toArray]; simp at this; omega
      generalize (⟨(Lib.repeatL [110] 101).toArray⟩ : ByteArray) = S1 at *
      have hx4 : xb < w4.heap.size := HX.out.lt
      have hxw : v.words = xw := (Tree.fields HY.out).2.2.2.1
      have HXW := Lib.hid hxw
      have hxx := HX.out
      have e0 := hxx.cell 0
      have e1 := hxx.cell 1
      have e2 := hxx.cell 2
      have e3 := hxx.cell 3
      have e4 := hxx.cell 4
      have e5 := hxx.cell 5
      have el := hxx.lt
      have ef := hxx.frozen
      simp only [List.getElem?_toArray, List.getElem?_cons_zero, List.getElem?_cons_succ] at e0 e1 e2 e3 e4 e5
      clear hxx
      clear hxs hxl hxt hms hml hmt hmn hxw
      go_wp2_with fail
      refine hcl.mono ?_
      clear hcl
      rintro e w5 ⟨A, cc, rfl, hown, m5⟩
      have HK := Lib.hid (Kids.cloned (trM_ok 4) hown m5 HMN.out (fun i h h' => HMT.out i h h'))
      have s5 := m5.size
      clear e0 e1 e2 e3 e4 e5 el ef
      have HX1 := Lib.hid (HX.out.mod m5 (fun e => e))
      have HR1 := Lib.hid (HR.out.mod m5 (fun e => e))
      have HY1 := Lib.hid (HY.out.new m5)
      have HT1 := Lib.hid (HT.out.new m5)
      clear HX HR HY HT
      have HX := HX1
      have HR := HR1
      have HY := HY1
      have HT := HT1
      clear HX1 HR1 HY1 HT1
      clear hown m5 HMT
      have hr2 := hr1 w5
      clear hr1
      go_wp2_with fail
      refine hr2.mono ?_
      clear hr2
      rintro e w6 ⟨rfl, hb6⟩
      have m6 : New w5 w6 := Mod.of_below hb6
      have s6 := m6.size
      have HK1 := Lib.hid (HK.out.new (trM_ok 4) m6)
      have HX1 := Lib.hid (HX.out.mod m6 (fun e => e))
      have HR1 := Lib.hid (HR.out.mod m6 (fun e => e))
      have HY1 := Lib.hid (HY.out.new m6)
      have HT1 := Lib.hid (HT.out.new m6)
      clear HX HR HY HT
      have HX := HX1
      have HR := HR1
      have HY := HY1
      have HT := HT1
      clear HX1 HR1 HY1 HT1
      clear hb6 m6 HK
      have hsm := some_any [⟨#[97]⟩, ⟨#[255]⟩, S1] b _ w6.heap.size 3 _ (HT.out.alloc _).inv (by omega) (Blk.new _ _ _) rfl (by omega) (by omega)
      go_wp2_with fail
      refine hsm.mono ?_
      clear hsm
      rintro e w7 ⟨q, rfl, mq, h7⟩
      have hq : q.size ≤ 101 := by
        simp only [List.mem_cons, List.not_mem_nil, or_false] at mq
        rcases mq with rfl | rfl | rfl
        · decide
        · decide
        · exact z1
      have m6 : New w6 (w6.alloc (.cells #[.string ⟨#[97]⟩, .string ⟨#[255]⟩, .string S1] 9)) := (Mod.refl _ _).alloc _
      have s7 := Nat.le_trans m6.size h7.only.size
      have hk2 := HK1.out.new (trM_ok 4) m6
      have hk3 := hk2.mod (trM_ok 4) h7.only (fun g hg _ e => by subst e; have := hg.1; omega) (fun g hg e => by have := (hk2.own.far' g hg).1; omega)
      have HX1 := Lib.hid (HX.out.mod m6 (fun e => e))
      have HR1 := Lib.hid (HR.out.mod m6 (fun e => e))
      have HY1 := Lib.hid (HY.out.new m6)
      have HT1 := Lib.hid (HT.out.new m6)
      clear HX HR HY HT
      have HX := HX1
      have HR := HR1
      have HY := HY1
      have HT := HT1
      clear HX1 HR1 HY1 HT1
      have HX1 := Lib.hid (HX.out.mod h7.only (by omega))
      have HR1 := Lib.hid (HR.out.mod h7.only (by omega))
      have HY1 := Lib.hid (Tree.mod h7.only (fun g hg _ e => by subst e; have := hg.1; omega) _ _ _ HY.out)
      have HT1 := Lib.hid (HT.out.trans h7)
      clear HX HR HY HT
      have HX := HX1
      have HR := HR1
      have HY := HY1
      have HT := HT1
      clear HX1 HR1 HY1 HT1
      clear h7 mq m6 HK1 hk2 z1
      have m8 : New w7 (w7.alloc (.cells #[.string q, .int .i64 0, .bool false, .int .i64 0, .string ⟨#[]⟩, .slice none 0 0, .slice none 0 0] 54)) := (Mod.refl _ _).alloc _
      have hk4 := hk3.new (trM_ok 4) m8
      have blk8 : Blk (w7.alloc (.cells #[.string q, .int .i64 0, .bool false, .int .i64 0, .string ⟨#[]⟩, .slice none 0 0, .slice none 0 0] 54)) w7.heap.size 54 (encL 7 MA.enc ⟨q, ⟨0, false, 0, ⟨#[]⟩, none, 0, 0, none, 0, 0⟩⟩).toArray := Blk.new _ _ _
      have hx8 := HX.out.mod m8 (fun e => e)
      have HRX := Lib.hid (HR.out.mod m8 (fun e => e))
      have HTX := Lib.hid (HT.out.new m8)
      have HYX := Lib.hid (HY.out.new m8)
      have HKX := Lib.hid hk4
      have s8 := m8.size
      have hxx := HX.out
      have e0 := hxx.cell 0
      have e1 := hxx.cell 1
      have e2 := hxx.cell 2
      have e3 := hxx.cell 3
      have e4 := hxx.cell 4
      have e5 := hxx.cell 5
      have el := hxx.lt
      have ef := hxx.frozen
      simp only [List.getElem?_toArray, List.getElem?_cons_zero, List.getElem?_cons_succ] at e0 e1 e2 e3 e4 e5
      clear hxx
      clear hk3 HR HT HY m8
      go_wp2_with (at_builtin; refine wpList_push rfl _ _ _ rfl 104 Tryz.underlying27 einfo_memM rfl hk4.own ⟨q, ⟨0, false, 0, ⟨#[]⟩, none, 0, 0, none, 0, 0⟩⟩ w7.heap.size rfl blk8 (fun j hj => MA.one _ j hj) (by omega) (by omega) (by omega) ?_; intro g9 cap9 w9 own9 hm9 hat9 hlt9; have hx9 := hx8.mod hm9 (fun e => by have := (hk4.own.far' _ e).1; omega); have c9 := hx9.cell 5; have f9 := hx9.frozen 5; have l9 := hx9.lt; simp only [List.getElem?_toArray, List.getElem?_cons_zero, List.getElem?_cons_succ] at c9)
      have HR := Lib.hid (HRX.out.mod hm9 (fun e => by have := (hk4.own.far' _ e).1; omega))
      have hy9 := Tree.mod hm9 (fun g hg ht e => by have := (hk4.own.far' _ e).1; have := hg.2; omega) _ _ _ HYX.out
      have hk9 := hk4.push (trM_ok 4) (y := ⟨q, ⟨0, false, 0, ⟨#[]⟩, none, 0, 0, none, 0, 0⟩⟩) (u := (q, .mk 0 false 0 ⟨#[]⟩ [] [])) ⟨rfl, leaf_tree _ _ _ _ _ _ _⟩ own9 hm9 hat9
      have HT := Lib.hid (HTX.out.mod hm9 (fun i e => by have := (hk4.own.far' _ e).1; omega))
      have hty := Tree.set_mem (Tree.imp (G' := fun g => w.heap.size < g ∧ g ≠ xb) (fun g hg _ => hg.1) _ _ _ hy9) hk9 (fun g hg _ => hg.1) (fun g hg => ⟨by omega, by omega⟩)
      have hv : ValAt w9 (fun g => w.heap.size < g ∧ g ≠ xb) 70000 7 ⟨xk, xf, xn, xw, xla, xln, xlc, some ⟨g9, 0, none⟩, xmn + 1, cap9⟩ := ValAt.of (d := 5) (v := (.mk xk xf xn v.words v.list (v.mem ++ [(q, .mk 0 false 0 ⟨#[]⟩ [] [])]))) (by rw [HXW.out]; exact hty) (by
        have h1 : vW 5 (.mk xk xf xn v.words v.list (v.mem ++ [(q, .mk 0 false 0 ⟨#[]⟩ [] [])])) = _ := snoc_mem_w 4 v xk xf xn (q, .mk 0 false 0 ⟨#[]⟩ [] [])
        have h2 := leaf_w0 3 0
        simp only at h1
        have := HWV.out
        rw [h1]
        show vW 5 v + _ ≤ 70000
        first | (show vW 5 v + (40 + (6 * q.size + 4)) ≤ 70000; omega) | (show vW 5 v + (40 + 1) ≤ 70000; omega)) (snoc_mem_wide xk xf xn HWD.out ⟨by show q.size ≤ 100000; omega, leaf_wide0 _ _ _⟩) (by omega)
      clear HX
      have HX := Lib.hid hx9
      have HXs := Lib.hid (HX.out.set 5 (.slice (some ⟨g9, 0, none⟩) (xmn + 1) cap9))
      have HRs := Lib.hid (HR.out.mod (Only.set (Mod.refl (fun g => g = xb) w9) 5 (.slice (some ⟨g9, 0, none⟩) (xmn + 1) cap9)) (by omega))
      have HVs := Lib.hid ((hv).mod (Only.set (Mod.refl (fun g => g = xb) w9) 5 (.slice (some ⟨g9, 0, none⟩) (xmn + 1) cap9)) (fun g hg e => hg.2 e))
      have HTs := Lib.hid (HT.out.set (p := ⟨xb, 5, none⟩) (by simp only; omega) (.slice (some ⟨g9, 0, none⟩) (xmn + 1) cap9))
      simp only [Array.setIfInBounds, List.size_toArray, List.length_cons, List.length_nil, Nat.reduceAdd, Nat.reduceLT, ↓reduceDIte, List.set_toArray, List.set_cons_zero, List.set_cons_succ] at HXs
      go_meet
      case rel => exact ⟨⟨xk, xf, xn, xw, xla, xln, xlc, some ⟨g9, 0, none⟩, xmn + 1, cap9⟩, HXs, HRs, HVs, Lib.hid (HTs.out.more (by omega))⟩
    · have HYI : Hid (Tree w4 (fun g => (w.heap.size < g ∧ g ≠ xb) ∧ g < w4.heap.size) 5 ⟨xk, xf, xn, xw, xla, xln, xlc, xma, xmn, xmc⟩ v) := Lib.hid (Tree.imp (fun g hg hl => ⟨hg, hl⟩) _ _ _ HY.out)
      clear HY
      have HY := HYI
      clear HYI
      obtain ⟨xs, ms, hxs, hxl, hxt, hms, hml, hmt⟩ := Tree.rows (d := 4) HY.out
      have hmn : v.list.length = xln := by rw [← hxl]; exact hxs.1
      have hmn10 : xln ≤ 6 := by rw [← hmn]; exact HWD.out.1
      have hcl := cloneVA xs xla xln xlc w4 hxs.sl (by omega)
      have HMT := Lib.hid hxt
      have HMN := Lib.hid hmn
      have hx4 : xb < w4.heap.size := HX.out.lt
      have hxw : v.words = xw := (Tree.fields HY.out).2.2.2.1
      have HXW := Lib.hid hxw
      have hxx := HX.out
      have e0 := hxx.cell 0
      have e1 := hxx.cell 1
      have e2 := hxx.cell 2
      have e3 := hxx.cell 3
      have e4 := hxx.cell 4
      have e5 := hxx.cell 5
      have el := hxx.lt
      have ef := hxx.frozen
      simp only [List.getElem?_toArray, List.getElem?_cons_zero, List.getElem?_cons_succ] at e0 e1 e2 e3 e4 e5
      clear hxx
      clear hxs hxl hxt hms hml hmt hmn hxw
      go_wp2_with fail
      refine hcl.mono ?_
      clear hcl
      rintro e w5 ⟨A, cc, rfl, hown, m5⟩
      have HK := Lib.hid (Kids.cloned (trV_ok 4) hown m5 HMN.out (fun i h h' => HMT.out i h h'))
      have s5 := m5.size
      clear e0 e1 e2 e3 e4 e5 el ef
      have HX1 := Lib.hid (HX.out.mod m5 (fun e => e))
      have HR1 := Lib.hid (HR.out.mod m5 (fun e => e))
      have HY1 := Lib.hid (HY.out.new m5)
      have HT1 := Lib.hid (HT.out.new m5)
      clear HX HR HY HT
      have HX := HX1
      have HR := HR1
      have HY := HY1
      have HT := HT1
      clear HX1 HR1 HY1 HT1
      clear hown m5 HMT
      have hk3 := HK.out
      have s6 : w5.heap.size ≤ w5.heap.size := Nat.le_refl _
      have s7 : w5.heap.size ≤ w5.heap.size := Nat.le_refl _
      have m8 : New w5 (w5.alloc (.cells #[.int .i64 9, .bool false, .int .i64 0, .string ⟨#[]⟩, .slice none 0 0, .slice none 0 0] 29)) := (Mod.refl _ _).alloc _
      have hk4 := hk3.new (trV_ok 4) m8
      have blk8 : Blk (w5.alloc (.cells #[.int .i64 9, .bool false, .int .i64 0, .string ⟨#[]⟩, .slice none 0 0, .slice none 0 0] 29)) w5.heap.size 29 (encL 6 VA.enc ⟨9, false, 0, ⟨#[]⟩, none, 0, 0, none, 0, 0⟩).toArray := Blk.new _ _ _
      have hx8 := HX.out.mod m8 (fun e => e)
      have HRX := Lib.hid (HR.out.mod m8 (fun e => e))
      have HTX := Lib.hid (HT.out.new m8)
      have HYX := Lib.hid (HY.out.new m8)
      have HKX := Lib.hid hk4
      have s8 := m8.size
      have hxx := HX.out
      have e0 := hxx.cell 0
      have e1 := hxx.cell 1
      have e2 := hxx.cell 2
      have e3 := hxx.cell 3
      have e4 := hxx.cell 4
      have e5 := hxx.cell 5
      have el := hxx.lt
      have ef := hxx.frozen
      simp only [List.getElem?_toArray, List.getElem?_cons_zero, List.getElem?_cons_succ] at e0 e1 e2 e3 e4 e5
      clear hxx
      clear hk3 HR HT HY m8
      go_wp2_with (at_builtin; refine wpList_push rfl _ _ _ rfl 88 Tryz.underlying26 einfo_val rfl hk4.own ⟨9, false, 0, ⟨#[]⟩, none, 0, 0, none, 0, 0⟩ w5.heap.size rfl blk8 (fun j hj => VA.one _ j hj) (by omega) (by omega) (by omega) ?_; intro g9 cap9 w9 own9 hm9 hat9 hlt9; have hx9 := hx8.mod hm9 (fun e => by have := (hk4.own.far' _ e).1; omega); have c9 := hx9.cell 4; have f9 := hx9.frozen 4; have l9 := hx9.lt; simp only [List.getElem?_toArray, List.getElem?_cons_zero, List.getElem?_cons_succ] at c9)
      have HR := Lib.hid (HRX.out.mod hm9 (fun e => by have := (hk4.own.far' _ e).1; omega))
      have hy9 := Tree.mod hm9 (fun g hg ht e => by have := (hk4.own.far' _ e).1; have := hg.2; omega) _ _ _ HYX.out
      have hk9 := hk4.push (trV_ok 4) (y := (⟨9, false, 0, ⟨#[]⟩, none, 0, 0, none, 0, 0⟩ : VA)) (u := (VT.mk 9 false 0 ⟨#[]⟩ [] [])) (leaf_tree _ _ 3 9 false 0 ⟨#[]⟩) own9 hm9 hat9
      have HT := Lib.hid (HTX.out.mod hm9 (fun i e => by have := (hk4.own.far' _ e).1; omega))
      have hty := Tree.set_list (Tree.imp (G' := fun g => w.heap.size < g ∧ g ≠ xb) (fun g hg _ => hg.1) _ _ _ hy9) hk9 (fun g hg _ => hg.1) (fun g hg => ⟨by omega, by omega⟩)
      have hv : ValAt w9 (fun g => w.heap.size < g ∧ g ≠ xb) 70000 7 ⟨xk, xf, xn, xw, some ⟨g9, 0, none⟩, xln + 1, cap9, xma, xmn, xmc⟩ := ValAt.of (d := 5) (v := (.mk xk xf xn v.words (v.list ++ [.mk 9 false 0 ⟨#[]⟩ [] []]) v.mem)) (by rw [HXW.out]; exact hty) (by
        have h1 : vW 5 (.mk xk xf xn v.words (v.list ++ [.mk 9 false 0 ⟨#[]⟩ [] []]) v.mem) = _ := snoc_list_w 4 v xk xf xn (.mk 9 false 0 ⟨#[]⟩ [] [])
        have h2 := leaf_w0 3 9
        have := HWV.out
        rw [h1]
        show vW 5 v + _ ≤ 70000
        first | (show vW 5 v + (40 + (6 * q.size + 4)) ≤ 70000; omega) | (show vW 5 v + (40 + 1) ≤ 70000; omega)) (snoc_list_wide xk xf xn HWD.out (leaf_wide0 _ _ _)) (by omega)
      clear HX
      have HX := Lib.hid hx9
      have HXs := Lib.hid (HX.out.set 4 (.slice (some ⟨g9, 0, none⟩) (xln + 1) cap9))
      have HRs := Lib.hid (HR.out.mod (Only.set (Mod.refl (fun g => g = xb) w9) 4 (.slice (some ⟨g9, 0, none⟩) (xln + 1) cap9)) (by omega))
      have HVs := Lib.hid ((hv).mod (Only.set (Mod.refl (fun g => g = xb) w9) 4 (.slice (some ⟨g9, 0, none⟩) (xln + 1) cap9)) (fun g hg e => hg.2 e))
      have HTs := Lib.hid (HT.out.set (p := ⟨xb, 4, none⟩) (by simp only; omega) (.slice (some ⟨g9, 0, none⟩) (xln + 1) cap9))
      simp only [Array.setIfInBounds, List.size_toArray, List.length_cons, List.length_nil, Nat.reduceAdd, Nat.reduceLT, ↓reduceDIte, List.set_toArray, List.set_cons_zero, List.set_cons_succ] at HXs
      go_meet
      case rel => exact ⟨⟨xk, xf, xn, xw, some ⟨g9, 0, none⟩, xln + 1, cap9, xma, xmn, xmc⟩, HXs, HRs, HVs, Lib.hid (HTs.out.more (by omega))⟩
    · have hpk := pick_any [48, 49, 50] b _ w4.heap.size 3 _ (HT.out.alloc _).inv (by omega) (Blk.new _ _ _) rfl (by omega) (by omega)
      go_wp2_with fail
      refine hpk.mono ?_
      clear hpk
      rintro e w5 ⟨n, rfl, mn5, h5⟩
      have hn5 : 0 ≤ n ∧ n ≤ 50 := by simp at mn5; omega
      obtain ⟨hn0, hn1⟩ := hn5
      obtain ⟨n, rfl⟩ := Int.eq_ofNat_of_zero_le hn0
      have m6 : New w4 (w4.alloc (.cells #[.int .i64 48, .int .i64 49, .int .i64 50] 3)) := (Mod.refl _ _).alloc _
      have HX1 := Lib.hid (HX.out.mod m6 (fun e => e))
      have HR1 := Lib.hid (HR.out.mod m6 (fun e => e))
      have HY1 := Lib.hid (HY.out.new m6)
      have HT1 := Lib.hid (HT.out.new m6)
      clear HX HR HY HT
      have HX := HX1
      have HR := HR1
      have HY := HY1
      have HT := HT1
      clear HX1 HR1 HY1 HT1
      have HX1 := Lib.hid (HX.out.mod h5.only (by omega))
      have HR1 := Lib.hid (HR.out.mod h5.only (by omega))
      have HY1 := Lib.hid (Tree.mod h5.only (fun g hg _ e => by subst e; have := hg.1; omega) _ _ _ HY.out)
      have HT1 := Lib.hid (HT.out.trans h5)
      clear HX HR HY HT
      have HX := HX1
      have HR := HR1
      have HY := HY1
      have HT := HT1
      clear HX1 HR1 HY1 HT1
      clear h5 mn5 m6 hn0
      have hn50 : n ≤ 50 := by omega
      go_wp2_with fail
      go_loopw [16] (fun i wr => ∃ (j : Nat) (x : VA) (u : VT), j ≤ n ∧ i = .int .i64 j ∧ Hid (Blk wr xb 29 #[.int .i64 x.kind, .bool x.flag, .int .i64 x.num, .string x.words, .slice x.la x.ln x.lc, .slice x.ma x.mn x.mc]) ∧ Hid (Blk wr w.heap.size 29 #[.int .i64 0, .bool false, .int .i64 0, .string ⟨#[]⟩, .slice none 0 0, .slice none 0 0]) ∧
        Hid (Tree wr (fun g => w.heap.size < g ∧ g ≠ xb) (5 + j) x u) ∧ Hid (vW (5 + j) u ≤ 33640 + 41 * j) ∧ Hid (Wide 6 (5 + j) u) ∧ Hid (SStep b w wr (k + 3500))) (fun i _ => n - (intOf i).toNat)
      case atStart => exact ⟨0, ⟨xk, xf, xn, xw, xla, xln, xlc, xma, xmn, xmc⟩, v, Nat.zero_le _, rfl, HX, HR, HY, Lib.hid (by simpa using HWV.out), HWD, Lib.hid (HT.out.more (by omega))⟩
      case round =>
        clear HX HR HT HY
        rename World => wr
        obtain ⟨j, x, u, hj, rfl, HX, HR, HY, HW, HWW, HT⟩ := hrel
        obtain ⟨zk, zf, zn, zw, zla, zln, zlc, zma, zmn, zmc⟩ := x
        simp only at HX
        by_cases hlt : j < n
        · have hxx := HX.out
          have e0 := hxx.cell 0
          have e1 := hxx.cell 1
          have e2 := hxx.cell 2
          have e3 := hxx.cell 3
          have e4 := hxx.cell 4
          have e5 := hxx.cell 5
          have el := hxx.lt
          have ef := hxx.frozen
          simp only [List.getElem?_toArray, List.getElem?_cons_zero, List.getElem?_cons_succ] at e0 e1 e2 e3 e4 e5
          clear hxx
          have hxl := HX.out.lt
          have hrl := HR.out.lt
          have nb : wr.heap.size ≠ xb := by omega
          have HXs0 := Lib.hid ((((((HX.out.set 0 (.int .i64 4)).set 1 (.bool false)).set 2 (.int .i64 0)).set 3 (.string ⟨#[]⟩)).set 4 (.slice (some ⟨wr.heap.size, 0, none⟩) 1 1)).set 5 (.slice none 0 0))
          simp only [Array.setIfInBounds, List.size_toArray, List.length_cons, List.length_nil, Nat.reduceAdd, Nat.reduceLT, ↓reduceDIte, List.set_toArray, List.set_cons_zero, List.set_cons_succ] at HXs0
          have hmo : Only xb wr ((((((wr.setCell ⟨xb, 0, none⟩ (.int .i64 4)).setCell ⟨xb, 1, none⟩ (.bool false)).setCell ⟨xb, 2, none⟩ (.int .i64 0)).setCell ⟨xb, 3, none⟩ (.string ⟨#[]⟩)).setCell ⟨xb, 4, none⟩ (.slice (some ⟨wr.heap.size, 0, none⟩) 1 1)).setCell ⟨xb, 5, none⟩ (.slice none 0 0)) := (((((Only.set (Mod.refl _ _) 0 _).set 1 _).set 2 _).set 3 _).set 4 _).set 5 _
          have hszS : ((((((wr.setCell ⟨xb, 0, none⟩ (.int .i64 4)).setCell ⟨xb, 1, none⟩ (.bool false)).setCell ⟨xb, 2, none⟩ (.int .i64 0)).setCell ⟨xb, 3, none⟩ (.string ⟨#[]⟩)).setCell ⟨xb, 4, none⟩ (.slice (some ⟨wr.heap.size, 0, none⟩) 1 1)).setCell ⟨xb, 5, none⟩ (.slice none 0 0)).heap.size = wr.heap.size := by simp [World.setCell]
          have hy7 := Tree.mod hmo (fun g hg _ e => hg.1.2 e) _ _ _ (Tree.imp (G' := fun g => (w.heap.size < g ∧ g ≠ xb) ∧ g < wr.heap.size) (fun g hg hl => ⟨hg, hl⟩) _ _ _ HY.out)
          have hr7 := HR.out.mod hmo (by omega)
          have ht7 := HT.out.mod hmo (fun i e => by omega)
          go_upto_region 7 with (fail)
          generalize ((((((wr.setCell ⟨xb, 0, none⟩ (.int .i64 4)).setCell ⟨xb, 1, none⟩ (.bool false)).setCell ⟨xb, 2, none⟩ (.int .i64 0)).setCell ⟨xb, 3, none⟩ (.string ⟨#[]⟩)).setCell ⟨xb, 4, none⟩ (.slice (some ⟨wr.heap.size, 0, none⟩) 1 1)).setCell ⟨xb, 5, none⟩ (.slice none 0 0)) = wS at *
          have m7 : New wS (wS.alloc (.cells #[.int .i64 zk, .bool zf, .int .i64 zn, .string zw, .slice zla zln zlc, .slice zma zmn zmc] 29)) := (Mod.refl _ _).alloc _
          have bk := Blk.new wS 29 #[.int .i64 zk, .bool zf, .int .i64 zn, .string zw, .slice zla zln zlc, .slice zma zmn zmc]
          have hown : Own (wS.alloc (.cells #[.int .i64 zk, .bool zf, .int .i64 zn, .string zw, .slice zla zln zlc, .slice zma zmn zmc] 29)) wS.heap.size 29 6 VA.enc (some ⟨wS.heap.size, 0, none⟩) 1 1 [⟨zk, zf, zn, zw, zla, zln, zlc, zma, zmn, zmc⟩] := Own.of_blk (xs := [(⟨zk, zf, zn, zw, zla, zln, zlc, zma, zmn, zmc⟩ : VA)]) bk (Nat.le_refl _) rfl (by omega)
          rw [hszS] at hown
          have hks : Kids (TrV (5 + j)) 29 6 VA.enc (wS.alloc (.cells #[.int .i64 zk, .bool zf, .int .i64 zn, .string zw, .slice zla zln zlc, .slice zma zmn zmc] 29)) wr.heap.size (fun g => w.heap.size < g ∧ g ≠ xb) (some ⟨wr.heap.size, 0, none⟩) 1 1 [⟨zk, zf, zn, zw, zla, zln, zlc, zma, zmn, zmc⟩] [u] := ⟨hown, rfl, fun i h h' => by
            simp only [List.length_cons, List.length_nil] at h
            obtain rfl : i = 0 := by omega
            exact Tree.imp (fun g hg _ => ⟨hg.1, fun e => by injection e with e; simp only at e; have := hg.2; omega⟩) _ _ _ (hy7.new m7)⟩
          have HXs := Lib.hid (HXs0.out.mod m7 (fun e => e))
          have HRs := Lib.hid (hr7.mod m7 (fun e => e))
          have HTs := Lib.hid (ht7.new m7)
          have HYs := Lib.hid (Tree.of_kids (G := fun g => w.heap.size < g ∧ g ≠ xb) (kind := 4) (flag := false) (num := 0) (words := ⟨#[]⟩) hks (B' := wr.heap.size) (G2 := fun g => w.heap.size < g ∧ g ≠ xb) Kids.nil (fun g hg _ => hg) (fun g hg _ => hg) (fun g hg => ⟨by omega, by omega⟩) (fun g hg => ⟨by omega, by omega⟩))
          have HWS := Lib.hid (wrap_le (j := j) (W := 33640) (u := u) HW.out)
          have HWWS := Lib.hid (wrap_wide (j := j) (u := u) HWW.out)
          clear hr7 hown hy7 ht7 hmo hks m7 bk e0 e1 e2 e3 e4 e5 el ef HX HR HY HT HXs0
          generalize wS.alloc (.cells #[.int .i64 zk, .bool zf, .int .i64 zn, .string zw, .slice zla zln zlc, .slice zma zmn zmc] 29) = w8 at *
          generalize wr.heap.size = nb7 at *
          go_wp2_with fail
          go_roundw
          case rel => exact ⟨j + 1, ⟨4, false, 0, ⟨#[]⟩, some ⟨nb7, 0, none⟩, 1, 1, none, 0, 0⟩, .mk 4 false 0 ⟨#[]⟩ [u] [], by omega, by go_num, HXs, HRs, HYs, HWS, HWWS, HTs⟩
          case measure => simp [intOf]; omega
        · obtain rfl : j = n := by omega
          go_wp2_with fail
          go_meet
          case rel => exact ⟨⟨zk, zf, zn, zw, zla, zln, zlc, zma, zmn, zmc⟩, HX, HR, Lib.hid (ValAt.of HY.out (by have := HW.out; omega) (Wide.mono (by omega) _ _ HWW.out) (by omega)), Lib.hid (HT.out.more (by omega))⟩
  case rest =>
    rename World => wz
    clear HX HR HT HY
    obtain ⟨x, HX, HR, HV, HT⟩ := hcut
    obtain ⟨zk, zf, zn, zw, zla, zln, zlc, zma, zmn, zmc⟩ := x
    have hxx := HX.out
    have e0 := hxx.cell 0
    have e1 := hxx.cell 1
    have e2 := hxx.cell 2
    have e3 := hxx.cell 3
    have e4 := hxx.cell 4
    have e5 := hxx.cell 5
    have el := hxx.lt
    have ef := hxx.frozen
    simp only [List.getElem?_toArray, List.getElem?_cons_zero, List.getElem?_cons_succ] at e0 e1 e2 e3 e4 e5
    clear hxx
    have rl := HR.out.lt
    have rf := HR.out.frozen
    have r0 := HR.out.cell 0
    have r1 := HR.out.cell 1
    have r2 := HR.out.cell 2
    have r3 := HR.out.cell 3
    have r4 := HR.out.cell 4
    have r5 := HR.out.cell 5
    have hne : w.heap.size ≠ xb := by omega
    simp only [List.getElem?_toArray, List.getElem?_cons_zero, List.getElem?_cons_succ] at r0 r1 r2 r3 r4 r5
    go_wp2_with fail
    refine bodyPost_ret (v := VA.val ⟨zk, zf, zn, zw, zla, zln, zlc, zma, zmn, zmc⟩) (by simp [results, Tryz.results4, go_sem, r0, r1, r2, r3, r4, r5, rf, hne]) rfl ⟨⟨zk, zf, zn, zw, zla, zln, zlc, zma, zmn, zmc⟩, rfl, ?_, ?_⟩
    · refine ValAt.ending HV.out ?_
      repeat (with_reducible (first | exact Mod.refl _ _ | refine Only.set ?_ _ _))
    · repeat (with_reducible (first | exact HT.out | (refine SStep.set ?_ ?_ _; rotate_left; (simp <;> omega))))

end Go.Proofs.YtjfgfkbgbhbhjaaGreatDoor
