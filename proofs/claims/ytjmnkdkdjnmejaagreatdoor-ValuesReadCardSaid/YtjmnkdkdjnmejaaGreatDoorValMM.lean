/- What the maker of values hands out: right values, of kinds and numbers that can be written (printed by mkvalmm.py out of XValM). Conditions: as for the stream; no deeper than 3. -/
import Derived.Test.YtjmnkdkdjnmejaaGreatDoorValM
import Derived.Test.YtjmnkdkdjnmejaaGreatDoorVal1Grp
import Derived.Test.YtjmnkdkdjnmejaaGreatDoorHeldGrp
import Derived.Deep.CutBlock
namespace Go.Proofs.YtjmnkdkdjnmejaaGreatDoor
open Go.RowKit
set_option linter.unusedVariables false
set_option linter.unusedSimpArgs false


/-- kinds and numbers that can be written -/
def Mild : Nat → VT → Prop
  | 0, _ => True
  | d + 1, v => (0 ≤ v.kind ∧ v.kind ≤ 5) ∧ (-1000000000000000 ≤ v.num ∧ v.num ≤ 1000000000000000) ∧ (∀ x ∈ v.list, Mild d x) ∧ (∀ p ∈ v.mem, Mild d p.2)
def WM (n d : Nat) (v : VT) : Prop := Wide n d v ∧ Mild d v
theorem leaf_wideM (d : Nat) (kind : Int) (flag : Bool) (num : Int) (words : ByteArray) (h : words.size ≤ 6) (hk : 0 ≤ kind ∧ kind ≤ 5) (hn : -1000000000000000 ≤ num ∧ num ≤ 1000000000000000) : WM 6 (d + 1) (.mk kind flag num words [] []) :=
  ⟨leaf_wide _ _ _ _ _ h, hk, hn, fun x hx => by simp [VT.list] at hx, fun x hx => by simp [VT.mem] at hx⟩
theorem list_fitM {d : Nat} {vs : List VT} (hl : vs.length ≤ 3) (h0 : d = 0 → vs = []) (hv : ∀ d', d = d' + 1 → ∀ u ∈ vs, vW d u ≤ rvW d' ∧ WM 6 d u) : vW (d + 1) (.mk 4 false 0 ⟨#[]⟩ vs []) ≤ rvW d ∧ WM 6 (d + 1) (.mk 4 false 0 ⟨#[]⟩ vs []) := by
  have h := list_fit hl h0 (fun d' e u hu => ⟨(hv d' e u hu).1, (hv d' e u hu).2.1⟩)
  refine ⟨h.1, h.2, ⟨by show (0 : Int) ≤ 4; decide, by show (4 : Int) ≤ 5; decide⟩, ⟨by show _ ≤ (0 : Int); decide, by show (0 : Int) ≤ _; decide⟩, fun x hx => ?_, fun x hx => by simp [VT.mem] at hx⟩
  cases d with
  | zero => exact trivial
  | succ d' => exact (hv d' rfl x hx).2.2
theorem mem_fitM {d : Nat} {ps : List (ByteArray × VT)} (hl : ps.length ≤ 6) (h0 : d = 0 → ps = []) (hv : ∀ d', d = d' + 1 → ∀ p ∈ ps, p.1.size ≤ 3 ∧ vW d p.2 ≤ rvW d' ∧ WM 6 d p.2) : vW (d + 1) (.mk 5 false 0 ⟨#[]⟩ [] ps) ≤ rvW d ∧ WM 6 (d + 1) (.mk 5 false 0 ⟨#[]⟩ [] ps) := by
  have h := mem_fit hl h0 (fun d' e u hu => ⟨(hv d' e u hu).1, (hv d' e u hu).2.1, (hv d' e u hu).2.2.1⟩)
  refine ⟨h.1, h.2, ⟨by show (0 : Int) ≤ 5; decide, by show (5 : Int) ≤ 5; decide⟩, ⟨by show _ ≤ (0 : Int); decide, by show (0 : Int) ≤ _; decide⟩, fun x hx => by simp [VT.list] at hx, fun x hx => ?_⟩
  cases d with
  | zero => exact trivial
  | succ d' => exact (hv d' rfl x hx).2.2.2
def RValM (b : Nat) (w : World) (d k : Nat) (e : Ending) (w' : World) : Prop :=
  ∃ (x : VA) (v : VT), e = .returned x.val ∧ Tree w' (fun g => w.heap.size ≤ g) (d + 1) x v ∧ vW (d + 1) v ≤ rvW d ∧ WM 6 (d + 1) v ∧ SStep b w w' k
def RVSpecM (d : Nat) : Prop := ∀ (b k : Nat) (w : World), SInv b w k → k + rvK d < 4611686018426000000 →
  Calls Tryz.prog 12 #[.pointer (some ⟨b, 0, none⟩), .int .i64 d] w (RValM b w d (k + rvK d))

set_option maxRecDepth 100000 in
set_option maxHeartbeats 700000 in
theorem rv_walkM (d : Nat) (hd : d ≤ 3) (IH : ∀ d', d = d' + 1 → RVSpecM d') : RVSpecM d := by
  intro b k w hs hk
  have hb := hs.lt
  have hkd := rvK_le hd
  have HIH := hId IH
  clear IH
  go_enter Tryz.func12, Tryz.ntmps12
  go_wp2_with fail
  refine (pick_any [0, 1, 2, 2, 3, 3, 4, 5] b k _ 8 _ (((SStep.refl hs).alloc _).alloc _).inv (by omega) (Blk.new' _ _ (by simp)) rfl (by omega) (by omega)).mono ?_
  rintro e w1 ⟨kd, rfl, mk, h1⟩
  have T1 := (((SStep.refl hs).alloc (.cells #[.int .i64 0, .bool false, .int .i64 0, .string ⟨#[]⟩, .slice none 0 0, .slice none 0 0] 30)).alloc _).trans h1
  obtain ⟨o1, z1, -⟩ := h1.only.pre
  obtain ⟨o0, z0, n0⟩ := o1.pre
  have R1 : Blk w1 w.heap.size 30 _ := n0 (by omega)
  clear h1 o0 o1 n0
  have hkd5 : 0 ≤ kd ∧ kd ≤ 5 := by simp at mk; omega
  clear mk
  go_upto_region 2 with (fail)
  have X2 := Blk.new w1 30 #[.int .i64 kd, .bool false, .int .i64 0, .string ⟨#[]⟩, .slice none 0 0, .slice none 0 0]
  have R2 := R1.mod ((Mod.refl (fun _ => False) w1).alloc (.cells #[.int .i64 kd, .bool false, .int .i64 0, .string ⟨#[]⟩, .slice none 0 0, .slice none 0 0] 30)) (fun e => e)
  have T2 := T1.alloc (.cells #[.int .i64 kd, .bool false, .int .i64 0, .string ⟨#[]⟩, .slice none 0 0, .slice none 0 0] 30)
  generalize w1.alloc (.cells #[.int .i64 kd, .bool false, .int .i64 0, .string ⟨#[]⟩, .slice none 0 0, .slice none 0 0] 30) = w2 at *
  have hrx : w.heap.size < w1.heap.size := by omega
  generalize hxb : w1.heap.size = xb at *
  have HX2 := hId X2
  have HR2 := hId R2
  have HT2 := hId T2
  clear R1 T1 z0 z1 hxb X2 R2 T2
  go_cut [17] (fun c wx => ∃ m : Bool, c = .bool m ∧ (m = true → 0 < d) ∧ Hid (Blk wx xb 30 #[.int .i64 kd, .bool false, .int .i64 0, .string ⟨#[]⟩, .slice none 0 0, .slice none 0 0]) ∧ Hid (Blk wx w.heap.size 30 #[.int .i64 0, .bool false, .int .i64 0, .string ⟨#[]⟩, .slice none 0 0, .slice none 0 0]) ∧ Hid (SStep b w wx (k + 2)))
  case first =>
    rcases Nat.eq_zero_or_pos d with h0 | h0
    · have hd0 : decide ((0 : Int) < (d : Int)) = false := by simp; omega
      go_wp2_with fail
      go_meet
      case rel => exact ⟨false, rfl, (fun h => by cases h), HX2, HR2, hId (HT2.out.more (by omega))⟩
    · have hd0 : (0 : Int) < (d : Int) := by omega
      have h0D := hId h0
      have hfl := flip_any b _ 2 _ HT2.out.inv (by omega) (by omega) (by omega)
      clear h0
      go_wp2_with fail
      refine hfl.mono ?_
      clear hfl
      rintro e w3 ⟨m, rfl, h3⟩
      have HX3 := hId (HX2.out.mod h3.only (by omega))
      have HR3 := hId (HR2.out.mod h3.only (by omega))
      have HT3 := hId (HT2.out.trans h3)
      clear h3
      go_wp2_with fail
      go_meet
      case rel => exact ⟨m, rfl, fun _ => h0D.out, HX3, HR3, hId (HT3.out.more (by omega))⟩
  case rest =>
    rename World => w3
    clear HX2 HR2 HT2
    obtain ⟨m, rfl, hm, HX3, HR3, HT3⟩ := hcut
    go_upto_if 17 with (fail)
    go_cut [] (fun wx => ∃ kd : Int, (0 ≤ kd ∧ kd ≤ 5) ∧ Hid (Blk wx xb 30 #[.int .i64 kd, .bool false, .int .i64 0, .string ⟨#[]⟩, .slice none 0 0, .slice none 0 0]) ∧ Hid (Blk wx w.heap.size 30 #[.int .i64 0, .bool false, .int .i64 0, .string ⟨#[]⟩, .slice none 0 0, .slice none 0 0]) ∧ Hid (SStep b w wx (k + 3)))
    case first =>
      cases m with
      | false =>
        go_wp2_with fail
        go_meet
        case rel => exact ⟨kd, hkd5, HX3, HR3, hId (HT3.out.more (by omega))⟩
      | true =>
        have hpk := pick_any [4, 5, 5] b _ w3.heap.size 3 _ (HT3.out.alloc _).inv (by omega) (Blk.new _ _ _) rfl (by omega) (by omega)
        go_wp2_with fail
        refine hpk.mono ?_
        clear hpk
        rintro e w4 ⟨kd2, rfl, mk, h4⟩
        have hk2 : 0 ≤ kd2 ∧ kd2 ≤ 5 := by simp at mk; omega
        have hx4 := HX3.out.mod h4.only.pre.1 (by omega)
        have hr4 := HR3.out.mod h4.only.pre.1 (by omega)
        have ht4 := (HT3.out.alloc _).trans h4
        have HX5 := hId (hx4.set 0 (.int .i64 kd2))
        have HR5 := hId (hr4.mod (Only.set (Mod.refl (fun g => g = xb) w4) 0 (.int .i64 kd2)) (by omega))
        have HT5 := hId (ht4.set (p := ⟨xb, 0, none⟩) (by simp only; omega) (.int .i64 kd2))
        have e0 := hx4.cell 0
        have f0 := hx4.frozen 0
        have el := hx4.lt
        simp only [lqt, lqz] at e0
        clear h4 mk hx4 hr4 ht4
        go_wp2_with fail
        go_meet
        case rel => exact ⟨kd2, hk2, by simpa using HX5, HR5, hId (HT5.out.more (by omega))⟩
    case rest =>
      rename World => w4
      clear HX3 HR3 HT3 hkd5 m hm kd
      obtain ⟨kd, hk5, HX, HR, HT⟩ := hcut
      have hxx := HX.out
      have e0 := hxx.cell 0
      have e1 := hxx.cell 1
      have e2 := hxx.cell 2
      have e3 := hxx.cell 3
      have e4 := hxx.cell 4
      have e5 := hxx.cell 5
      have el := hxx.lt
      have ef := hxx.frozen
      simp only [lqt, lqz, lqs] at e0 e1 e2 e3 e4 e5
      clear hxx
      have rl := HR.out.lt
      have rf := HR.out.frozen
      have r0 := HR.out.cell 0
      have r1 := HR.out.cell 1
      have r2 := HR.out.cell 2
      have r3 := HR.out.cell 3
      have r4 := HR.out.cell 4
      have r5 := HR.out.cell 5
      have hne : w.heap.size ≠ xb := by omega
      simp only [lqt, lqz, lqs] at r0 r1 r2 r3 r4 r5
      have hgk : 100 ≤ rvW d := rvW_ge d
      have hgk2 : 12 ≤ rvK d := rvK_ge d
      obtain rfl | rfl | rfl | rfl | rfl | rfl : kd = 0 ∨ kd = 1 ∨ kd = 2 ∨ kd = 3 ∨ kd = 4 ∨ kd = 5 := by omega
      · go_wp2_with fail
        refine bodyPost_ret (v := VA.val ⟨0, false, 0, ⟨#[]⟩, none, 0, 0, none, 0, 0⟩) (by simp [results, Tryz.results12, go_sem, r0, r1, r2, r3, r4, r5, rf, hne]) rfl ⟨⟨0, false, 0, ⟨#[]⟩, none, 0, 0, none, 0, 0⟩, (.mk 0 false 0 ⟨#[]⟩ [] []), rfl, ?_, ?_, ?_, ?_⟩
        · exact leaf_tree _ _ _ _ _ _ _
        · exact leaf_w _ _ _ _ _ (by first | decide | assumption)
        · exact leaf_wideM _ _ _ _ _ (by first | decide | assumption) (by first | decide | omega) (by first | decide | omega)
        · repeat (with_reducible (first | exact HT.out.more (by omega) | (refine SStep.set ?_ ?_ _; rotate_left; (simp <;> omega))))
      · have hfl := flip_any b _ 2 _ HT.out.inv (by omega) (by omega) (by omega)
        go_wp2_with fail
        refine hfl.mono ?_
        clear hfl
        rintro e w5 ⟨m, rfl, h5⟩
        have hx5 := HX.out.mod h5.only (by omega)
        have hr5 := HR.out.mod h5.only (by omega)
        have ht5 := HT.out.trans h5
        clear e0 e1 e2 e3 e4 e5 el ef rl rf r0 r1 r2 r3 r4 r5 hne
        have f1 := hx5.frozen 1
        have e1 := hx5.cell 1
        have el := hx5.lt
        simp only [lqt, lqz, lqs] at e1
        go_upto_region 24 with (fail)
        have HX6 := hId (hx5.set 1 (.bool m))
        have HR6 := hId (hr5.mod (Only.set (Mod.refl (fun g => g = xb) w5) 1 (.bool m)) (by omega))
        have HT6 := hId (ht5.set (p := ⟨xb, 1, none⟩) (by simp only; omega) (.bool m))
        simp only [Array.setIfInBounds, List.size_toArray, List.length_cons, List.length_nil, Nat.reduceAdd, Nat.reduceLT, ↓reduceDIte, List.set_toArray, lsz, lss] at HX6
        generalize (w5).setCell ⟨xb, 1, none⟩ (.bool m) = w6 at *
        clear HX HR HT
        have HX := HX6
        have HR := HR6
        have HT := HT6
        clear HX6 HR6 HT6
        clear f1 e1 el hx5 hr5 ht5 h5
        have hxx := HX.out
        have e0 := hxx.cell 0
        have e1 := hxx.cell 1
        have e2 := hxx.cell 2
        have e3 := hxx.cell 3
        have e4 := hxx.cell 4
        have e5 := hxx.cell 5
        have el := hxx.lt
        have ef := hxx.frozen
        simp only [lqt, lqz, lqs] at e0 e1 e2 e3 e4 e5
        clear hxx
        have rl := HR.out.lt
        have rf := HR.out.frozen
        have r0 := HR.out.cell 0
        have r1 := HR.out.cell 1
        have r2 := HR.out.cell 2
        have r3 := HR.out.cell 3
        have r4 := HR.out.cell 4
        have r5 := HR.out.cell 5
        have hne : w.heap.size ≠ xb := by omega
        simp only [lqt, lqz, lqs] at r0 r1 r2 r3 r4 r5
        go_wp2_with fail
        refine bodyPost_ret (v := VA.val ⟨1, m, 0, ⟨#[]⟩, none, 0, 0, none, 0, 0⟩) (by simp [results, Tryz.results12, go_sem, r0, r1, r2, r3, r4, r5, rf, hne]) rfl ⟨⟨1, m, 0, ⟨#[]⟩, none, 0, 0, none, 0, 0⟩, (.mk 1 m 0 ⟨#[]⟩ [] []), rfl, ?_, ?_, ?_, ?_⟩
        · exact leaf_tree _ _ _ _ _ _ _
        · exact leaf_w _ _ _ _ _ (by first | decide | assumption)
        · exact leaf_wideM _ _ _ _ _ (by first | decide | assumption) (by first | decide | omega) (by first | decide | omega)
        · repeat (with_reducible (first | exact HT.out.more (by omega) | (refine SStep.set ?_ ?_ _; rotate_left; (simp <;> omega))))
      · have hnx := next_any b _ 100 _ HT.out.inv (by omega) (by omega) (by omega)
        go_wp2_with fail
        refine hnx.mono ?_
        clear hnx
        rintro e w5 ⟨n, rfl, n1, n2, h5⟩
        have hx5 := HX.out.mod h5.only (by omega)
        have hr5 := HR.out.mod h5.only (by omega)
        have ht5 := HT.out.trans h5
        clear e0 e1 e2 e3 e4 e5 el ef rl rf r0 r1 r2 r3 r4 r5 hne
        clear HX HR HT
        have hpk := pick_any [0, 1, -1, 5, 12, 1000000000000000, -1000000000000000, n] b _ w5.heap.size 8 _ (ht5.alloc _).inv (by omega) (Blk.new _ _ _) rfl (by omega) (by omega)
        go_wp2_with fail
        refine hpk.mono ?_
        clear hpk
        rintro e w7 ⟨m, rfl, mm, h7⟩
        have hx5 := hx5.mod h7.only.pre.1 (by omega)
        have hr5 := hr5.mod h7.only.pre.1 (by omega)
        have ht5 := (ht5.alloc _).trans h7
        have HX := hId hx5
        have HR := hId hr5
        have HT := hId ht5
        have f2 := hx5.frozen 2
        have e2 := hx5.cell 2
        have el := hx5.lt
        simp only [lqt, lqz, lqs] at e2
        go_upto_region 24 with (fail)
        have HX6 := hId (hx5.set 2 (.int .i64 m))
        have HR6 := hId (hr5.mod (Only.set (Mod.refl (fun g => g = xb) w7) 2 (.int .i64 m)) (by omega))
        have HT6 := hId (ht5.set (p := ⟨xb, 2, none⟩) (by simp only; omega) (.int .i64 m))
        simp only [Array.setIfInBounds, List.size_toArray, List.length_cons, List.length_nil, Nat.reduceAdd, Nat.reduceLT, ↓reduceDIte, List.set_toArray, lsz, lss] at HX6
        generalize (w7).setCell ⟨xb, 2, none⟩ (.int .i64 m) = w6 at *
        clear HX HR HT
        have HX := HX6
        have HR := HR6
        have HT := HT6
        clear HX6 HR6 HT6
        have hmb : -1000000000000000 ≤ m ∧ m ≤ 1000000000000000 := by simp at mm; omega
        clear f2 e2 el hx5 hr5 ht5 h7 mm
        have hxx := HX.out
        have e0 := hxx.cell 0
        have e1 := hxx.cell 1
        have e2 := hxx.cell 2
        have e3 := hxx.cell 3
        have e4 := hxx.cell 4
        have e5 := hxx.cell 5
        have el := hxx.lt
        have ef := hxx.frozen
        simp only [lqt, lqz, lqs] at e0 e1 e2 e3 e4 e5
        clear hxx
        have rl := HR.out.lt
        have rf := HR.out.frozen
        have r0 := HR.out.cell 0
        have r1 := HR.out.cell 1
        have r2 := HR.out.cell 2
        have r3 := HR.out.cell 3
        have r4 := HR.out.cell 4
        have r5 := HR.out.cell 5
        have hne : w.heap.size ≠ xb := by omega
        simp only [lqt, lqz, lqs] at r0 r1 r2 r3 r4 r5
        go_wp2_with fail
        refine bodyPost_ret (v := VA.val ⟨2, false, m, ⟨#[]⟩, none, 0, 0, none, 0, 0⟩) (by simp [results, Tryz.results12, go_sem, r0, r1, r2, r3, r4, r5, rf, hne]) rfl ⟨⟨2, false, m, ⟨#[]⟩, none, 0, 0, none, 0, 0⟩, (.mk 2 false m ⟨#[]⟩ [] []), rfl, ?_, ?_, ?_, ?_⟩
        · exact leaf_tree _ _ _ _ _ _ _
        · exact leaf_w _ _ _ _ _ (by first | decide | assumption)
        · exact leaf_wideM _ _ _ _ _ (by first | decide | assumption) (by first | decide | omega) (by first | decide | omega)
        · repeat (with_reducible (first | exact HT.out.more (by omega) | (refine SStep.set ?_ ?_ _; rotate_left; (simp <;> omega))))
      · have hsm := some_any [⟨#[]⟩, ⟨#[97]⟩, ⟨#[98]⟩, ⟨#[97, 32, 98]⟩, ⟨#[120, 34, 121, 92, 122]⟩, ⟨#[195, 169, 10, 9]⟩, ⟨#[1, 127]⟩, ⟨#[49, 50]⟩, ⟨#[45, 51]⟩, ⟨#[65, 98, 44, 99, 68]⟩] b _ w4.heap.size 10 _ (HT.out.alloc _).inv (by omega) (Blk.new _ _ _) rfl (by omega) (by omega)
        go_wp2_with fail
        refine hsm.mono ?_
        clear hsm
        rintro e w7 ⟨m, rfl, mm, h7⟩
        have hm6 : m.size ≤ 6 := by
          simp only [List.mem_cons, List.not_mem_nil, or_false] at mm
          rcases mm with rfl | rfl | rfl | rfl | rfl | rfl | rfl | rfl | rfl | rfl <;> decide
        have hx5 := HX.out.mod h7.only.pre.1 (by omega)
        have hr5 := HR.out.mod h7.only.pre.1 (by omega)
        have ht5 := (HT.out.alloc _).trans h7
        clear e0 e1 e2 e3 e4 e5 el ef rl rf r0 r1 r2 r3 r4 r5 hne
        have f2 := hx5.frozen 3
        have e2 := hx5.cell 3
        have el := hx5.lt
        simp only [lqt, lqz, lqs] at e2
        go_upto_region 24 with (fail)
        have HX6 := hId (hx5.set 3 (.string m))
        have HR6 := hId (hr5.mod (Only.set (Mod.refl (fun g => g = xb) w7) 3 (.string m)) (by omega))
        have HT6 := hId (ht5.set (p := ⟨xb, 3, none⟩) (by simp only; omega) (.string m))
        simp only [Array.setIfInBounds, List.size_toArray, List.length_cons, List.length_nil, Nat.reduceAdd, Nat.reduceLT, ↓reduceDIte, List.set_toArray, lsz, lss] at HX6
        generalize (w7).setCell ⟨xb, 3, none⟩ (.string m) = w6 at *
        clear HX HR HT
        have HX := HX6
        have HR := HR6
        have HT := HT6
        clear HX6 HR6 HT6
        clear f2 e2 el hx5 hr5 ht5 h7 mm
        have hxx := HX.out
        have e0 := hxx.cell 0
        have e1 := hxx.cell 1
        have e2 := hxx.cell 2
        have e3 := hxx.cell 3
        have e4 := hxx.cell 4
        have e5 := hxx.cell 5
        have el := hxx.lt
        have ef := hxx.frozen
        simp only [lqt, lqz, lqs] at e0 e1 e2 e3 e4 e5
        clear hxx
        have rl := HR.out.lt
        have rf := HR.out.frozen
        have r0 := HR.out.cell 0
        have r1 := HR.out.cell 1
        have r2 := HR.out.cell 2
        have r3 := HR.out.cell 3
        have r4 := HR.out.cell 4
        have r5 := HR.out.cell 5
        have hne : w.heap.size ≠ xb := by omega
        simp only [lqt, lqz, lqs] at r0 r1 r2 r3 r4 r5
        go_wp2_with fail
        refine bodyPost_ret (v := VA.val ⟨3, false, 0, m, none, 0, 0, none, 0, 0⟩) (by simp [results, Tryz.results12, go_sem, r0, r1, r2, r3, r4, r5, rf, hne]) rfl ⟨⟨3, false, 0, m, none, 0, 0, none, 0, 0⟩, (.mk 3 false 0 m [] []), rfl, ?_, ?_, ?_, ?_⟩
        · exact leaf_tree _ _ _ _ _ _ _
        · exact leaf_w _ _ _ _ _ (by first | decide | assumption)
        · exact leaf_wideM _ _ _ _ _ (by first | decide | assumption) (by first | decide | omega) (by first | decide | omega)
        · repeat (with_reducible (first | exact HT.out.more (by omega) | (refine SStep.set ?_ ?_ _; rotate_left; (simp <;> omega))))
      · have hnx := next_any b _ 4 _ HT.out.inv (by omega) (by omega) (by omega)
        go_wp2_with fail
        refine hnx.mono ?_
        clear hnx
        rintro e w5 ⟨n, rfl, n1, n2, h5⟩
        obtain ⟨n, rfl⟩ := Int.eq_ofNat_of_zero_le n1
        have hn4 : n ≤ 3 := by omega
        have HX5 := hId (HX.out.mod h5.only (by omega))
        have HR5 := hId (HR.out.mod h5.only (by omega))
        have HT5 := hId (HT.out.trans h5)
        clear e0 e1 e2 e3 e4 e5 el ef rl rf r0 r1 r2 r3 r4 r5 hne
        clear HX HR HT n1 n2 h5
        go_wp2_with fail
        go_loopw [47] (fun i wr => ∃ (j c m : Nat) (A : Option Addr) (xs : List VA) (vs : List VT), j ≤ n ∧ i = .int .i64 j ∧ m ≤ j ∧ Hid (Blk wr xb 30 #[.int .i64 4, .bool false, .int .i64 0, .string ⟨#[]⟩, .slice A m c, .slice none 0 0]) ∧ Hid (Blk wr w.heap.size 30 #[.int .i64 0, .bool false, .int .i64 0, .string ⟨#[]⟩, .slice none 0 0, .slice none 0 0]) ∧
          Hid (Kids (TrV d) 30 6 VA.enc wr (xb + 1) (fun g => xb < g) A m c xs vs) ∧ Hid (∀ d', d = d' + 1 → ∀ u ∈ vs, vW d u ≤ rvW d' ∧ WM 6 d u) ∧ (d = 0 → m = 0) ∧ Hid (SStep b w wr (k + 4 + j * rvP d))) (fun i _ => n - (intOf i).toNat)
        case atStart => exact ⟨0, 0, 0, none, [], [], Nat.zero_le _, rfl, Nat.le_refl _, HX5, HR5, hId Kids.nil, hId (fun _ _ u hu => by simp at hu), fun _ => rfl, hId (HT5.out.more (by omega))⟩
        case round =>
          clear HX5 HR5 HT5
          rename World => wr
          obtain ⟨j, c, m, A, xs, vs, hj, rfl, hmj, HX, HR, HK, HV, hd0, HT⟩ := hrel
          by_cases hlt : j < n
          · rcases Nat.eq_zero_or_pos d with hz | hz
            · have hdz : decide ((0 : Int) < (d : Int)) = false := by simp; omega
              have hdy : ¬ (0 : Int) < (d : Int) := by omega
              have HZ := hId (hd0 hz)
              clear hd0 hz
              go_wp2_with fail
              go_roundw
              case rel => exact ⟨j + 1, c, m, A, xs, vs, by omega, by go_num, by omega, HX, HR, HK, HV, fun _ => HZ.out, hId (HT.out.more (by rw [Nat.succ_mul]; omega))⟩
              case measure => simp [intOf]; omega
            · obtain ⟨d', hd'⟩ : ∃ d', d = d' + 1 := ⟨d - 1, by omega⟩
              have hsp := HIH.out d' hd'
              have hsub : (d : Int) - 1 = (d' : Int) := by omega
              have hdz : (0 : Int) < (d : Int) := by omega
              have HDE := hId hd'
              have hkk : rvP d = rvK d' + 1 := by rw [hd']; rfl
              have HKK := hId hkk
              have hrk : rvK d = 12 + 6 * (rvK d' + 1) := by rw [hd']; rfl
              have hjk : j * rvP d ≤ 2 * (rvK d' + 1) := Nat.mul_le_mul (by omega) (Nat.le_of_eq hkk)
              have hwr : IntKind.i64.wrap (d' : Int) = (d' : Int) := by
                simp [IntKind.wrap, IntKind.signed, IntKind.bits]; omega
              have hcall := hsp b _ wr.drew (HT.out.drew).inv (by omega)
              clear hrk hjk
              have HCS : Hid (∀ W, Blk W xb 30 #[.int .i64 4, .bool false, .int .i64 0, .string ⟨#[]⟩, .slice A m c, .slice none 0 0] → (W.cell? ⟨xb, 4, none⟩ = some (.slice A m c) ∧ xb < W.heap.size)) := hId (fun W hb => ⟨(hb.cell 4).trans rfl, hb.lt⟩)
              clear hd' hsp hz hd0 hkk
              go_upto_region 15 with (fail)
              refine wp_region_held_ord (fun W => W.cell? ⟨xb, 4, none⟩ = some (.slice A m c) ∧ xb < W.heap.size) [5, 6, 7] [0, 1, 2, 3, 4, 5, 6, 7] (by kernel_rfl) (by kernel_rfl) (fun _ _ d _ _ h => by cases d <;> exact h) ?_ (fun hHeld => ?_)
              · exact HCS.out _ (HX.out.mod (Mod.refl (fun _ => False) wr).drew (fun e => e))
              simp only [List.length_cons, List.length_nil, List.drop_succ_cons, List.drop_zero]
              refine heldO_take ?_ (by rfl) (by rfl) (by rfl) (fun w hSw => ?_) ?_
              rotate_left
              · (try dsimp only at hSw); go_simp; any_goals (with_reducible rfl)
              simp only [Act.put, lst, lsz, lss]
              refine heldO_take ?_ (by rfl) (by rfl) (by rfl) (fun w hSw => ?_) ?_
              rotate_left
              · (try dsimp only at hSw); go_simp; any_goals (with_reducible rfl)
              simp only [Act.put, lst, lsz, lss]
              refine heldO_take ?_ (by rfl) (by rfl) (by rfl) (fun w hSw => ?_) ?_
              rotate_left
              · (try dsimp only at hSw); go_simp; any_goals (with_reducible rfl)
              simp only [Act.put, lst, lsz, lss]
              refine heldO_take ?_ (by rfl) (by rfl) (by rfl) (fun w hSw => ?_) ?_
              rotate_left
              · (try dsimp only at hSw); go_simp; any_goals (with_reducible rfl)
              simp only [Act.put, lst, lsz, lss]
              refine heldO_take ?_ (by rfl) (by rfl) (by rfl) (fun w hSw => ?_) ?_
              rotate_left
              · (try dsimp only at hSw); go_simp; any_goals (with_reducible rfl)
              simp only [Act.put, lst, lsz, lss]
              refine heldO_step (by rfl) (by rfl) (by rfl) (fun K hK => ?_)
              go_simp
              refine hcall.mono ?_
              clear hcall
              rintro e w5 ⟨y, u, rfl, hty, hwu, hwd, h5⟩
              have hx5 := (HX.out.mod (Mod.refl (fun _ => False) wr).drew (fun e => e)).mod h5.only (by omega)
              have hr5 := (HR.out.mod (Mod.refl (fun _ => False) wr).drew (fun e => e)).mod h5.only (by omega)
              have hk5 := (HK.out.new (trV_ok d) (Mod.refl _ wr).drew).mod (trV_ok d) h5.only (fun g hg _ e => by subst e; have := hg; omega) (fun g hg e => by have := (HK.out.own.far' g hg).1; omega)
              have ht5 := HT.out.drew.trans h5
              have hfar : ∀ g, blkOf A = some g → g < wr.heap.size := fun g hg => (HK.out.own.far' g hg).2.1
              have hxl : xb < wr.heap.size := HX.out.lt
              have hty5 : Tree w5 (fun g => xb < g ∧ blkOf A ≠ some g) d y u := by
                have h1 := HDE.out
                subst h1
                exact Tree.imp (fun g (hg : wr.drew.heap.size ≤ g) _ => by
                  have hdz : wr.drew.heap.size = wr.heap.size := rfl
                  exact ⟨by omega, fun e => by have := hfar g e; omega⟩) _ _ _ hty
              have HX5 := hId hx5
              have HR5 := hId hr5
              have HK5 := hId hk5
              have HT5 := hId ht5
              have HTY := hId hty5
              have HU : Hid (vW d u ≤ rvW d' ∧ WM 6 d u) := hId (by have h1 := HDE.out; subst h1; exact ⟨hwu, hwd⟩)
              clear hx5 hr5 hk5 ht5 hty5 h5 hty hwu hwd hfar HX HR HK HT
              go_wp2_with fail
              refine hK.out _ _ (HCS.out _ HX5.out) (fun hHeld => ?_)
              clear hK K
              try simp only [Act.put, lst, lsz, lss]
              obtain ⟨yk, yf, yn, yw, yla, yln, ylc, yma, ymn, ymc⟩ := y
              refine heldO_step (by rfl) (by rfl) (by rfl) (fun K hK => ?_)
              go_simp
              have m6 : New w5 (w5.alloc (.cells #[.int .i64 yk, .bool yf, .int .i64 yn, .string yw, .slice yla yln ylc, .slice yma ymn ymc] 30)) := (Mod.refl _ _).alloc _
              have hx6 := HX5.out.mod m6 (fun e => e)
              refine hK.out _ _ (HCS.out _ hx6) (fun hHeld => ?_)
              clear hK K
              try simp only [Act.put, lst, lsz, lss]
              have hk6 := HK5.out.new (trV_ok d) m6
              have hty6 := HTY.out.new m6
              have blk6 : Blk (w5.alloc (.cells #[.int .i64 yk, .bool yf, .int .i64 yn, .string yw, .slice yla yln ylc, .slice yma ymn ymc] 30)) w5.heap.size 30 (encL 6 VA.enc ⟨yk, yf, yn, yw, yla, yln, ylc, yma, ymn, ymc⟩).toArray := Blk.new _ _ _
              have HZ : Hid (xb + 1 ≤ (w5.alloc (.cells #[.int .i64 yk, .bool yf, .int .i64 yn, .string yw, .slice yla yln ylc, .slice yma ymn ymc] 30)).heap.size) := hId hx6.lt
              refine heldO_step (by rfl) (by rfl) (by rfl) (fun K hK => ?_)
              refine wp_push (.tmp 52) (.tmp 57) _ rfl 88 Tryz.underlying27 einfo_val rfl (by exact hk6.own) ⟨yk, yf, yn, yw, yla, yln, ylc, yma, ymn, ymc⟩ w5.heap.size rfl (by exact blk6) (fun j hj => VA.one _ j hj) (by omega) (by omega) HZ.out ?_
              intro g9 cap9 w9 own9 hm9 hat9 hlt9
              have hnx : ∀ g, blkOf A = some g → g ≠ xb ∧ g ≠ w.heap.size ∧ g ≠ b ∧ w.heap.size ≤ g := fun g hg => by
                have := (hk6.own.far' g hg).1
                omega
              have hx9 := hx6.mod hm9 (fun e => (hnx _ e).1 rfl)
              have hr9 := (HR5.out.mod m6 (fun e => e)).mod hm9 (fun e => (hnx _ e).2.1 rfl)
              have hk9 := hk6.push (trV_ok d) hty6 own9 hm9 hat9
              have hg9 : xb < g9 := by
                rcases hat9 with h | h
                · have := (hk6.own.far' g9 h).1; omega
                · have := hx6.lt; omega
              have ht9 := (HT5.out.alloc (.cells #[.int .i64 yk, .bool yf, .int .i64 yn, .string yw, .slice yla yln ylc, .slice yma ymn ymc] 30)).mod hm9 (fun i e => (hnx i e).2.2.2)
              refine hK.out _ _ (by exact ⟨(hx9.cell 4).trans rfl, hx9.lt⟩) (fun hHeld => ?_)
              clear hK K
              try simp only [Act.put, lst, lsz, lss]
              refine heldO_nil ?_
              have hms : Only xb w9 (w9.setCell ⟨xb, 4, none⟩ (.slice (some ⟨g9, 0, none⟩) (m + 1) cap9)) := Only.set (Mod.refl _ _) 4 _
              have HX9 := hId (hx9.set 4 (.slice (some ⟨g9, 0, none⟩) (m + 1) cap9))
              have HR9 := hId (hr9.mod hms (by omega))
              have HK9 := hId (hk9.mod (trV_ok d) hms (fun g hg _ e => by subst e; exact absurd hg (Nat.lt_irrefl _)) (fun g hg e => by injection hg with hg; simp only at hg; omega))
              have HT9 := hId (ht9.set (p := ⟨xb, 4, none⟩) (by simp only; omega) (.slice (some ⟨g9, 0, none⟩) (m + 1) cap9))
              simp only [Array.setIfInBounds, List.size_toArray, List.length_cons, List.length_nil, Nat.reduceAdd, Nat.reduceLT, ↓reduceDIte, List.set_toArray, lsz, lss] at HX9
              have f4 := hx9.frozen 4
              have c4 := hx9.cell 4
              have l9 := hx9.lt
              simp only [lqt, lqz, lqs] at c4
              clear hx6 hk6 hty6 blk6 own9 hm9 hat9 hlt9 hnx hx9 hr9 hk9 hg9 ht9 hms m6 HX5 HR5 HK5 HT5 HTY hHeld
              go_wp2_with fail
              generalize w9.setCell ⟨xb, 4, none⟩ (.slice (some ⟨g9, 0, none⟩) (m + 1) cap9) = w10 at *
              go_roundw
              case rel => exact ⟨j + 1, cap9, m + 1, some ⟨g9, 0, none⟩, _, vs ++ [u], by omega, by go_num, by omega, HX9, HR9, HK9, hId (fun d2 h2 z hz => by
                have h1 := HDE.out
                have h3 : d2 = d' := by omega
                subst h3
                rcases List.mem_append.1 hz with hz | hz
                · exact HV.out d2 h2 z hz
                · simp only [List.mem_singleton] at hz; subst hz; exact HU.out), fun h => by omega, hId (HT9.out.more (by rw [HKK.out, Nat.succ_mul]; omega))⟩
              case measure => simp [intOf]; omega
          · obtain rfl : j = n := by omega
            have hxx := HX.out
            have e0 := hxx.cell 0
            have e1 := hxx.cell 1
            have e2 := hxx.cell 2
            have e3 := hxx.cell 3
            have e4 := hxx.cell 4
            have e5 := hxx.cell 5
            have el := hxx.lt
            have ef := hxx.frozen
            simp only [lqt, lqz, lqs] at e0 e1 e2 e3 e4 e5
            clear hxx
            have rl := HR.out.lt
            have rf := HR.out.frozen
            have r0 := HR.out.cell 0
            have r1 := HR.out.cell 1
            have r2 := HR.out.cell 2
            have r3 := HR.out.cell 3
            have r4 := HR.out.cell 4
            have r5 := HR.out.cell 5
            have hne : w.heap.size ≠ xb := by omega
            simp only [lqt, lqz, lqs] at r0 r1 r2 r3 r4 r5
            have hfit := list_fitM (d := d) (vs := vs) (by have := HK.out.len; omega) (fun h => List.eq_nil_of_length_eq_zero (by rw [HK.out.len]; exact hd0 h)) HV.out
            have hjk : j * rvP d ≤ 3 * rvP d := Nat.mul_le_mul_right _ hn4
            have hrk := rvP_le d
            go_wp2_with fail
            refine bodyPost_ret (v := VA.val ⟨4, false, 0, ⟨#[]⟩, A, m, c, none, 0, 0⟩) (by simp [results, Tryz.results12, go_sem, r0, r1, r2, r3, r4, r5, rf, hne]) rfl ⟨⟨4, false, 0, ⟨#[]⟩, A, m, c, none, 0, 0⟩, (.mk 4 false 0 ⟨#[]⟩ vs []), rfl, ?_, ?_, ?_, ?_⟩
            · refine Tree.of_kids (HK.out.mod (trV_ok d) (S := fun g => g = w.heap.size) ?_ (fun g hg _ e => by subst e; have := hg; omega) (fun g hg e => by subst e; have := (HK.out.own.far' _ hg).1; omega)) (B' := w.heap.size) (G2 := fun g => w.heap.size ≤ g) Kids.nil (fun g hg _ => by have := hg; omega) (fun g hg _ => hg) (fun g hg => by omega) (fun g hg => hg)
              repeat (with_reducible (first | exact Mod.refl _ _ | refine Only.set ?_ _ _))
            · exact hfit.1
            · exact hfit.2
            · repeat (with_reducible (first | exact HT.out.more (by omega) | (refine SStep.set ?_ ?_ _; rotate_left; (simp <;> omega))))
      · have NB := Blk.new w4 9 #[.string ⟨#[]⟩, .string ⟨#[97]⟩, .string ⟨#[98]⟩, .string ⟨#[99, 32, 100]⟩, .string ⟨#[110]⟩, .string ⟨#[115]⟩]
        have nm4 : New w4 (w4.alloc (.cells #[.string ⟨#[]⟩, .string ⟨#[97]⟩, .string ⟨#[98]⟩, .string ⟨#[99, 32, 100]⟩, .string ⟨#[110]⟩, .string ⟨#[115]⟩] 9)) := (Mod.refl _ _).alloc _
        go_upto_region 19 with (fail)
        generalize w4.alloc (.cells #[.string ⟨#[]⟩, .string ⟨#[97]⟩, .string ⟨#[98]⟩, .string ⟨#[99, 32, 100]⟩, .string ⟨#[110]⟩, .string ⟨#[115]⟩] 9) = w5 at *
        have HX5 := hId (HX.out.mod nm4 (fun e => e))
        have HR5 := hId (HR.out.mod nm4 (fun e => e))
        have HT5 := hId (HT.out.new nm4)
        have HNX : Hid (w4.heap.size ≠ xb ∧ w4.heap.size ≠ w.heap.size ∧ w4.heap.size ≠ b ∧ w.heap.size ≤ w4.heap.size) := hId (by have := HX.out.lt; have := HR.out.lt; have := HT.out.inv.lt; omega)
        have hcs : #[Value.string ⟨#[]⟩, .string ⟨#[97]⟩, .string ⟨#[98]⟩, .string ⟨#[99, 32, 100]⟩, .string ⟨#[110]⟩, .string ⟨#[115]⟩] = (nms6.map Value.string).toArray := rfl
        have HNB : Hid (Blk w5 w4.heap.size 9 (nms6.map Value.string).toArray) := hId (by rw [← hcs]; exact NB)
        generalize w4.heap.size = nb at *
        clear e0 e1 e2 e3 e4 e5 el ef rl rf r0 r1 r2 r3 r4 r5 hne
        clear HX HR HT nm4 NB hcs
        go_wp2_with fail
        go_loopw [65] (fun i wr => ∃ (j c m : Nat) (A : Option Addr) (xs : List MA) (vs : List (ByteArray × VT)), j ≤ 6 ∧ i = .int .i64 j ∧ m ≤ j ∧ Hid (Blk wr xb 30 #[.int .i64 5, .bool false, .int .i64 0, .string ⟨#[]⟩, .slice none 0 0, .slice A m c]) ∧ Hid (Blk wr w.heap.size 30 #[.int .i64 0, .bool false, .int .i64 0, .string ⟨#[]⟩, .slice none 0 0, .slice none 0 0]) ∧
          Hid (Kids (TrM d) 60 7 MA.enc wr (xb + 1) (fun g => xb < g) A m c xs vs) ∧ Hid (∀ d', d = d' + 1 → ∀ p ∈ vs, p.1.size ≤ 3 ∧ vW d p.2 ≤ rvW d' ∧ WM 6 d p.2) ∧ (d = 0 → m = 0) ∧ Hid (Blk wr nb 9 (nms6.map Value.string).toArray) ∧ Hid (SStep b w wr (k + 4 + j * rvP d))) (fun i _ => 6 - (intOf i).toNat)
        case atStart => exact ⟨0, 0, 0, none, [], [], Nat.zero_le _, rfl, Nat.le_refl _, HX5, HR5, hId Kids.nil, hId (fun _ _ u hu => by simp at hu), fun _ => rfl, HNB, hId (HT5.out.more (by omega))⟩
        case round =>
          clear HX5 HR5 HT5 HNB
          rename World => wr
          obtain ⟨j, c, m, A, xs, vs, hj, rfl, hmj, HX, HR, HK, HV, hd0, HNB, HT⟩ := hrel
          by_cases hlt : j < 6
          · have hjn : j < nms6.length := hlt
            have hbk := HNB.out.cell j
            have hbl := HNB.out.lt
            rw [show (nms6.map Value.string).toArray[j]? = some (.string nms6[j]) by simp [hjn]] at hbk
            have hn3 : nms6[j].size ≤ 3 := nms6_le j hjn
            generalize nms6[j] = nm at *
            have hb1 : (0 : Int) ≤ j := by omega
            have hb2 : (j : Int) < 6 := by omega
            rcases Nat.eq_zero_or_pos d with hz | hz
            · have hdz : decide ((0 : Int) < (d : Int)) = false := by simp; omega
              have hdy : ¬ (0 : Int) < (d : Int) := by omega
              have HZ := hId (hd0 hz)
              clear hd0 hz
              go_wp2_with fail
              go_roundw
              case rel => exact ⟨j + 1, c, m, A, xs, vs, by omega, by go_num, by omega, HX, HR, HK, HV, fun _ => HZ.out, HNB, hId (HT.out.more (by rw [Nat.succ_mul]; omega))⟩
              case measure => simp [intOf]; omega
            · obtain ⟨d', hd'⟩ : ∃ d', d = d' + 1 := ⟨d - 1, by omega⟩
              have hsp := HIH.out d' hd'
              have hsub : (d : Int) - 1 = (d' : Int) := by omega
              have hdz : (0 : Int) < (d : Int) := by omega
              have HDE := hId hd'
              have hkk : rvP d = rvK d' + 1 := by rw [hd']; rfl
              have hrk : rvK d = 12 + 6 * (rvK d' + 1) := by rw [hd']; rfl
              have hjk : j * rvP d ≤ 5 * (rvK d' + 1) := Nat.mul_le_mul (by omega) (Nat.le_of_eq hkk)
              have hwr : IntKind.i64.wrap (d' : Int) = (d' : Int) := by
                simp [IntKind.wrap, IntKind.signed, IntKind.bits]; omega
              have HKK := hId hkk
              have hfl := flip_any b _ 3 _ HT.out.inv (by omega) (by omega) (by omega)
              have HCALL := hId (fun W (h : SStep b w W (k + 4 + j * rvP d + 1)) => hsp b _ W h.inv (by omega))
              clear hd' hsp hz hd0 hkk hrk hjk
              go_wp2_with fail
              refine hfl.mono ?_
              clear hfl
              rintro e wf ⟨mf, rfl, hf⟩
              have HX1 := hId (HX.out.mod hf.only (by omega))
              have HR1 := hId (HR.out.mod hf.only (by omega))
              have HK1 := hId (HK.out.mod (trM_ok d) hf.only (fun g hg _ e => by subst e; have := hg; omega) (fun g hg e => by have := (HK.out.own.far' g hg).1; omega))
              have HN1 := hId (HNB.out.mod hf.only (fun e => HNX.out.2.2.1 e))
              have HT1 := hId (HT.out.trans hf)
              clear HX HR HK HNB HT hf hbk hbl
              have HX := HX1
              have HR := HR1
              have HK := HK1
              have HNB := HN1
              have HT := HT1
              clear HX1 HR1 HK1 HN1 HT1
              cases mf with
              | false =>
                go_wp2_with fail
                go_roundw
                case rel => exact ⟨j + 1, c, m, A, xs, vs, by omega, by go_num, by omega, HX, HR, HK, HV, fun h => by have := HDE.out; omega, HNB, hId (HT.out.more (by rw [HKK.out, Nat.succ_mul]; omega))⟩
                case measure => simp [intOf]; omega
              | true =>
              have hcall := HCALL.out wf.drew HT.out.drew
              have HCS : Hid (∀ W, Blk W xb 30 #[.int .i64 5, .bool false, .int .i64 0, .string ⟨#[]⟩, .slice none 0 0, .slice A m c] → (W.cell? ⟨xb, 5, none⟩ = some (.slice A m c) ∧ xb < W.heap.size)) := hId (fun W hb => ⟨(hb.cell 5).trans rfl, hb.lt⟩)
              clear HCALL
              go_upto_region 22 with (fail)
              refine wp_region_held_ord (fun W => W.cell? ⟨xb, 5, none⟩ = some (.slice A m c) ∧ xb < W.heap.size) [6, 8, 9] [0, 1, 2, 3, 4, 5, 6, 7, 8, 9] (by kernel_rfl) (by kernel_rfl) (fun _ _ d _ _ h => by cases d <;> exact h) ?_ (fun hHeld => ?_)
              · exact HCS.out _ (HX.out.mod (Mod.refl (fun _ => False) wf).drew (fun e => e))
              simp only [List.length_cons, List.length_nil, List.drop_succ_cons, List.drop_zero]
              refine heldO_take ?_ (by rfl) (by rfl) (by rfl) (fun w hSw => ?_) ?_
              rotate_left
              · (try dsimp only at hSw); go_simp; any_goals (with_reducible rfl)
              simp only [Act.put, lst, lsz, lss]
              refine heldO_take ?_ (by rfl) (by rfl) (by rfl) (fun w hSw => ?_) ?_
              rotate_left
              · (try dsimp only at hSw); go_simp; any_goals (with_reducible rfl)
              simp only [Act.put, lst, lsz, lss]
              refine heldO_take ?_ (by rfl) (by rfl) (by rfl) (fun w hSw => ?_) ?_
              rotate_left
              · (try dsimp only at hSw); go_simp; any_goals (with_reducible rfl)
              simp only [Act.put, lst, lsz, lss]
              refine heldO_take ?_ (by rfl) (by rfl) (by rfl) (fun w hSw => ?_) ?_
              rotate_left
              · (try dsimp only at hSw); go_simp; any_goals (with_reducible rfl)
              simp only [Act.put, lst, lsz, lss]
              refine heldO_take ?_ (by rfl) (by rfl) (by rfl) (fun w hSw => ?_) ?_
              rotate_left
              · (try dsimp only at hSw); go_simp; any_goals (with_reducible rfl)
              simp only [Act.put, lst, lsz, lss]
              refine heldO_take ?_ (by rfl) (by rfl) (by rfl) (fun w hSw => ?_) ?_
              rotate_left
              · (try dsimp only at hSw); go_simp; any_goals (with_reducible rfl)
              simp only [Act.put, lst, lsz, lss]
              refine heldO_step (by rfl) (by rfl) (by rfl) (fun K hK => ?_)
              go_simp
              refine hcall.mono ?_
              clear hcall
              rintro e w5 ⟨y, u, rfl, hty, hwu, hwd, h5⟩
              have hx5 := (HX.out.mod (Mod.refl (fun _ => False) wf).drew (fun e => e)).mod h5.only (by omega)
              have hr5 := (HR.out.mod (Mod.refl (fun _ => False) wf).drew (fun e => e)).mod h5.only (by omega)
              have hn5 := (HNB.out.mod (Mod.refl (fun _ => False) wf).drew (fun e => e)).mod h5.only (fun e => HNX.out.2.2.1 e)
              have hk5 := (HK.out.new (trM_ok d) (Mod.refl _ wf).drew).mod (trM_ok d) h5.only (fun g hg _ e => by subst e; have := hg; omega) (fun g hg e => by have := (HK.out.own.far' g hg).1; omega)
              have ht5 := HT.out.drew.trans h5
              have hfar : ∀ g, blkOf A = some g → g < wf.heap.size := fun g hg => (HK.out.own.far' g hg).2.1
              have hxl : xb < wf.heap.size := HX.out.lt
              have hty5 : Tree w5 (fun g => xb < g ∧ blkOf A ≠ some g) d y u := by
                have h1 := HDE.out
                subst h1
                exact Tree.imp (fun g (hg : wf.drew.heap.size ≤ g) _ => by
                  have hdz : wf.drew.heap.size = wf.heap.size := rfl
                  exact ⟨by omega, fun e => by have := hfar g e; omega⟩) _ _ _ hty
              have HX5 := hId hx5
              have HR5 := hId hr5
              have HN5 := hId hn5
              have HK5 := hId hk5
              have HT5 := hId ht5
              have HTY := hId hty5
              have HU : Hid (vW d u ≤ rvW d' ∧ WM 6 d u) := hId (by have h1 := HDE.out; subst h1; exact ⟨hwu, hwd⟩)
              clear hx5 hr5 hn5 hk5 ht5 hty5 h5 hty hwu hwd hfar HX HR HK HT HNB
              go_wp2_with fail
              refine hK.out _ _ (HCS.out _ HX5.out) (fun hHeld => ?_)
              clear hK K
              try simp only [Act.put, lst, lsz, lss]
              obtain ⟨yk, yf, yn, yw, yla, yln, ylc, yma, ymn, ymc⟩ := y
              refine heldO_take ?_ (by rfl) (by rfl) (by rfl) (fun w hSw => ?_) ?_
              rotate_left
              · (try dsimp only at hSw); go_simp; any_goals (with_reducible rfl)
              simp only [Act.put, lst, lsz, lss]
              refine heldO_step (by rfl) (by rfl) (by rfl) (fun K hK => ?_)
              go_simp
              have m6 : New w5 (w5.alloc (.cells #[.string nm, .int .i64 yk, .bool yf, .int .i64 yn, .string yw, .slice yla yln ylc, .slice yma ymn ymc] 60)) := (Mod.refl _ _).alloc _
              have hx6 := HX5.out.mod m6 (fun e => e)
              refine hK.out _ _ (HCS.out _ hx6) (fun hHeld => ?_)
              clear hK K
              try simp only [Act.put, lst, lsz, lss]
              have hk6 := HK5.out.new (trM_ok d) m6
              have hty6 := HTY.out.new m6
              have blk6 : Blk (w5.alloc (.cells #[.string nm, .int .i64 yk, .bool yf, .int .i64 yn, .string yw, .slice yla yln ylc, .slice yma ymn ymc] 60)) w5.heap.size 60 (encL 7 MA.enc ⟨nm, ⟨yk, yf, yn, yw, yla, yln, ylc, yma, ymn, ymc⟩⟩).toArray := Blk.new _ _ _
              have HZ : Hid (xb + 1 ≤ (w5.alloc (.cells #[.string nm, .int .i64 yk, .bool yf, .int .i64 yn, .string yw, .slice yla yln ylc, .slice yma ymn ymc] 60)).heap.size) := hId hx6.lt
              refine heldO_step (by rfl) (by rfl) (by rfl) (fun K hK => ?_)
              refine wp_push (.tmp 76) (.tmp 83) _ rfl 104 Tryz.underlying28 einfo_memM rfl (by exact hk6.own) ⟨nm, ⟨yk, yf, yn, yw, yla, yln, ylc, yma, ymn, ymc⟩⟩ w5.heap.size rfl (by exact blk6) (fun j hj => MA.one _ j hj) (by omega) (by omega) HZ.out ?_
              intro g9 cap9 w9 own9 hm9 hat9 hlt9
              have hnx : ∀ g, blkOf A = some g → g ≠ xb ∧ g ≠ w.heap.size ∧ g ≠ b ∧ w.heap.size ≤ g ∧ g ≠ nb := fun g hg => by
                have hq := hk6.own.far' g hg
                refine ⟨by omega, by omega, by omega, by omega, fun e => ?_⟩
                subst e
                exact hq.2.2.ne (HN5.out.mod m6 (fun e => e)).tb (by decide) rfl
              have hx9 := hx6.mod hm9 (fun e => (hnx _ e).1 rfl)
              have hr9 := (HR5.out.mod m6 (fun e => e)).mod hm9 (fun e => (hnx _ e).2.1 rfl)
              have hn9 := (HN5.out.mod m6 (fun e => e)).mod hm9 (fun e => (hnx _ e).2.2.2.2 rfl)
              have hk9 := hk6.push (trM_ok d) (y := ⟨nm, ⟨yk, yf, yn, yw, yla, yln, ylc, yma, ymn, ymc⟩⟩) (u := (nm, u)) ⟨rfl, hty6⟩ own9 hm9 hat9
              have hg9 : xb < g9 := by
                rcases hat9 with h | h
                · have := (hk6.own.far' g9 h).1; omega
                · have := hx6.lt; omega
              have ht9 := (HT5.out.alloc (.cells #[.string nm, .int .i64 yk, .bool yf, .int .i64 yn, .string yw, .slice yla yln ylc, .slice yma ymn ymc] 60)).mod hm9 (fun i e => (hnx i e).2.2.2.1)
              refine hK.out _ _ (by exact ⟨(hx9.cell 5).trans rfl, hx9.lt⟩) (fun hHeld => ?_)
              clear hK K
              try simp only [Act.put, lst, lsz, lss]
              refine heldO_nil ?_
              have hms : Only xb w9 (w9.setCell ⟨xb, 5, none⟩ (.slice (some ⟨g9, 0, none⟩) (m + 1) cap9)) := Only.set (Mod.refl _ _) 5 _
              have HX9 := hId (hx9.set 5 (.slice (some ⟨g9, 0, none⟩) (m + 1) cap9))
              have HR9 := hId (hr9.mod hms (by omega))
              have HN9 := hId (hn9.mod hms (fun e => HNX.out.1 e))
              have HK9 := hId (hk9.mod (trM_ok d) hms (fun g hg _ e => by subst e; exact absurd hg (Nat.lt_irrefl _)) (fun g hg e => by injection hg with hg; simp only at hg; omega))
              have HT9 := hId (ht9.set (p := ⟨xb, 5, none⟩) (by simp only; omega) (.slice (some ⟨g9, 0, none⟩) (m + 1) cap9))
              simp only [Array.setIfInBounds, List.size_toArray, List.length_cons, List.length_nil, Nat.reduceAdd, Nat.reduceLT, ↓reduceDIte, List.set_toArray, lsz, lss] at HX9
              have f4 := hx9.frozen 5
              have c4 := hx9.cell 5
              have l9 := hx9.lt
              simp only [lqt, lqz, lqs] at c4
              clear hx6 hk6 hty6 blk6 own9 hm9 hat9 hlt9 hnx hx9 hr9 hn9 hk9 hg9 ht9 hms m6 HX5 HR5 HN5 HK5 HT5 HTY hHeld
              go_wp2_with fail
              generalize w9.setCell ⟨xb, 5, none⟩ (.slice (some ⟨g9, 0, none⟩) (m + 1) cap9) = w10 at *
              go_roundw
              case rel => exact ⟨j + 1, cap9, m + 1, some ⟨g9, 0, none⟩, _, vs ++ [(nm, u)], by omega, by go_num, by omega, HX9, HR9, HK9, hId (fun d2 h2 z hz => by
                have h1 := HDE.out
                have h3 : d2 = d' := by omega
                subst h3
                rcases List.mem_append.1 hz with hz | hz
                · exact HV.out d2 h2 z hz
                · simp only [List.mem_singleton] at hz; subst hz; exact ⟨hn3, HU.out⟩), fun h => by have := HDE.out; omega, HN9, hId (HT9.out.more (by rw [HKK.out, Nat.succ_mul]; omega))⟩
              case measure => simp [intOf]; omega
          · obtain rfl : j = 6 := by omega
            have hxx := HX.out
            have e0 := hxx.cell 0
            have e1 := hxx.cell 1
            have e2 := hxx.cell 2
            have e3 := hxx.cell 3
            have e4 := hxx.cell 4
            have e5 := hxx.cell 5
            have el := hxx.lt
            have ef := hxx.frozen
            simp only [lqt, lqz, lqs] at e0 e1 e2 e3 e4 e5
            clear hxx
            have rl := HR.out.lt
            have rf := HR.out.frozen
            have r0 := HR.out.cell 0
            have r1 := HR.out.cell 1
            have r2 := HR.out.cell 2
            have r3 := HR.out.cell 3
            have r4 := HR.out.cell 4
            have r5 := HR.out.cell 5
            have hne : w.heap.size ≠ xb := by omega
            simp only [lqt, lqz, lqs] at r0 r1 r2 r3 r4 r5
            have hfit := mem_fitM (d := d) (ps := vs) (by have := HK.out.len; omega) (fun h => List.eq_nil_of_length_eq_zero (by rw [HK.out.len]; exact hd0 h)) HV.out
            have hrk := rvP_le d
            go_wp2_with fail
            refine bodyPost_ret (v := VA.val ⟨5, false, 0, ⟨#[]⟩, none, 0, 0, A, m, c⟩) (by simp [results, Tryz.results12, go_sem, r0, r1, r2, r3, r4, r5, rf, hne]) rfl ⟨⟨5, false, 0, ⟨#[]⟩, none, 0, 0, A, m, c⟩, (.mk 5 false 0 ⟨#[]⟩ [] vs), rfl, ?_, ?_, ?_, ?_⟩
            · refine Tree.of_kids (B := w.heap.size) (G1 := fun g => w.heap.size ≤ g) Kids.nil (HK.out.mod (trM_ok d) (S := fun g => g = w.heap.size) ?_ (fun g hg _ e => by subst e; have := hg; omega) (fun g hg e => by subst e; have := (HK.out.own.far' _ hg).1; omega)) (fun g hg _ => hg) (fun g hg _ => by have := hg; omega) (fun g hg => hg) (fun g hg => by omega)
              repeat (with_reducible (first | exact Mod.refl _ _ | refine Only.set ?_ _ _))
            · exact hfit.1
            · exact hfit.2
            · repeat (with_reducible (first | exact HT.out.more (by omega) | (refine SStep.set ?_ ?_ _; rotate_left; (simp <;> omega))))

theorem stream_rvM : ∀ d, d ≤ 3 → RVSpecM d
  | 0, h => rv_walkM 0 h (fun d' e => by omega)
  | d + 1, h => rv_walkM (d + 1) h (fun d' e => by
    have : d' = d := by omega
    subst this
    exact stream_rvM d' (by omega))

end Go.Proofs.YtjmnkdkdjnmejaaGreatDoor
