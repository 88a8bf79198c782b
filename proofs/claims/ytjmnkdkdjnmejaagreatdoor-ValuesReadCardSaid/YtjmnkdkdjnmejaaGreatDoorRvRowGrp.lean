/- Several texts in one. (1) Reading values: the program's row: null, a flag or a number. Conditions: at most 1000000 bytes. (2) Reading values: the program's reader begins a value: words, and what is no value. Conditions: a text of at most 240000 bytes. -/
import Derived.Test.YtjmnkdkdjnmejaaGreatDoorRvEndGrp
import Derived.Test.YtjmnkdkdjnmejaaGreatDoorKeysGrp
import Derived.Test.YtjmnkdkdjnmejaaGreatDoorRvName

namespace Go.Proofs.YtjmnkdkdjnmejaaGreatDoor
open Go.RowKit
set_option linter.unusedVariables false
set_option linter.unusedSimpArgs false

def leafA (k : Int) (f : Bool) (n : Int) : VA := ⟨k, f, n, ⟨#[]⟩, none, 0, 0, none, 0, 0⟩
def RRow (s : ByteArray) (w : World) (e : Ending) (w' : World) : Prop :=
  New w w' ∧ ∃ k f n, e = .returned (.tuple #[VA.val (leafA k f n), .bool (rdRow s).isSome]) ∧ ∀ v, rdRow s = some v → v = .mk k f n ⟨#[]⟩ [] []
set_option maxHeartbeats 400000
theorem val_row (s : ByteArray) (w : World) (hs : s.size ≤ 1000000) : Calls Tryz.prog 69 #[.string s] w (RRow s w) := by
  have HST : Hid (s.toList = s.data.toList) := hId (ByteArray.toList_eq _)
  have hR := Blk.new w 30 #[.int .i64 0, .bool false, .int .i64 0, .string ⟨#[]⟩, .slice none 0 0, .slice none 0 0]
  have hm1 : New w (w.alloc (.cells #[.int .i64 0, .bool false, .int .i64 0, .string ⟨#[]⟩, .slice none 0 0, .slice none 0 0] 30)) := (Mod.refl _ _).alloc _
  by_cases e1 : s.data.toList = [110, 117, 108, 108]
  · have h1 : (s.toList == [110, 117, 108, 108]) = true := by rw [HST.out, e1]; rfl
    have HR : Hid (rdRow s = some (.mk 0 false 0 ⟨#[]⟩ [] [])) := hId (by unfold rdRow; rw [if_pos e1])
    clear e1
    go_enter Tryz.func69, Tryz.ntmps69
    go_upto_region 3 with (fail)
    generalize w.alloc (.cells #[.int .i64 0, .bool false, .int .i64 0, .string ⟨#[]⟩, .slice none 0 0, .slice none 0 0] 30) = w1 at *
    generalize hq : w.heap.size = q at *
    have HQ := hId hq
    have R := hId hR
    have HM := hId hm1
    clear hq hR hm1
    have r0 := R.out.cell 0
    have r1 := R.out.cell 1
    have r2 := R.out.cell 2
    have r3 := R.out.cell 3
    have r4 := R.out.cell 4
    have r5 := R.out.cell 5
    have f0 := R.out.frozen 0
    have f1 := R.out.frozen 1
    have f2 := R.out.frozen 2
    have f3 := R.out.frozen 3
    have f4 := R.out.frozen 4
    have f5 := R.out.frozen 5
    have rl := R.out.lt
    simp only [lqt, lqz, lqs] at r0 r1 r2 r3 r4 r5
    go_wp2_with fail
    have HW : Hid (Mod (fun k => k = q) w1 ((((((w1.setCell ⟨q, 0, none⟩ (.int .i64 0)).setCell ⟨q, 1, none⟩ (.bool false)).setCell ⟨q, 2, none⟩ (.int .i64 0)).setCell ⟨q, 3, none⟩ (.string ⟨#[]⟩)).setCell ⟨q, 4, none⟩ (.slice none 0 0)).setCell ⟨q, 5, none⟩ (.slice none 0 0))) := hId (((((((Mod.refl (fun k => k = q) w1).setCell (p := ⟨q, 0, none⟩) (.inl rfl) _).setCell (p := ⟨q, 1, none⟩) (.inl rfl) _).setCell (p := ⟨q, 2, none⟩) (.inl rfl) _).setCell (p := ⟨q, 3, none⟩) (.inl rfl) _).setCell (p := ⟨q, 4, none⟩) (.inl rfl) _).setCell (p := ⟨q, 5, none⟩) (.inl rfl) _)
    have R2 : Hid (Blk ((((((w1.setCell ⟨q, 0, none⟩ (.int .i64 0)).setCell ⟨q, 1, none⟩ (.bool false)).setCell ⟨q, 2, none⟩ (.int .i64 0)).setCell ⟨q, 3, none⟩ (.string ⟨#[]⟩)).setCell ⟨q, 4, none⟩ (.slice none 0 0)).setCell ⟨q, 5, none⟩ (.slice none 0 0)) q 30 #[.int .i64 0, .bool false, .int .i64 0, .string ⟨#[]⟩, .slice none 0 0, .slice none 0 0]) := hId ((((((R.out.set 0 (.int .i64 0)).set 1 (.bool false)).set 2 (.int .i64 0)).set 3 (.string ⟨#[]⟩)).set 4 (.slice none 0 0)).set 5 (.slice none 0 0))
    clear r0 r1 r2 r3 r4 r5 f0 f1 f2 f3 f4 f5 rl
    generalize ((((((w1.setCell ⟨q, 0, none⟩ (.int .i64 0)).setCell ⟨q, 1, none⟩ (.bool false)).setCell ⟨q, 2, none⟩ (.int .i64 0)).setCell ⟨q, 3, none⟩ (.string ⟨#[]⟩)).setCell ⟨q, 4, none⟩ (.slice none 0 0)).setCell ⟨q, 5, none⟩ (.slice none 0 0)) = wz at *
    have r0 := R2.out.cell 0
    have r1 := R2.out.cell 1
    have r2 := R2.out.cell 2
    have r3 := R2.out.cell 3
    have r4 := R2.out.cell 4
    have r5 := R2.out.cell 5
    have rf := R2.out.frozen
    have rl := R2.out.lt
    simp only [lqt, lqz, lqs] at r0 r1 r2 r3 r4 r5
    refine bodyPost_ret (v := .tuple #[VA.val (leafA 0 false 0), .bool true]) (by simp [results, Tryz.results69, go_sem, r0, r1, r2, r3, r4, r5, rf, rl, VA.val, leafA]) rfl ?_
    exact ⟨HM.out.step HW.out (fun i hi e => by have := HQ.out; omega), 0, false, 0, by rw [HR.out]; rfl, fun v h => by rw [HR.out] at h; exact (Option.some.inj h).symm⟩
  · have h1 : (s.toList == [110, 117, 108, 108]) = false := by rw [HST.out]; simpa using e1
    by_cases e2 : s.data.toList = [116, 114, 117, 101]
    · have h2 : (s.toList == [116, 114, 117, 101]) = true := by rw [HST.out, e2]; rfl
      have HR : Hid (rdRow s = some (.mk 1 true 0 ⟨#[]⟩ [] [])) := hId (by unfold rdRow; rw [if_neg e1, if_pos e2])
      clear e1 e2
      go_enter Tryz.func69, Tryz.ntmps69
      go_upto_region 2 with (fail)
      generalize w.alloc (.cells #[.int .i64 0, .bool false, .int .i64 0, .string ⟨#[]⟩, .slice none 0 0, .slice none 0 0] 30) = w1 at *
      generalize hq : w.heap.size = q at *
      have HQ := hId hq
      have R := hId hR
      have HM := hId hm1
      clear hq hR hm1
      have hfl := fun W => val_flag true W
      go_wp2_with fail
      refine (hfl _).mono ?_
      clear hfl
      rintro e w2 ⟨rfl, hm2⟩
      have R := hId (R.out.mod hm2 (fun e => e))
      have HM := hId (HM.out.trans hm2)
      clear hm2
      have r0 := R.out.cell 0
      have r1 := R.out.cell 1
      have r2 := R.out.cell 2
      have r3 := R.out.cell 3
      have r4 := R.out.cell 4
      have r5 := R.out.cell 5
      have f0 := R.out.frozen 0
      have f1 := R.out.frozen 1
      have f2 := R.out.frozen 2
      have f3 := R.out.frozen 3
      have f4 := R.out.frozen 4
      have f5 := R.out.frozen 5
      have rl := R.out.lt
      simp only [lqt, lqz, lqs] at r0 r1 r2 r3 r4 r5
      go_wp2_with fail
      have HW : Hid (Mod (fun k => k = q) w2 ((((((w2.setCell ⟨q, 0, none⟩ (.int .i64 1)).setCell ⟨q, 1, none⟩ (.bool true)).setCell ⟨q, 2, none⟩ (.int .i64 0)).setCell ⟨q, 3, none⟩ (.string ⟨#[]⟩)).setCell ⟨q, 4, none⟩ (.slice none 0 0)).setCell ⟨q, 5, none⟩ (.slice none 0 0))) := hId (((((((Mod.refl (fun k => k = q) w2).setCell (p := ⟨q, 0, none⟩) (.inl rfl) _).setCell (p := ⟨q, 1, none⟩) (.inl rfl) _).setCell (p := ⟨q, 2, none⟩) (.inl rfl) _).setCell (p := ⟨q, 3, none⟩) (.inl rfl) _).setCell (p := ⟨q, 4, none⟩) (.inl rfl) _).setCell (p := ⟨q, 5, none⟩) (.inl rfl) _)
      have R2 : Hid (Blk ((((((w2.setCell ⟨q, 0, none⟩ (.int .i64 1)).setCell ⟨q, 1, none⟩ (.bool true)).setCell ⟨q, 2, none⟩ (.int .i64 0)).setCell ⟨q, 3, none⟩ (.string ⟨#[]⟩)).setCell ⟨q, 4, none⟩ (.slice none 0 0)).setCell ⟨q, 5, none⟩ (.slice none 0 0)) q 30 #[.int .i64 1, .bool true, .int .i64 0, .string ⟨#[]⟩, .slice none 0 0, .slice none 0 0]) := hId ((((((R.out.set 0 (.int .i64 1)).set 1 (.bool true)).set 2 (.int .i64 0)).set 3 (.string ⟨#[]⟩)).set 4 (.slice none 0 0)).set 5 (.slice none 0 0))
      clear r0 r1 r2 r3 r4 r5 f0 f1 f2 f3 f4 f5 rl
      generalize ((((((w2.setCell ⟨q, 0, none⟩ (.int .i64 1)).setCell ⟨q, 1, none⟩ (.bool true)).setCell ⟨q, 2, none⟩ (.int .i64 0)).setCell ⟨q, 3, none⟩ (.string ⟨#[]⟩)).setCell ⟨q, 4, none⟩ (.slice none 0 0)).setCell ⟨q, 5, none⟩ (.slice none 0 0)) = wz at *
      have r0 := R2.out.cell 0
      have r1 := R2.out.cell 1
      have r2 := R2.out.cell 2
      have r3 := R2.out.cell 3
      have r4 := R2.out.cell 4
      have r5 := R2.out.cell 5
      have rf := R2.out.frozen
      have rl := R2.out.lt
      simp only [lqt, lqz, lqs] at r0 r1 r2 r3 r4 r5
      refine bodyPost_ret (v := .tuple #[VA.val (leafA 1 true 0), .bool true]) (by simp [results, Tryz.results69, go_sem, r0, r1, r2, r3, r4, r5, rf, rl, VA.val, leafA]) rfl ?_
      exact ⟨HM.out.step HW.out (fun i hi e => by have := HQ.out; omega), 1, true, 0, by rw [HR.out]; rfl, fun v h => by rw [HR.out] at h; exact (Option.some.inj h).symm⟩
    · have h2 : (s.toList == [116, 114, 117, 101]) = false := by rw [HST.out]; simpa using e2
      by_cases e3 : s.data.toList = [102, 97, 108, 115, 101]
      · have h3 : (s.toList == [102, 97, 108, 115, 101]) = true := by rw [HST.out, e3]; rfl
        have HR : Hid (rdRow s = some (.mk 1 false 0 ⟨#[]⟩ [] [])) := hId (by unfold rdRow; rw [if_neg e1, if_neg e2, if_pos e3])
        clear e1 e2 e3
        go_enter Tryz.func69, Tryz.ntmps69
        go_upto_region 2 with (fail)
        generalize w.alloc (.cells #[.int .i64 0, .bool false, .int .i64 0, .string ⟨#[]⟩, .slice none 0 0, .slice none 0 0] 30) = w1 at *
        generalize hq : w.heap.size = q at *
        have HQ := hId hq
        have R := hId hR
        have HM := hId hm1
        clear hq hR hm1
        have hfl := fun W => val_flag false W
        go_wp2_with fail
        refine (hfl _).mono ?_
        clear hfl
        rintro e w2 ⟨rfl, hm2⟩
        have R := hId (R.out.mod hm2 (fun e => e))
        have HM := hId (HM.out.trans hm2)
        clear hm2
        have r0 := R.out.cell 0
        have r1 := R.out.cell 1
        have r2 := R.out.cell 2
        have r3 := R.out.cell 3
        have r4 := R.out.cell 4
        have r5 := R.out.cell 5
        have f0 := R.out.frozen 0
        have f1 := R.out.frozen 1
        have f2 := R.out.frozen 2
        have f3 := R.out.frozen 3
        have f4 := R.out.frozen 4
        have f5 := R.out.frozen 5
        have rl := R.out.lt
        simp only [lqt, lqz, lqs] at r0 r1 r2 r3 r4 r5
        go_wp2_with fail
        have HW : Hid (Mod (fun k => k = q) w2 ((((((w2.setCell ⟨q, 0, none⟩ (.int .i64 1)).setCell ⟨q, 1, none⟩ (.bool false)).setCell ⟨q, 2, none⟩ (.int .i64 0)).setCell ⟨q, 3, none⟩ (.string ⟨#[]⟩)).setCell ⟨q, 4, none⟩ (.slice none 0 0)).setCell ⟨q, 5, none⟩ (.slice none 0 0))) := hId (((((((Mod.refl (fun k => k = q) w2).setCell (p := ⟨q, 0, none⟩) (.inl rfl) _).setCell (p := ⟨q, 1, none⟩) (.inl rfl) _).setCell (p := ⟨q, 2, none⟩) (.inl rfl) _).setCell (p := ⟨q, 3, none⟩) (.inl rfl) _).setCell (p := ⟨q, 4, none⟩) (.inl rfl) _).setCell (p := ⟨q, 5, none⟩) (.inl rfl) _)
        have R2 : Hid (Blk ((((((w2.setCell ⟨q, 0, none⟩ (.int .i64 1)).setCell ⟨q, 1, none⟩ (.bool false)).setCell ⟨q, 2, none⟩ (.int .i64 0)).setCell ⟨q, 3, none⟩ (.string ⟨#[]⟩)).setCell ⟨q, 4, none⟩ (.slice none 0 0)).setCell ⟨q, 5, none⟩ (.slice none 0 0)) q 30 #[.int .i64 1, .bool false, .int .i64 0, .string ⟨#[]⟩, .slice none 0 0, .slice none 0 0]) := hId ((((((R.out.set 0 (.int .i64 1)).set 1 (.bool false)).set 2 (.int .i64 0)).set 3 (.string ⟨#[]⟩)).set 4 (.slice none 0 0)).set 5 (.slice none 0 0))
        clear r0 r1 r2 r3 r4 r5 f0 f1 f2 f3 f4 f5 rl
        generalize ((((((w2.setCell ⟨q, 0, none⟩ (.int .i64 1)).setCell ⟨q, 1, none⟩ (.bool false)).setCell ⟨q, 2, none⟩ (.int .i64 0)).setCell ⟨q, 3, none⟩ (.string ⟨#[]⟩)).setCell ⟨q, 4, none⟩ (.slice none 0 0)).setCell ⟨q, 5, none⟩ (.slice none 0 0)) = wz at *
        have r0 := R2.out.cell 0
        have r1 := R2.out.cell 1
        have r2 := R2.out.cell 2
        have r3 := R2.out.cell 3
        have r4 := R2.out.cell 4
        have r5 := R2.out.cell 5
        have rf := R2.out.frozen
        have rl := R2.out.lt
        simp only [lqt, lqz, lqs] at r0 r1 r2 r3 r4 r5
        refine bodyPost_ret (v := .tuple #[VA.val (leafA 1 false 0), .bool true]) (by simp [results, Tryz.results69, go_sem, r0, r1, r2, r3, r4, r5, rf, rl, VA.val, leafA]) rfl ?_
        exact ⟨HM.out.step HW.out (fun i hi e => by have := HQ.out; omega), 1, false, 0, by rw [HR.out]; rfl, fun v h => by rw [HR.out] at h; exact (Option.some.inj h).symm⟩
      · have h3 : (s.toList == [102, 97, 108, 115, 101]) = false := by rw [HST.out]; simpa using e3
        have HR : Hid (rdRow s = if numOk 16 s then some (.mk 2 false (numV s) ⟨#[]⟩ [] []) else none) := hId (by unfold rdRow; rw [if_neg e1, if_neg e2, if_neg e3])
        clear e1 e2 e3
        have hkn := fun W => kit_number 16 (by decide) s W hs
        go_enter Tryz.func69, Tryz.ntmps69
        go_upto_region 2 with (fail)
        generalize w.alloc (.cells #[.int .i64 0, .bool false, .int .i64 0, .string ⟨#[]⟩, .slice none 0 0, .slice none 0 0] 30) = w1 at *
        generalize hq : w.heap.size = q at *
        have HQ := hId hq
        have R := hId hR
        have HM := hId hm1
        clear hq hR hm1
        go_wp2_with fail
        refine (hkn _).mono ?_
        clear hkn
        rintro e w2 ⟨n, rfl, hnv, hm2⟩
        have R := hId (R.out.mod hm2 (fun e => e))
        have HM := hId (HM.out.trans hm2)
        have HNV := hId hnv
        clear hm2 hnv
        generalize hok : numOk 16 s = ok at *
        have hnn := fun W => val_number n W
        go_wp2_with fail
        refine (hnn _).mono ?_
        clear hnn
        rintro e w3 ⟨rfl, hm3⟩
        have R := hId (R.out.mod hm3 (fun e => e))
        have HM := hId (HM.out.trans hm3)
        clear hm3
        have r0 := R.out.cell 0
        have r1 := R.out.cell 1
        have r2 := R.out.cell 2
        have r3 := R.out.cell 3
        have r4 := R.out.cell 4
        have r5 := R.out.cell 5
        have f0 := R.out.frozen 0
        have f1 := R.out.frozen 1
        have f2 := R.out.frozen 2
        have f3 := R.out.frozen 3
        have f4 := R.out.frozen 4
        have f5 := R.out.frozen 5
        have rl := R.out.lt
        simp only [lqt, lqz, lqs] at r0 r1 r2 r3 r4 r5
        go_wp2_with fail
        have HW : Hid (Mod (fun k => k = q) w3 ((((((w3.setCell ⟨q, 0, none⟩ (.int .i64 2)).setCell ⟨q, 1, none⟩ (.bool false)).setCell ⟨q, 2, none⟩ (.int .i64 n)).setCell ⟨q, 3, none⟩ (.string ⟨#[]⟩)).setCell ⟨q, 4, none⟩ (.slice none 0 0)).setCell ⟨q, 5, none⟩ (.slice none 0 0))) := hId (((((((Mod.refl (fun k => k = q) w3).setCell (p := ⟨q, 0, none⟩) (.inl rfl) _).setCell (p := ⟨q, 1, none⟩) (.inl rfl) _).setCell (p := ⟨q, 2, none⟩) (.inl rfl) _).setCell (p := ⟨q, 3, none⟩) (.inl rfl) _).setCell (p := ⟨q, 4, none⟩) (.inl rfl) _).setCell (p := ⟨q, 5, none⟩) (.inl rfl) _)
        have R2 : Hid (Blk ((((((w3.setCell ⟨q, 0, none⟩ (.int .i64 2)).setCell ⟨q, 1, none⟩ (.bool false)).setCell ⟨q, 2, none⟩ (.int .i64 n)).setCell ⟨q, 3, none⟩ (.string ⟨#[]⟩)).setCell ⟨q, 4, none⟩ (.slice none 0 0)).setCell ⟨q, 5, none⟩ (.slice none 0 0)) q 30 #[.int .i64 2, .bool false, .int .i64 n, .string ⟨#[]⟩, .slice none 0 0, .slice none 0 0]) := hId ((((((R.out.set 0 (.int .i64 2)).set 1 (.bool false)).set 2 (.int .i64 n)).set 3 (.string ⟨#[]⟩)).set 4 (.slice none 0 0)).set 5 (.slice none 0 0))
        clear r0 r1 r2 r3 r4 r5 f0 f1 f2 f3 f4 f5 rl
        generalize ((((((w3.setCell ⟨q, 0, none⟩ (.int .i64 2)).setCell ⟨q, 1, none⟩ (.bool false)).setCell ⟨q, 2, none⟩ (.int .i64 n)).setCell ⟨q, 3, none⟩ (.string ⟨#[]⟩)).setCell ⟨q, 4, none⟩ (.slice none 0 0)).setCell ⟨q, 5, none⟩ (.slice none 0 0)) = wz at *
        have r0 := R2.out.cell 0
        have r1 := R2.out.cell 1
        have r2 := R2.out.cell 2
        have r3 := R2.out.cell 3
        have r4 := R2.out.cell 4
        have r5 := R2.out.cell 5
        have rf := R2.out.frozen
        have rl := R2.out.lt
        simp only [lqt, lqz, lqs] at r0 r1 r2 r3 r4 r5
        refine bodyPost_ret (v := .tuple #[VA.val (leafA 2 false n), .bool ok]) (by simp [results, Tryz.results69, go_sem, r0, r1, r2, r3, r4, r5, rf, rl, VA.val, leafA]) rfl ?_
        exact ⟨HM.out.step HW.out (fun i hi e => by have := HQ.out; omega), 2, false, n, by rw [HR.out]; cases ok <;> rfl, fun v h => by (rw [HR.out] at h; cases ok with | false => cases h | true => (rw [HNV.out rfl]; exact (Option.some.inj h).symm))⟩

theorem leafTree (w : World) (G : Nat → Prop) {d : Nat} (hd : 0 < d) (kind : Int) (flag : Bool) (num : Int) (words : ByteArray) : Tree w G d ⟨kind, flag, num, words, none, 0, 0, none, 0, 0⟩ (.mk kind flag num words [] []) := by
  obtain ⟨d, rfl⟩ : ∃ e, d = e + 1 := ⟨d - 1, by omega⟩
  exact ⟨[], [], rfl, ⟨[], Row.nil, rfl, fun i h => absurd h (by simp)⟩, ⟨[], Row.nil, rfl, fun i h => absurd h (by simp)⟩⟩
theorem letB_nat (c : UInt8) : letB c = isLetN c.toNat := by
  revert c
  apply byteOf
  decide +kernel
theorem digB_nat (c : UInt8) : isDig c = isDigN c.toNat := by
  revert c
  apply byteOf
  decide +kernel
section
set_option maxHeartbeats 1500000
set_option maxRecDepth 100000
theorem val_beginE (s : ByteArray) (r : RV) (B b : Nat) (w : World) (st : List RFr) (os : List OF) (h : RdAt w B b s r true st os) (hB : B ≤ w.heap.size) (hs : s.size ≤ 240000)
    (hlen : st.length ≤ 240000) (hl : ∀ g ∈ st, g.items.length ≤ 300000 ∧ g.mems.length ≤ 300000) (hd : r.done = false) (hbad : r.bad = false) (hbg : r.begins = false) (h1 : topAt s.data.toList (spanAt blankB s.data.toList r.i) ≠ 34) (hc : startB (topAt s.data.toList (spanAt blankB s.data.toList r.i)) = false) (h2 : topAt s.data.toList (spanAt blankB s.data.toList r.i) ≠ 91) (h3 : topAt s.data.toList (spanAt blankB s.data.toList r.i) ≠ 123) :
    Calls Tryz.prog 34 #[.pointer (some ⟨b, 0, none⟩)] w (RAt B b s (begK s.data.toList st (spanAt blankB s.data.toList r.i)) w) := by
  have hrd := h.rd
  have hHB := h.hB
  have hir := h.hi
  have HH := hId h
  obtain ⟨i, sk, sn, sc, begins, done, ⟨ok, of, on, ow, ola, oln, olc, oma, omn, omc⟩, bad, pl⟩ := r
  simp only at hd hbad hbg hir hc
  subst hd hbad hbg
  have HRD := hId hrd
  obtain ⟨L, hL⟩ : ∃ L, s.data.toList = L := ⟨_, rfl⟩
  have HL := hId hL
  simp only [hL] at hc
  rw [hL]
  clear hrd hL h
  go_enter Tryz.func34, Tryz.ntmps34
  have hsk1 := val_skip s _ b w (by omega) hir HRD.out
  simp only [HL.out] at hsk1
  obtain ⟨K, hK⟩ : ∃ K, spanAt blankB L i = K := ⟨_, rfl⟩
  simp only [hK] at hsk1 hc
  have HK := hId hK
  have hKs : K ≤ s.size := by rw [← hK, ← HL.out]; exact spanL_size _ _ hir
  have hKi : i ≤ K := by rw [← hK]; exact spanAt_ge _ _ _
  simp only [hK]
  clear hK
  simp only [HL.out, HK.out] at h1 h2 h3
  obtain ⟨c, hcc⟩ : ∃ c, topAt L K = c := ⟨_, rfl⟩
  rw [hcc] at h1 h2 h3 hc hsk1
  have HC := hId hcc
  clear hcc
  have q1 : ((c.toNat : Int) == 34) = false := by
    have : c.toNat ≠ 34 := fun e => h1 (UInt8.toNat_inj.1 e)
    simp; omega
  have q2 : ((c.toNat : Int) == 91) = false := by
    have : c.toNat ≠ 91 := fun e => h2 (UInt8.toNat_inj.1 e)
    simp; omega
  have q3 : ((c.toNat : Int) == 123) = false := by
    have : c.toNat ≠ 123 := fun e => h3 (UInt8.toNat_inj.1 e)
    simp; omega
  have hl1 := fun W => val_isLetter c.toNat W
  have hd1 := fun W => val_isDigit c.toNat W
  have e1 : begK L st K = .bad K := by
    unfold begK
    rw [HC.out, if_neg h1, if_neg (by rw [hc]; simp), if_neg h2, if_neg h3]
  rw [e1]
  have hc' := hc
  simp only [startB, Bool.or_eq_false_iff] at hc'
  rw [letB_nat, digB_nat] at hc'
  have q4 : ((c.toNat : Int) == 45) = false := by
    have h9 := hc'.2
    simp only [beq_eq_false_iff_ne, ne_eq] at h9
    have : c.toNat ≠ 45 := fun e => h9 (UInt8.toNat_inj.1 e)
    simp; omega
  rw [hc'.1.1] at hl1
  rw [hc'.1.2] at hd1
  clear hc' hc h1 h2 h3 e1
  go_wp2_with fail
  refine hsk1.mono ?_
  clear hsk1
  rintro e w2 ⟨rfl, hb2, hm2⟩
  have HRD2 := hId hb2
  have HM2 := hId hm2
  have HA2 := hId (HH.out.moved HM2.out HRD2.out ⟨rfl, rfl, rfl⟩ hKi hKs)
  clear hb2 hm2
  have c1 := HRD2.out.cell 1
  have c0 := HRD2.out.cell 0
  have bl := HRD2.out.lt
  simp only [RV.cells, lqt, lqz, lqs] at c0 c1
  go_upto_region 8 with (fail)
  go_wp2_with fail
  refine (hl1 _).mono ?_
  rintro e w3 ⟨rfl, rfl⟩
  go_wp2_with fail
  refine (hd1 _).mono ?_
  rintro e w3 ⟨rfl, rfl⟩
  have hfa := val_failAt s _ B b K w2 HRD2.out rfl hKs hHB
  go_wp2_with fail
  refine hfa.mono ?_
  clear hfa
  rintro e w4 h3
  obtain ⟨rfl, hm4, ha4⟩ := h3.after (HM2.out.fromB hHB)
  have HM4 := hId hm4
  have HA4 := hId ha4
  clear h3 hm4 ha4
  go_wp2_with fail
  go_end0
  exact ⟨rfl, HM4.out, HA4.out⟩
theorem val_beginA (s : ByteArray) (r : RV) (B b : Nat) (w : World) (st : List RFr) (os : List OF) (h : RdAt w B b s r true st os) (hB : B ≤ w.heap.size) (hs : s.size ≤ 240000)
    (hlen : st.length ≤ 240000) (hl : ∀ g ∈ st, g.items.length ≤ 300000 ∧ g.mems.length ≤ 300000) (hd : r.done = false) (hbad : r.bad = false) (hbg : r.begins = false) (hc : topAt s.data.toList (spanAt blankB s.data.toList r.i) = 34) :
    Calls Tryz.prog 34 #[.pointer (some ⟨b, 0, none⟩)] w (RAt B b s (begK s.data.toList st (spanAt blankB s.data.toList r.i)) w) := by
  have hrd := h.rd
  have hHB := h.hB
  have hir := h.hi
  have HH := hId h
  obtain ⟨i, sk, sn, sc, begins, done, ⟨ok, of, on, ow, ola, oln, olc, oma, omn, omc⟩, bad, pl⟩ := r
  simp only at hd hbad hbg hir hc
  subst hd hbad hbg
  have HRD := hId hrd
  obtain ⟨L, hL⟩ : ∃ L, s.data.toList = L := ⟨_, rfl⟩
  have HL := hId hL
  simp only [hL] at hc
  rw [hL]
  clear hrd hL h
  go_enter Tryz.func34, Tryz.ntmps34
  have hsk1 := val_skip s _ b w (by omega) hir HRD.out
  simp only [HL.out] at hsk1
  obtain ⟨K, hK⟩ : ∃ K, spanAt blankB L i = K := ⟨_, rfl⟩
  simp only [hK] at hsk1 hc
  have HK := hId hK
  have hKs : K ≤ s.size := by rw [← hK, ← HL.out]; exact spanL_size _ _ hir
  have hKi : i ≤ K := by rw [← hK]; exact spanAt_ge _ _ _
  simp only [hK]
  clear hK
  rw [hc] at hsk1
  have hlt : K < s.size := by
    have h1 := topAt_lt (s := L) (i := K) (by rw [hc]; decide)
    rw [← HL.out] at h1
    exact h1
  have hwd := fun W => val_words s K W (by omega) hlt
  simp only [HL.out] at hwd
  have e1 : begK L st K = match wordsOf (L.drop (K + 1)) with
    | none => .bad K
    | some (o, m) => putS st (rdWords o) (K + 1 + m) := by
    unfold begK
    rw [if_pos hc]
    rfl
  obtain ⟨X, hX⟩ : ∃ X, begK L st K = X := ⟨_, rfl⟩
  have HX := hId (e1.symm.trans hX)
  rw [hX]
  clear e1 hX
  generalize hwq : wordsOf (L.drop (K + 1)) = wq at hwd
  have HWQ := hId hwq
  clear hwq
  go_wp2_with fail
  refine hsk1.mono ?_
  clear hsk1
  rintro e w2 ⟨rfl, hb2, hm2⟩
  have HRD2 := hId hb2
  have HM2 := hId hm2
  have HA2 := hId (HH.out.moved HM2.out HRD2.out ⟨rfl, rfl, rfl⟩ hKi hKs)
  clear hb2 hm2
  have c1 := HRD2.out.cell 1
  have c0 := HRD2.out.cell 0
  have bl := HRD2.out.lt
  simp only [RV.cells, lqt, lqz, lqs] at c0 c1
  go_upto_region 3 with (fail)
  have HSX : Hid (∀ W, New w2 W → W.cell? ⟨b, 0, none⟩ = some (.string s) ∧ W.cell? ⟨b, 1, none⟩ = some (.int .i64 (K : Int)) ∧ b < W.heap.size) := hId (fun W hW => by
    have h1 := HRD2.out.mod hW (fun e => e)
    exact ⟨(h1.cell 0).trans rfl, (h1.cell 1).trans rfl, h1.lt⟩)
  clear c0 c1 bl
  refine wp_region_held_drew (S := New w2) (by kernel_rfl) (by with_reducible (repeat (first | exact Mod.refl _ _ | refine Mod.drewN ?_ _ | refine Mod.drew ?_ | refine Mod.alloc ?_ _))) (fun hHeld => ?_)
  simp only [List.size_toArray, List.length_cons, List.length_nil, Nat.reduceAdd]
  refine wpAnyH_take (i := 0) (v := ?_) rfl (by kernel_rfl) (by kernel_rfl) (by kernel_rfl) (fun _ _ _ h => h) (Or.inl ⟨by rfl, fun W hSw => ?_⟩) (by assumption) ?_
  rotate_left
  · (have hq := HSX.out W hSw); (try simp only [lgt, lgz, lgs]); go_simp; any_goals (with_reducible rfl)
  simp only [Act.put, lgt, lgz, lgs, lst, lsz, lss]
  refine wpAnyH_take (i := 1) (v := ?_) rfl (by kernel_rfl) (by kernel_rfl) (by kernel_rfl) (fun _ _ _ h => h) (Or.inl ⟨by rfl, fun W hSw => ?_⟩) (by assumption) ?_
  rotate_left
  · (have hq := HSX.out W hSw); (try simp only [lgt, lgz, lgs]); go_simp; any_goals (with_reducible rfl)
  simp only [Act.put, lgt, lgz, lgs, lst, lsz, lss]
  refine wpAnyH_take (i := 2) (v := ?_) rfl (by kernel_rfl) (by kernel_rfl) (by kernel_rfl) (fun _ _ _ h => h) (Or.inl ⟨by rfl, fun W hSw => ?_⟩) (by assumption) ?_
  rotate_left
  · (have hq := HSX.out W hSw); (try simp only [lgt, lgz, lgs]); go_simp; any_goals (with_reducible rfl)
  simp only [Act.put, lgt, lgz, lgs, lst, lsz, lss]
  refine wpAnyH_take (i := 3) (v := ?_) rfl (by kernel_rfl) (by kernel_rfl) (by kernel_rfl) (fun _ _ _ h => h) (Or.inl ⟨by rfl, fun W hSw => ?_⟩) (by assumption) ?_
  rotate_left
  · (have hq := HSX.out W hSw); (try simp only [lgt, lgz, lgs]); go_simp; any_goals (with_reducible rfl)
  simp only [Act.put, lgt, lgz, lgs, lst, lsz, lss]
  refine wpAnyH_take (i := 4) (v := ?_) rfl (by kernel_rfl) (by kernel_rfl) (by kernel_rfl) (fun _ _ _ h => h) (Or.inl ⟨by rfl, fun W hSw => ?_⟩) (by assumption) ?_
  rotate_left
  · (have hq := HSX.out W hSw); (try simp only [lgt, lgz, lgs]); go_simp; any_goals (with_reducible rfl)
  simp only [Act.put, lgt, lgz, lgs, lst, lsz, lss]
  refine wpAnyH_take (i := 5) (v := ?_) rfl (by kernel_rfl) (by kernel_rfl) (by kernel_rfl) (fun _ _ _ h => h) (Or.inl ⟨by rfl, fun W hSw => ?_⟩) (by assumption) ?_
  rotate_left
  · (have hq := HSX.out W hSw); (try simp only [lgt, lgz, lgs]); go_simp; any_goals (with_reducible rfl)
  simp only [Act.put, lgt, lgz, lgs, lst, lsz, lss]
  refine wpAnyH_take (i := 6) (v := ?_) rfl (by kernel_rfl) (by kernel_rfl) (by kernel_rfl) (fun _ _ _ h => h) (Or.inl ⟨by rfl, fun W hSw => ?_⟩) (by assumption) ?_
  rotate_left
  · (have hq := HSX.out W hSw); (try simp only [lgt, lgz, lgs]); go_simp; any_goals (with_reducible rfl)
  simp only [Act.put, lgt, lgz, lgs, lst, lsz, lss]
  refine wpAnyH_take (i := 7) (v := ?_) rfl (by kernel_rfl) (by kernel_rfl) (by kernel_rfl) (fun _ _ _ h => h) (Or.inl ⟨by rfl, fun W hSw => ?_⟩) (by assumption) ?_
  rotate_left
  · (have hq := HSX.out W hSw); (try simp only [lgt, lgz, lgs]); go_simp; any_goals (with_reducible rfl)
  simp only [Act.put, lgt, lgz, lgs, lst, lsz, lss]
  refine wpAnyH_ready (rs := [8]) (by kernel_rfl) (by simp) ?_
  refine AllReadyH.cons rfl (fun K hK => ?_) AllReadyH.nil
  (try simp only [lgt, lgz, lgs])
  go_simp
  refine (hwd _).mono ?_
  clear hwd
  rintro e w3 ⟨x, m, ok3, rfl, hm3, hor⟩
  have HN3 : Hid (New w2 w3) := hId ((show New w2 w2.drew from (by with_reducible (repeat (first | exact Mod.refl _ _ | refine Mod.drewN ?_ _ | refine Mod.drew ?_ | refine Mod.alloc ?_ _)))).trans hm3)
  clear hm3
  go_wp2_with fail
  refine hK.out _ _ HN3.out (fun hHeld => ?_)
  clear hK K
  (try simp only [Act.put, lgt, lgz, lgs, lst, lsz, lss])
  refine wpAnyH_take (i := 9) (v := ?_) rfl (by kernel_rfl) (by kernel_rfl) (by kernel_rfl) (fun _ _ _ h => h) (Or.inl ⟨by rfl, fun W hSw => ?_⟩) (by assumption) ?_
  rotate_left
  · (have hq := HSX.out W hSw); (try simp only [lgt, lgz, lgs]); go_simp; any_goals (with_reducible rfl)
  simp only [Act.put, lgt, lgz, lgs, lst, lsz, lss]
  refine wpAnyH_take (i := 10) (v := ?_) rfl (by kernel_rfl) (by kernel_rfl) (by kernel_rfl) (fun _ _ _ h => h) (Or.inl ⟨by rfl, fun W hSw => ?_⟩) (by assumption) ?_
  rotate_left
  · (have hq := HSX.out W hSw); (try simp only [lgt, lgz, lgs]); go_simp; any_goals (with_reducible rfl)
  simp only [Act.put, lgt, lgz, lgs, lst, lsz, lss]
  refine wpAnyH_take (i := 11) (v := ?_) rfl (by kernel_rfl) (by kernel_rfl) (by kernel_rfl) (fun _ _ _ h => h) (Or.inl ⟨by rfl, fun W hSw => ?_⟩) (by assumption) ?_
  rotate_left
  · (have hq := HSX.out W hSw); (try simp only [lgt, lgz, lgs]); go_simp; any_goals (with_reducible rfl)
  simp only [Act.put, lgt, lgz, lgs, lst, lsz, lss]
  refine wpAnyH_take (i := 12) (v := ?_) rfl (by kernel_rfl) (by kernel_rfl) (by kernel_rfl) (fun _ _ _ h => h) (Or.inl ⟨by rfl, fun W hSw => ?_⟩) (by assumption) ?_
  rotate_left
  · (have hq := HSX.out W hSw); (try simp only [lgt, lgz, lgs]); go_simp; any_goals (with_reducible rfl)
  simp only [Act.put, lgt, lgz, lgs, lst, lsz, lss]
  refine wpAnyH_take (i := 13) (v := ?_) rfl (by kernel_rfl) (by kernel_rfl) (by kernel_rfl) (fun _ _ _ h => h) (Or.inl ⟨by rfl, fun W hSw => ?_⟩) (by assumption) ?_
  rotate_left
  · (have hq := HSX.out W hSw); (try simp only [lgt, lgz, lgs]); go_simp; any_goals (with_reducible rfl)
  simp only [Act.put, lgt, lgz, lgs, lst, lsz, lss]
  refine wpAnyH_take (i := 14) (v := ?_) rfl (by kernel_rfl) (by kernel_rfl) (by kernel_rfl) (fun _ _ _ h => h) (Or.inl ⟨by rfl, fun W hSw => ?_⟩) (by assumption) ?_
  rotate_left
  · (have hq := HSX.out W hSw); (try simp only [lgt, lgz, lgs]); go_simp; any_goals (with_reducible rfl)
  simp only [Act.put, lgt, lgz, lgs, lst, lsz, lss]
  refine wpAnyH_take (i := 15) (v := ?_) rfl (by kernel_rfl) (by kernel_rfl) (by kernel_rfl) (fun _ _ _ h => h) (Or.inl ⟨by rfl, fun W hSw => ?_⟩) (by assumption) ?_
  rotate_left
  · (have hq := HSX.out W hSw); (try simp only [lgt, lgz, lgs]); go_simp; any_goals (with_reducible rfl)
  simp only [Act.put, lgt, lgz, lgs, lst, lsz, lss]
  refine wpAnyH_done (by kernel_rfl) ?_ _
  clear hHeld
  have HRD3 := hId (HRD2.out.mod HN3.out (fun e => e))
  have HA3 := hId (HA2.out.new HN3.out)
  have HM3 : Hid (Only b w w3) := hId (HM2.out.trans (HN3.out.mono (fun _ _ e => e.elim)))
  have c1 := HRD3.out.cell 1
  have z1 := HRD3.out.frozen 1
  have bl := HRD3.out.lt
  simp only [RV.cells, lqt, lqz, lqs] at c1
  rcases hor with ⟨hn1, rfl⟩ | ⟨l, k, hn1, rfl, rfl, hm⟩
  · have HE : Hid (X = .bad K) := hId (by rw [← HX.out, HWQ.out, hn1])
    clear hn1
    have hfa := val_failAt s _ B b K w3 HRD3.out rfl hKs hHB
    go_wp2_with fail
    refine hfa.mono ?_
    clear hfa
    rintro e w4 h3
    obtain ⟨rfl, hm4, ha4⟩ := h3.after (HM3.out.fromB hHB)
    have HM4 := hId hm4
    have HA4 := hId ha4
    clear h3 hm4 ha4
    go_wp2_with fail
    go_end0
    rw [HE.out]
    exact ⟨rfl, HM4.out, HA4.out⟩
  · have hws := words_some (HWQ.out.trans hn1)
    have hE : X = putS st (rdWords l) (K + 1 + k) := by rw [← HX.out, HWQ.out, hn1]
    have hm0 : m = ((K + 1 + k : Nat) : Int) := hm
    have hKl : k ≤ (L.drop (K + 1)).length := hws.2.1
    obtain ⟨J, hJ⟩ : ∃ J, K + 1 + k = J := ⟨_, rfl⟩
    have hJs : J ≤ s.size := by
      rw [List.length_drop, ← HL.out] at hKl
      have h2 : s.data.toList.length = s.size := rfl
      omega
    have hJK : K ≤ J := by omega
    have hJp : 0 < J := by omega
    rw [hJ] at hm0 hE
    clear hJ hm hws hKl hn1
    subst hm0
    have HRD4 := hId (HRD3.out.set 1 (.int .i64 (J : Int)))
    have HO4 : Hid (Only b w3 (w3.setCell ⟨b, 1, none⟩ (.int .i64 (J : Int)))) := hId ((Mod.refl (fun k => k = b) w3).setCell (p := ⟨b, 1, none⟩) (.inl rfl) _)
    have HA4 := hId (HA3.out.moved HO4.out (r' := ⟨J, sk, sn, sc, false, false, ⟨ok, of, on, ow, ola, oln, olc, oma, omn, omc⟩, false, pl⟩) HRD4.out ⟨rfl, rfl, rfl⟩ hJK hJs)
    have HM4 : Hid (Only b w (w3.setCell ⟨b, 1, none⟩ (.int .i64 (J : Int)))) := hId (HM3.out.trans HO4.out)
    obtain ⟨nm, hnm⟩ : ∃ nm : ByteArray, (⟨l.toArray⟩ : ByteArray) = nm := ⟨_, rfl⟩
    have htx := fun W => val_text nm W
    unfold rdWords at hE
    rw [hnm]
    rw [hnm] at hE
    have HE := hId hE
    clear hnm hE
    go_upto_region 7 with (fail)
    clear c1 z1 bl
    generalize w3.setCell ⟨b, 1, none⟩ (.int .i64 (J : Int)) = w4 at *
    go_wp2_with fail
    refine (htx _).mono ?_
    clear htx
    rintro e w5 ⟨rfl, hm5⟩
    have HA5 := hId (HA4.out.new hm5)
    have HM5 : Hid (Mod (From B) w w5) := hId ((HM4.out.fromB hHB).trans hm5.fromB)
    have hz5 : B ≤ w5.heap.size := Nat.le_trans hB HM5.out.size
    clear hm5
    have hpu := val_put s _ B b w5 ⟨3, false, 0, nm, none, 0, 0, none, 0, 0⟩ (.mk 3 false 0 nm [] []) st os HA5.out (leafTree _ _ hJp _ _ _ _) hz5 (by omega) hl
    go_wp2_with fail
    refine hpu.mono ?_
    clear hpu
    rintro e w6 hput
    obtain ⟨rfl, hm6, ha6⟩ := hput.at rfl rfl rfl hJs
    have HM6 := hId hm6
    have HA6 := hId ha6
    clear hput hm6 ha6
    go_wp2_with fail
    go_end0
    rw [HE.out]
    exact ⟨rfl, HM5.out.trans HM6.out, HA6.out⟩
end
end Go.Proofs.YtjmnkdkdjnmejaaGreatDoor
