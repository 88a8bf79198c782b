/- A limit's line, walked: the program's. Conditions: the line is short; the library's variables lie as they should. -/
import Derived.Test.YtinnckbffblecaaGreatDoorRead1
namespace Go.Proofs.YtinnckbffblecaaGreatDoor
open Go.RowKit
set_option linter.unusedVariables false
set_option linter.unusedSimpArgs false


def RLine (line : ByteArray) (w : World) (e : Ending) (w' : World) : Prop :=
  ∃ x : Lim, e = .returned (.tuple #[x.val, .bool (takeL line).isSome]) ∧ (∀ y, takeL line = some y → x = y) ∧ New w w'
theorem RLine.none {line : ByteArray} {w w' : World} {x : Lim} (h : takeL line = none) (hm : New w w') : RLine line w (.returned (.tuple #[x.val, .bool false])) w' :=
  ⟨x, by rw [h]; rfl, (fun y hy => by rw [h] at hy; cases hy), hm⟩
theorem numD_le (s : ByteArray) : (numD s).length ≤ s.size := by
  have h2 : s.data.toList.length = s.size := rfl
  rcases numD_cases s with ⟨r, h1, h3⟩ | ⟨h1, h3⟩
  · rw [h1] at h2; rw [h3]; simp at h2; omega
  · rw [h3]; omega
/-- no word is longer than its line -/
theorem splitB_le (sep : ByteArray) : ∀ (k : Nat) (s : ByteArray), ∀ x ∈ Lib.splitB sep 0 k s, x.size ≤ s.size
  | 0, s, x, hx => by
    simp only [Lib.splitB, List.mem_singleton] at hx
    rw [hx]; exact Nat.le_refl _
  | k + 1, s, x, hx => by
    rcases Lib.indexB_cases s sep with h | ⟨i, h, hi⟩
    · rw [Lib.splitB_miss sep 0 _ s h] at hx
      simp only [List.mem_singleton] at hx
      rw [hx]; exact Nat.le_refl _
    · rw [Lib.splitB_hit sep 0 k s i h] at hx
      rcases List.mem_cons.1 hx with rfl | hx
      · simp only [ByteArray.size_extract]; omega
      · have := splitB_le sep k _ x hx
        simp only [ByteArray.size_extract] at this
        omega
theorem pieces_le {t sep : ByteArray} {x : ByteArray} (hx : x ∈ pieces t sep) : x.size ≤ t.size := splitB_le sep _ t x hx

set_option maxRecDepth 100000 in
set_option maxHeartbeats 4000000 in
theorem limit_readLimit (line : ByteArray) (w : World) (hs : line.size ≤ 1000000) (hx : MaxLn w) :
    Calls Tryz.prog 30 #[.string line] w (RLine line w) := by
  have hwd := kit_words line (w.alloc (.cells #[.string ⟨#[]⟩, .int .i64 0, .int .i64 0, .int .i64 0, .int .i64 0] 38)) hs (hx.new ((Mod.refl _ _).alloc _))
  have hle := fun x (h : x ∈ pieces line sp) => Nat.le_trans (pieces_le h) hs
  have hb0 := Blk.new w 38 #[.string ⟨#[]⟩, .int .i64 0, .int .i64 0, .int .i64 0, .int .i64 0]
  have hA0 : New w (w.alloc (.cells #[.string ⟨#[]⟩, .int .i64 0, .int .i64 0, .int .i64 0, .int .i64 0] 38)) := (Mod.refl _ _).alloc _
  have HTL : Hid (takeL line = takeW (pieces line sp)) := Lib.hid rfl
  generalize pieces line sp = P at *
  have HLE := Lib.hid hle
  clear hle hx
  by_cases hbad : Lib.containsS P ⟨#[]⟩ = true ∨ P.length ≠ 5
  · have HN : Hid (takeL line = none) := Lib.hid (by
      rw [HTL.out]
      rcases hbad with h | h
      · exact takeW_empty ((Lib.containsS_iff _ _).1 h)
      · exact takeW_length h)
    have hlen : P.length ≠ 5 → ((P.length : Int) != 5) = true := fun h => by simp; omega
    have HBAD := Lib.hid hbad
    have HLN := Lib.hid hlen
    clear hbad hlen
    go_enter Tryz.func30, Tryz.ntmps30
    go_wp2_with fail
    refine hwd.mono ?_
    clear hwd
    rintro e w1 ⟨rfl, hw1⟩
    have b0 : Blk w1 w.heap.size 38 #[.string ⟨#[]⟩, .int .i64 0, .int .i64 0, .int .i64 0, .int .i64 0] := by
      rw [hw1]; exact hb0.mod ((Mod.refl (fun _ => False) _).alloc _) (fun e => e)
    have hm1 : New w w1 := by rw [hw1]; exact hA0.alloc _
    have r0 := b0.cell 0
    have r1 := b0.cell 1
    have r2 := b0.cell 2
    have r3 := b0.cell 3
    have r4 := b0.cell 4
    have fr := b0.frozen
    have hrl := b0.lt
    simp at r0 r1 r2 r3 r4
    clear hw1 hb0 hA0
    cases hc : Lib.containsS P ⟨#[]⟩ with
    | true =>
      go_wp2_with fail
      refine bodyPost_ret (v := .tuple #[Lim.val ⟨⟨#[]⟩, 0, 0, 0, 0⟩, .bool false]) (by simp [results, Tryz.results30, go_sem, r0, r1, r2, r3, r4, fr, Lim.val]) rfl (RLine.none HN.out ?_)
      refine Mod.setCell (Mod.setCell (Mod.setCell (Mod.setCell (Mod.setCell hm1 (.inr ?_) _) (.inr ?_) _) (.inr ?_) _) (.inr ?_) _) (.inr ?_) _ <;> exact Nat.le_refl _
    | false =>
      have hl5 : ((P.length : Int) != 5) = true := HLN.out (by
        rcases HBAD.out with h | h
        · rw [hc] at h; cases h
        · exact h)
      go_wp2_with fail
      refine bodyPost_ret (v := .tuple #[Lim.val ⟨⟨#[]⟩, 0, 0, 0, 0⟩, .bool false]) (by simp [results, Tryz.results30, go_sem, r0, r1, r2, r3, r4, fr, Lim.val]) rfl (RLine.none HN.out ?_)
      refine Mod.setCell (Mod.setCell (Mod.setCell (Mod.setCell (Mod.setCell hm1 (.inr ?_) _) (.inr ?_) _) (.inr ?_) _) (.inr ?_) _) (.inr ?_) _ <;> exact Nat.le_refl _
  · obtain ⟨hc, hl⟩ : Lib.containsS P ⟨#[]⟩ = false ∧ P.length = 5 := by
      constructor
      · cases h : Lib.containsS P ⟨#[]⟩ with
        | true => exact absurd (.inl h) hbad
        | false => rfl
      · by_cases h : P.length = 5
        · exact h
        · exact absurd (.inr h) hbad
    obtain ⟨a, b, c, d, f, rfl⟩ : ∃ a b c d f, P = [a, b, c, d, f] := by
      match P, hl with
      | [a, b, c, d, f], _ => exact ⟨a, b, c, d, f, rfl⟩
    have hni : (⟨#[]⟩ : ByteArray) ∉ [a, b, c, d, f] := fun h => by
      rw [(Lib.containsS_iff _ _).2 h] at hc; cases hc
    have hane : a ≠ ⟨#[]⟩ := fun e => hni (by simp [e])
    have hbne : b ≠ ⟨#[]⟩ := fun e => hni (by simp [e])
    have HKX := Lib.hid (kinds5_ix hbne)
    have HTW : Hid (takeL line = if 0 ≤ kindIx b ∧ numOk c = true ∧ numOk d = true ∧ numOk f = true then some ⟨a, kindIx b + 1, numV c, numV d, numV f⟩ else none) := Lib.hid (by
      rw [HTL.out, takeW_five]
      simp only [hane, ne_eq, not_false_eq_true, true_and])
    have hnc := fun W => kit_number c W (HLE.out c (by simp))
    have hnd := fun W => kit_number d W (HLE.out d (by simp))
    have hnf := fun W => kit_number f W (HLE.out f (by simp))
    rw [hc] at hwd
    simp only [List.length_cons, List.length_nil] at hwd
    clear hbad hc hl hni hane hbne HTL
    go_enter Tryz.func30, Tryz.ntmps30
    go_wp2_with fail
    refine hwd.mono ?_
    clear hwd
    rintro e w1 ⟨rfl, hw1⟩
    have hzg : (w.alloc (.cells #[.string ⟨#[]⟩, .int .i64 0, .int .i64 0, .int .i64 0, .int .i64 0] 38)).heap.size = w.heap.size + 1 := by simp
    have b0 : Blk w1 w.heap.size 38 #[.string ⟨#[]⟩, .int .i64 0, .int .i64 0, .int .i64 0, .int .i64 0] := by
      rw [hw1]; exact hb0.mod ((Mod.refl (fun _ => False) _).alloc _) (fun e => e)
    have hm1 : New w w1 := by rw [hw1]; exact hA0.alloc _
    have bw : Blk w1 (w.heap.size + 1) 9 (strCs [a, b, c, d, f]) := by rw [hw1, ← hzg]; exact Blk.new _ _ _
    clear hw1 hb0 hA0 hzg
    have HB0 := Lib.hid b0
    have HBW := Lib.hid bw
    have HM1 := Lib.hid hm1
    have HWC : Hid (∀ W, New w1 W → W.cell? ⟨w.heap.size + 1, 0, none⟩ = some (.string a) ∧ W.cell? ⟨w.heap.size + 1, 1, none⟩ = some (.string b) ∧ W.cell? ⟨w.heap.size + 1, 2, none⟩ = some (.string c) ∧ W.cell? ⟨w.heap.size + 1, 3, none⟩ = some (.string d) ∧ W.cell? ⟨w.heap.size + 1, 4, none⟩ = some (.string f) ∧ w.heap.size + 1 < W.heap.size) := Lib.hid (fun W hW => by
      have hb := HBW.out.mod hW (fun e => e)
      exact ⟨(hb.cell 0).trans rfl, (hb.cell 1).trans rfl, (hb.cell 2).trans rfl, (hb.cell 3).trans rfl, (hb.cell 4).trans rfl, hb.lt⟩)
    clear b0 bw hm1
    go_upto_region 4 with (fail)
    refine wp_region_held_ord (fun W => W.cell? ⟨w.heap.size + 1, 1, none⟩ = some (.string b) ∧ w.heap.size + 1 < W.heap.size) [0, 4] [1, 2, 3, 0, 4] (by kernel_rfl) (by kernel_rfl) (fun _ _ d _ _ h => by cases d <;> exact h) ?_ (fun hHeld => ?_)
    · exact ⟨(HWC.out _ ((Mod.refl _ _).drew)).2.1, (HWC.out _ ((Mod.refl _ _).drew)).2.2.2.2.2⟩
    simp only [List.length_cons, List.length_nil, List.drop_succ_cons, List.drop_zero]
    refine heldO_take ?_ (by rfl) (by rfl) (by rfl) (fun w hSw => ?_) ?_
    rotate_left
    · (try dsimp only at hSw); go_simp; any_goals (with_reducible rfl)
    simp only [Act.put, List.setIfInBounds_toArray, List.set_cons_zero, List.set_cons_succ]
    refine heldO_take ?_ (by rfl) (by rfl) (by rfl) (fun w hSw => ?_) ?_
    rotate_left
    · (try dsimp only at hSw); go_simp; any_goals (with_reducible rfl)
    simp only [Act.put, List.setIfInBounds_toArray, List.set_cons_zero, List.set_cons_succ]
    refine heldO_take ?_ (by rfl) (by rfl) (by rfl) (fun w hSw => ?_) ?_
    rotate_left
    · (try dsimp only at hSw); go_simp; any_goals (with_reducible rfl)
    simp only [Act.put, List.setIfInBounds_toArray, List.set_cons_zero, List.set_cons_succ]
    refine heldO_step (by rfl) (by rfl) (by rfl) (fun K hK => ?_)
    go_simp
    refine (kindWords_any _).mono ?_
    rintro e w2 ⟨rfl, hw2⟩
    have hm2 : New w1 w2 := by rw [hw2]; exact ((Mod.refl _ w1).drewN 1).alloc _
    have hb2 : Blk w2 w1.heap.size 9 wordsCs := by rw [hw2]; exact Blk.new _ _ _
    have hix := Tryz.slices_Index_string w1.heap.size 0 5 5 kinds5 b w2 (by decide) (by omega) (fun j hj => by
      rw [Nat.zero_add]
      have h5 : j < 5 := hj
      rw [hb2.cell j]
      match j, h5 with
      | 0, _ => rfl
      | 1, _ => rfl
      | 2, _ => rfl
      | 3, _ => rfl
      | 4, _ => rfl)
    rw [List.take_of_length_le (by decide)] at hix
    clear hw2 hb2
    go_wp2_with fail
    refine hK.out _ _ ⟨(HWC.out _ hm2).2.1, (HWC.out _ hm2).2.2.2.2.2⟩ (fun hHeld => ?_)
    clear hK K
    try simp only [Act.put, List.setIfInBounds_toArray, List.set_cons_zero, List.set_cons_succ]
    refine heldO_step (by rfl) (by rfl) (by rfl) (fun K hK => ?_)
    go_simp
    refine hix.mono ?_
    clear hix
    rintro e w3 ⟨rfl, rfl⟩
    go_wp2_with fail
    refine hK.out _ _ ⟨(HWC.out _ hm2).2.1, (HWC.out _ hm2).2.2.2.2.2⟩ (fun hHeld => ?_)
    clear hK K hHeld
    try simp only [Act.put, List.setIfInBounds_toArray, List.set_cons_zero, List.set_cons_succ]
    refine heldO_nil ?_
    generalize hkx : Lib.idxOfS kinds5 b = kx at *
    have HKX2 : Hid ((kindIx b = -1 ∧ kx = -1) ∨ (0 ≤ kindIx b ∧ kx = kindIx b + 1)) := HKX
    obtain ⟨k0, k1, k2, k3, k4, hwl⟩ := HWC.out _ hm2
    clear hkx HKX
    go_wp2_with fail
    refine (hnc _).mono ?_
    clear hnc
    rintro e w4 ⟨vc, rfl, hvc, hm4⟩
    have m4 := hm2.trans hm4
    clear k0 k1 k2 k3 k4 hwl
    obtain ⟨k0, k1, k2, k3, k4, hwl⟩ := HWC.out _ m4
    have HVC := Lib.hid hvc
    clear hvc hm2 hm4
    go_wp2_with fail
    refine (hnd _).mono ?_
    clear hnd
    rintro e w5 ⟨vd, rfl, hvd, hm5⟩
    have m5 := m4.trans hm5
    clear k0 k1 k2 k3 k4 hwl
    obtain ⟨k0, k1, k2, k3, k4, hwl⟩ := HWC.out _ m5
    have HVD := Lib.hid hvd
    clear hvd m4 hm5
    go_wp2_with fail
    refine (hnf _).mono ?_
    clear hnf
    rintro e w6 ⟨vf, rfl, hvf, hm6⟩
    have m6 := m5.trans hm6
    clear k0 k1 k2 k3 k4 hwl
    obtain ⟨k0, k1, k2, k3, k4, hwl⟩ := HWC.out _ m6
    have HVF := Lib.hid hvf
    have b6 := HB0.out.mod m6 (fun e => e)
    have HM6 := Lib.hid (HM1.out.trans m6)
    have r0 := b6.cell 0
    have r1 := b6.cell 1
    have r2 := b6.cell 2
    have r3 := b6.cell 3
    have r4 := b6.cell 4
    have fr := b6.frozen
    have hrl := b6.lt
    simp at r0 r1 r2 r3 r4
    clear hvf m5 hm6 m6 b6 HM1 HB0 HBW HWC
    have HRES : Hid (∀ W, New w W → RLine line w (.returned (.tuple #[Lim.val ⟨a, kx, vc, vd, vf⟩, .bool (decide (0 < kx) && numOk c && numOk d && numOk f)])) W) := Lib.hid (fun W hW => by
      refine ⟨⟨a, kx, vc, vd, vf⟩, ?_, ?_, hW⟩
      · rw [HTW.out]
        have hk : decide (0 < kx) = decide (0 ≤ kindIx b) := by
          rcases HKX2.out with ⟨h1, h2⟩ | ⟨h1, h2⟩
          · rw [h1, h2]; rfl
          · rw [h2]; simp [h1]; omega
        rw [hk]
        congr 4
        by_cases q1 : 0 ≤ kindIx b <;> cases numOk c <;> cases numOk d <;> cases numOk f <;> simp [q1]
      · intro y hy
        rw [HTW.out] at hy
        split at hy
        · rename_i hq
          injection hy with hy
          subst hy
          rcases HKX2.out with ⟨h1, h2⟩ | ⟨h1, h2⟩
          · have := hq.1; omega
          · rw [HVC.out hq.2.1, HVD.out hq.2.2.1, HVF.out hq.2.2.2, h2]
        · cases hy)
    generalize numOk c = oc at *
    generalize numOk d = od at *
    generalize numOk f = of_ at *
    clear HVC HVD HVF HTW
    cases hk0 : decide (0 < kx) <;> rw [hk0] at HRES <;> cases oc <;> cases od <;> cases of_ <;> go_wp2_with fail
    all_goals refine bodyPost_ret (v := .tuple #[Lim.val ⟨a, kx, vc, vd, vf⟩, .bool _]) (by simp [results, Tryz.results30, go_sem, r0, r1, r2, r3, r4, fr, Lim.val]) rfl (HRES.out _ ?_)
    all_goals refine Mod.setCell (Mod.setCell (Mod.setCell (Mod.setCell (Mod.setCell HM6.out (.inr ?_) _) (.inr ?_) _) (.inr ?_) _) (.inr ?_) _) (.inr ?_) _ <;> exact Nat.le_refl _

end Go.Proofs.YtinnckbffblecaaGreatDoor
