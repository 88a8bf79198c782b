/- A record's line, walked: the program's. Conditions: the line is short; the library's variables lie as they should. -/
import Derived.Test.YtccffkdaalnfoaaGreatDoorRec7
namespace Go.Proofs.YtccffkdaalnfoaaGreatDoor
open Go.RowKit
set_option linter.unusedVariables false
set_option linter.unusedSimpArgs false

theorem str_dash (z : ByteArray) : (z.toList == [45]) = decide (z = dashB) := by
  rw [Bool.eq_iff_iff, ByteArray.toList_eq]
  simp only [beq_iff_eq, decide_eq_true_eq]
  constructor
  · intro h
    exact ByteArray.ext (Array.toList_inj.mp h)
  · rintro rfl
    rfl
/-- the words, where those from lo on and ahead of i are no dash any more -/
def undW (lo i : Nat) (P : List ByteArray) : List ByteArray := P.mapIdx fun j s => if lo ≤ j ∧ j < i then undash s else s
theorem undW_length (lo i : Nat) (P : List ByteArray) : (undW lo i P).length = P.length := by simp [undW]
theorem undW_at {lo i j : Nat} {P : List ByteArray} (h : j < P.length) : (undW lo i P).getD j ByteArray.empty = if lo ≤ j ∧ j < i then undash P[j] else P[j] := by
  simp [undW, List.getD_eq_getElem?_getD, h]
theorem undW_start (lo : Nat) (P : List ByteArray) : undW lo lo P = P := by
  apply List.ext_getElem
  · exact undW_length _ _ _
  · intro j h1 h2
    simp only [undW, List.getElem_mapIdx]
    rw [if_neg (by omega)]
theorem undW_hit {lo i : Nat} {P : List ByteArray} (h : i < P.length) (h1 : lo ≤ i) (he : P[i] = dashB) : undW lo (i + 1) P = (undW lo i P).set i ⟨#[]⟩ := by
  apply List.ext_getElem
  · simp [undW_length]
  · intro j g1 g2
    simp only [undW, List.getElem_mapIdx, List.getElem_set]
    by_cases hj : i = j
    · subst hj
      rw [if_pos ⟨h1, by omega⟩, if_pos rfl, he]
      rfl
    · rw [if_neg hj]
      by_cases h3 : lo ≤ j ∧ j < i
      · rw [if_pos ⟨h3.1, by omega⟩, if_pos h3]
      · rw [if_neg (by omega), if_neg h3]
theorem undW_miss {lo i : Nat} {P : List ByteArray} (h : i < P.length) (h1 : lo ≤ i) (he : P[i] ≠ dashB) : undW lo (i + 1) P = undW lo i P := by
  apply List.ext_getElem
  · simp [undW_length]
  · intro j g1 g2
    simp only [undW, List.getElem_mapIdx]
    by_cases hj : i = j
    · subst hj
      rw [if_pos ⟨h1, by omega⟩, if_neg (by omega)]
      unfold undash
      rw [if_neg he]
    · by_cases h3 : lo ≤ j ∧ j < i
      · rw [if_pos ⟨h3.1, by omega⟩, if_pos h3]
      · rw [if_neg (by omega), if_neg h3]
theorem undW_five (a b c d e f g : ByteArray) : undW 1 5 [a, b, c, d, e, f, g] = [a, undash b, undash c, undash d, undash e, f, g] := rfl
theorem undW_seven (a b c d e f g : ByteArray) : undW 0 7 [a, b, c, d, e, f, g] = [undash a, undash b, undash c, undash d, undash e, undash f, undash g] := rfl
theorem strCs_set (P : List ByteArray) (i : Nat) (s : ByteArray) : (strCs P).setIfInBounds i (.string s) = strCs (P.set i s) := by
  unfold strCs
  rw [List.setIfInBounds_toArray, List.map_set]

def RRecLine (line : ByteArray) (w : World) (e : Ending) (w' : World) : Prop :=
  ∃ x : RecD, e = .returned (.tuple #[x.val, .bool (takeR line).isSome]) ∧ (∀ y, takeR line = some y → x = y) ∧ New w w'
theorem RRecLine.none {line : ByteArray} {w w' : World} {x : RecD} (h : takeR line = none) (hm : New w w') : RRecLine line w (.returned (.tuple #[x.val, .bool false])) w' :=
  ⟨x, by rw [h]; rfl, (fun y hy => by rw [h] at hy; cases hy), hm⟩

set_option maxRecDepth 100000 in
set_option maxHeartbeats 4000000 in
theorem gate_readRecord (line : ByteArray) (w : World) (hs : line.size ≤ 1000000) (hx : MaxLn w) :
    Calls Tryz.prog 30 #[.string line] w (RRecLine line w) := by
  have hwd := kit_words line (w.alloc (.cells #[.int .i64 0, .string ⟨#[]⟩, .string ⟨#[]⟩, .string ⟨#[]⟩, .string ⟨#[]⟩, .int .i64 0, .int .i64 0] 39)) hs (hx.new ((Mod.refl _ _).alloc _))
  have hle := fun x (h : x ∈ pieces line sp) => Nat.le_trans (pieces_le h) hs
  have hb0 := Blk.new w 39 #[.int .i64 0, .string ⟨#[]⟩, .string ⟨#[]⟩, .string ⟨#[]⟩, .string ⟨#[]⟩, .int .i64 0, .int .i64 0]
  have hA0 : New w (w.alloc (.cells #[.int .i64 0, .string ⟨#[]⟩, .string ⟨#[]⟩, .string ⟨#[]⟩, .string ⟨#[]⟩, .int .i64 0, .int .i64 0] 39)) := (Mod.refl _ _).alloc _
  have HTL : Hid (takeR line = takeRW (pieces line sp)) := Lib.hid rfl
  generalize pieces line sp = P at *
  have HLE := Lib.hid hle
  clear hle hx
  by_cases hbad : Lib.containsS P ⟨#[]⟩ = true ∨ P.length ≠ 7
  · have HN : Hid (takeR line = none) := Lib.hid (by
      rw [HTL.out]
      rcases hbad with h | h
      · exact takeRW_empty ((Lib.containsS_iff _ _).1 h)
      · exact takeRW_length h)
    have hlen : P.length ≠ 7 → ((P.length : Int) != 7) = true := fun h => by simp; omega
    have HBAD := Lib.hid hbad
    have HLN := Lib.hid hlen
    clear hbad hlen
    go_enter Tryz.func30, Tryz.ntmps30
    go_wp2_with fail
    refine hwd.mono ?_
    clear hwd
    rintro e w1 ⟨rfl, hw1⟩
    have b0 : Blk w1 w.heap.size 39 #[.int .i64 0, .string ⟨#[]⟩, .string ⟨#[]⟩, .string ⟨#[]⟩, .string ⟨#[]⟩, .int .i64 0, .int .i64 0] := by
      rw [hw1]; exact hb0.mod ((Mod.refl (fun _ => False) _).alloc _) (fun e => e)
    have hm1 : New w w1 := by rw [hw1]; exact hA0.alloc _
    have r0 := b0.cell 0
    have r1 := b0.cell 1
    have r2 := b0.cell 2
    have r3 := b0.cell 3
    have r4 := b0.cell 4
    have r5 := b0.cell 5
    have r6 := b0.cell 6
    have fr := b0.frozen
    have hrl := b0.lt
    simp at r0 r1 r2 r3 r4 r5 r6
    clear hw1 hb0 hA0
    cases hc : Lib.containsS P ⟨#[]⟩ with
    | true =>
      go_wp2_with fail
      refine bodyPost_ret (v := .tuple #[RecD.val ⟨0, ⟨#[]⟩, ⟨#[]⟩, ⟨#[]⟩, ⟨#[]⟩, 0, 0⟩, .bool false]) (by simp [results, Tryz.results30, go_sem, r0, r1, r2, r3, r4, r5, r6, fr, RecD.val]) rfl (RRecLine.none HN.out ?_)
      refine Mod.setCell (Mod.setCell (Mod.setCell (Mod.setCell (Mod.setCell (Mod.setCell (Mod.setCell hm1 (.inr ?_) _) (.inr ?_) _) (.inr ?_) _) (.inr ?_) _) (.inr ?_) _) (.inr ?_) _) (.inr ?_) _ <;> exact Nat.le_refl _
    | false =>
      have hl5 : ((P.length : Int) != 7) = true := HLN.out (by
        rcases HBAD.out with h | h
        · rw [hc] at h; cases h
        · exact h)
      go_wp2_with fail
      refine bodyPost_ret (v := .tuple #[RecD.val ⟨0, ⟨#[]⟩, ⟨#[]⟩, ⟨#[]⟩, ⟨#[]⟩, 0, 0⟩, .bool false]) (by simp [results, Tryz.results30, go_sem, r0, r1, r2, r3, r4, r5, r6, fr, RecD.val]) rfl (RRecLine.none HN.out ?_)
      refine Mod.setCell (Mod.setCell (Mod.setCell (Mod.setCell (Mod.setCell (Mod.setCell (Mod.setCell hm1 (.inr ?_) _) (.inr ?_) _) (.inr ?_) _) (.inr ?_) _) (.inr ?_) _) (.inr ?_) _) (.inr ?_) _ <;> exact Nat.le_refl _
  · obtain ⟨hc, hl⟩ : Lib.containsS P ⟨#[]⟩ = false ∧ P.length = 7 := by
      constructor
      · cases h : Lib.containsS P ⟨#[]⟩ with
        | true => exact absurd (.inl h) hbad
        | false => rfl
      · by_cases h : P.length = 7
        · exact h
        · exact absurd (.inr h) hbad
    obtain ⟨a, b, c, d, f, g, h, rfl⟩ : ∃ a b c d f g h, P = [a, b, c, d, f, g, h] := by
      match P, hl with
      | [a, b, c, d, f, g, h], _ => exact ⟨a, b, c, d, f, g, h, rfl⟩
    have hni : (⟨#[]⟩ : ByteArray) ∉ [a, b, c, d, f, g, h] := fun h => by
      rw [(Lib.containsS_iff _ _).2 h] at hc; cases hc
    have hbne : b ≠ ⟨#[]⟩ := fun e => hni (by simp [e])
    have hcne : c ≠ ⟨#[]⟩ := fun e => hni (by simp [e])
    have hdne : d ≠ ⟨#[]⟩ := fun e => hni (by simp [e])
    have hfne : f ≠ ⟨#[]⟩ := fun e => hni (by simp [e])
    have HTW : Hid (takeR line = if numOk 15 a = true ∧ numOk 15 g = true ∧ numOk 15 h = true then some ⟨numV a, undash b, undash c, undash d, undash f, numV g, numV h⟩ else none) := Lib.hid (by
      rw [HTL.out, takeRW_seven]
      simp only [hbne, hcne, hdne, hfne, ne_eq, not_false_eq_true, true_and])
    have hna := fun W => kit_number 15 (by decide) a W (HLE.out a (by simp))
    have hng := fun W => kit_number 15 (by decide) g W (HLE.out g (by simp))
    have hnh := fun W => kit_number 15 (by decide) h W (HLE.out h (by simp))
    rw [hc] at hwd
    simp only [List.length_cons, List.length_nil] at hwd
    clear hbad hc hl hni hbne hcne hdne hfne HTL
    have HU5 : Hid (undW 1 5 [a, b, c, d, f, g, h] = [a, undash b, undash c, undash d, undash f, g, h]) := Lib.hid (undW_five _ _ _ _ _ _ _)
    have HU1 : Hid (undW 1 1 [a, b, c, d, f, g, h] = [a, b, c, d, f, g, h]) := Lib.hid (undW_start _ _)
    have HPL : Hid ([a, b, c, d, f, g, h].length = 7) := Lib.hid rfl
    go_enter Tryz.func30, Tryz.ntmps30
    go_wp2_with fail
    refine hwd.mono ?_
    clear hwd
    rintro e w1 ⟨rfl, hw1⟩
    have hzg : (w.alloc (.cells #[.int .i64 0, .string ⟨#[]⟩, .string ⟨#[]⟩, .string ⟨#[]⟩, .string ⟨#[]⟩, .int .i64 0, .int .i64 0] 39)).heap.size = w.heap.size + 1 := by simp
    have b0 : Blk w1 w.heap.size 39 #[.int .i64 0, .string ⟨#[]⟩, .string ⟨#[]⟩, .string ⟨#[]⟩, .string ⟨#[]⟩, .int .i64 0, .int .i64 0] := by
      rw [hw1]; exact hb0.mod ((Mod.refl (fun _ => False) _).alloc _) (fun e => e)
    have hm1 : New w w1 := by rw [hw1]; exact hA0.alloc _
    have bw : Blk w1 (w.heap.size + 1) 9 (strCs [a, b, c, d, f, g, h]) := by rw [hw1, ← hzg]; exact Blk.new _ _ _
    clear hw1 hb0 hA0 hzg
    have HB0 := Lib.hid b0
    have HBW := Lib.hid bw
    have HM1 := Lib.hid hm1
    clear b0 bw hm1
    generalize hPP : [a, b, c, d, f, g, h] = P at *
    have HPP := Lib.hid hPP
    clear hPP
    go_wp2_with fail
    go_loopw [6] (fun i wr => ∃ k : Nat, 1 ≤ k ∧ k ≤ 5 ∧ i = .int .i64 k ∧ Hid (Blk wr (w.heap.size + 1) 9 (strCs (undW 1 k P))) ∧ Hid (Mod (fun x => x = w.heap.size + 1) w1 wr)) (fun i _ => 5 - (intOf i).toNat)
    case atStart => exact ⟨1, by omega, by omega, rfl, Lib.hid (by rw [HU1.out]; exact HBW.out), Lib.hid (Mod.refl _ _)⟩
    case round =>
      rename World => wr
      obtain ⟨k, hk1, hk5, rfl, HB, HM⟩ := hrel
      by_cases hk4 : k ≤ 4
      · have hkl : k < P.length := by have := HPL.out; omega
        have hcell : wr.cell? ⟨w.heap.size + 1, k, none⟩ = some (.string P[k]) := by
          rw [strs_at HB.out k (by rw [undW_length]; exact hkl), undW_at hkl, if_neg (by omega)]
        have hwl := HB.out.lt
        have hfr := HB.out.frozen
        have hb1 : (0 : Int) ≤ k := by omega
        have hb2 : (k : Int) < 7 := by omega
        have hb4 : (k : Int) ≤ 4 := by omega
        have hsd := str_dash P[k]
        by_cases hd : P[k] = dashB
        · have HU := Lib.hid (undW_hit hkl hk1 hd)
          rw [decide_eq_true hd] at hsd
          clear hd
          generalize P[k] = z at *
          clear hkl
          go_wp2_with fail
          exact ⟨⟨k + 1, by omega, by omega, by go_num, Lib.hid (by rw [HU.out, ← strCs_set]; exact HB.out.set _ _), Lib.hid (HM.out.setCell (.inl rfl) _)⟩, by simp [intOf]; omega⟩
        · have HU := Lib.hid (undW_miss hkl hk1 hd)
          rw [decide_eq_false hd] at hsd
          clear hd
          generalize P[k] = z at *
          clear hkl
          go_wp2_with fail
          exact ⟨⟨k + 1, by omega, by omega, by go_num, Lib.hid (by rw [HU.out]; exact HB.out), HM⟩, by simp [intOf]; omega⟩
      · obtain rfl : k = 5 := by omega
        have HBW2 : Hid (Blk wr (w.heap.size + 1) 9 (strCs [a, undash b, undash c, undash d, undash f, g, h])) := Lib.hid (by rw [← HU5.out]; exact HB.out)
        have HM2 : Hid (New w wr) := Lib.hid (HM1.out.step HM.out (fun i hi e => by omega))
        have HB2 : Hid (Blk wr w.heap.size 39 #[.int .i64 0, .string ⟨#[]⟩, .string ⟨#[]⟩, .string ⟨#[]⟩, .string ⟨#[]⟩, .int .i64 0, .int .i64 0]) := Lib.hid (HB0.out.mod HM.out (by omega))
        have HWC : Hid (∀ W, New wr W → W.cell? ⟨w.heap.size + 1, 0, none⟩ = some (.string a) ∧ W.cell? ⟨w.heap.size + 1, 1, none⟩ = some (.string (undash b)) ∧ W.cell? ⟨w.heap.size + 1, 2, none⟩ = some (.string (undash c)) ∧ W.cell? ⟨w.heap.size + 1, 3, none⟩ = some (.string (undash d)) ∧ W.cell? ⟨w.heap.size + 1, 4, none⟩ = some (.string (undash f)) ∧ W.cell? ⟨w.heap.size + 1, 5, none⟩ = some (.string g) ∧ W.cell? ⟨w.heap.size + 1, 6, none⟩ = some (.string h) ∧ w.heap.size + 1 < W.heap.size) := Lib.hid (fun W hW => by
          have hb := HBW2.out.mod hW (fun e => e)
          exact ⟨(hb.cell 0).trans rfl, (hb.cell 1).trans rfl, (hb.cell 2).trans rfl, (hb.cell 3).trans rfl, (hb.cell 4).trans rfl, (hb.cell 5).trans rfl, (hb.cell 6).trans rfl, hb.lt⟩)
        clear HBW HBW2 HB HM1 HM HB0 HU5 HU1 HPP HPL hk1 hk5 hk4
        generalize undash b = ub at *
        generalize undash c = uc at *
        generalize undash d = ud at *
        generalize undash f = uf at *
        obtain ⟨k0, k1, k2, k3, k4, k5, k6, hwl⟩ := HWC.out _ (Mod.refl _ _)
        go_wp2_with fail
        refine (hna _).mono ?_
        clear hna
        rintro e w4 ⟨va, rfl, hva, hm4⟩
        clear k0 k1 k2 k3 k4 k5 k6 hwl
        obtain ⟨k0, k1, k2, k3, k4, k5, k6, hwl⟩ := HWC.out _ hm4
        have HVA := Lib.hid hva
        clear hva
        go_wp2_with fail
        refine (hng _).mono ?_
        clear hng
        rintro e w5 ⟨vg, rfl, hvg, hm5⟩
        have m5 := hm4.trans hm5
        clear k0 k1 k2 k3 k4 k5 k6 hwl
        obtain ⟨k0, k1, k2, k3, k4, k5, k6, hwl⟩ := HWC.out _ m5
        have HVG := Lib.hid hvg
        clear hvg hm4 hm5
        go_wp2_with fail
        refine (hnh _).mono ?_
        clear hnh
        rintro e w6 ⟨vh, rfl, hvh, hm6⟩
        have m6 := m5.trans hm6
        clear k0 k1 k2 k3 k4 k5 k6 hwl
        obtain ⟨k0, k1, k2, k3, k4, k5, k6, hwl⟩ := HWC.out _ m6
        have HVH := Lib.hid hvh
        have b6 := HB2.out.mod m6 (fun e => e)
        have HM6 := Lib.hid (HM2.out.trans m6)
        have r0 := b6.cell 0
        have r1 := b6.cell 1
        have r2 := b6.cell 2
        have r3 := b6.cell 3
        have r4 := b6.cell 4
        have r5 := b6.cell 5
        have r6 := b6.cell 6
        have fr := b6.frozen
        have hrl := b6.lt
        simp at r0 r1 r2 r3 r4 r5 r6
        have HW6 : Hid (∀ W, Mod (fun x => x = w.heap.size) w6 W → W.cell? ⟨w.heap.size + 1, 1, none⟩ = some (.string ub) ∧ W.cell? ⟨w.heap.size + 1, 2, none⟩ = some (.string uc) ∧ W.cell? ⟨w.heap.size + 1, 3, none⟩ = some (.string ud) ∧ W.cell? ⟨w.heap.size + 1, 4, none⟩ = some (.string uf) ∧ w.heap.size + 1 < W.heap.size) := Lib.hid (fun W hW => by
          obtain ⟨_, q1, q2, q3, q4, _, _, q7⟩ := HWC.out _ m6
          have hsz := hW.size
          exact ⟨(hW.cell (p := ⟨w.heap.size + 1, 1, none⟩) q7 (by simp)).trans q1, (hW.cell (p := ⟨w.heap.size + 1, 2, none⟩) q7 (by simp)).trans q2, (hW.cell (p := ⟨w.heap.size + 1, 3, none⟩) q7 (by simp)).trans q3, (hW.cell (p := ⟨w.heap.size + 1, 4, none⟩) q7 (by simp)).trans q4, by omega⟩)
        clear hvh m5 hm6 m6 b6 HM2 HB2 HWC k0 k1 k2 k3 k4 k5 k6 hwl
        have HRES : Hid (∀ W, New w W → RRecLine line w (.returned (.tuple #[RecD.val ⟨va, ub, uc, ud, uf, vg, vh⟩, .bool (numOk 15 a && numOk 15 g && numOk 15 h)])) W) := Lib.hid (fun W hW => by
          refine ⟨⟨va, ub, uc, ud, uf, vg, vh⟩, ?_, ?_, hW⟩
          · rw [HTW.out]
            congr 4
            cases numOk 15 a <;> cases numOk 15 g <;> cases numOk 15 h <;> rfl
          · intro y hy
            rw [HTW.out] at hy
            split at hy
            · rename_i hq
              injection hy with hy
              subst hy
              rw [HVA.out hq.1, HVG.out hq.2.1, HVH.out hq.2.2]
            · cases hy)
        generalize numOk 15 a = oa at *
        generalize numOk 15 g = og at *
        generalize numOk 15 h = oh at *
        clear HVA HVG HVH HTW
        go_wp2_with fail
        refine wp_region_held_drew (S := fun W => Mod (fun x => x = w.heap.size) w6 W) (by kernel_rfl) (Mod.refl _ _).drew (fun hHeld => ?_)
        refine wpAnyH_take (i := 0) (v := ?_) rfl (by kernel_rfl) (by kernel_rfl) (by kernel_rfl) (fun _ _ _ h => h) (Or.inl ⟨by rfl, fun W hSw => ?_⟩) (by assumption) ?_
        rotate_left
        · (obtain ⟨q1, q2, q3, q4, q7⟩ := HW6.out W hSw); (try simp only [List.getElem_toArray, List.getElem_cons_zero, List.getElem_cons_succ]); go_simp; any_goals (with_reducible rfl)
        simp only [Act.put, List.getElem_toArray, List.getElem_cons_zero, List.getElem_cons_succ, List.setIfInBounds_toArray, List.set_cons_zero, List.set_cons_succ]
        refine wpAnyH_take (i := 1) (v := ?_) rfl (by kernel_rfl) (by kernel_rfl) (by kernel_rfl) (fun _ _ _ h => h) (Or.inl ⟨by rfl, fun W hSw => ?_⟩) (by assumption) ?_
        rotate_left
        · (obtain ⟨q1, q2, q3, q4, q7⟩ := HW6.out W hSw); (try simp only [List.getElem_toArray, List.getElem_cons_zero, List.getElem_cons_succ]); go_simp; any_goals (with_reducible rfl)
        simp only [Act.put, List.getElem_toArray, List.getElem_cons_zero, List.getElem_cons_succ, List.setIfInBounds_toArray, List.set_cons_zero, List.set_cons_succ]
        refine wpAnyH_take (i := 2) (v := ?_) rfl (by kernel_rfl) (by kernel_rfl) (by kernel_rfl) (fun _ _ _ h => h) (Or.inl ⟨by rfl, fun W hSw => ?_⟩) (by assumption) ?_
        rotate_left
        · (obtain ⟨q1, q2, q3, q4, q7⟩ := HW6.out W hSw); (try simp only [List.getElem_toArray, List.getElem_cons_zero, List.getElem_cons_succ]); go_simp; any_goals (with_reducible rfl)
        simp only [Act.put, List.getElem_toArray, List.getElem_cons_zero, List.getElem_cons_succ, List.setIfInBounds_toArray, List.set_cons_zero, List.set_cons_succ]
        refine wpAnyH_take (i := 3) (v := ?_) rfl (by kernel_rfl) (by kernel_rfl) (by kernel_rfl) (fun _ _ _ h => h) (Or.inl ⟨by rfl, fun W hSw => ?_⟩) (by assumption) ?_
        rotate_left
        · (obtain ⟨q1, q2, q3, q4, q7⟩ := HW6.out W hSw); (try simp only [List.getElem_toArray, List.getElem_cons_zero, List.getElem_cons_succ]); go_simp; any_goals (with_reducible rfl)
        simp only [Act.put, List.getElem_toArray, List.getElem_cons_zero, List.getElem_cons_succ, List.setIfInBounds_toArray, List.set_cons_zero, List.set_cons_succ]
        refine wpAnyH_take (i := 4) (v := ?_) rfl (by kernel_rfl) (by kernel_rfl) (by kernel_rfl) (fun _ _ _ h => h) (Or.inl ⟨by rfl, fun W hSw => ?_⟩) (by assumption) ?_
        rotate_left
        · (obtain ⟨q1, q2, q3, q4, q7⟩ := HW6.out W hSw); (try simp only [List.getElem_toArray, List.getElem_cons_zero, List.getElem_cons_succ]); go_simp; any_goals (with_reducible rfl)
        simp only [Act.put, List.getElem_toArray, List.getElem_cons_zero, List.getElem_cons_succ, List.setIfInBounds_toArray, List.set_cons_zero, List.set_cons_succ]
        refine wpAnyH_take (i := 5) (v := ?_) rfl (by kernel_rfl) (by kernel_rfl) (by kernel_rfl) (fun _ _ _ h => h) (Or.inl ⟨by rfl, fun W hSw => ?_⟩) (by assumption) ?_
        rotate_left
        · (obtain ⟨q1, q2, q3, q4, q7⟩ := HW6.out W hSw); (try simp only [List.getElem_toArray, List.getElem_cons_zero, List.getElem_cons_succ]); go_simp; any_goals (with_reducible rfl)
        simp only [Act.put, List.getElem_toArray, List.getElem_cons_zero, List.getElem_cons_succ, List.setIfInBounds_toArray, List.set_cons_zero, List.set_cons_succ]
        refine wpAnyH_take (i := 6) (v := ?_) rfl (by kernel_rfl) (by kernel_rfl) (by kernel_rfl) (fun _ _ _ h => h) (Or.inl ⟨by rfl, fun W hSw => ?_⟩) (by assumption) ?_
        rotate_left
        · (obtain ⟨q1, q2, q3, q4, q7⟩ := HW6.out W hSw); (try simp only [List.getElem_toArray, List.getElem_cons_zero, List.getElem_cons_succ]); go_simp; any_goals (with_reducible rfl)
        simp only [Act.put, List.getElem_toArray, List.getElem_cons_zero, List.getElem_cons_succ, List.setIfInBounds_toArray, List.set_cons_zero, List.set_cons_succ]
        refine wpAnyH_take (i := 7) (v := ?_) rfl (by kernel_rfl) (by kernel_rfl) (by kernel_rfl) (fun _ _ _ h => h) (Or.inl ⟨by rfl, fun W hSw => ?_⟩) (by assumption) ?_
        rotate_left
        · (obtain ⟨q1, q2, q3, q4, q7⟩ := HW6.out W hSw); (try simp only [List.getElem_toArray, List.getElem_cons_zero, List.getElem_cons_succ]); go_simp; any_goals (with_reducible rfl)
        simp only [Act.put, List.getElem_toArray, List.getElem_cons_zero, List.getElem_cons_succ, List.setIfInBounds_toArray, List.set_cons_zero, List.set_cons_succ]
        refine wpAnyH_take (i := 8) (v := ?_) rfl (by kernel_rfl) (by kernel_rfl) (by kernel_rfl) (fun _ _ _ h => h) (Or.inl ⟨by rfl, fun W hSw => ?_⟩) (by assumption) ?_
        rotate_left
        · (obtain ⟨q1, q2, q3, q4, q7⟩ := HW6.out W hSw); (try simp only [List.getElem_toArray, List.getElem_cons_zero, List.getElem_cons_succ]); go_simp; any_goals (with_reducible rfl)
        simp only [Act.put, List.getElem_toArray, List.getElem_cons_zero, List.getElem_cons_succ, List.setIfInBounds_toArray, List.set_cons_zero, List.set_cons_succ]
        refine wpAnyH_take (i := 9) (v := ?_) rfl (by kernel_rfl) (by kernel_rfl) (by kernel_rfl) (fun _ _ _ h => h) (Or.inl ⟨by rfl, fun W hSw => ?_⟩) (by assumption) ?_
        rotate_left
        · (obtain ⟨q1, q2, q3, q4, q7⟩ := HW6.out W hSw); (try simp only [List.getElem_toArray, List.getElem_cons_zero, List.getElem_cons_succ]); go_simp; any_goals (with_reducible rfl)
        simp only [Act.put, List.getElem_toArray, List.getElem_cons_zero, List.getElem_cons_succ, List.setIfInBounds_toArray, List.set_cons_zero, List.set_cons_succ]
        refine wpAnyH_take (i := 10) (v := ?_) rfl (by kernel_rfl) (by kernel_rfl) (by kernel_rfl) (fun _ _ _ h => h) (Or.inl ⟨by rfl, fun W hSw => ?_⟩) (by assumption) ?_
        rotate_left
        · (obtain ⟨q1, q2, q3, q4, q7⟩ := HW6.out W hSw); (try simp only [List.getElem_toArray, List.getElem_cons_zero, List.getElem_cons_succ]); go_simp; any_goals (with_reducible rfl)
        simp only [Act.put, List.getElem_toArray, List.getElem_cons_zero, List.getElem_cons_succ, List.setIfInBounds_toArray, List.set_cons_zero, List.set_cons_succ]
        refine wpAnyH_take (i := 11) (v := ?_) rfl (by kernel_rfl) (by kernel_rfl) (by kernel_rfl) (fun _ _ _ h => h) (Or.inl ⟨by rfl, fun W hSw => ?_⟩) (by assumption) ?_
        rotate_left
        · (obtain ⟨q1, q2, q3, q4, q7⟩ := HW6.out W hSw); (try simp only [List.getElem_toArray, List.getElem_cons_zero, List.getElem_cons_succ]); go_simp; any_goals (with_reducible rfl)
        simp only [Act.put, List.getElem_toArray, List.getElem_cons_zero, List.getElem_cons_succ, List.setIfInBounds_toArray, List.set_cons_zero, List.set_cons_succ]
        refine wpAnyH_take (i := 12) (v := ?_) rfl (by kernel_rfl) (by kernel_rfl) (by kernel_rfl) (fun _ _ _ h => h) (Or.inl ⟨by rfl, fun W hSw => ?_⟩) (by assumption) ?_
        rotate_left
        · (obtain ⟨q1, q2, q3, q4, q7⟩ := HW6.out W hSw); (try simp only [List.getElem_toArray, List.getElem_cons_zero, List.getElem_cons_succ]); go_simp; any_goals (with_reducible rfl)
        simp only [Act.put, List.getElem_toArray, List.getElem_cons_zero, List.getElem_cons_succ, List.setIfInBounds_toArray, List.set_cons_zero, List.set_cons_succ]
        refine wpAnyH_take (i := 13) (v := ?_) rfl (by kernel_rfl) (by kernel_rfl) (by kernel_rfl) (fun _ _ _ h => h) (Or.inl ⟨by rfl, fun W hSw => ?_⟩) (by assumption) ?_
        rotate_left
        · (obtain ⟨q1, q2, q3, q4, q7⟩ := HW6.out W hSw); (try simp only [List.getElem_toArray, List.getElem_cons_zero, List.getElem_cons_succ]); go_simp; any_goals (with_reducible rfl)
        simp only [Act.put, List.getElem_toArray, List.getElem_cons_zero, List.getElem_cons_succ, List.setIfInBounds_toArray, List.set_cons_zero, List.set_cons_succ]
        refine wpAnyH_take (i := 14) (v := ?_) rfl (by kernel_rfl) (by kernel_rfl) (by kernel_rfl) (fun _ _ _ h => h) (Or.inl ⟨by rfl, fun W hSw => ?_⟩) (by assumption) ?_
        rotate_left
        · (obtain ⟨q1, q2, q3, q4, q7⟩ := HW6.out W hSw); (try simp only [List.getElem_toArray, List.getElem_cons_zero, List.getElem_cons_succ]); go_simp; any_goals (with_reducible rfl)
        simp only [Act.put, List.getElem_toArray, List.getElem_cons_zero, List.getElem_cons_succ, List.setIfInBounds_toArray, List.set_cons_zero, List.set_cons_succ]
        refine wpAnyH_take (i := 15) (v := ?_) rfl (by kernel_rfl) (by kernel_rfl) (by kernel_rfl) (fun _ _ _ h => h) (Or.inl ⟨by rfl, fun W hSw => ?_⟩) (by assumption) ?_
        rotate_left
        · (obtain ⟨q1, q2, q3, q4, q7⟩ := HW6.out W hSw); (try simp only [List.getElem_toArray, List.getElem_cons_zero, List.getElem_cons_succ]); go_simp; any_goals (with_reducible rfl)
        simp only [Act.put, List.getElem_toArray, List.getElem_cons_zero, List.getElem_cons_succ, List.setIfInBounds_toArray, List.set_cons_zero, List.set_cons_succ]
        refine wpAnyH_take (i := 16) (v := ?_) rfl (by kernel_rfl) (by kernel_rfl) (by kernel_rfl) (fun _ _ _ h => h) (Or.inl ⟨by rfl, fun W hSw => ?_⟩) (by assumption) ?_
        rotate_left
        · (obtain ⟨q1, q2, q3, q4, q7⟩ := HW6.out W hSw); (try simp only [List.getElem_toArray, List.getElem_cons_zero, List.getElem_cons_succ]); go_simp; any_goals (with_reducible rfl)
        simp only [Act.put, List.getElem_toArray, List.getElem_cons_zero, List.getElem_cons_succ, List.setIfInBounds_toArray, List.set_cons_zero, List.set_cons_succ]
        refine wpAnyH_take (i := 17) (v := ?_) rfl (by kernel_rfl) (by kernel_rfl) (by kernel_rfl) (fun _ _ _ h => h) (Or.inl ⟨by rfl, fun W hSw => ?_⟩) (by assumption) ?_
        rotate_left
        · (obtain ⟨q1, q2, q3, q4, q7⟩ := HW6.out W hSw); (try simp only [List.getElem_toArray, List.getElem_cons_zero, List.getElem_cons_succ]); go_simp; any_goals (with_reducible rfl)
        simp only [Act.put, List.getElem_toArray, List.getElem_cons_zero, List.getElem_cons_succ, List.setIfInBounds_toArray, List.set_cons_zero, List.set_cons_succ]
        cases oa with
        | false =>
          refine wpAnyH_take (i := 18) (v := undef) rfl (by kernel_rfl) (by kernel_rfl) (by kernel_rfl) (fun _ _ _ h => h) (Or.inr ⟨by rfl, rfl⟩) (by assumption) ?_
          simp only [Act.put, List.getElem_toArray, List.getElem_cons_zero, List.getElem_cons_succ, List.setIfInBounds_toArray, List.set_cons_zero, List.set_cons_succ]
          refine wpAnyH_take (i := 19) (v := ?_) rfl (by kernel_rfl) (by kernel_rfl) (by kernel_rfl) (fun _ _ _ h => h) (Or.inl ⟨by rfl, fun W hSw => ?_⟩) (by assumption) ?_
          rotate_left
          · (obtain ⟨q1, q2, q3, q4, q7⟩ := HW6.out W hSw); (try simp only [List.getElem_toArray, List.getElem_cons_zero, List.getElem_cons_succ]); go_simp; any_goals (with_reducible rfl)
          simp only [Act.put, List.getElem_toArray, List.getElem_cons_zero, List.getElem_cons_succ, List.setIfInBounds_toArray, List.set_cons_zero, List.set_cons_succ]
          refine wpAnyH_take (i := 20) (v := ?_) rfl (by kernel_rfl) (by kernel_rfl) (by kernel_rfl) (fun _ _ _ h => h) (Or.inl ⟨by rfl, fun W hSw => ?_⟩) (by assumption) ?_
          rotate_left
          · (obtain ⟨q1, q2, q3, q4, q7⟩ := HW6.out W hSw); (try simp only [List.getElem_toArray, List.getElem_cons_zero, List.getElem_cons_succ]); go_simp; any_goals (with_reducible rfl)
          simp only [Act.put, List.getElem_toArray, List.getElem_cons_zero, List.getElem_cons_succ, List.setIfInBounds_toArray, List.set_cons_zero, List.set_cons_succ]
          refine wpAnyH_take (i := 21) (v := undef) rfl (by kernel_rfl) (by kernel_rfl) (by kernel_rfl) (fun _ _ _ h => h) (Or.inr ⟨by rfl, rfl⟩) (by assumption) ?_
          simp only [Act.put, List.getElem_toArray, List.getElem_cons_zero, List.getElem_cons_succ, List.setIfInBounds_toArray, List.set_cons_zero, List.set_cons_succ]
          refine wpAnyH_take (i := 22) (v := ?_) rfl (by kernel_rfl) (by kernel_rfl) (by kernel_rfl) (fun _ _ _ h => h) (Or.inl ⟨by rfl, fun W hSw => ?_⟩) (by assumption) ?_
          rotate_left
          · (obtain ⟨q1, q2, q3, q4, q7⟩ := HW6.out W hSw); (try simp only [List.getElem_toArray, List.getElem_cons_zero, List.getElem_cons_succ]); go_simp; any_goals (with_reducible rfl)
          simp only [Act.put, List.getElem_toArray, List.getElem_cons_zero, List.getElem_cons_succ, List.setIfInBounds_toArray, List.set_cons_zero, List.set_cons_succ]
          refine wpAnyH_ready (rs := [23]) (by kernel_rfl) (by simp) ?_
          refine AllReadyH.cons rfl (fun K hK => ?_) AllReadyH.nil
          (try simp only [List.getElem_toArray, List.getElem_cons_zero, List.getElem_cons_succ])
          go_simp
          clear hHeld
          refine hK.out _ _ ?_ (fun hHeld => ?_)
          · refine Mod.drew (Mod.setCell (Mod.setCell (Mod.setCell (Mod.setCell (Mod.setCell (Mod.setCell (Mod.setCell (Mod.refl _ _) (.inl ?_) _) (.inl ?_) _) (.inl ?_) _) (.inl ?_) _) (.inl ?_) _) (.inl ?_) _) (.inl ?_) _) <;> exact rfl
          clear hK K
          (try simp only [Act.put, List.getElem_toArray, List.getElem_cons_zero, List.getElem_cons_succ, List.setIfInBounds_toArray, List.set_cons_zero, List.set_cons_succ])
          refine wpAnyH_take (i := 24) (v := ?_) rfl (by kernel_rfl) (by kernel_rfl) (by kernel_rfl) (fun _ _ _ h => h) (Or.inl ⟨by rfl, fun W hSw => ?_⟩) (by assumption) ?_
          rotate_left
          · (obtain ⟨q1, q2, q3, q4, q7⟩ := HW6.out W hSw); (try simp only [List.getElem_toArray, List.getElem_cons_zero, List.getElem_cons_succ]); go_simp; any_goals (with_reducible rfl)
          simp only [Act.put, List.getElem_toArray, List.getElem_cons_zero, List.getElem_cons_succ, List.setIfInBounds_toArray, List.set_cons_zero, List.set_cons_succ]
          refine wpAnyH_done (by kernel_rfl) ?_ _
          clear hHeld
          go_wp2_with fail
          refine bodyPost_ret (v := .tuple #[RecD.val ⟨va, ub, uc, ud, uf, vg, vh⟩, .bool false]) (by simp [results, Tryz.results30, go_sem, r0, r1, r2, r3, r4, r5, r6, fr, RecD.val]) rfl (HRES.out _ ?_)
          refine Mod.drew (Mod.setCell (Mod.setCell (Mod.setCell (Mod.setCell (Mod.setCell (Mod.setCell (Mod.setCell HM6.out (.inr ?_) _) (.inr ?_) _) (.inr ?_) _) (.inr ?_) _) (.inr ?_) _) (.inr ?_) _) (.inr ?_) _) <;> exact Nat.le_refl _
        | true =>
          refine wpAnyH_take (i := 18) (v := ?_) rfl (by kernel_rfl) (by kernel_rfl) (by kernel_rfl) (fun _ _ _ h => h) (Or.inl ⟨by rfl, fun W hSw => ?_⟩) (by assumption) ?_
          rotate_left
          · (obtain ⟨q1, q2, q3, q4, q7⟩ := HW6.out W hSw); (try simp only [List.getElem_toArray, List.getElem_cons_zero, List.getElem_cons_succ]); go_simp; any_goals (with_reducible rfl)
          simp only [Act.put, List.getElem_toArray, List.getElem_cons_zero, List.getElem_cons_succ, List.setIfInBounds_toArray, List.set_cons_zero, List.set_cons_succ]
          refine wpAnyH_take (i := 19) (v := ?_) rfl (by kernel_rfl) (by kernel_rfl) (by kernel_rfl) (fun _ _ _ h => h) (Or.inl ⟨by rfl, fun W hSw => ?_⟩) (by assumption) ?_
          rotate_left
          · (obtain ⟨q1, q2, q3, q4, q7⟩ := HW6.out W hSw); (try simp only [List.getElem_toArray, List.getElem_cons_zero, List.getElem_cons_succ]); go_simp; any_goals (with_reducible rfl)
          simp only [Act.put, List.getElem_toArray, List.getElem_cons_zero, List.getElem_cons_succ, List.setIfInBounds_toArray, List.set_cons_zero, List.set_cons_succ]
          refine wpAnyH_take (i := 20) (v := ?_) rfl (by kernel_rfl) (by kernel_rfl) (by kernel_rfl) (fun _ _ _ h => h) (Or.inl ⟨by rfl, fun W hSw => ?_⟩) (by assumption) ?_
          rotate_left
          · (obtain ⟨q1, q2, q3, q4, q7⟩ := HW6.out W hSw); (try simp only [List.getElem_toArray, List.getElem_cons_zero, List.getElem_cons_succ]); go_simp; any_goals (with_reducible rfl)
          simp only [Act.put, List.getElem_toArray, List.getElem_cons_zero, List.getElem_cons_succ, List.setIfInBounds_toArray, List.set_cons_zero, List.set_cons_succ]
          cases og with
          | false =>
            refine wpAnyH_take (i := 21) (v := undef) rfl (by kernel_rfl) (by kernel_rfl) (by kernel_rfl) (fun _ _ _ h => h) (Or.inr ⟨by rfl, rfl⟩) (by assumption) ?_
            simp only [Act.put, List.getElem_toArray, List.getElem_cons_zero, List.getElem_cons_succ, List.setIfInBounds_toArray, List.set_cons_zero, List.set_cons_succ]
            refine wpAnyH_take (i := 22) (v := ?_) rfl (by kernel_rfl) (by kernel_rfl) (by kernel_rfl) (fun _ _ _ h => h) (Or.inl ⟨by rfl, fun W hSw => ?_⟩) (by assumption) ?_
            rotate_left
            · (obtain ⟨q1, q2, q3, q4, q7⟩ := HW6.out W hSw); (try simp only [List.getElem_toArray, List.getElem_cons_zero, List.getElem_cons_succ]); go_simp; any_goals (with_reducible rfl)
            simp only [Act.put, List.getElem_toArray, List.getElem_cons_zero, List.getElem_cons_succ, List.setIfInBounds_toArray, List.set_cons_zero, List.set_cons_succ]
            refine wpAnyH_ready (rs := [23]) (by kernel_rfl) (by simp) ?_
            refine AllReadyH.cons rfl (fun K hK => ?_) AllReadyH.nil
            (try simp only [List.getElem_toArray, List.getElem_cons_zero, List.getElem_cons_succ])
            go_simp
            clear hHeld
            refine hK.out _ _ ?_ (fun hHeld => ?_)
            · refine Mod.drew (Mod.setCell (Mod.setCell (Mod.setCell (Mod.setCell (Mod.setCell (Mod.setCell (Mod.setCell (Mod.refl _ _) (.inl ?_) _) (.inl ?_) _) (.inl ?_) _) (.inl ?_) _) (.inl ?_) _) (.inl ?_) _) (.inl ?_) _) <;> exact rfl
            clear hK K
            (try simp only [Act.put, List.getElem_toArray, List.getElem_cons_zero, List.getElem_cons_succ, List.setIfInBounds_toArray, List.set_cons_zero, List.set_cons_succ])
            refine wpAnyH_take (i := 24) (v := ?_) rfl (by kernel_rfl) (by kernel_rfl) (by kernel_rfl) (fun _ _ _ h => h) (Or.inl ⟨by rfl, fun W hSw => ?_⟩) (by assumption) ?_
            rotate_left
            · (obtain ⟨q1, q2, q3, q4, q7⟩ := HW6.out W hSw); (try simp only [List.getElem_toArray, List.getElem_cons_zero, List.getElem_cons_succ]); go_simp; any_goals (with_reducible rfl)
            simp only [Act.put, List.getElem_toArray, List.getElem_cons_zero, List.getElem_cons_succ, List.setIfInBounds_toArray, List.set_cons_zero, List.set_cons_succ]
            refine wpAnyH_done (by kernel_rfl) ?_ _
            clear hHeld
            go_wp2_with fail
            refine bodyPost_ret (v := .tuple #[RecD.val ⟨va, ub, uc, ud, uf, vg, vh⟩, .bool false]) (by simp [results, Tryz.results30, go_sem, r0, r1, r2, r3, r4, r5, r6, fr, RecD.val]) rfl (HRES.out _ ?_)
            refine Mod.drew (Mod.setCell (Mod.setCell (Mod.setCell (Mod.setCell (Mod.setCell (Mod.setCell (Mod.setCell HM6.out (.inr ?_) _) (.inr ?_) _) (.inr ?_) _) (.inr ?_) _) (.inr ?_) _) (.inr ?_) _) (.inr ?_) _) <;> exact Nat.le_refl _
          | true =>
            refine wpAnyH_take (i := 21) (v := ?_) rfl (by kernel_rfl) (by kernel_rfl) (by kernel_rfl) (fun _ _ _ h => h) (Or.inl ⟨by rfl, fun W hSw => ?_⟩) (by assumption) ?_
            rotate_left
            · (obtain ⟨q1, q2, q3, q4, q7⟩ := HW6.out W hSw); (try simp only [List.getElem_toArray, List.getElem_cons_zero, List.getElem_cons_succ]); go_simp; any_goals (with_reducible rfl)
            simp only [Act.put, List.getElem_toArray, List.getElem_cons_zero, List.getElem_cons_succ, List.setIfInBounds_toArray, List.set_cons_zero, List.set_cons_succ]
            refine wpAnyH_take (i := 22) (v := ?_) rfl (by kernel_rfl) (by kernel_rfl) (by kernel_rfl) (fun _ _ _ h => h) (Or.inl ⟨by rfl, fun W hSw => ?_⟩) (by assumption) ?_
            rotate_left
            · (obtain ⟨q1, q2, q3, q4, q7⟩ := HW6.out W hSw); (try simp only [List.getElem_toArray, List.getElem_cons_zero, List.getElem_cons_succ]); go_simp; any_goals (with_reducible rfl)
            simp only [Act.put, List.getElem_toArray, List.getElem_cons_zero, List.getElem_cons_succ, List.setIfInBounds_toArray, List.set_cons_zero, List.set_cons_succ]
            refine wpAnyH_ready (rs := [23]) (by kernel_rfl) (by simp) ?_
            refine AllReadyH.cons rfl (fun K hK => ?_) AllReadyH.nil
            (try simp only [List.getElem_toArray, List.getElem_cons_zero, List.getElem_cons_succ])
            go_simp
            clear hHeld
            refine hK.out _ _ ?_ (fun hHeld => ?_)
            · refine Mod.drew (Mod.setCell (Mod.setCell (Mod.setCell (Mod.setCell (Mod.setCell (Mod.setCell (Mod.setCell (Mod.refl _ _) (.inl ?_) _) (.inl ?_) _) (.inl ?_) _) (.inl ?_) _) (.inl ?_) _) (.inl ?_) _) (.inl ?_) _) <;> exact rfl
            clear hK K
            (try simp only [Act.put, List.getElem_toArray, List.getElem_cons_zero, List.getElem_cons_succ, List.setIfInBounds_toArray, List.set_cons_zero, List.set_cons_succ])
            refine wpAnyH_take (i := 24) (v := ?_) rfl (by kernel_rfl) (by kernel_rfl) (by kernel_rfl) (fun _ _ _ h => h) (Or.inl ⟨by rfl, fun W hSw => ?_⟩) (by assumption) ?_
            rotate_left
            · (obtain ⟨q1, q2, q3, q4, q7⟩ := HW6.out W hSw); (try simp only [List.getElem_toArray, List.getElem_cons_zero, List.getElem_cons_succ]); go_simp; any_goals (with_reducible rfl)
            simp only [Act.put, List.getElem_toArray, List.getElem_cons_zero, List.getElem_cons_succ, List.setIfInBounds_toArray, List.set_cons_zero, List.set_cons_succ]
            refine wpAnyH_done (by kernel_rfl) ?_ _
            clear hHeld
            go_wp2_with fail
            refine bodyPost_ret (v := .tuple #[RecD.val ⟨va, ub, uc, ud, uf, vg, vh⟩, .bool oh]) (by simp [results, Tryz.results30, go_sem, r0, r1, r2, r3, r4, r5, r6, fr, RecD.val]) rfl (HRES.out _ ?_)
            refine Mod.drew (Mod.setCell (Mod.setCell (Mod.setCell (Mod.setCell (Mod.setCell (Mod.setCell (Mod.setCell HM6.out (.inr ?_) _) (.inr ?_) _) (.inr ?_) _) (.inr ?_) _) (.inr ?_) _) (.inr ?_) _) (.inr ?_) _) <;> exact Nat.le_refl _

end Go.Proofs.YtccffkdaalnfoaaGreatDoor
