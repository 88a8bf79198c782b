/- A limit's line, walked: the reference's. Conditions: the line is short; the library's variables lie as they should. -/
import Derived.Test.YtinnckbffblecaaGreatDoorRead3
import Derived.Test.YtinnckbffblecaaGreatDoorNum3
import Derived.Test.YtinnckbffblecaaGreatDoorRow
namespace Go.Proofs.YtinnckbffblecaaGreatDoor
open Go.RowKit
set_option linter.unusedVariables false
set_option linter.unusedSimpArgs false


/-- the captured list of what was read -/
def OutAt (w : World) (B bo : Nat) (acc : List Lim) : Prop :=
  B ≤ bo ∧ ∃ A n c, Blk w bo 26 #[.slice A n c] ∧ Own w B 38 5 Lim.enc A n c acc
theorem OutAt.new {w w' : World} {B bo : Nat} {acc : List Lim} (h : OutAt w B bo acc) (hm : New w w') : OutAt w' B bo acc := by
  obtain ⟨h0, A, n, c, h1, h2⟩ := h
  exact ⟨h0, A, n, c, h1.mod hm (fun e => e), h2.new hm⟩
def RTake (line : ByteArray) (w : World) (B bo : Nat) (acc : List Lim) (e : Ending) (w' : World) : Prop :=
  e = .returned (.bool (takeL line).isSome) ∧ Mod (fun k => B ≤ k) w w' ∧ ∀ x, takeL line = some x → OutAt w' B bo (acc ++ [x])
theorem RTake.none {line : ByteArray} {w w' : World} {B bo : Nat} {acc : List Lim} (h : takeL line = none) (hm : Mod (fun k => B ≤ k) w w') : RTake line w B bo acc (.returned (.bool false)) w' :=
  ⟨by rw [h]; rfl, hm, (fun x hx => by rw [h] at hx; cases hx)⟩
theorem Mod.back {B : Nat} {w w' : World} (h : New w w') : Mod (fun k => B ≤ k) w w' := h.mono (fun _ _ e => e.elim)

set_option maxRecDepth 100000 in
set_option maxHeartbeats 4000000 in
theorem ref_take (line : ByteArray) (w : World) (B bo : Nat) (acc : List Lim) (hs : line.size ≤ 1000000) (hx : MaxLn w) (hT : Pow10 w) (hO : OutAt w B bo acc) (hacc : acc.length ≤ 1000) (hB : B ≤ w.heap.size) :
    Calls Tryz.prog 32 #[.string line, .pointer (some ⟨bo, 0, none⟩)] w (RTake line w B bo acc) := by
  have hsp := split_any line 32 w hs hx
  have hle := fun x (h : x ∈ pieces line sp) => Nat.le_trans (pieces_le h) hs
  have HTL : Hid (takeL line = takeW (pieces line sp)) := Lib.hid rfl
  generalize pieces line sp = P at *
  have HLE := Lib.hid hle
  have HT := Lib.hid hT
  have HO := Lib.hid hO
  clear hle hx hT hO
  by_cases hl5 : P.length ≠ 5
  · have HN : Hid (takeL line = none) := Lib.hid (by rw [HTL.out]; exact takeW_length hl5)
    have hlen : ((P.length : Int) != 5) = true := by simp; omega
    clear hl5
    go_enter Tryz.func32, Tryz.ntmps32
    go_wp2_with fail
    refine hsp.mono ?_
    clear hsp
    rintro e w1 ⟨rfl, hw1⟩
    have hm1 : New w w1 := by rw [hw1]; exact (Mod.refl _ _).alloc _
    clear hw1
    go_wp2_with fail
    go_ret
    exact RTake.none HN.out (Mod.back hm1)
  · have hl : P.length = 5 := by omega
    obtain ⟨a, b, c, d, f, rfl⟩ : ∃ a b c d f, P = [a, b, c, d, f] := by
      match P, hl with
      | [a, b, c, d, f], _ => exact ⟨a, b, c, d, f, rfl⟩
    simp only [List.length_cons, List.length_nil] at hsp
    have hb1 := Blk.new w 9 (strCs [a, b, c, d, f])
    have hm1 : New w (w.alloc (.cells (strCs [a, b, c, d, f]) 9)) := (Mod.refl _ _).alloc _
    have HTW : Hid (takeL line = if a ≠ ⟨#[]⟩ ∧ 0 ≤ kindIx b ∧ numOk c = true ∧ numOk d = true ∧ numOk f = true then some ⟨a, kindIx b + 1, numV c, numV d, numV f⟩ else none) := Lib.hid (by
      rw [HTL.out, takeW_five])
    generalize hw1 : w.alloc (.cells (strCs [a, b, c, d, f]) 9) = w1 at *
    clear hw1
    have HM1 := Lib.hid hm1
    have hwc : ∀ W, New w1 W → W.cell? ⟨w.heap.size, 0, none⟩ = some (.string a) ∧ W.cell? ⟨w.heap.size, 1, none⟩ = some (.string b) ∧ W.cell? ⟨w.heap.size, 2, none⟩ = some (.string c) ∧ W.cell? ⟨w.heap.size, 3, none⟩ = some (.string d) ∧ W.cell? ⟨w.heap.size, 4, none⟩ = some (.string f) ∧ w.heap.size < W.heap.size := fun W hW => by
      have hb := hb1.mod hW (fun e => e)
      exact ⟨(hb.cell 0).trans rfl, (hb.cell 1).trans rfl, (hb.cell 2).trans rfl, (hb.cell 3).trans rfl, (hb.cell 4).trans rfl, hb.lt⟩
    have HWC := Lib.hid hwc
    have HB1 := Lib.hid hb1
    obtain ⟨k0, k1, k2, k3, k4, hwl⟩ := hwc w1 (Mod.refl _ _)
    clear hl5 hl HTL hm1 hwc hb1
    by_cases ha : a = ⟨#[]⟩
    · have ha' : (a.toList == []) = true := by rw [str_nil]; simpa using ha
      have HN : Hid (takeL line = none) := Lib.hid (by rw [HTW.out, if_neg]; rintro ⟨h1, _⟩; exact h1 ha)
      clear ha
      go_enter Tryz.func32, Tryz.ntmps32
      go_wp2_with fail
      refine hsp.mono ?_
      clear hsp
      rintro e w2 ⟨rfl, rfl⟩
      go_wp2_with fail
      go_ret
      exact RTake.none HN.out (Mod.back HM1.out)
    · have ha' : (a.toList == []) = false := by rw [str_nil]; simpa using ha
      have HTW2 : Hid (takeL line = if 0 ≤ kindIx b ∧ numOk c = true ∧ numOk d = true ∧ numOk f = true then some ⟨a, kindIx b + 1, numV c, numV d, numV f⟩ else none) := Lib.hid (by
        rw [HTW.out]; simp only [ha, ne_eq, not_false_eq_true, true_and])
      have hnc := fun W (hW : New w W) => ref_number c W (HLE.out c (by simp)) (HT.out.new hW)
      have hnd := fun W (hW : New w W) => ref_number d W (HLE.out d (by simp)) (HT.out.new hW)
      have hnf := fun W (hW : New w W) => ref_number f W (HLE.out f (by simp)) (HT.out.new hW)
      clear ha HTW
      go_enter Tryz.func32, Tryz.ntmps32
      go_wp2_with fail
      refine hsp.mono ?_
      clear hsp
      rintro e w2 ⟨rfl, rfl⟩
      have hbk := Blk.new w2 9 (strCs kinds4)
      have hix := Tryz.slices_Index_string w2.heap.size 0 4 4 kinds4 b (w2.alloc (.cells (strCs kinds4) 9)) (by decide) (by omega) (fun j hj => by rw [Nat.zero_add]; exact strs_at hbk j hj)
      rw [List.take_of_length_le (by decide)] at hix
      have hm3 : New w2 (w2.alloc (.cells (strCs kinds4) 9)) := (Mod.refl _ _).alloc _
      unfold strCs kinds4 at hix hm3
      simp only [List.map_cons, List.map_nil] at hix hm3
      have hkk : Lib.idxOfS [⟨#[119, 105, 110, 100, 111, 119]⟩, ⟨#[115, 108, 105, 100, 105, 110, 103]⟩, ⟨#[98, 117, 99, 107, 101, 116]⟩, ⟨#[111, 110, 99, 101]⟩] b = kindIx b := rfl
      rw [hkk] at hix
      clear hkk hbk
      go_wp2_with fail
      refine hix.mono ?_
      clear hix
      rintro e w3 ⟨rfl, rfl⟩
      generalize w2.alloc (.cells #[.string ⟨#[119, 105, 110, 100, 111, 119]⟩, .string ⟨#[115, 108, 105, 100, 105, 110, 103]⟩, .string ⟨#[98, 117, 99, 107, 101, 116]⟩, .string ⟨#[111, 110, 99, 101]⟩] 9) = w3 at *
      have HIX : Hid (-1 ≤ kindIx b ∧ kindIx b < 5) := Lib.hid (by
        rcases idxFromS_succ kinds4 b 0 with ⟨h1, _⟩ | ⟨h1, _⟩
        · have : kindIx b = -1 := h1
          omega
        · refine ⟨by have : 0 ≤ kindIx b := h1; omega, ?_⟩
          have h0 : 0 ≤ kindIx b := h1
          rw [kindIx, Lib.idxOfS_nonneg_iff] at h0
          unfold kinds4 at h0
          simp only [List.mem_cons, List.not_mem_nil, or_false] at h0
          rcases h0 with rfl | rfl | rfl | rfl <;> decide)
      generalize hki : kindIx b = kx at *
      clear hki
      go_upto_region 6 with (fail)
      have hb4 := Blk.new w3 70 #[.int .i64 0, .int .i64 0, .int .i64 0]
      have hm4 : New w2 (w3.alloc (.cells #[.int .i64 0, .int .i64 0, .int .i64 0] 70)) := hm3.alloc _
      generalize w3.alloc (.cells #[.int .i64 0, .int .i64 0, .int .i64 0] 70) = w4 at *
      have hnb : w2.heap.size ≤ w3.heap.size := hm3.size
      generalize w3.heap.size = nb at *
      have HB4 := Lib.hid hb4
      have HM4 := Lib.hid hm4
      clear hb4 hm4 hm3 k0 k1 k2 k3 k4
      go_wp2_with fail
      go_loopw [25] (fun i wr => ∃ (j : Nat) (v0 v1 v2 : Int), j ≤ 3 ∧ i = .int .i64 j ∧ Hid (Blk wr nb 70 #[.int .i64 v0, .int .i64 v1, .int .i64 v2]) ∧ Hid (1 ≤ j → numOk c = true ∧ v0 = numV c) ∧ Hid (2 ≤ j → numOk d = true ∧ v1 = numV d) ∧ Hid (3 ≤ j → numOk f = true ∧ v2 = numV f) ∧ Hid (Mod (fun x => x = nb) w4 wr)) (fun i _ => 3 - (intOf i).toNat)
      case atStart => exact ⟨0, 0, 0, 0, by omega, rfl, HB4, Lib.hid (fun h => by omega), Lib.hid (fun h => by omega), Lib.hid (fun h => by omega), Lib.hid (Mod.refl _ _)⟩
      case round =>
        rename World => wr
        obtain ⟨j, v0, v1, v2, hj, rfl, HB, H0, H1, H2, HMR⟩ := hrel
        have hNR : New w2 wr := HM4.out.step HMR.out (fun i hi e => by omega)
        have HNR := Lib.hid hNR
        obtain ⟨k0, k1, k2, k3, k4, hwl⟩ := HWC.out wr hNR
        clear hNR
        by_cases hlt : j < 3
        · obtain rfl | rfl | rfl : j = 0 ∨ j = 1 ∨ j = 2 := by omega
          · go_wp2_with fail
            refine (hnc wr (HM1.out.trans HNR.out)).mono ?_
            rintro e w6 ⟨v, rfl, hv, hm6⟩
            have B6 := HB.out.mod hm6 (fun e => e)
            have f6 := B6.frozen
            have g0 := B6.cell 0
            have g1 := B6.cell 1
            have g2 := B6.cell 2
            have hl6 := B6.lt
            simp at g0 g1 g2
            have HMW : Hid (Mod (fun x => x = nb) w4 w6) := Lib.hid (HMR.out.step hm6 (fun i _ e => e.elim))
            have HN6 : Hid (New w w6) := Lib.hid ((HM1.out.trans HNR.out).trans hm6)
            cases hok : numOk c with
            | false =>
              have HNN : Hid (takeL line = none) := Lib.hid (by rw [HTW2.out, hok]; simp)
              rw [hok] at hv
              clear hok hv
              go_wp2_with fail
              go_ret
              exact RTake.none HNN.out (Mod.back (HN6.out.step (Only.cell1' _ _ _ _) (fun i hi e => by have := HM1.out.size; omega)))
            | true =>
            have HOKV : Hid (numOk c = true ∧ v = numV c) := Lib.hid ⟨hok, hv hok⟩
            clear hok hv
            go_wp2_with fail
            exact ⟨⟨1, v, v1, v2, by omega, by go_num, Lib.hid (by simpa using B6.set 0 (.int .i64 v)), Lib.hid (fun _ => ⟨HOKV.out.1, HOKV.out.2⟩), Lib.hid (fun h => by omega), Lib.hid (fun h => by omega), Lib.hid (Mod.setCell HMW.out (.inl rfl) _)⟩, by simp [intOf]⟩
          · go_wp2_with fail
            refine (hnd wr (HM1.out.trans HNR.out)).mono ?_
            rintro e w6 ⟨v, rfl, hv, hm6⟩
            have B6 := HB.out.mod hm6 (fun e => e)
            have f6 := B6.frozen
            have g0 := B6.cell 0
            have g1 := B6.cell 1
            have g2 := B6.cell 2
            have hl6 := B6.lt
            simp at g0 g1 g2
            have HMW : Hid (Mod (fun x => x = nb) w4 w6) := Lib.hid (HMR.out.step hm6 (fun i _ e => e.elim))
            have HN6 : Hid (New w w6) := Lib.hid ((HM1.out.trans HNR.out).trans hm6)
            cases hok : numOk d with
            | false =>
              have HNN : Hid (takeL line = none) := Lib.hid (by rw [HTW2.out, hok]; simp)
              rw [hok] at hv
              clear hok hv
              go_wp2_with fail
              go_ret
              exact RTake.none HNN.out (Mod.back (HN6.out.step (Only.cell1' _ _ _ _) (fun i hi e => by have := HM1.out.size; omega)))
            | true =>
            have HOKV : Hid (numOk d = true ∧ v = numV d) := Lib.hid ⟨hok, hv hok⟩
            clear hok hv
            go_wp2_with fail
            exact ⟨⟨2, v0, v, v2, by omega, by go_num, Lib.hid (by simpa using B6.set 1 (.int .i64 v)), Lib.hid (fun _ => H0.out (by omega)), Lib.hid (fun _ => ⟨HOKV.out.1, HOKV.out.2⟩), Lib.hid (fun h => by omega), Lib.hid (Mod.setCell HMW.out (.inl rfl) _)⟩, by simp [intOf]⟩
          · go_wp2_with fail
            refine (hnf wr (HM1.out.trans HNR.out)).mono ?_
            rintro e w6 ⟨v, rfl, hv, hm6⟩
            have B6 := HB.out.mod hm6 (fun e => e)
            have f6 := B6.frozen
            have g0 := B6.cell 0
            have g1 := B6.cell 1
            have g2 := B6.cell 2
            have hl6 := B6.lt
            simp at g0 g1 g2
            have HMW : Hid (Mod (fun x => x = nb) w4 w6) := Lib.hid (HMR.out.step hm6 (fun i _ e => e.elim))
            have HN6 : Hid (New w w6) := Lib.hid ((HM1.out.trans HNR.out).trans hm6)
            cases hok : numOk f with
            | false =>
              have HNN : Hid (takeL line = none) := Lib.hid (by rw [HTW2.out, hok]; simp)
              rw [hok] at hv
              clear hok hv
              go_wp2_with fail
              go_ret
              exact RTake.none HNN.out (Mod.back (HN6.out.step (Only.cell1' _ _ _ _) (fun i hi e => by have := HM1.out.size; omega)))
            | true =>
            have HOKV : Hid (numOk f = true ∧ v = numV f) := Lib.hid ⟨hok, hv hok⟩
            clear hok hv
            go_wp2_with fail
            exact ⟨⟨3, v0, v1, v, by omega, by go_num, Lib.hid (by simpa using B6.set 2 (.int .i64 v)), Lib.hid (fun _ => H0.out (by omega)), Lib.hid (fun _ => H1.out (by omega)), Lib.hid (fun _ => ⟨HOKV.out.1, HOKV.out.2⟩), Lib.hid (Mod.setCell HMW.out (.inl rfl) _)⟩, by simp [intOf]⟩
        · obtain rfl : j = 3 := by omega
          obtain ⟨q0, rfl⟩ := H0.out (by omega)
          obtain ⟨q1, rfl⟩ := H1.out (by omega)
          obtain ⟨q2, rfl⟩ := H2.out (by omega)
          have HTW3 : Hid (takeL line = if 0 ≤ kx then some ⟨a, kx + 1, numV c, numV d, numV f⟩ else none) := Lib.hid (by
            rw [HTW2.out]
            simp only [q0, q1, q2, and_true])
          have HNW : Hid (New w wr) := Lib.hid (HM1.out.trans HNR.out)
          have ho := HO.out.new HNW.out
          obtain ⟨hBbo, Ao, no, co, hbo, hoo⟩ := ho
          have hcell : ∀ W, New wr W → W.cell? ⟨bo, 0, none⟩ = some (.slice Ao no co) ∧ W.cell? ⟨w.heap.size, 0, none⟩ = some (.string a) ∧ W.cell? ⟨nb, 0, none⟩ = some (.int .i64 (numV c)) ∧ W.cell? ⟨nb, 1, none⟩ = some (.int .i64 (numV d)) ∧ W.cell? ⟨nb, 2, none⟩ = some (.int .i64 (numV f)) ∧ bo < W.heap.size ∧ w.heap.size < W.heap.size ∧ nb < W.heap.size := fun W hW => by
            have h1 := hbo.mod hW (fun e => e)
            have h2 := HWC.out W (HNR.out.trans hW)
            have h3 := HB.out.mod hW (fun e => e)
            exact ⟨(h1.cell 0).trans rfl, h2.1, (h3.cell 0).trans rfl, (h3.cell 1).trans rfl, (h3.cell 2).trans rfl, h1.lt, h2.2.2.2.2.2, h3.lt⟩
          have HCE := Lib.hid hcell
          have HBO := Lib.hid hbo
          have HOO := Lib.hid hoo
          have hno : no ≤ 1000 := by have := hoo.1; omega
          have hwr : IntKind.i64.wrap (kx + 1) = kx + 1 := IntWalk.i64_in _ (by have := HIX.out; omega)
          clear hcell hbo hoo k0 k1 k2 k3 k4 hwl q0 q1 q2
          go_upto_region 14 with (fail)
          refine wp_region_held_ord (fun W => W.cell? ⟨bo, 0, none⟩ = some (.slice Ao no co) ∧ W.cell? ⟨w.heap.size, 0, none⟩ = some (.string a) ∧ W.cell? ⟨nb, 0, none⟩ = some (.int .i64 (numV c)) ∧ W.cell? ⟨nb, 1, none⟩ = some (.int .i64 (numV d)) ∧ W.cell? ⟨nb, 2, none⟩ = some (.int .i64 (numV f)) ∧ bo < W.heap.size ∧ w.heap.size < W.heap.size ∧ nb < W.heap.size) [13, 14] [0, 1, 2, 3, 4, 5, 6, 7, 8, 9, 10, 11, 12, 13, 14] (by kernel_rfl) (by kernel_rfl) (fun _ _ d _ _ h => by cases d <;> exact h) ?_ (fun hHeld => ?_)
          · exact HCE.out _ ((Mod.refl _ _).drew)
          simp only [List.length_cons, List.length_nil, List.drop_succ_cons, List.drop_zero]
          refine heldO_take ?_ (by rfl) (by rfl) (by rfl) (fun w hSw => ?_) ?_
          rotate_left
          · (try dsimp only at hSw); go_simp; any_goals (with_reducible rfl)
          simp only [Act.put, List.setIfInBounds_toArray, List.set_cons_zero, List.set_cons_succ]
          refine heldO_take ?_ (by rfl) (by rfl) (by rfl) (fun w hSw => ?_) ?_
          rotate_left
          · (try dsimp only at hSw); go_simp; any_goals (with_reducible rfl)
          simp only [Act.put, List.setIfInBounds_toArray, List.set_cons_zero, List.set_cons_succ]
          refine heldO_take ?_ (by rfl) (by rfl) (by rfl) (fun w hSw => ?_) ?_
          rotate_left
          · (try dsimp only at hSw); go_simp; any_goals (with_reducible rfl)
          simp only [Act.put, List.setIfInBounds_toArray, List.set_cons_zero, List.set_cons_succ]
          refine heldO_take ?_ (by rfl) (by rfl) (by rfl) (fun w hSw => ?_) ?_
          rotate_left
          · (try dsimp only at hSw); go_simp; any_goals (with_reducible rfl)
          simp only [Act.put, List.setIfInBounds_toArray, List.set_cons_zero, List.set_cons_succ]
          refine heldO_take ?_ (by rfl) (by rfl) (by rfl) (fun w hSw => ?_) ?_
          rotate_left
          · (try dsimp only at hSw); go_simp; any_goals (with_reducible rfl)
          simp only [Act.put, List.setIfInBounds_toArray, List.set_cons_zero, List.set_cons_succ]
          refine heldO_take ?_ (by rfl) (by rfl) (by rfl) (fun w hSw => ?_) ?_
          rotate_left
          · (try dsimp only at hSw); go_simp; any_goals (with_reducible rfl)
          simp only [Act.put, List.setIfInBounds_toArray, List.set_cons_zero, List.set_cons_succ]
          refine heldO_take ?_ (by rfl) (by rfl) (by rfl) (fun w hSw => ?_) ?_
          rotate_left
          · (try dsimp only at hSw); go_simp; any_goals (with_reducible rfl)
          simp only [Act.put, List.setIfInBounds_toArray, List.set_cons_zero, List.set_cons_succ]
          refine heldO_take ?_ (by rfl) (by rfl) (by rfl) (fun w hSw => ?_) ?_
          rotate_left
          · (try dsimp only at hSw); go_simp; any_goals (with_reducible rfl)
          simp only [Act.put, List.setIfInBounds_toArray, List.set_cons_zero, List.set_cons_succ]
          refine heldO_take ?_ (by rfl) (by rfl) (by rfl) (fun w hSw => ?_) ?_
          rotate_left
          · (try dsimp only at hSw); go_simp; any_goals (with_reducible rfl)
          simp only [Act.put, List.setIfInBounds_toArray, List.set_cons_zero, List.set_cons_succ]
          refine heldO_take ?_ (by rfl) (by rfl) (by rfl) (fun w hSw => ?_) ?_
          rotate_left
          · (try dsimp only at hSw); go_simp; any_goals (with_reducible rfl)
          simp only [Act.put, List.setIfInBounds_toArray, List.set_cons_zero, List.set_cons_succ]
          refine heldO_take ?_ (by rfl) (by rfl) (by rfl) (fun w hSw => ?_) ?_
          rotate_left
          · (try dsimp only at hSw); go_simp; any_goals (with_reducible rfl)
          simp only [Act.put, List.setIfInBounds_toArray, List.set_cons_zero, List.set_cons_succ]
          refine heldO_take ?_ (by rfl) (by rfl) (by rfl) (fun w hSw => ?_) ?_
          rotate_left
          · (try dsimp only at hSw); go_simp; any_goals (with_reducible rfl)
          simp only [Act.put, List.setIfInBounds_toArray, List.set_cons_zero, List.set_cons_succ]
          refine heldO_take ?_ (by rfl) (by rfl) (by rfl) (fun w hSw => ?_) ?_
          rotate_left
          · (try dsimp only at hSw); go_simp; any_goals (with_reducible rfl)
          simp only [Act.put, List.setIfInBounds_toArray, List.set_cons_zero, List.set_cons_succ]
          refine heldO_step (by rfl) (by rfl) (by rfl) (fun K hK => ?_)
          go_simp
          have m6 : New wr ((wr.drewN 1).alloc (.cells #[.string a, .int .i64 (kx + 1), .int .i64 (numV c), .int .i64 (numV d), .int .i64 (numV f)] 38)) := ((Mod.refl _ wr).drewN 1).alloc _
          refine hK.out _ _ (HCE.out _ m6) (fun hHeld => ?_)
          clear hK K hHeld
          try simp only [Act.put, List.setIfInBounds_toArray, List.set_cons_zero, List.set_cons_succ]
          have own6 := HOO.out.new m6
          have blk6 : Blk ((wr.drewN 1).alloc (.cells #[.string a, .int .i64 (kx + 1), .int .i64 (numV c), .int .i64 (numV d), .int .i64 (numV f)] 38)) wr.heap.size 38 (encL 5 Lim.enc ⟨a, kx + 1, numV c, numV d, numV f⟩).toArray := Blk.new (wr.drewN 1) _ _
          have HZ : Hid (B ≤ ((wr.drewN 1).alloc (.cells #[.string a, .int .i64 (kx + 1), .int .i64 (numV c), .int .i64 (numV d), .int .i64 (numV f)] 38)).heap.size) := Lib.hid (by have := HNW.out.size; simp; omega)
          refine heldO_step (by rfl) (by rfl) (by rfl) (fun K hK => ?_)
          refine wp_push (.tmp 42) (.tmp 55) _ rfl 48 Tryz.underlying26 einfo_lim rfl (by exact own6) ⟨a, kx + 1, numV c, numV d, numV f⟩ wr.heap.size rfl (by exact blk6) (fun j hj => Lim.one _ j hj) (by omega) (by omega) HZ.out ?_
          intro g9 cap9 w9 own9 hm9 hat9 hlt9
          have hrow : ∀ x, blkOf Ao = some x → TB ((wr.drewN 1).alloc (.cells #[.string a, .int .i64 (kx + 1), .int .i64 (numV c), .int .i64 (numV d), .int .i64 (numV f)] 38)) x 38 ∧ B ≤ x := fun x hx => by
            rcases own6.blk with ⟨h1, _⟩ | ⟨g', h1, h2, ht⟩
            · rw [h1] at hx; cases hx
            · rw [h1] at hx; injection hx with hx; simp only at hx; subst hx; exact ⟨ht, h2⟩
          have bo6 := HBO.out.mod m6 (fun e => e)
          have bo9 := bo6.mod hm9 (fun e => bo6.tb.ne (hrow _ e).1 (by decide) rfl)
          have bw6 := HB1.out.mod (HNR.out.trans m6) (fun e => e)
          have bw9 := bw6.mod hm9 (fun e => bw6.tb.ne (hrow _ e).1 (by decide) rfl)
          have bn6 := HB.out.mod m6 (fun e => e)
          have bn9 := bn6.mod hm9 (fun e => bn6.tb.ne (hrow _ e).1 (by decide) rfl)
          have HM9 : Hid (Mod (fun k => B ≤ k) w w9) := Lib.hid ((Mod.back (HNW.out.trans m6)).step hm9 (fun i _ e => (hrow i e).2))
          refine hK.out _ _ ⟨(bo9.cell 0).trans rfl, (bw9.cell 0).trans rfl, (bn9.cell 0).trans rfl, (bn9.cell 1).trans rfl, (bn9.cell 2).trans rfl, bo9.lt, bw9.lt, bn9.lt⟩ (fun hHeld => ?_)
          clear hK K hHeld
          try simp only [Act.put, List.setIfInBounds_toArray, List.set_cons_zero, List.set_cons_succ]
          refine heldO_nil ?_
          have HOUT : Hid (OutAt (w9.setCell ⟨bo, 0, none⟩ (.slice (some ⟨g9, 0, none⟩) (no + 1) cap9)) B bo (acc ++ [⟨a, kx + 1, numV c, numV d, numV f⟩])) := Lib.hid ⟨hBbo, some ⟨g9, 0, none⟩, no + 1, cap9, by simpa using bo9.set 0 (.slice (some ⟨g9, 0, none⟩) (no + 1) cap9), own9.mod (Only.cell1' w9 bo 0 _) (fun x hx e => by
            rcases own9.blk with ⟨h1, _⟩ | ⟨g', h1, _, ht⟩
            · rw [h1] at hx; cases hx
            · rw [h1] at hx; injection hx with hx; simp only at hx; exact ht.ne bo9.tb (by decide) (by rw [← hx] at e; exact e))⟩
          have HMS : Hid (Mod (fun k => B ≤ k) w (w9.setCell ⟨bo, 0, none⟩ (.slice (some ⟨g9, 0, none⟩) (no + 1) cap9))) := Lib.hid (Mod.setCell HM9.out (.inl hBbo) _)
          have fo := bo9.frozen 0
          have co9 := bo9.cell 0
          have lo9 := bo9.lt
          simp at co9
          clear own6 blk6 bo6 bo9 bw6 bw9 bn6 bn9 hm9 hat9 own9 hrow m6 HZ
          go_wp2_with fail
          go_ret
          refine ⟨ret_bool ?_, HMS.out, fun x hx => ?_⟩
          · rw [HTW3.out]
            by_cases h : 0 ≤ kx
            · rw [if_pos h]; simpa using h
            · rw [if_neg h]; simpa using h
          · rw [HTW3.out] at hx
            by_cases h : 0 ≤ kx
            · rw [if_pos h] at hx; injection hx with hx; subst hx; exact HOUT.out
            · rw [if_neg h] at hx; cases hx

end Go.Proofs.YtinnckbffblecaaGreatDoor
