/- A record's line, walked: the reference's. Conditions: the line is short; the library's variables lie as they should. -/
import Derived.Test.YtccffkdaalnfoaaGreatDoorRec9
import Derived.Test.YtccffkdaalnfoaaGreatDoorRow
namespace Go.Proofs.YtccffkdaalnfoaaGreatDoor
open Go.RowKit
set_option linter.unusedVariables false
set_option linter.unusedSimpArgs false


theorem Only.cell1' (w : World) (g i : Nat) (u : Value) : Only g w (w.setCell ⟨g, i, none⟩ u) := Mod.setCell (S := fun k => k = g) (p := ⟨g, i, none⟩) (Mod.refl _ _) (.inl rfl) u
/-- the captured list of what was read -/
def ROutAt (w : World) (B bo : Nat) (acc : List RecD) : Prop :=
  B ≤ bo ∧ ∃ A n c, Blk w bo 26 #[.slice A n c] ∧ Own w B 39 7 RecD.enc A n c acc
theorem ROutAt.new {w w' : World} {B bo : Nat} {acc : List RecD} (h : ROutAt w B bo acc) (hm : New w w') : ROutAt w' B bo acc := by
  obtain ⟨h0, A, n, c, h1, h2⟩ := h
  exact ⟨h0, A, n, c, h1.mod hm (fun e => e), h2.new hm⟩
def RRecTake (line : ByteArray) (w : World) (B bo : Nat) (acc : List RecD) (e : Ending) (w' : World) : Prop :=
  e = .returned (.bool (takeR line).isSome) ∧ Mod (fun k => B ≤ k) w w' ∧ ∀ x, takeR line = some x → ROutAt w' B bo (acc ++ [x])
theorem RRecTake.none {line : ByteArray} {w w' : World} {B bo : Nat} {acc : List RecD} (h : takeR line = none) (hm : Mod (fun k => B ≤ k) w w') : RRecTake line w B bo acc (.returned (.bool false)) w' :=
  ⟨by rw [h]; rfl, hm, (fun x hx => by rw [h] at hx; cases hx)⟩
theorem Mod.back {B : Nat} {w w' : World} (h : New w w') : Mod (fun k => B ≤ k) w w' := h.mono (fun _ _ e => e.elim)

set_option maxRecDepth 100000 in
set_option maxHeartbeats 4000000 in
theorem ref_takeR (line : ByteArray) (w : World) (B bo : Nat) (acc : List RecD) (hs : line.size ≤ 1000000) (hx : MaxLn w) (hT : Pow10 w) (hO : ROutAt w B bo acc) (hacc : acc.length ≤ 100000) (hB : B ≤ w.heap.size) :
    Calls Tryz.prog 32 #[.string line, .pointer (some ⟨bo, 0, none⟩)] w (RRecTake line w B bo acc) := by
  have hsp := split_any line 32 w hs hx
  have hle := fun x (h : x ∈ pieces line sp) => Nat.le_trans (pieces_le h) hs
  have HTL : Hid (takeR line = takeRW (pieces line sp)) := Lib.hid rfl
  generalize pieces line sp = P at *
  have HLE := Lib.hid hle
  have HT := Lib.hid hT
  have HO := Lib.hid hO
  clear hle hx hT hO
  by_cases hl7 : P.length ≠ 7
  · have HN : Hid (takeR line = none) := Lib.hid (by rw [HTL.out]; exact takeRW_length hl7)
    have hlen : ((P.length : Int) != 7) = true := by simp; omega
    clear hl7
    go_enter Tryz.func32, Tryz.ntmps32
    go_wp2_with fail
    refine hsp.mono ?_
    clear hsp
    rintro e w1 ⟨rfl, hw1⟩
    have hm1 : New w w1 := by rw [hw1]; exact (Mod.refl _ _).alloc _
    clear hw1
    go_wp2_with fail
    go_ret
    exact RRecTake.none HN.out (Mod.back hm1)
  · have hl : P.length = 7 := by omega
    obtain ⟨a, b, c, d, f, g, h, rfl⟩ : ∃ a b c d f g h, P = [a, b, c, d, f, g, h] := by
      match P, hl with
      | [a, b, c, d, f, g, h], _ => exact ⟨a, b, c, d, f, g, h, rfl⟩
    simp only [List.length_cons, List.length_nil] at hsp
    have hb1 := Blk.new w 9 (strCs [a, b, c, d, f, g, h])
    have hm1 : New w (w.alloc (.cells (strCs [a, b, c, d, f, g, h]) 9)) := (Mod.refl _ _).alloc _
    have hct := Tryz.slices_Contains_string w.heap.size 0 7 7 [a, b, c, d, f, g, h] ⟨#[]⟩ (w.alloc (.cells (strCs [a, b, c, d, f, g, h]) 9)) (Nat.le_refl _) (by omega) (fun j hj => by rw [Nat.zero_add]; exact strs_at hb1 j hj)
    have htk : List.take 7 [a, b, c, d, f, g, h] = [a, b, c, d, f, g, h] := rfl
    rw [htk] at hct
    clear htk
    have hz1 : (w.alloc (.cells (strCs [a, b, c, d, f, g, h]) 9)).heap.size = w.heap.size + 1 := by simp
    generalize hw1 : w.alloc (.cells (strCs [a, b, c, d, f, g, h]) 9) = w1 at *
    clear hw1 hl7 hl
    have HM1 := Lib.hid hm1
    have HB1 := Lib.hid hb1
    have HZ1 := Lib.hid hz1
    clear hm1 hb1 hz1
    cases hc : Lib.containsS [a, b, c, d, f, g, h] ⟨#[]⟩ with
    | true =>
      have HN : Hid (takeR line = none) := Lib.hid (by rw [HTL.out]; exact takeRW_empty ((Lib.containsS_iff _ _).1 hc))
      rw [hc] at hct
      clear hc
      go_enter Tryz.func32, Tryz.ntmps32
      go_wp2_with fail
      refine hsp.mono ?_
      clear hsp
      rintro e w2 ⟨rfl, rfl⟩
      go_wp2_with fail
      refine hct.mono ?_
      clear hct
      rintro e w3 ⟨rfl, rfl⟩
      go_wp2_with fail
      go_ret
      exact RRecTake.none HN.out (Mod.back HM1.out)
    | false =>
      have hni : (⟨#[]⟩ : ByteArray) ∉ [a, b, c, d, f, g, h] := fun h => by
        rw [(Lib.containsS_iff _ _).2 h] at hc; cases hc
      have hbne : b ≠ ⟨#[]⟩ := fun e => hni (by simp [e])
      have hcne : c ≠ ⟨#[]⟩ := fun e => hni (by simp [e])
      have hdne : d ≠ ⟨#[]⟩ := fun e => hni (by simp [e])
      have hfne : f ≠ ⟨#[]⟩ := fun e => hni (by simp [e])
      have HTW : Hid (takeR line = if numOk 15 a = true ∧ numOk 15 g = true ∧ numOk 15 h = true then some ⟨numV a, undash b, undash c, undash d, undash f, numV g, numV h⟩ else none) := Lib.hid (by
        rw [HTL.out, takeRW_seven]
        simp only [hbne, hcne, hdne, hfne, ne_eq, not_false_eq_true, true_and])
      have hna := fun W (hW : New w W) => ref_number 15 (by decide) a W (HLE.out a (by simp)) (HT.out.new hW)
      have hng := fun W (hW : New w W) => ref_number 15 (by decide) g W (HLE.out g (by simp)) (HT.out.new hW)
      have hnh := fun W (hW : New w W) => ref_number 15 (by decide) h W (HLE.out h (by simp)) (HT.out.new hW)
      have HU7 : Hid (undW 0 7 [a, b, c, d, f, g, h] = [undash a, undash b, undash c, undash d, undash f, undash g, undash h]) := Lib.hid (undW_seven _ _ _ _ _ _ _)
      have HU0 : Hid (undW 0 0 [a, b, c, d, f, g, h] = [a, b, c, d, f, g, h]) := Lib.hid (undW_start _ _)
      have HPL : Hid ([a, b, c, d, f, g, h].length = 7) := Lib.hid rfl
      have HWC : Hid (∀ W, New w1 W → W.cell? ⟨w.heap.size, 0, none⟩ = some (.string a) ∧ W.cell? ⟨w.heap.size, 5, none⟩ = some (.string g) ∧ W.cell? ⟨w.heap.size, 6, none⟩ = some (.string h) ∧ w.heap.size < W.heap.size) := Lib.hid (fun W hW => by
        have hb := HB1.out.mod hW (fun e => e)
        exact ⟨(hb.cell 0).trans rfl, (hb.cell 5).trans rfl, (hb.cell 6).trans rfl, hb.lt⟩)
      rw [hc] at hct
      clear hc hni hbne hcne hdne hfne HTL
      generalize hPP : [a, b, c, d, f, g, h] = P at *
      have HPP := Lib.hid hPP
      clear hPP
      go_enter Tryz.func32, Tryz.ntmps32
      go_wp2_with fail
      refine hsp.mono ?_
      clear hsp
      rintro e w2 ⟨rfl, rfl⟩
      go_wp2_with fail
      refine hct.mono ?_
      clear hct
      rintro e w3 ⟨rfl, rfl⟩
      go_upto_region 5 with (fail)
      have hb4 := Blk.new w3 69 #[.int .i64 0, .int .i64 0, .int .i64 0]
      have hm4 : New w3 (w3.alloc (.cells #[.int .i64 0, .int .i64 0, .int .i64 0] 69)) := (Mod.refl _ _).alloc _
      have hz4 : (w3.alloc (.cells #[.int .i64 0, .int .i64 0, .int .i64 0] 69)).heap.size = w3.heap.size + 1 := by simp
      generalize w3.alloc (.cells #[.int .i64 0, .int .i64 0, .int .i64 0] 69) = w4 at *
      generalize hzz : w3.heap.size = nb at *
      have hb5 := Blk.new w4 3 #[.int .i64 0, .int .i64 5, .int .i64 6]
      have hm5 : New w3 (w4.alloc (.cells #[.int .i64 0, .int .i64 5, .int .i64 6] 3)) := hm4.alloc _
      have hb45 : Blk (w4.alloc (.cells #[.int .i64 0, .int .i64 5, .int .i64 6] 3)) nb 69 #[.int .i64 0, .int .i64 0, .int .i64 0] := hb4.mod ((Mod.refl (fun _ => False) _).alloc _) (fun e => e)
      have HZN : Hid (nb = w.heap.size + 1 ∧ w4.heap.size = nb + 1) := Lib.hid ⟨HZ1.out, hz4⟩
      have HZ3 : Hid (w3.heap.size = nb) := Lib.hid hzz
      clear hb4 hm4 hz4 HZ1 hzz
      go_wp2_with fail
      generalize w4.alloc (.cells #[.int .i64 0, .int .i64 5, .int .i64 6] 3) = w5 at *
      generalize w4.heap.size = ib at *
      have HB5 := Lib.hid hb5
      have HB45 := Lib.hid hb45
      have HM5 := Lib.hid hm5
      clear hb5 hb45 hm5
      go_loopw [21] (fun i wr => ∃ (j : Nat) (v0 v1 v2 : Int), j ≤ 3 ∧ i = .int .i64 j ∧ Hid (Blk wr nb 69 #[.int .i64 v0, .int .i64 v1, .int .i64 v2]) ∧ Hid (1 ≤ j → numOk 15 a = true ∧ v0 = numV a) ∧ Hid (2 ≤ j → numOk 15 g = true ∧ v1 = numV g) ∧ Hid (3 ≤ j → numOk 15 h = true ∧ v2 = numV h) ∧ Hid (Mod (fun x => x = nb) w5 wr)) (fun i _ => 3 - (intOf i).toNat)
      case atStart => exact ⟨0, 0, 0, 0, by omega, rfl, HB45, Lib.hid (fun h => by omega), Lib.hid (fun h => by omega), Lib.hid (fun h => by omega), Lib.hid (Mod.refl _ _)⟩
      case round =>
        rename World => wr
        obtain ⟨j, v0, v1, v2, hj, rfl, HB, H0, H1, H2, HMR⟩ := hrel
        have HN3 : Hid (New w3 wr) := Lib.hid (HM5.out.step HMR.out (fun i hi e => by have := HB1.out.lt; have := HZN.out; have := HM1.out.size; have h3 : w3.heap.size = nb := HZ3.out; omega))
        have HNR : Hid (New w wr) := Lib.hid (HM1.out.trans HN3.out)
        obtain ⟨k0, k1, k2, hwl⟩ := HWC.out wr HN3.out
        have hbi := HB5.out.mod HMR.out (by have := HZN.out; omega)
        have i0 := hbi.cell 0
        have i1 := hbi.cell 1
        have i2 := hbi.cell 2
        have hil := hbi.lt
        simp only [List.getElem?_toArray, List.getElem?_cons_zero, List.getElem?_cons_succ] at i0 i1 i2
        clear hbi
        by_cases hlt : j < 3
        · obtain rfl | rfl | rfl : j = 0 ∨ j = 1 ∨ j = 2 := by omega
          · go_wp2_with fail
            refine (hna wr HNR.out).mono ?_
            rintro e w6 ⟨v, rfl, hv, hm6⟩
            have B6 := HB.out.mod hm6 (fun e => e)
            have f6 := B6.frozen
            have g0 := B6.cell 0
            have g1 := B6.cell 1
            have g2 := B6.cell 2
            have hl6 := B6.lt
            simp at g0 g1 g2
            have HMW : Hid (Mod (fun x => x = nb) w5 w6) := Lib.hid (HMR.out.step hm6 (fun i _ e => e.elim))
            have HN6 : Hid (New w w6) := Lib.hid (HNR.out.trans hm6)
            cases hok : numOk 15 a with
            | false =>
              have HNN : Hid (takeR line = none) := Lib.hid (by rw [HTW.out, hok]; simp)
              rw [hok] at hv
              clear hok hv
              go_wp2_with fail
              go_ret
              exact RRecTake.none HNN.out (Mod.back (HN6.out.step (Only.cell1' _ _ _ _) (fun i hi e => by have := HZN.out; omega)))
            | true =>
            have HOKV : Hid (numOk 15 a = true ∧ v = numV a) := Lib.hid ⟨hok, hv hok⟩
            clear hok hv
            go_wp2_with fail
            exact ⟨⟨1, v, v1, v2, by omega, by go_num, Lib.hid (by simpa using B6.set 0 (.int .i64 v)), Lib.hid (fun _ => ⟨HOKV.out.1, HOKV.out.2⟩), Lib.hid (fun h => by omega), Lib.hid (fun h => by omega), Lib.hid (Mod.setCell HMW.out (.inl rfl) _)⟩, by simp [intOf]⟩
          · go_wp2_with fail
            refine (hng wr HNR.out).mono ?_
            rintro e w6 ⟨v, rfl, hv, hm6⟩
            have B6 := HB.out.mod hm6 (fun e => e)
            have f6 := B6.frozen
            have g0 := B6.cell 0
            have g1 := B6.cell 1
            have g2 := B6.cell 2
            have hl6 := B6.lt
            simp at g0 g1 g2
            have HMW : Hid (Mod (fun x => x = nb) w5 w6) := Lib.hid (HMR.out.step hm6 (fun i _ e => e.elim))
            have HN6 : Hid (New w w6) := Lib.hid (HNR.out.trans hm6)
            cases hok : numOk 15 g with
            | false =>
              have HNN : Hid (takeR line = none) := Lib.hid (by rw [HTW.out, hok]; simp)
              rw [hok] at hv
              clear hok hv
              go_wp2_with fail
              go_ret
              exact RRecTake.none HNN.out (Mod.back (HN6.out.step (Only.cell1' _ _ _ _) (fun i hi e => by have := HZN.out; omega)))
            | true =>
            have HOKV : Hid (numOk 15 g = true ∧ v = numV g) := Lib.hid ⟨hok, hv hok⟩
            clear hok hv
            go_wp2_with fail
            exact ⟨⟨2, v0, v, v2, by omega, by go_num, Lib.hid (by simpa using B6.set 1 (.int .i64 v)), Lib.hid (fun _ => H0.out (by omega)), Lib.hid (fun _ => ⟨HOKV.out.1, HOKV.out.2⟩), Lib.hid (fun h => by omega), Lib.hid (Mod.setCell HMW.out (.inl rfl) _)⟩, by simp [intOf]⟩
          · go_wp2_with fail
            refine (hnh wr HNR.out).mono ?_
            rintro e w6 ⟨v, rfl, hv, hm6⟩
            have B6 := HB.out.mod hm6 (fun e => e)
            have f6 := B6.frozen
            have g0 := B6.cell 0
            have g1 := B6.cell 1
            have g2 := B6.cell 2
            have hl6 := B6.lt
            simp at g0 g1 g2
            have HMW : Hid (Mod (fun x => x = nb) w5 w6) := Lib.hid (HMR.out.step hm6 (fun i _ e => e.elim))
            have HN6 : Hid (New w w6) := Lib.hid (HNR.out.trans hm6)
            cases hok : numOk 15 h with
            | false =>
              have HNN : Hid (takeR line = none) := Lib.hid (by rw [HTW.out, hok]; simp)
              rw [hok] at hv
              clear hok hv
              go_wp2_with fail
              go_ret
              exact RRecTake.none HNN.out (Mod.back (HN6.out.step (Only.cell1' _ _ _ _) (fun i hi e => by have := HZN.out; omega)))
            | true =>
            have HOKV : Hid (numOk 15 h = true ∧ v = numV h) := Lib.hid ⟨hok, hv hok⟩
            clear hok hv
            go_wp2_with fail
            exact ⟨⟨3, v0, v1, v, by omega, by go_num, Lib.hid (by simpa using B6.set 2 (.int .i64 v)), Lib.hid (fun _ => H0.out (by omega)), Lib.hid (fun _ => H1.out (by omega)), Lib.hid (fun _ => ⟨HOKV.out.1, HOKV.out.2⟩), Lib.hid (Mod.setCell HMW.out (.inl rfl) _)⟩, by simp [intOf]⟩
        · obtain rfl : j = 3 := by omega
          obtain ⟨q0, rfl⟩ := H0.out (by omega)
          obtain ⟨q1, rfl⟩ := H1.out (by omega)
          obtain ⟨q2, rfl⟩ := H2.out (by omega)
          have HTW3 : Hid (takeR line = some ⟨numV a, undash b, undash c, undash d, undash f, numV g, numV h⟩) := Lib.hid (by
            rw [HTW.out, if_pos ⟨q0, q1, q2⟩])
          have HBP : Hid (Blk wr w.heap.size 9 (strCs (undW 0 0 P))) := Lib.hid (by rw [HU0.out]; exact HB1.out.mod HN3.out (fun e => e))
          clear k0 k1 k2 hwl i0 i1 i2 hil q0 q1 q2 H0 H1 H2 hna hng hnh HTW hlt hj HWC
          go_wp2_with fail
          go_loopw [41] (fun i wq => ∃ k : Nat, k ≤ 7 ∧ i = .int .i64 k ∧ Hid (Blk wq w.heap.size 9 (strCs (undW 0 k P))) ∧ Hid (Mod (fun x => x = w.heap.size) wr wq)) (fun i _ => 7 - (intOf i).toNat)
          case atStart => exact ⟨0, by omega, rfl, HBP, Lib.hid (Mod.refl _ _)⟩
          case round =>
            rename World => wq
            obtain ⟨k, hk7, rfl, HBQ, HMQ⟩ := hrel
            by_cases hk6 : k < 7
            · have hkl : k < P.length := by have := HPL.out; omega
              have hcell : wq.cell? ⟨w.heap.size, k, none⟩ = some (.string P[k]) := by
                rw [strs_at HBQ.out k (by rw [undW_length]; exact hkl), undW_at hkl, if_neg (by omega)]
              have hwl := HBQ.out.lt
              have hfr := HBQ.out.frozen
              have hb1 : (0 : Int) ≤ k := by omega
              have hb2 : (k : Int) < 7 := by omega
              have hsd := str_dash P[k]
              by_cases hd : P[k] = dashB
              · have HU := Lib.hid (undW_hit (lo := 0) hkl (Nat.zero_le _) hd)
                rw [decide_eq_true hd] at hsd
                clear hd
                generalize P[k] = z at *
                clear hkl
                go_wp2_with fail
                exact ⟨⟨k + 1, by omega, by go_num, Lib.hid (by rw [HU.out, ← strCs_set]; exact HBQ.out.set _ _), Lib.hid (HMQ.out.setCell (.inl rfl) _)⟩, by simp [intOf]; omega⟩
              · have HU := Lib.hid (undW_miss (lo := 0) hkl (Nat.zero_le _) hd)
                rw [decide_eq_false hd] at hsd
                clear hd
                generalize P[k] = z at *
                clear hkl
                go_wp2_with fail
                exact ⟨⟨k + 1, by omega, by go_num, Lib.hid (by rw [HU.out]; exact HBQ.out), HMQ⟩, by simp [intOf]; omega⟩
            · obtain rfl : k = 7 := by omega
              have HBW : Hid (Blk wq w.heap.size 9 (strCs [undash a, undash b, undash c, undash d, undash f, undash g, undash h])) := Lib.hid (by rw [← HU7.out]; exact HBQ.out)
              have HNW : Hid (New w wq) := Lib.hid (HNR.out.step HMQ.out (fun i hi e => by omega))
              have HBN : Hid (Blk wq nb 69 #[.int .i64 (numV a), .int .i64 (numV g), .int .i64 (numV h)]) := Lib.hid (HB.out.mod HMQ.out (by have := HZN.out; omega))
              have ho := HO.out.new HNW.out
              obtain ⟨hBbo, Ao, no, co, hbo, hoo⟩ := ho
              clear HBQ HB HBP HB45 HB5 HMQ HMR HN3 HNR HM5 HU0 HU7 HPP HPL
              generalize undash b = ub at *
              generalize undash c = uc at *
              generalize undash d = ud at *
              generalize undash f = uf at *
              generalize numV a = va at *
              generalize numV g = vg at *
              generalize numV h = vh at *
              have hcell : ∀ W, New wq W → W.cell? ⟨bo, 0, none⟩ = some (.slice Ao no co) ∧ W.cell? ⟨w.heap.size, 1, none⟩ = some (.string ub) ∧ W.cell? ⟨w.heap.size, 2, none⟩ = some (.string uc) ∧ W.cell? ⟨w.heap.size, 3, none⟩ = some (.string ud) ∧ W.cell? ⟨w.heap.size, 4, none⟩ = some (.string uf) ∧ W.cell? ⟨nb, 0, none⟩ = some (.int .i64 va) ∧ W.cell? ⟨nb, 1, none⟩ = some (.int .i64 vg) ∧ W.cell? ⟨nb, 2, none⟩ = some (.int .i64 vh) ∧ bo < W.heap.size ∧ w.heap.size < W.heap.size ∧ nb < W.heap.size := fun W hW => by
                have h1 := hbo.mod hW (fun e => e)
                have h2 := HBW.out.mod hW (fun e => e)
                have h3 := HBN.out.mod hW (fun e => e)
                exact ⟨(h1.cell 0).trans rfl, (h2.cell 1).trans rfl, (h2.cell 2).trans rfl, (h2.cell 3).trans rfl, (h2.cell 4).trans rfl, (h3.cell 0).trans rfl, (h3.cell 1).trans rfl, (h3.cell 2).trans rfl, h1.lt, h2.lt, h3.lt⟩
              have HCE := Lib.hid hcell
              have HBO := Lib.hid hbo
              have HOO := Lib.hid hoo
              have hno : no ≤ 100000 := by have := hoo.1; omega
              clear hcell hbo hoo
              go_upto_region 19 with (fail)
              refine wp_region_held_ord (fun W => W.cell? ⟨bo, 0, none⟩ = some (.slice Ao no co) ∧ W.cell? ⟨w.heap.size, 1, none⟩ = some (.string ub) ∧ W.cell? ⟨w.heap.size, 2, none⟩ = some (.string uc) ∧ W.cell? ⟨w.heap.size, 3, none⟩ = some (.string ud) ∧ W.cell? ⟨w.heap.size, 4, none⟩ = some (.string uf) ∧ W.cell? ⟨nb, 0, none⟩ = some (.int .i64 va) ∧ W.cell? ⟨nb, 1, none⟩ = some (.int .i64 vg) ∧ W.cell? ⟨nb, 2, none⟩ = some (.int .i64 vh) ∧ bo < W.heap.size ∧ w.heap.size < W.heap.size ∧ nb < W.heap.size) [20, 21] [0, 1, 2, 3, 4, 5, 6, 7, 8, 9, 10, 11, 12, 13, 14, 15, 16, 17, 18, 19, 20, 21] (by kernel_rfl) (by kernel_rfl) (fun _ _ d _ _ h => by cases d <;> exact h) ?_ (fun hHeld => ?_)
              · exact HCE.out _ ((Mod.refl _ _).drew)
              simp only [List.length_cons, List.length_nil, List.drop_succ_cons, List.drop_zero]
              refine heldO_take ?_ (by rfl) (by rfl) (by rfl) (fun w hSw => ?_) ?_
              rotate_left
              · (try dsimp only at hSw); go_simp; any_goals (with_reducible rfl)
              simp only [Act.put, List.setIfInBounds_toArray, List.set_cons_zero, List.set_cons_succ]
              refine heldO_take ?_ (by rfl) (by rfl) (by rfl) (fun w hSw => ?_) ?_
              rotate_left
              · (try dsimp only at hSw); go_simp; any_goals (with_reducible rfl)
              simp only [Act.put, List.setIfInBounds_toArray, List.set_cons_zero, List.set_cons_succ]
              refine heldO_take ?_ (by rfl) (by rfl) (by rfl) (fun w hSw => ?_) ?_
              rotate_left
              · (try dsimp only at hSw); go_simp; any_goals (with_reducible rfl)
              simp only [Act.put, List.setIfInBounds_toArray, List.set_cons_zero, List.set_cons_succ]
              refine heldO_take ?_ (by rfl) (by rfl) (by rfl) (fun w hSw => ?_) ?_
              rotate_left
              · (try dsimp only at hSw); go_simp; any_goals (with_reducible rfl)
              simp only [Act.put, List.setIfInBounds_toArray, List.set_cons_zero, List.set_cons_succ]
              refine heldO_take ?_ (by rfl) (by rfl) (by rfl) (fun w hSw => ?_) ?_
              rotate_left
              · (try dsimp only at hSw); go_simp; any_goals (with_reducible rfl)
              simp only [Act.put, List.setIfInBounds_toArray, List.set_cons_zero, List.set_cons_succ]
              refine heldO_take ?_ (by rfl) (by rfl) (by rfl) (fun w hSw => ?_) ?_
              rotate_left
              · (try dsimp only at hSw); go_simp; any_goals (with_reducible rfl)
              simp only [Act.put, List.setIfInBounds_toArray, List.set_cons_zero, List.set_cons_succ]
              refine heldO_take ?_ (by rfl) (by rfl) (by rfl) (fun w hSw => ?_) ?_
              rotate_left
              · (try dsimp only at hSw); go_simp; any_goals (with_reducible rfl)
              simp only [Act.put, List.setIfInBounds_toArray, List.set_cons_zero, List.set_cons_succ]
              refine heldO_take ?_ (by rfl) (by rfl) (by rfl) (fun w hSw => ?_) ?_
              rotate_left
              · (try dsimp only at hSw); go_simp; any_goals (with_reducible rfl)
              simp only [Act.put, List.setIfInBounds_toArray, List.set_cons_zero, List.set_cons_succ]
              refine heldO_take ?_ (by rfl) (by rfl) (by rfl) (fun w hSw => ?_) ?_
              rotate_left
              · (try dsimp only at hSw); go_simp; any_goals (with_reducible rfl)
              simp only [Act.put, List.setIfInBounds_toArray, List.set_cons_zero, List.set_cons_succ]
              refine heldO_take ?_ (by rfl) (by rfl) (by rfl) (fun w hSw => ?_) ?_
              rotate_left
              · (try dsimp only at hSw); go_simp; any_goals (with_reducible rfl)
              simp only [Act.put, List.setIfInBounds_toArray, List.set_cons_zero, List.set_cons_succ]
              refine heldO_take ?_ (by rfl) (by rfl) (by rfl) (fun w hSw => ?_) ?_
              rotate_left
              · (try dsimp only at hSw); go_simp; any_goals (with_reducible rfl)
              simp only [Act.put, List.setIfInBounds_toArray, List.set_cons_zero, List.set_cons_succ]
              refine heldO_take ?_ (by rfl) (by rfl) (by rfl) (fun w hSw => ?_) ?_
              rotate_left
              · (try dsimp only at hSw); go_simp; any_goals (with_reducible rfl)
              simp only [Act.put, List.setIfInBounds_toArray, List.set_cons_zero, List.set_cons_succ]
              refine heldO_take ?_ (by rfl) (by rfl) (by rfl) (fun w hSw => ?_) ?_
              rotate_left
              · (try dsimp only at hSw); go_simp; any_goals (with_reducible rfl)
              simp only [Act.put, List.setIfInBounds_toArray, List.set_cons_zero, List.set_cons_succ]
              refine heldO_take ?_ (by rfl) (by rfl) (by rfl) (fun w hSw => ?_) ?_
              rotate_left
              · (try dsimp only at hSw); go_simp; any_goals (with_reducible rfl)
              simp only [Act.put, List.setIfInBounds_toArray, List.set_cons_zero, List.set_cons_succ]
              refine heldO_take ?_ (by rfl) (by rfl) (by rfl) (fun w hSw => ?_) ?_
              rotate_left
              · (try dsimp only at hSw); go_simp; any_goals (with_reducible rfl)
              simp only [Act.put, List.setIfInBounds_toArray, List.set_cons_zero, List.set_cons_succ]
              refine heldO_take ?_ (by rfl) (by rfl) (by rfl) (fun w hSw => ?_) ?_
              rotate_left
              · (try dsimp only at hSw); go_simp; any_goals (with_reducible rfl)
              simp only [Act.put, List.setIfInBounds_toArray, List.set_cons_zero, List.set_cons_succ]
              refine heldO_take ?_ (by rfl) (by rfl) (by rfl) (fun w hSw => ?_) ?_
              rotate_left
              · (try dsimp only at hSw); go_simp; any_goals (with_reducible rfl)
              simp only [Act.put, List.setIfInBounds_toArray, List.set_cons_zero, List.set_cons_succ]
              refine heldO_take ?_ (by rfl) (by rfl) (by rfl) (fun w hSw => ?_) ?_
              rotate_left
              · (try dsimp only at hSw); go_simp; any_goals (with_reducible rfl)
              simp only [Act.put, List.setIfInBounds_toArray, List.set_cons_zero, List.set_cons_succ]
              refine heldO_take ?_ (by rfl) (by rfl) (by rfl) (fun w hSw => ?_) ?_
              rotate_left
              · (try dsimp only at hSw); go_simp; any_goals (with_reducible rfl)
              simp only [Act.put, List.setIfInBounds_toArray, List.set_cons_zero, List.set_cons_succ]
              refine heldO_take ?_ (by rfl) (by rfl) (by rfl) (fun w hSw => ?_) ?_
              rotate_left
              · (try dsimp only at hSw); go_simp; any_goals (with_reducible rfl)
              simp only [Act.put, List.setIfInBounds_toArray, List.set_cons_zero, List.set_cons_succ]
              refine heldO_step (by rfl) (by rfl) (by rfl) (fun K hK => ?_)
              go_simp
              have m6 : New wq ((wq.drewN 1).alloc (.cells #[.int .i64 va, .string ub, .string uc, .string ud, .string uf, .int .i64 vg, .int .i64 vh] 39)) := ((Mod.refl _ wq).drewN 1).alloc _
              refine hK.out _ _ (HCE.out _ m6) (fun hHeld => ?_)
              clear hK K hHeld
              try simp only [Act.put, List.setIfInBounds_toArray, List.set_cons_zero, List.set_cons_succ]
              have own6 := HOO.out.new m6
              have blk6 : Blk ((wq.drewN 1).alloc (.cells #[.int .i64 va, .string ub, .string uc, .string ud, .string uf, .int .i64 vg, .int .i64 vh] 39)) wq.heap.size 39 (encL 7 RecD.enc ⟨va, ub, uc, ud, uf, vg, vh⟩).toArray := Blk.new (wq.drewN 1) _ _
              have HZ : Hid (B ≤ ((wq.drewN 1).alloc (.cells #[.int .i64 va, .string ub, .string uc, .string ud, .string uf, .int .i64 vg, .int .i64 vh] 39)).heap.size) := Lib.hid (by have := HNW.out.size; simp; omega)
              refine heldO_step (by rfl) (by rfl) (by rfl) (fun K hK => ?_)
              refine wp_push (.tmp 53) (.tmp 73) _ rfl 88 Tryz.underlying26 einfo_rec rfl (by exact own6) ⟨va, ub, uc, ud, uf, vg, vh⟩ wq.heap.size rfl (by exact blk6) (fun j hj => RecD.one _ j hj) (by omega) (by omega) HZ.out ?_
              intro g9 cap9 w9 own9 hm9 hat9 hlt9
              have hrow : ∀ x, blkOf Ao = some x → TB ((wq.drewN 1).alloc (.cells #[.int .i64 va, .string ub, .string uc, .string ud, .string uf, .int .i64 vg, .int .i64 vh] 39)) x 39 ∧ B ≤ x := fun x hx => by
                rcases own6.blk with ⟨h1, _⟩ | ⟨g', h1, h2, ht⟩
                · rw [h1] at hx; cases hx
                · rw [h1] at hx; injection hx with hx; simp only at hx; subst hx; exact ⟨ht, h2⟩
              have bo6 := HBO.out.mod m6 (fun e => e)
              have bo9 := bo6.mod hm9 (fun e => bo6.tb.ne (hrow _ e).1 (by decide) rfl)
              have bw6 := HBW.out.mod m6 (fun e => e)
              have bw9 := bw6.mod hm9 (fun e => bw6.tb.ne (hrow _ e).1 (by decide) rfl)
              have bn6 := HBN.out.mod m6 (fun e => e)
              have bn9 := bn6.mod hm9 (fun e => bn6.tb.ne (hrow _ e).1 (by decide) rfl)
              have HM9 : Hid (Mod (fun k => B ≤ k) w w9) := Lib.hid ((Mod.back (HNW.out.trans m6)).step hm9 (fun i _ e => (hrow i e).2))
              refine hK.out _ _ ⟨(bo9.cell 0).trans rfl, (bw9.cell 1).trans rfl, (bw9.cell 2).trans rfl, (bw9.cell 3).trans rfl, (bw9.cell 4).trans rfl, (bn9.cell 0).trans rfl, (bn9.cell 1).trans rfl, (bn9.cell 2).trans rfl, bo9.lt, bw9.lt, bn9.lt⟩ (fun hHeld => ?_)
              clear hK K hHeld
              try simp only [Act.put, List.setIfInBounds_toArray, List.set_cons_zero, List.set_cons_succ]
              refine heldO_nil ?_
              have HOUT : Hid (ROutAt (w9.setCell ⟨bo, 0, none⟩ (.slice (some ⟨g9, 0, none⟩) (no + 1) cap9)) B bo (acc ++ [⟨va, ub, uc, ud, uf, vg, vh⟩])) := Lib.hid ⟨hBbo, some ⟨g9, 0, none⟩, no + 1, cap9, by simpa using bo9.set 0 (.slice (some ⟨g9, 0, none⟩) (no + 1) cap9), own9.mod (Only.cell1' w9 bo 0 _) (fun x hx e => by
                rcases own9.blk with ⟨h1, _⟩ | ⟨g', h1, _, ht⟩
                · rw [h1] at hx; cases hx
                · rw [h1] at hx; injection hx with hx; simp only at hx; exact ht.ne bo9.tb (by decide) (by subst hx; exact e))⟩
              have HMS : Hid (Mod (fun k => B ≤ k) w (w9.setCell ⟨bo, 0, none⟩ (.slice (some ⟨g9, 0, none⟩) (no + 1) cap9))) := Lib.hid (Mod.setCell HM9.out (.inl hBbo) _)
              have fo := bo9.frozen 0
              have co9 := bo9.cell 0
              have lo9 := bo9.lt
              simp at co9
              clear own6 blk6 bo6 bo9 bw6 bw9 bn6 bn9 hm9 hat9 own9 hrow m6 HZ
              go_wp2_with fail
              go_ret
              refine ⟨ret_bool ?_, HMS.out, fun x hx => ?_⟩
              · rw [HTW3.out]; rfl
              · rw [HTW3.out] at hx; injection hx with hx; subst hx; exact HOUT.out

end Go.Proofs.YtccffkdaalnfoaaGreatDoor
