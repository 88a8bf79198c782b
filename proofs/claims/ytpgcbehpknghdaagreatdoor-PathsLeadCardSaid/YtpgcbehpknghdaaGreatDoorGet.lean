/- The reference: GetAt of a path of one step. Conditions: rows of at most 100000; a step at 0 to 5000. -/
import Derived.Test.YtpgcbehpknghdaaGreatDoorChd
import Derived.Test.YtpgcbehpknghdaaGreatDoorSame
namespace Go.Proofs.YtpgcbehpknghdaaGreatDoor
open Go.RowKit
set_option linter.unusedVariables false
set_option linter.unusedSimpArgs false

theorem find_first {l : List Mem} {s : ByteArray} {j : Nat} (hj : j < l.length) (h : l[j].1 = s) (h0 : ∀ i (hi : i < l.length), i < j → ¬ l[i].1 = s) : l.find? (fun p => decide (p.1 = s)) = some l[j] := by
  rw [List.find?_eq_some_iff_getElem]
  refine ⟨by simp [h], j, hj, rfl, fun i hi => ?_⟩
  simp [h0 i (by omega) hi]
theorem find_no {l : List Mem} {s : ByteArray} (h0 : ∀ i (hi : i < l.length), ¬ l[i].1 = s) : l.find? (fun p => decide (p.1 = s)) = none := by
  rw [List.find?_eq_none]
  intro p hp
  obtain ⟨i, hi, rfl⟩ := List.getElem_of_mem hp
  simp [h0 i hi]
/-- what stands at a step in the reference's eyes, if anything does -/
def RGet (G : Nat → Prop) (d : Nat) (v : VT) (s : St) (w : World) (e : Ending) (w' : World) : Prop :=
  (getR v s = none ∧ e = .returned (.tuple #[nilVA.val, .bool false]) ∧ New w w') ∨ ∃ u y, getR v s = some u ∧ e = .returned (.tuple #[y.val, .bool true]) ∧ Tree w' G d y u ∧ New w w'
set_option maxRecDepth 100000 in
set_option maxHeartbeats 1000000 in
theorem getAt_named (G : Nat → Prop) (d : Nat) (x : VA) (v : VT) (sn : ByteArray) (k : Nat) (A : Option Addr) (c : Nat) (w : World) (ht : Tree w G (d + 1) x v) (hs : Sl w 46 3 St.enc A 1 [⟨true, sn, (k : Int)⟩]) (hw : Wide 100000 (d + 1) v) :
    Calls Tryz.prog 24 #[x.val, .slice A 1 c] w (RGet G d v ⟨true, sn, (k : Int)⟩ w) := by
  replace ht := ht.oldG
  obtain ⟨xs, ms, h1, h2, h3, h4⟩ := ht.als
  obtain ⟨f1, -, -, -, f5, f6⟩ := ht.fields
  obtain ⟨g, o, hA, htb, hc0⟩ := hs.2 (by omega)
  have hc := hc0 0 (by simp)
  simp only [List.getElem_cons_zero, Nat.zero_mul, Nat.add_zero] at hc
  have hgl := htb.lt
  have HTB : Hid (∀ W, New w W → W.cell? ⟨g, o, none⟩ = some (.bool true) ∧ W.cell? ⟨g, o + 1, none⟩ = some (.string sn) ∧ W.cell? ⟨g, o + 2, none⟩ = some (.int .i64 k) ∧ g < W.heap.size) := Lib.hid (fun W hW => by
    have h1 := (hW.cell (p := ⟨g, o, none⟩) hgl (fun e => e)).trans (hc 0 (by omega))
    have h2 := (hW.cell (p := ⟨g, o + 1, none⟩) hgl (fun e => e)).trans (hc 1 (by omega))
    have h3 := (hW.cell (p := ⟨g, o + 2, none⟩) hgl (fun e => e)).trans (hc 2 (by omega))
    exact ⟨h1, h2, h3, Nat.lt_of_lt_of_le hgl hW.size⟩)
  subst hA
  have HT := Lib.hid ht
  have HWD := Lib.hid hw
  have HL1 := Lib.hid h1
  have HL2 := Lib.hid h2
  have HL3 := Lib.hid h3
  have HL4 := Lib.hid h4
  obtain ⟨xk, xf, xn, xw, xla, xln, xlc, xma, xmn, xmc⟩ := x
  simp only at f1 f5 f6 HL1 HL3
  have hln : xln ≤ 100000 := by have := hw.1; omega
  have hmn : xmn ≤ 100000 := by have := hw.2.1; omega
  have HF5 := Lib.hid f5
  have HF6 := Lib.hid f6
  clear ht hs hw h1 h2 h3 h4 hc hc0 htb hgl f1 f5 f6
  have hx := Blk.new w 29 #[.int .i64 xk, .bool xf, .int .i64 xn, .string xw, .slice xla xln xlc, .slice xma xmn xmc]
  have m1 : New w (w.alloc (.cells #[.int .i64 xk, .bool xf, .int .i64 xn, .string xw, .slice xla xln xlc, .slice xma xmn xmc] 29)) := (Mod.refl _ _).alloc _
  have z1 : (w.alloc (.cells #[.int .i64 xk, .bool xf, .int .i64 xn, .string xw, .slice xla xln xlc, .slice xma xmn xmc] 29)).heap.size = w.heap.size + 1 := by simp
  go_enter Tryz.func24, Tryz.ntmps24
  go_upto_region 1 with (fail)
  generalize w.alloc (.cells #[.int .i64 xk, .bool xf, .int .i64 xn, .string xw, .slice xla xln xlc, .slice xma xmn xmc] 29) = w1 at *
  have hz := Blk.new w1 29 #[.int .i64 0, .bool false, .int .i64 0, .string ⟨#[]⟩, .slice none 0 0, .slice none 0 0]
  have m2 : New w1 (w1.alloc (.cells #[.int .i64 0, .bool false, .int .i64 0, .string ⟨#[]⟩, .slice none 0 0, .slice none 0 0] 29)) := (Mod.refl _ _).alloc _
  generalize w1.alloc (.cells #[.int .i64 0, .bool false, .int .i64 0, .string ⟨#[]⟩, .slice none 0 0, .slice none 0 0] 29) = w2 at *
  rw [z1] at hz
  have HX := Lib.hid (hx.mod m2 (fun e => e))
  have HR := Lib.hid hz
  have HM := Lib.hid (m1.trans m2)
  have z2 : w.heap.size + 1 < w2.heap.size := hz.lt
  clear hx hz m1 m2 z1
  generalize hxb : w.heap.size = xb at *
  have hwb : w.heap.size ≤ xb := by omega
  go_wp2_with fail
  go_loopw [15] (fun i wr => (i = .int .i64 0 ∧ Hid (Blk wr xb 29 #[.int .i64 xk, .bool xf, .int .i64 xn, .string xw, .slice xla xln xlc, .slice xma xmn xmc]) ∧ Hid (Blk wr (xb + 1) 29 #[.int .i64 0, .bool false, .int .i64 0, .string ⟨#[]⟩, .slice none 0 0, .slice none 0 0]) ∧ Hid (New w wr)) ∨
    (i = .int .i64 1 ∧ ∃ (u : VT) (y : VA), Hid (getR v ⟨true, sn, (k : Int)⟩ = some u) ∧ Hid (Tree wr (fun g => G g ∧ g < xb) d y u) ∧ Hid (Blk wr xb 29 y.cells) ∧ Hid (Blk wr (xb + 1) 29 #[.int .i64 0, .bool false, .int .i64 0, .string ⟨#[]⟩, .slice none 0 0, .slice none 0 0]) ∧ Hid (New w wr))) (fun i _ => 1 - (intOf i).toNat)
  case atStart => exact .inl ⟨rfl, HX, HR, HM⟩
  case round =>
    rename World => wr
    clear HX HR HM
    rcases hrel with ⟨rfl, HX, HR, HM⟩ | ⟨rfl, hrel⟩
    · obtain ⟨s0, s1, s2, sl⟩ := HTB.out wr HM.out
      have hb1 : (0 : Int) < 1 := by omega
      have m3 : New wr (wr.alloc (.cells #[.bool true, .string sn, .int .i64 k] 46)) := (Mod.refl _ _).alloc _
      have hsb := Blk.new wr 46 #[.bool true, .string sn, .int .i64 k]
      go_upto_region 4 with (fail)
      have HX3 := Lib.hid (HX.out.mod m3 (fun e => e))
      have HR3 := Lib.hid (HR.out.mod m3 (fun e => e))
      have HM3 := Lib.hid (HM.out.trans m3)
      have HSB := Lib.hid hsb
      generalize wr.alloc (.cells #[.bool true, .string sn, .int .i64 k] 46) = w3 at *
      have hsz : xb + 1 < wr.heap.size := HR.out.lt
      generalize wr.heap.size = sb at *
      clear s0 s1 s2 sl m3 hsb HX HR HM
      have e0 := HX3.out.cell 0
      have e1 := HX3.out.cell 1
      have e2 := HX3.out.cell 2
      have e3 := HX3.out.cell 3
      have e4 := HX3.out.cell 4
      have e5 := HX3.out.cell 5
      have el := HX3.out.lt
      have ef := HX3.out.frozen
      simp only [List.getElem?_toArray, List.getElem?_cons_zero, List.getElem?_cons_succ] at e0 e1 e2 e3 e4 e5
      go_wp2_with fail
      clear e0 e1 e2 e3 e4 e5 el ef
      go_loopw [22, 8] (fun i f wq => ∃ q : Nat, q ≤ xln ∧ i = .int .i64 q ∧ f = .bool false ∧ Hid (New w3 wq)) (fun i _ _ => xln - (intOf i).toNat)
      case atStart => exact ⟨0, Nat.zero_le _, rfl, rfl, Lib.hid (Mod.refl _ _)⟩
      case round =>
        rename World => wq
        obtain ⟨q, hq, rfl, rfl, HQ⟩ := hrel
        by_cases hlt : q < xln
        · have hqx : q < xs.length := by have := HL1.out.1; omega
          obtain ⟨g2, o2, hA, htb, hc0⟩ := (HL1.out.sl.new (HM3.out.trans HQ.out)).2 (by omega)
          subst hA
          have hgl2 := htb.lt
          have hb2 : (0 : Int) ≤ q := by omega
          have hb3 : (q : Int) < xln := by omega
          have hc := fun j (hj : j < 6) => hc0 q hqx j hj
          clear hc0 htb
          obtain ⟨z, hz⟩ : ∃ z, xs[q] = z := ⟨_, rfl⟩
          rw [hz] at hc
          have HZ := Lib.hid hz
          clear hz
          obtain ⟨zk, zf, zn, zw, zla, zln, zlc, zma, zmn, zmc⟩ := z
          have b0 := hc 0 (by omega)
          have b1 := hc 1 (by omega)
          have b2 := hc 2 (by omega)
          have b3 := hc 3 (by omega)
          have b4 := hc 4 (by omega)
          have b5 := hc 5 (by omega)
          simp only [VA.enc, Nat.add_zero, Nat.zero_add] at b0 b1 b2 b3 b4 b5
          clear hc
          have hts := HSB.out.mod HQ.out (fun e => e)
          have htm := hts.mod ((Mod.refl (fun _ => False) wq).alloc (.cells #[.int .i64 zk, .bool zf, .int .i64 zn, .string zw, .slice zla zln zlc, .slice zma zmn zmc] 29)) (fun e => e)
          have t0 := htm.cell 0
          have t1 := htm.cell 1
          have t2 := htm.cell 2
          have tl := htm.lt
          simp only [List.getElem?_toArray, List.getElem?_cons_zero, List.getElem?_cons_succ] at t0 t1 t2
          clear hts htm
          go_wp2_with fail
          go_roundw
          case rel => exact ⟨q + 1, by omega, by go_num, rfl, Lib.hid (HQ.out.trans ((Mod.refl _ _).alloc _))⟩
          case measure => simp [intOf]; omega
        · obtain rfl : xln = q := by omega
          have HX4 := Lib.hid (HX3.out.mod HQ.out (fun e => e))
          have HR4 := Lib.hid (HR3.out.mod HQ.out (fun e => e))
          have HS4 := Lib.hid (HSB.out.mod HQ.out (fun e => e))
          have HM4 := Lib.hid (HM3.out.trans HQ.out)
          clear HX3 HR3 HSB HM3 HQ
          have e0 := HX4.out.cell 0
          have e1 := HX4.out.cell 1
          have e2 := HX4.out.cell 2
          have e3 := HX4.out.cell 3
          have e4 := HX4.out.cell 4
          have e5 := HX4.out.cell 5
          have el := HX4.out.lt
          have ef := HX4.out.frozen
          simp only [List.getElem?_toArray, List.getElem?_cons_zero, List.getElem?_cons_succ] at e0 e1 e2 e3 e4 e5
          go_wp2_with fail
          clear e0 e1 e2 e3 e4 e5 el ef
          go_loopw [45, 8] (fun i f wp => ∃ q : Nat, q ≤ xmn ∧ i = .int .i64 q ∧ Hid (Only xb wq wp) ∧ ((f = .bool false ∧ Hid (Blk wp xb 29 #[.int .i64 xk, .bool xf, .int .i64 xn, .string xw, .slice xla xln xlc, .slice xma xmn xmc]) ∧ Hid (∀ j (h : j < ms.length), j < q → ¬ ms[j].name = sn)) ∨
            (f = .bool true ∧ ∃ (j : Nat) (h : j < ms.length), Hid (ms[j].name = sn) ∧ Hid (∀ i (hi : i < ms.length), i < j → ¬ ms[i].name = sn) ∧ Hid (Blk wp xb 29 ms[j].v.cells)))) (fun i _ _ => xmn - (intOf i).toNat)
          case atStart => exact ⟨0, Nat.zero_le _, rfl, Lib.hid (Mod.refl _ _), .inl ⟨rfl, HX4, Lib.hid (fun j _ hj => absurd hj (by omega))⟩⟩
          case round =>
            rename World => wp
            obtain ⟨q, hq, rfl, HQ, hrel⟩ := hrel
            have HMP : Hid (New w wp) := Lib.hid (HM4.out.step HQ.out (fun i hi e => by omega))
            by_cases hlt : q < xmn
            · have hqx : q < ms.length := by have := HL3.out.1; omega
              obtain ⟨g2, o2, hA, htb, hc0⟩ := (HL3.out.sl.new HMP.out).2 (by omega)
              subst hA
              have hgl2 := htb.lt
              have hb2 : (0 : Int) ≤ q := by omega
              have hb3 : (q : Int) < xmn := by omega
              have hc := fun j (hj : j < 7) => hc0 q hqx j hj
              clear hc0 htb
              obtain ⟨z, hz⟩ : ∃ z, ms[q] = z := ⟨_, rfl⟩
              rw [hz] at hc
              have HZ := Lib.hid hz
              clear hz
              obtain ⟨zn0, zk, zf, zn, zw, zla, zln, zlc, zma, zmn, zmc⟩ := z
              have b0 := hc 0 (by omega)
              have b1 := hc 1 (by omega)
              have b2 := hc 2 (by omega)
              have b3 := hc 3 (by omega)
              have b4 := hc 4 (by omega)
              have b5 := hc 5 (by omega)
              have b6 := hc 6 (by omega)
              simp only [MA.enc, VA.enc, Nat.add_zero, Nat.zero_add] at b0 b1 b2 b3 b4 b5 b6
              clear hc
              have hts := HS4.out.mod HQ.out (by omega)
              have ma : New wp (wp.alloc (.cells #[.string zn0, .int .i64 zk, .bool zf, .int .i64 zn, .string zw, .slice zla zln zlc, .slice zma zmn zmc] 66)) := (Mod.refl _ _).alloc _
              have htm := hts.mod ma (fun e => e)
              have t0 := htm.cell 0
              have t1 := htm.cell 1
              have t2 := htm.cell 2
              have tl := htm.lt
              simp only [List.getElem?_toArray, List.getElem?_cons_zero, List.getElem?_cons_succ] at t0 t1 t2
              have hmb := Blk.new wp 66 #[.string zn0, .int .i64 zk, .bool zf, .int .i64 zn, .string zw, .slice zla zln zlc, .slice zma zmn zmc]
              have hszp : xb < wp.heap.size := Nat.lt_of_lt_of_le HX4.out.lt HQ.out.size
              have HMA := Lib.hid ma
              have HMB := Lib.hid hmb
              clear hts htm
              go_upto_region 14 with (fail)
              generalize wp.alloc (.cells #[.string zn0, .int .i64 zk, .bool zf, .int .i64 zn, .string zw, .slice zla zln zlc, .slice zma zmn zmc] 66) = wa at *
              generalize wp.heap.size = mb at *
              clear b0 b1 b2 b3 b4 b5 b6 hgl2 ma hmb
              have d0 := HMB.out.cell 0
              have d1 := HMB.out.cell 1
              have d2 := HMB.out.cell 2
              have d3 := HMB.out.cell 3
              have d4 := HMB.out.cell 4
              have d5 := HMB.out.cell 5
              have d6 := HMB.out.cell 6
              have dl := HMB.out.lt
              simp only [List.getElem?_toArray, List.getElem?_cons_zero, List.getElem?_cons_succ] at d0 d1 d2 d3 d4 d5 d6
              have hcmp : (zn0.toList == sn.toList) = decide (zn0 = sn) := toList_beq _ _
              rcases hrel with ⟨rfl, HX5, HNO⟩ | ⟨rfl, j, hj, HJ, HJN, HXJ⟩
              · by_cases hn : zn0 = sn
                · have hcm : (zn0.toList == sn.toList) = true := by rw [hcmp]; simpa using hn
                  have HN := Lib.hid hn
                  clear hcmp hn
                  have HX6 := Lib.hid (HX5.out.mod HMA.out (fun e => e))
                  have e0 := HX6.out.cell 0
                  have e1 := HX6.out.cell 1
                  have e2 := HX6.out.cell 2
                  have e3 := HX6.out.cell 3
                  have e4 := HX6.out.cell 4
                  have e5 := HX6.out.cell 5
                  have el := HX6.out.lt
                  have ef := HX6.out.frozen
                  simp only [List.getElem?_toArray, List.getElem?_cons_zero, List.getElem?_cons_succ] at e0 e1 e2 e3 e4 e5
                  go_wp2_with fail
                  go_roundw
                  case rel => exact ⟨q + 1, by omega, by go_num, Lib.hid ((HQ.out.step HMA.out (fun _ _ e => e.elim)).trans (Only.cell6 wa xb _ _ _ _ _ _)), .inr ⟨rfl, q, hqx, Lib.hid (by rw [HZ.out]; exact HN.out), Lib.hid (fun i hi hiq => HNO.out i hi hiq), Lib.hid (by
                    rw [HZ.out]
                    exact Blk.copy6 HX6.out _ _ _ _ _ _)⟩⟩
                  case measure => simp [intOf]; omega
                · have hcm : (zn0.toList == sn.toList) = false := by rw [hcmp]; simpa using hn
                  have HN := Lib.hid hn
                  clear hcmp hn
                  go_wp2_with fail
                  go_roundw
                  case rel => exact ⟨q + 1, by omega, by go_num, Lib.hid (HQ.out.step HMA.out (fun _ _ e => e.elim)), .inl ⟨rfl, Lib.hid (HX5.out.mod HMA.out (fun e => e)), Lib.hid (fun i hi hiq e => by
                    by_cases h : i = q
                    · subst h; rw [HZ.out] at e; exact HN.out e
                    · exact HNO.out i hi (by omega) e)⟩⟩
                  case measure => simp [intOf]; omega
              · obtain ⟨cm, hcm⟩ : ∃ b, (zn0.toList == sn.toList) = b := ⟨_, rfl⟩
                clear hcmp
                cases cm with
                | true =>
                  go_wp2_with fail
                  go_roundw
                  case rel => exact ⟨q + 1, by omega, by go_num, Lib.hid (HQ.out.step HMA.out (fun _ _ e => e.elim)), .inr ⟨rfl, j, hj, HJ, HJN, Lib.hid (HXJ.out.mod HMA.out (fun e => e))⟩⟩
                  case measure => simp [intOf]; omega
                | false =>
                  go_wp2_with fail
                  go_roundw
                  case rel => exact ⟨q + 1, by omega, by go_num, Lib.hid (HQ.out.step HMA.out (fun _ _ e => e.elim)), .inr ⟨rfl, j, hj, HJ, HJN, Lib.hid (HXJ.out.mod HMA.out (fun e => e))⟩⟩
                  case measure => simp [intOf]; omega
            · obtain rfl : xmn = q := by omega
              have HR5 := Lib.hid (HR4.out.mod HQ.out (by omega))
              rcases hrel with ⟨rfl, HX5, HNO⟩ | ⟨rfl, j, hj, HJ, HJN, HXJ⟩
              · have HGN : Hid (getR v ⟨true, sn, (k : Int)⟩ = none) := Lib.hid (by
                  unfold getR
                  rw [if_pos rfl, find_no (fun i hi e => by
                    have hi' : i < ms.length := by rw [HL4.out.len]; exact hi
                    exact HNO.out i hi' (by have := HL3.out.1; omega) ((HL4.out.get i hi' hi).1.trans e))]
                  rfl)
                have r0 := HR5.out.cell 0
                have r1 := HR5.out.cell 1
                have r2 := HR5.out.cell 2
                have r3 := HR5.out.cell 3
                have r4 := HR5.out.cell 4
                have r5 := HR5.out.cell 5
                have rl := HR5.out.lt
                have rf := HR5.out.frozen
                simp only [List.getElem?_toArray, List.getElem?_cons_zero, List.getElem?_cons_succ] at r0 r1 r2 r3 r4 r5
                go_wp2_with fail
                refine bodyPost_ret (v := .tuple #[nilVA.val, .bool false]) (by simp [results, Tryz.results24, go_sem, r0, r1, r2, r3, r4, r5, rf]) rfl (.inl ⟨HGN.out, rfl, ?_⟩)
                repeat (with_reducible (first | exact HMP.out | (refine Mod.setCell ?_ (.inr (by first | omega | (dsimp only; omega) | skip)) _)))
              · have hjm : j < v.mem.length := by rw [← HL4.out.len]; exact hj
                obtain ⟨hn1, hty⟩ := HL4.out.get j hj hjm
                have HGS : Hid (getR v ⟨true, sn, (k : Int)⟩ = some v.mem[j].2) := Lib.hid (by
                  unfold getR
                  rw [if_pos rfl, find_first hjm (hn1.symm.trans HJ.out) (fun i hi hij e => by
                    have hi' : i < ms.length := by omega
                    exact HJN.out i hi' hij ((HL4.out.get i hi' hi).1.trans e))]
                  rfl)
                go_wp2_with fail
                go_roundw
                case rel => exact .inr ⟨rfl, v.mem[j].2, ms[j].v, HGS, Lib.hid (hty.new HMP.out), HXJ, HR5, HMP⟩
                case measure => simp [intOf]
    · obtain ⟨u, y, HGU, HTY, HXY, HRY, HMY⟩ := hrel
      obtain ⟨yk, yf, yn, yw, yla, yln, ylc, yma, ymn, ymc⟩ := y
      have hxy := HXY.out
      simp only [VA.cells] at hxy
      have e0 := hxy.cell 0
      have e1 := hxy.cell 1
      have e2 := hxy.cell 2
      have e3 := hxy.cell 3
      have e4 := hxy.cell 4
      have e5 := hxy.cell 5
      have el := hxy.lt
      have ef := hxy.frozen
      simp only [List.getElem?_toArray, List.getElem?_cons_zero, List.getElem?_cons_succ] at e0 e1 e2 e3 e4 e5
      have r0 := HRY.out.cell 0
      have r1 := HRY.out.cell 1
      have r2 := HRY.out.cell 2
      have r3 := HRY.out.cell 3
      have r4 := HRY.out.cell 4
      have r5 := HRY.out.cell 5
      have rl := HRY.out.lt
      have rf := HRY.out.frozen
      simp only [List.getElem?_toArray, List.getElem?_cons_zero, List.getElem?_cons_succ] at r0 r1 r2 r3 r4 r5
      clear hxy
      go_wp2_with fail
      refine bodyPost_ret (v := .tuple #[VA.val ⟨yk, yf, yn, yw, yla, yln, ylc, yma, ymn, ymc⟩, .bool true]) (by simp [results, Tryz.results24, go_sem, e0, e1, e2, e3, e4, e5, ef, r0, r1, r2, r3, r4, r5, rf]) rfl (.inr ⟨u, ⟨yk, yf, yn, yw, yla, yln, ylc, yma, ymn, ymc⟩, HGU.out, rfl, Tree.imp (G := fun g => G g ∧ g < xb) (fun g hg _ => hg.1) _ _ _ (Tree.mod (S := fun k => k = xb + 1) ?_ (fun g hg _ e => by have := hg.2; omega) _ _ _ HTY.out), ?_⟩)
      · repeat (with_reducible (first | exact Mod.refl _ _ | (refine Mod.setCell ?_ (.inl (by first | rfl | omega | (dsimp only; omega) | skip)) _)))
      · repeat (with_reducible (first | exact HMY.out | (refine Mod.setCell ?_ (.inr (by first | omega | (dsimp only; omega) | skip)) _)))

set_option maxRecDepth 100000 in
set_option maxHeartbeats 1000000 in
theorem getAt_at (G : Nat → Prop) (d : Nat) (x : VA) (v : VT) (sn : ByteArray) (k : Nat) (A : Option Addr) (c : Nat) (w : World) (ht : Tree w G (d + 1) x v) (hs : Sl w 46 3 St.enc A 1 [⟨false, sn, (k : Int)⟩]) (hw : Wide 100000 (d + 1) v) (hk5 : k ≤ 5000) :
    Calls Tryz.prog 24 #[x.val, .slice A 1 c] w (RGet G d v ⟨false, sn, (k : Int)⟩ w) := by
  replace ht := ht.oldG
  obtain ⟨xs, ms, h1, h2, h3, h4⟩ := ht.als
  obtain ⟨f1, -, -, -, f5, f6⟩ := ht.fields
  obtain ⟨g, o, hA, htb, hc0⟩ := hs.2 (by omega)
  have hc := hc0 0 (by simp)
  simp only [List.getElem_cons_zero, Nat.zero_mul, Nat.add_zero] at hc
  have hgl := htb.lt
  have HTB : Hid (∀ W, New w W → W.cell? ⟨g, o, none⟩ = some (.bool false) ∧ W.cell? ⟨g, o + 1, none⟩ = some (.string sn) ∧ W.cell? ⟨g, o + 2, none⟩ = some (.int .i64 k) ∧ g < W.heap.size) := Lib.hid (fun W hW => by
    have h1 := (hW.cell (p := ⟨g, o, none⟩) hgl (fun e => e)).trans (hc 0 (by omega))
    have h2 := (hW.cell (p := ⟨g, o + 1, none⟩) hgl (fun e => e)).trans (hc 1 (by omega))
    have h3 := (hW.cell (p := ⟨g, o + 2, none⟩) hgl (fun e => e)).trans (hc 2 (by omega))
    exact ⟨h1, h2, h3, Nat.lt_of_lt_of_le hgl hW.size⟩)
  subst hA
  have HT := Lib.hid ht
  have HWD := Lib.hid hw
  have HL1 := Lib.hid h1
  have HL2 := Lib.hid h2
  have HL3 := Lib.hid h3
  have HL4 := Lib.hid h4
  obtain ⟨xk, xf, xn, xw, xla, xln, xlc, xma, xmn, xmc⟩ := x
  simp only at f1 f5 f6 HL1 HL3
  have hln : xln ≤ 100000 := by have := hw.1; omega
  have hmn : xmn ≤ 100000 := by have := hw.2.1; omega
  have HF5 := Lib.hid f5
  have HF6 := Lib.hid f6
  clear ht hs hw h1 h2 h3 h4 hc hc0 htb hgl f1 f5 f6
  have hx := Blk.new w 29 #[.int .i64 xk, .bool xf, .int .i64 xn, .string xw, .slice xla xln xlc, .slice xma xmn xmc]
  have m1 : New w (w.alloc (.cells #[.int .i64 xk, .bool xf, .int .i64 xn, .string xw, .slice xla xln xlc, .slice xma xmn xmc] 29)) := (Mod.refl _ _).alloc _
  have z1 : (w.alloc (.cells #[.int .i64 xk, .bool xf, .int .i64 xn, .string xw, .slice xla xln xlc, .slice xma xmn xmc] 29)).heap.size = w.heap.size + 1 := by simp
  go_enter Tryz.func24, Tryz.ntmps24
  go_upto_region 1 with (fail)
  generalize w.alloc (.cells #[.int .i64 xk, .bool xf, .int .i64 xn, .string xw, .slice xla xln xlc, .slice xma xmn xmc] 29) = w1 at *
  have hz := Blk.new w1 29 #[.int .i64 0, .bool false, .int .i64 0, .string ⟨#[]⟩, .slice none 0 0, .slice none 0 0]
  have m2 : New w1 (w1.alloc (.cells #[.int .i64 0, .bool false, .int .i64 0, .string ⟨#[]⟩, .slice none 0 0, .slice none 0 0] 29)) := (Mod.refl _ _).alloc _
  generalize w1.alloc (.cells #[.int .i64 0, .bool false, .int .i64 0, .string ⟨#[]⟩, .slice none 0 0, .slice none 0 0] 29) = w2 at *
  rw [z1] at hz
  have HX := Lib.hid (hx.mod m2 (fun e => e))
  have HR := Lib.hid hz
  have HM := Lib.hid (m1.trans m2)
  have z2 : w.heap.size + 1 < w2.heap.size := hz.lt
  clear hx hz m1 m2 z1
  generalize hxb : w.heap.size = xb at *
  have hwb : w.heap.size ≤ xb := by omega
  go_wp2_with fail
  go_loopw [15] (fun i wr => (i = .int .i64 0 ∧ Hid (Blk wr xb 29 #[.int .i64 xk, .bool xf, .int .i64 xn, .string xw, .slice xla xln xlc, .slice xma xmn xmc]) ∧ Hid (Blk wr (xb + 1) 29 #[.int .i64 0, .bool false, .int .i64 0, .string ⟨#[]⟩, .slice none 0 0, .slice none 0 0]) ∧ Hid (New w wr)) ∨
    (i = .int .i64 1 ∧ ∃ (u : VT) (y : VA), Hid (getR v ⟨false, sn, (k : Int)⟩ = some u) ∧ Hid (Tree wr (fun g => G g ∧ g < xb) d y u) ∧ Hid (Blk wr xb 29 y.cells) ∧ Hid (Blk wr (xb + 1) 29 #[.int .i64 0, .bool false, .int .i64 0, .string ⟨#[]⟩, .slice none 0 0, .slice none 0 0]) ∧ Hid (New w wr))) (fun i _ => 1 - (intOf i).toNat)
  case atStart => exact .inl ⟨rfl, HX, HR, HM⟩
  case round =>
    rename World => wr
    clear HX HR HM
    rcases hrel with ⟨rfl, HX, HR, HM⟩ | ⟨rfl, hrel⟩
    · obtain ⟨s0, s1, s2, sl⟩ := HTB.out wr HM.out
      have hb1 : (0 : Int) < 1 := by omega
      have m3 : New wr (wr.alloc (.cells #[.bool false, .string sn, .int .i64 k] 46)) := (Mod.refl _ _).alloc _
      have hsb := Blk.new wr 46 #[.bool false, .string sn, .int .i64 k]
      go_upto_region 4 with (fail)
      have HX3 := Lib.hid (HX.out.mod m3 (fun e => e))
      have HR3 := Lib.hid (HR.out.mod m3 (fun e => e))
      have HM3 := Lib.hid (HM.out.trans m3)
      have HSB := Lib.hid hsb
      generalize wr.alloc (.cells #[.bool false, .string sn, .int .i64 k] 46) = w3 at *
      have hsz : xb + 1 < wr.heap.size := HR.out.lt
      generalize wr.heap.size = sb at *
      clear s0 s1 s2 sl m3 hsb HX HR HM
      have e0 := HX3.out.cell 0
      have e1 := HX3.out.cell 1
      have e2 := HX3.out.cell 2
      have e3 := HX3.out.cell 3
      have e4 := HX3.out.cell 4
      have e5 := HX3.out.cell 5
      have el := HX3.out.lt
      have ef := HX3.out.frozen
      simp only [List.getElem?_toArray, List.getElem?_cons_zero, List.getElem?_cons_succ] at e0 e1 e2 e3 e4 e5
      go_wp2_with fail
      clear e0 e1 e2 e3 e4 e5 el ef
      go_loopw [22, 8] (fun i f wq => ∃ q : Nat, q ≤ xln ∧ i = .int .i64 q ∧ Hid (Only xb w3 wq) ∧ ((f = .bool false ∧ q ≤ k ∧ Hid (Blk wq xb 29 #[.int .i64 xk, .bool xf, .int .i64 xn, .string xw, .slice xla xln xlc, .slice xma xmn xmc])) ∨
        (f = .bool true ∧ k < q ∧ ∃ h : k < xs.length, Hid (Blk wq xb 29 xs[k].cells)))) (fun i _ _ => xln - (intOf i).toNat)
      case atStart => exact ⟨0, Nat.zero_le _, rfl, Lib.hid (Mod.refl _ _), .inl ⟨rfl, by omega, HX3⟩⟩
      case round =>
        rename World => wq
        obtain ⟨q, hq, rfl, HQ, hrel⟩ := hrel
        have HMP : Hid (New w wq) := Lib.hid (HM3.out.step HQ.out (fun i hi e => by omega))
        by_cases hlt : q < xln
        · have hqx : q < xs.length := by have := HL1.out.1; omega
          obtain ⟨g2, o2, hA, htb, hc0⟩ := (HL1.out.sl.new HMP.out).2 (by omega)
          subst hA
          have hgl2 := htb.lt
          have hb2 : (0 : Int) ≤ q := by omega
          have hb3 : (q : Int) < xln := by omega
          have hc := fun j (hj : j < 6) => hc0 q hqx j hj
          clear hc0 htb
          obtain ⟨z, hz⟩ : ∃ z, xs[q] = z := ⟨_, rfl⟩
          rw [hz] at hc
          have HZ := Lib.hid hz
          clear hz
          obtain ⟨zk, zf, zn, zw, zla, zln, zlc, zma, zmn, zmc⟩ := z
          have b0 := hc 0 (by omega)
          have b1 := hc 1 (by omega)
          have b2 := hc 2 (by omega)
          have b3 := hc 3 (by omega)
          have b4 := hc 4 (by omega)
          have b5 := hc 5 (by omega)
          simp only [VA.enc, Nat.add_zero, Nat.zero_add] at b0 b1 b2 b3 b4 b5
          clear hc
          have hts := HSB.out.mod HQ.out (by omega)
          have ma : New wq (wq.alloc (.cells #[.int .i64 zk, .bool zf, .int .i64 zn, .string zw, .slice zla zln zlc, .slice zma zmn zmc] 29)) := (Mod.refl _ _).alloc _
          have htm := hts.mod ma (fun e => e)
          have t0 := htm.cell 0
          have t1 := htm.cell 1
          have t2 := htm.cell 2
          have tl := htm.lt
          simp only [List.getElem?_toArray, List.getElem?_cons_zero, List.getElem?_cons_succ] at t0 t1 t2
          have hmb := Blk.new wq 29 #[.int .i64 zk, .bool zf, .int .i64 zn, .string zw, .slice zla zln zlc, .slice zma zmn zmc]
          have hszp : xb < wq.heap.size := Nat.lt_of_lt_of_le HX3.out.lt HQ.out.size
          have HMA := Lib.hid ma
          have HMB := Lib.hid hmb
          clear hts htm
          go_upto_region 8 with (fail)
          generalize wq.alloc (.cells #[.int .i64 zk, .bool zf, .int .i64 zn, .string zw, .slice zla zln zlc, .slice zma zmn zmc] 29) = wa at *
          generalize wq.heap.size = mb at *
          clear b0 b1 b2 b3 b4 b5 hgl2 ma hmb
          have d0 := HMB.out.cell 0
          have d1 := HMB.out.cell 1
          have d2 := HMB.out.cell 2
          have d3 := HMB.out.cell 3
          have d4 := HMB.out.cell 4
          have d5 := HMB.out.cell 5
          have dl := HMB.out.lt
          simp only [List.getElem?_toArray, List.getElem?_cons_zero, List.getElem?_cons_succ] at d0 d1 d2 d3 d4 d5
          rcases hrel with ⟨rfl, hqk, HX5⟩ | ⟨rfl, hkq, hkx, HXJ⟩
          · by_cases hn : q = k
            · subst hn
              have HX6 := Lib.hid (HX5.out.mod HMA.out (fun e => e))
              have e0 := HX6.out.cell 0
              have e1 := HX6.out.cell 1
              have e2 := HX6.out.cell 2
              have e3 := HX6.out.cell 3
              have e4 := HX6.out.cell 4
              have e5 := HX6.out.cell 5
              have el := HX6.out.lt
              have ef := HX6.out.frozen
              simp only [List.getElem?_toArray, List.getElem?_cons_zero, List.getElem?_cons_succ] at e0 e1 e2 e3 e4 e5
              go_wp2_with fail
              go_roundw
              case rel => exact ⟨q + 1, by omega, by go_num, Lib.hid ((HQ.out.step HMA.out (fun _ _ e => e.elim)).trans (Only.cell6 wa xb _ _ _ _ _ _)), .inr ⟨rfl, by omega, hqx, Lib.hid (by
                rw [HZ.out]
                exact Blk.copy6 HX6.out _ _ _ _ _ _)⟩⟩
              case measure => simp [intOf]; omega
            · have hcm : ((q : Int) == (k : Int)) = false := by simp; omega
              go_wp2_with fail
              go_roundw
              case rel => exact ⟨q + 1, by omega, by go_num, Lib.hid (HQ.out.step HMA.out (fun _ _ e => e.elim)), .inl ⟨rfl, by omega, Lib.hid (HX5.out.mod HMA.out (fun e => e))⟩⟩
              case measure => simp [intOf]; omega
          · have hcm : ((q : Int) == (k : Int)) = false := by simp; omega
            go_wp2_with fail
            go_roundw
            case rel => exact ⟨q + 1, by omega, by go_num, Lib.hid (HQ.out.step HMA.out (fun _ _ e => e.elim)), .inr ⟨rfl, by omega, hkx, Lib.hid (HXJ.out.mod HMA.out (fun e => e))⟩⟩
            case measure => simp [intOf]; omega
        · obtain rfl : xln = q := by omega
          have HR4 := Lib.hid (HR3.out.mod HQ.out (by omega))
          have HS4 := Lib.hid (HSB.out.mod HQ.out (by omega))
          clear HX3 HR3 HSB HM3 HQ
          rcases hrel with ⟨rfl, hqk, HX5⟩ | ⟨rfl, hkq, hkx, HXJ⟩
          · obtain ⟨y, ms2, HXY, HSM, hmn2, hfin⟩ : ∃ (y : VA) (ms2 : List MA), Hid (Blk wq xb 29 y.cells) ∧ Hid (Sl w 66 7 MA.enc y.ma y.mn ms2) ∧ y.mn ≤ 100000 ∧ xln ≤ k :=
              ⟨⟨xk, xf, xn, xw, xla, xln, xlc, xma, xmn, xmc⟩, ms, HX5, Lib.hid HL3.out.sl, hmn, hqk⟩
            have hxy := HXY.out
            have HYE : Hid (∃ y2, y2 = y) := Lib.hid ⟨y, rfl⟩
            obtain ⟨yk, yf, yn, yw, yla, yln, ylc, yma, ymn, ymc⟩ := y
            simp only [VA.cells] at hxy
            simp only at hmn2 HSM
            have e0 := hxy.cell 0
            have e1 := hxy.cell 1
            have e2 := hxy.cell 2
            have e3 := hxy.cell 3
            have e4 := hxy.cell 4
            have e5 := hxy.cell 5
            have el := hxy.lt
            have ef := hxy.frozen
            simp only [List.getElem?_toArray, List.getElem?_cons_zero, List.getElem?_cons_succ] at e0 e1 e2 e3 e4 e5
            go_wp2_with fail
            clear e0 e1 e2 e3 e4 e5 el ef
            clear hxy
            go_loopw [45, 8] (fun i f wp => ∃ q : Nat, q ≤ ymn ∧ i = .int .i64 q ∧ f = .bool false ∧ Hid (New wq wp)) (fun i _ _ => ymn - (intOf i).toNat)
            case atStart => exact ⟨0, Nat.zero_le _, rfl, rfl, Lib.hid (Mod.refl _ _)⟩
            case round =>
              rename World => wp
              obtain ⟨q, hq, rfl, rfl, HQ⟩ := hrel
              by_cases hlt : q < ymn
              · have hqx : q < ms2.length := by have := HSM.out.1; omega
                obtain ⟨g2, o2, hA, htb, hc0⟩ := (HSM.out.new (HMP.out.trans HQ.out)).2 (by omega)
                subst hA
                have hgl2 := htb.lt
                have hb2 : (0 : Int) ≤ q := by omega
                have hb3 : (q : Int) < ymn := by omega
                have hc := fun j (hj : j < 7) => hc0 q hqx j hj
                clear hc0 htb
                generalize ms2[q] = z at *
                obtain ⟨zn0, zk, zf, zn, zw, zla, zln, zlc, zma, zmn, zmc⟩ := z
                have b0 := hc 0 (by omega)
                have b1 := hc 1 (by omega)
                have b2 := hc 2 (by omega)
                have b3 := hc 3 (by omega)
                have b4 := hc 4 (by omega)
                have b5 := hc 5 (by omega)
                have b6 := hc 6 (by omega)
                simp only [MA.enc, VA.enc, Nat.add_zero, Nat.zero_add] at b0 b1 b2 b3 b4 b5 b6
                clear hc
                have hts := HS4.out.mod HQ.out (fun e => e)
                have htm := hts.mod ((Mod.refl (fun _ => False) wp).alloc (.cells #[.string zn0, .int .i64 zk, .bool zf, .int .i64 zn, .string zw, .slice zla zln zlc, .slice zma zmn zmc] 66)) (fun e => e)
                have t0 := htm.cell 0
                have t1 := htm.cell 1
                have t2 := htm.cell 2
                have tl := htm.lt
                simp only [List.getElem?_toArray, List.getElem?_cons_zero, List.getElem?_cons_succ] at t0 t1 t2
                clear hts htm
                go_wp2_with fail
                go_roundw
                case rel => exact ⟨q + 1, by omega, by go_num, rfl, Lib.hid (HQ.out.trans ((Mod.refl _ _).alloc _))⟩
                case measure => simp [intOf]; omega
              · obtain rfl : ymn = q := by omega
                have HR5 := Lib.hid (HR4.out.mod HQ.out (fun e => e))
                have hle := hfin
                have HGN : Hid (getR v ⟨false, sn, (k : Int)⟩ = none) := Lib.hid (by
                  rw [getR4 rfl]
                  exact List.getElem?_eq_none (by show v.list.length ≤ k; have := HF5.out; omega))
                have HMX := Lib.hid (HMP.out.trans HQ.out)
                have r0 := HR5.out.cell 0
                have r1 := HR5.out.cell 1
                have r2 := HR5.out.cell 2
                have r3 := HR5.out.cell 3
                have r4 := HR5.out.cell 4
                have r5 := HR5.out.cell 5
                have rl := HR5.out.lt
                have rf := HR5.out.frozen
                simp only [List.getElem?_toArray, List.getElem?_cons_zero, List.getElem?_cons_succ] at r0 r1 r2 r3 r4 r5
                go_wp2_with fail
                refine bodyPost_ret (v := .tuple #[nilVA.val, .bool false]) (by simp [results, Tryz.results24, go_sem, r0, r1, r2, r3, r4, r5, rf]) rfl (.inl ⟨HGN.out, rfl, ?_⟩)
                repeat (with_reducible (first | exact HMX.out | (refine Mod.setCell ?_ (.inr (by first | omega | (dsimp only; omega) | skip)) _)))
          · obtain ⟨y, ms2, HXY, HSM, hmn2, hfin⟩ : ∃ (y : VA) (ms2 : List MA), Hid (Blk wq xb 29 y.cells) ∧ Hid (Sl w 66 7 MA.enc y.ma y.mn ms2) ∧ y.mn ≤ 100000 ∧ ∃ (h : k < xs.length) (h' : k < v.list.length), y = xs[k] := by
              have hkl : k < v.list.length := by rw [← HL2.out.len]; exact hkx
              have hty := HL2.out.get k hkx hkl
              have hwk := HWD.out.2.2.2.1 _ (List.getElem_mem hkl)
              cases d with
              | zero => exact hty.elim
              | succ d =>
                obtain ⟨_, ms2, -, -, q3, q4⟩ := Tree.als hty
                obtain ⟨-, -, -, -, -, q6⟩ := Tree.fields hty
                exact ⟨xs[k], ms2, HXJ, Lib.hid q3.sl, by have := hwk.2.1; omega, hkx, hkl, rfl⟩
            have hxy := HXY.out
            have HYE : Hid (∃ y2, y2 = y) := Lib.hid ⟨y, rfl⟩
            obtain ⟨yk, yf, yn, yw, yla, yln, ylc, yma, ymn, ymc⟩ := y
            simp only [VA.cells] at hxy
            simp only at hmn2 HSM
            have e0 := hxy.cell 0
            have e1 := hxy.cell 1
            have e2 := hxy.cell 2
            have e3 := hxy.cell 3
            have e4 := hxy.cell 4
            have e5 := hxy.cell 5
            have el := hxy.lt
            have ef := hxy.frozen
            simp only [List.getElem?_toArray, List.getElem?_cons_zero, List.getElem?_cons_succ] at e0 e1 e2 e3 e4 e5
            go_wp2_with fail
            clear e0 e1 e2 e3 e4 e5 el ef
            clear hxy
            go_loopw [45, 8] (fun i f wp => ∃ q : Nat, q ≤ ymn ∧ i = .int .i64 q ∧ f = .bool true ∧ Hid (New wq wp)) (fun i _ _ => ymn - (intOf i).toNat)
            case atStart => exact ⟨0, Nat.zero_le _, rfl, rfl, Lib.hid (Mod.refl _ _)⟩
            case round =>
              rename World => wp
              obtain ⟨q, hq, rfl, rfl, HQ⟩ := hrel
              by_cases hlt : q < ymn
              · have hqx : q < ms2.length := by have := HSM.out.1; omega
                obtain ⟨g2, o2, hA, htb, hc0⟩ := (HSM.out.new (HMP.out.trans HQ.out)).2 (by omega)
                subst hA
                have hgl2 := htb.lt
                have hb2 : (0 : Int) ≤ q := by omega
                have hb3 : (q : Int) < ymn := by omega
                have hc := fun j (hj : j < 7) => hc0 q hqx j hj
                clear hc0 htb
                generalize ms2[q] = z at *
                obtain ⟨zn0, zk, zf, zn, zw, zla, zln, zlc, zma, zmn, zmc⟩ := z
                have b0 := hc 0 (by omega)
                have b1 := hc 1 (by omega)
                have b2 := hc 2 (by omega)
                have b3 := hc 3 (by omega)
                have b4 := hc 4 (by omega)
                have b5 := hc 5 (by omega)
                have b6 := hc 6 (by omega)
                simp only [MA.enc, VA.enc, Nat.add_zero, Nat.zero_add] at b0 b1 b2 b3 b4 b5 b6
                clear hc
                have hts := HS4.out.mod HQ.out (fun e => e)
                have htm := hts.mod ((Mod.refl (fun _ => False) wp).alloc (.cells #[.string zn0, .int .i64 zk, .bool zf, .int .i64 zn, .string zw, .slice zla zln zlc, .slice zma zmn zmc] 66)) (fun e => e)
                have t0 := htm.cell 0
                have t1 := htm.cell 1
                have t2 := htm.cell 2
                have tl := htm.lt
                simp only [List.getElem?_toArray, List.getElem?_cons_zero, List.getElem?_cons_succ] at t0 t1 t2
                clear hts htm
                go_wp2_with fail
                go_roundw
                case rel => exact ⟨q + 1, by omega, by go_num, rfl, Lib.hid (HQ.out.trans ((Mod.refl _ _).alloc _))⟩
                case measure => simp [intOf]; omega
              · obtain rfl : ymn = q := by omega
                have HR5 := Lib.hid (HR4.out.mod HQ.out (fun e => e))
                obtain ⟨hkx, hkl, hye⟩ := hfin
                have hty := HL2.out.get k hkx hkl
                have HGS : Hid (getR v ⟨false, sn, (k : Int)⟩ = some v.list[k]) := Lib.hid (by
                  rw [getR4 rfl]
                  exact List.getElem?_eq_getElem hkl)
                rw [← hye] at hty
                go_wp2_with fail
                go_roundw
                case rel => exact .inr ⟨rfl, v.list[k], _, HGS, Lib.hid (hty.new (HMP.out.trans HQ.out)), Lib.hid (HXY.out.mod HQ.out (fun e => e)), HR5, Lib.hid (HMP.out.trans HQ.out)⟩
                case measure => simp [intOf]
    · obtain ⟨u, y, HGU, HTY, HXY, HRY, HMY⟩ := hrel
      obtain ⟨yk, yf, yn, yw, yla, yln, ylc, yma, ymn, ymc⟩ := y
      have hxy := HXY.out
      simp only [VA.cells] at hxy
      have e0 := hxy.cell 0
      have e1 := hxy.cell 1
      have e2 := hxy.cell 2
      have e3 := hxy.cell 3
      have e4 := hxy.cell 4
      have e5 := hxy.cell 5
      have el := hxy.lt
      have ef := hxy.frozen
      simp only [List.getElem?_toArray, List.getElem?_cons_zero, List.getElem?_cons_succ] at e0 e1 e2 e3 e4 e5
      have r0 := HRY.out.cell 0
      have r1 := HRY.out.cell 1
      have r2 := HRY.out.cell 2
      have r3 := HRY.out.cell 3
      have r4 := HRY.out.cell 4
      have r5 := HRY.out.cell 5
      have rl := HRY.out.lt
      have rf := HRY.out.frozen
      simp only [List.getElem?_toArray, List.getElem?_cons_zero, List.getElem?_cons_succ] at r0 r1 r2 r3 r4 r5
      clear hxy
      go_wp2_with fail
      refine bodyPost_ret (v := .tuple #[VA.val ⟨yk, yf, yn, yw, yla, yln, ylc, yma, ymn, ymc⟩, .bool true]) (by simp [results, Tryz.results24, go_sem, e0, e1, e2, e3, e4, e5, ef, r0, r1, r2, r3, r4, r5, rf]) rfl (.inr ⟨u, ⟨yk, yf, yn, yw, yla, yln, ylc, yma, ymn, ymc⟩, HGU.out, rfl, Tree.imp (G := fun g => G g ∧ g < xb) (fun g hg _ => hg.1) _ _ _ (Tree.mod (S := fun k => k = xb + 1) ?_ (fun g hg _ e => by have := hg.2; omega) _ _ _ HTY.out), ?_⟩)
      · repeat (with_reducible (first | exact Mod.refl _ _ | (refine Mod.setCell ?_ (.inl (by first | rfl | omega | (dsimp only; omega) | skip)) _)))
      · repeat (with_reducible (first | exact HMY.out | (refine Mod.setCell ?_ (.inr (by first | omega | (dsimp only; omega) | skip)) _)))

/-- GetAt of a path of one step -/
theorem getAt_v (G : Nat → Prop) (d : Nat) (x : VA) (v : VT) (s : St) (A : Option Addr) (c : Nat) (w : World) (ht : Tree w G (d + 1) x v) (hs : Sl w 46 3 St.enc A 1 [s]) (hw : Wide 100000 (d + 1) v) (hk : 0 ≤ s.at_ ∧ s.at_ ≤ 5000) :
    Calls Tryz.prog 24 #[x.val, .slice A 1 c] w (RGet G d v s w) := by
  obtain ⟨nm, sn, sa⟩ := s
  obtain ⟨k, hk2⟩ := Int.eq_ofNat_of_zero_le hk.1
  simp only at hk2 hk
  subst hk2
  cases nm with
  | true => exact getAt_named G d x v sn k A c w ht hs hw
  | false => exact getAt_at G d x v sn k A c w ht hs hw (by omega)

end Go.Proofs.YtpgcbehpknghdaaGreatDoor
