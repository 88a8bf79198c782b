/- Several texts in one. (1) The reference: SameRoute of two routes that read as the same one. Conditions: rows of at most 1000000. (2) The reference: SameRoutes of two rows of routes that read as the same. Conditions: rows of at most 1000000. -/
import Derived.Test.YtnbcfpjalgfikaaGreatDoorRtLawGrp

namespace Go.Proofs.YtnbcfpjalgfikaaGreatDoor
open Go.RowKit
set_option linter.unusedVariables false
set_option linter.unusedSimpArgs false

theorem equal_strs (zs : List ByteArray) (A1 A2 : Option Addr) (n c1 c2 : Nat) (w : World) (h1 : SSl1 w A1 n zs) (h2 : SSl1 w A2 n zs) (hn : n ≤ 1000000) :
    Calls Tryz.prog 61 #[.slice A1 n c1, .slice A2 n c2] w fun e w' => e = .returned (.bool true) ∧ New w w' := by
  have hl := h1.1
  rcases Nat.eq_zero_or_pos n with rfl | h0
  · refine (Tryz.slices_Equal_string_empty A1 A2 c1 0 c2 w (by omega)).mono ?_
    rintro e w' ⟨rfl, rfl⟩
    exact ⟨rfl, Mod.refl _ _⟩
  · obtain ⟨g1, o1, rfl, -, k1⟩ := h1.2 h0
    obtain ⟨g2, o2, rfl, -, k2⟩ := h2.2 h0
    have key : ∀ g o, (∀ i (h : i < zs.length) j, j < 1 → w.cell? ⟨g, o + i * 1 + j, none⟩ = some (sEnc zs[i] j)) → ∀ j, j < zs.length → w.cell? ⟨g, o + j, none⟩ = some (.string (zs.getD j ByteArray.empty)) := fun g o k j hj => by
      have := k j hj 0 (by omega)
      simp only [Nat.mul_one, Nat.add_zero] at this
      rw [this]
      simp [List.getD_eq_getElem?_getD, hj, sEnc]
    refine (Tryz.slices_Equal_string g1 o1 n c1 g2 o2 n c2 zs zs w (by omega) (by omega) (by omega) (by omega) (key g1 o1 k1) (key g2 o2 k2)).mono ?_
    rintro e w' ⟨rfl, q, rfl⟩
    exact ⟨by simp, (Mod.refl _ _).drewN q⟩
set_option maxRecDepth 100000 in
set_option maxHeartbeats 1000000 in
theorem sameRoute_v (r : RtD) (x y : RA) (w : World) (hx : RtAt w x r) (hy : RtAt w y r) (hn : x.hn ≤ 1000000 ∧ x.mn ≤ 1000000 ∧ x.nn ≤ 1000000) :
    Calls Tryz.prog 35 #[x.val, y.val] w fun e w' => e = .returned (.bool true) ∧ New w w' := by
  obtain ⟨k1, k2, k3, h1, h2, h3, -, -, -⟩ := hx
  obtain ⟨j1, j2, j3, g1, g2, g3, -, -, -⟩ := hy
  obtain ⟨key, ha, hn_, hc, path, ma, mn, mc, na, nn, nc, dest⟩ := x
  obtain ⟨key2, ha2, hn2, hc2, path2, ma2, mn2, mc2, na2, nn2, nc2, dest2⟩ := y
  simp only at k1 k2 k3 h1 h2 h3 j1 j2 j3 g1 g2 g3 hn
  subst k1 k2 k3 j1 j2 j3
  obtain ⟨n1, n2, n3⟩ := hn
  obtain rfl : hn2 = hn_ := by have := h1.1; have := g1.1; omega
  obtain rfl : mn2 = mn := by have := h2.1; have := g2.1; omega
  obtain rfl : nn2 = nn := by have := h3.1; have := g3.1; omega
  have HQ1 := Lib.hid (fun W (h : New w W) => equal_strs r.hosts ha ha2 hn2 hc hc2 W (h1.new h) (g1.new h) n1)
  have HQ2 := Lib.hid (fun W (h : New w W) => equal_strs r.methods ma ma2 mn2 mc mc2 W (h2.new h) (g2.new h) n2)
  have HQ3 := Lib.hid (fun W (h : New w W) => equal_pairs r.needs na na2 nn2 nc nc2 W (h3.new h) (g3.new h) n3)
  simp only [RA.val]
  clear h1 h2 h3 g1 g2 g3
  obtain ⟨key, hosts, path, methods, needs, dest⟩ := r
  simp only at HQ1 HQ2 HQ3 ⊢
  have bx := Blk.new w 44 #[.string key, .slice ha hn2 hc, .string path, .slice ma mn2 mc, .slice na nn2 nc, .string dest]
  have m1 : New w (w.alloc (.cells #[.string key, .slice ha hn2 hc, .string path, .slice ma mn2 mc, .slice na nn2 nc, .string dest] 44)) := (Mod.refl _ _).alloc _
  have z1 : (w.alloc (.cells #[.string key, .slice ha hn2 hc, .string path, .slice ma mn2 mc, .slice na nn2 nc, .string dest] 44)).heap.size = w.heap.size + 1 := by simp
  go_enter Tryz.func35, Tryz.ntmps35
  go_upto_region 1 with (fail)
  generalize w.alloc (.cells #[.string key, .slice ha hn2 hc, .string path, .slice ma mn2 mc, .slice na nn2 nc, .string dest] 44) = w1 at *
  have byy := Blk.new w1 44 #[.string key, .slice ha2 hn2 hc2, .string path, .slice ma2 mn2 mc2, .slice na2 nn2 nc2, .string dest]
  have m2 : New w1 (w1.alloc (.cells #[.string key, .slice ha2 hn2 hc2, .string path, .slice ma2 mn2 mc2, .slice na2 nn2 nc2, .string dest] 44)) := (Mod.refl _ _).alloc _
  rw [z1] at byy
  generalize w1.alloc (.cells #[.string key, .slice ha2 hn2 hc2, .string path, .slice ma2 mn2 mc2, .slice na2 nn2 nc2, .string dest] 44) = w2 at *
  have HX := Lib.hid (bx.mod m2 (fun e => e))
  have HY := Lib.hid byy
  have HM := Lib.hid (m1.trans m2)
  clear bx byy m1 m2 z1
  generalize w.heap.size = xb at *
  generalize hyb : xb + 1 = yb at *
  clear hyb
  have HSX : Hid (∀ W, New w2 W → W.cell? ⟨xb, 0, none⟩ = some (.string key) ∧ W.cell? ⟨xb, 1, none⟩ = some (.slice ha hn2 hc) ∧ W.cell? ⟨xb, 2, none⟩ = some (.string path) ∧ W.cell? ⟨xb, 3, none⟩ = some (.slice ma mn2 mc) ∧ W.cell? ⟨xb, 4, none⟩ = some (.slice na nn2 nc) ∧ W.cell? ⟨xb, 5, none⟩ = some (.string dest) ∧ xb < W.heap.size) := Lib.hid (fun W h => by
    have b := HX.out.mod h (fun e => e)
    exact ⟨(b.cell 0).trans rfl, (b.cell 1).trans rfl, (b.cell 2).trans rfl, (b.cell 3).trans rfl, (b.cell 4).trans rfl, (b.cell 5).trans rfl, b.lt⟩)
  have HSY : Hid (∀ W, New w2 W → W.cell? ⟨yb, 0, none⟩ = some (.string key) ∧ W.cell? ⟨yb, 1, none⟩ = some (.slice ha2 hn2 hc2) ∧ W.cell? ⟨yb, 2, none⟩ = some (.string path) ∧ W.cell? ⟨yb, 3, none⟩ = some (.slice ma2 mn2 mc2) ∧ W.cell? ⟨yb, 4, none⟩ = some (.slice na2 nn2 nc2) ∧ W.cell? ⟨yb, 5, none⟩ = some (.string dest) ∧ yb < W.heap.size) := Lib.hid (fun W h => by
    have b := HY.out.mod h (fun e => e)
    exact ⟨(b.cell 0).trans rfl, (b.cell 1).trans rfl, (b.cell 2).trans rfl, (b.cell 3).trans rfl, (b.cell 4).trans rfl, (b.cell 5).trans rfl, b.lt⟩)
  obtain ⟨a0, a1, a2, a3, a4, a5, al⟩ := HSX.out _ (Mod.refl _ _)
  obtain ⟨b0, b1, b2, b3, b4, b5, bl⟩ := HSY.out _ (Mod.refl _ _)
  have q1 := HQ1.out _ HM.out
  go_wp2_with fail
  clear a0 a1 a2 a3 a4 a5 al b0 b1 b2 b3 b4 b5 bl
  refine q1.mono ?_
  clear q1
  rintro e w3 ⟨rfl, m3⟩
  obtain ⟨a0, a1, a2, a3, a4, a5, al⟩ := HSX.out _ m3
  obtain ⟨b0, b1, b2, b3, b4, b5, bl⟩ := HSY.out _ m3
  have HM3 := Lib.hid m3
  have q2 := HQ2.out _ (HM.out.trans m3)
  clear m3
  go_wp2_with fail
  clear a0 a1 a2 a3 a4 a5 al b0 b1 b2 b3 b4 b5 bl
  refine q2.mono ?_
  clear q2
  rintro e w4 ⟨rfl, m4⟩
  have m4 := HM3.out.trans m4
  obtain ⟨a0, a1, a2, a3, a4, a5, al⟩ := HSX.out _ m4
  obtain ⟨b0, b1, b2, b3, b4, b5, bl⟩ := HSY.out _ m4
  have HM4 := Lib.hid m4
  have q3 := HQ3.out _ (HM.out.trans m4)
  clear m4
  go_wp2_with fail
  clear a0 a1 a2 a3 a4 a5 al b0 b1 b2 b3 b4 b5 bl
  refine q3.mono ?_
  clear q3
  rintro e w5 ⟨rfl, m5⟩
  have m5 := HM4.out.trans m5
  obtain ⟨a0, a1, a2, a3, a4, a5, al⟩ := HSX.out _ m5
  obtain ⟨b0, b1, b2, b3, b4, b5, bl⟩ := HSY.out _ m5
  have HM5 := Lib.hid (HM.out.trans m5)
  clear m5
  go_wp2_with fail
  go_ret
  exact ⟨rfl, HM5.out⟩
end Go.Proofs.YtnbcfpjalgfikaaGreatDoor

namespace Go.Proofs.YtnbcfpjalgfikaaGreatDoor
open Go.RowKit
set_option linter.unusedVariables false
set_option linter.unusedSimpArgs false

theorem enters_sameRoute (args : Array Value) (w : World) : (callFunc 35 args).run Tryz.prog w = .ok (.enter 35 args) w := by
  go_simp
set_option maxRecDepth 100000 in
set_option maxHeartbeats 700000 in
theorem sameRoutes_v (L : List RtD) (A1 A2 : Option Addr) (n m c1 c2 : Nat) (w : World) (h1 : RtRows w A1 n L) (h2 : RtRows w A2 m L) (hn : n ≤ 1000000) (hL : ∀ r ∈ L, r.hosts.length ≤ 1000000 ∧ r.methods.length ≤ 1000000 ∧ r.needs.length ≤ 1000000) :
    Calls Tryz.prog 11 #[.slice A1 n c1, .slice A2 m c2] w fun e w' => e = .returned (.bool true) ∧ New w w' := by
  obtain rfl : m = n := by have := h1.len; have := h2.len; omega
  obtain ⟨xs, h1, k1⟩ := h1
  obtain ⟨ys, h2, k2⟩ := h2
  have key : Calls Tryz.prog 34 #[.slice A1 m c1, .slice A2 m c2, .func (.func 35) #[] #[]] w fun e w' => e = .returned (.bool true) ∧ New w w' := by
    have HS1 := Lib.hid h1
    have HS2 := Lib.hid h2
    have HK1 := Lib.hid k1
    have HK2 := Lib.hid k2
    have HL := Lib.hid hL
    have hx1 := h1.1
    have hx2 := h2.1
    have hl1 := k1.len
    have eg := enters_sameRoute
    clear h1 h2 k1 k2 hL
    go_enter Tryz.func34, Tryz.ntmps34
    go_wp2_with fail
    go_loopw [17] (fun i wr => ∃ k : Nat, k ≤ m ∧ i = .int .i64 k ∧ Hid (New w wr)) (fun i _ => m - (intOf i).toNat)
    case atStart => exact ⟨0, Nat.zero_le _, rfl, Lib.hid (Mod.refl _ _)⟩
    case round =>
      rename World => wr
      obtain ⟨k, hk, rfl, HM⟩ := hrel
      by_cases hlt : k < m
      · have hkx : k < xs.length := by omega
        have hky : k < ys.length := by omega
        have hkl : k < L.length := by omega
        obtain ⟨g1, o1, hA1, ht1, hc1⟩ := (HS1.out.new HM.out).2 (by omega)
        obtain ⟨g2, o2, hA2, ht2, hc2⟩ := (HS2.out.new HM.out).2 (by omega)
        subst hA1 hA2
        have hc := fun q (hq : q < 6) => hc1 k hkx q hq
        have hd := fun q (hq : q < 6) => hc2 k hky q hq
        have l1 := ht1.lt
        have l2 := ht2.lt
        have hb1 : (0 : Int) ≤ k := by omega
        have hb2 : (k : Int) < m := by omega
        have hat := HK1.out.get k hkx hkl
        have hcall := fun W (h : New wr W) => sameRoute_v L[k] xs[k] ys[k] W ((hat.new HM.out).new h) (((HK2.out.get k hky hkl).new HM.out).new h) (by
          have q := HL.out _ (List.getElem_mem hkl)
          have e1 := hat.hosts.1
          have e2 := hat.methods.1
          have e3 := hat.needs.1
          omega)
        have HCALL := Lib.hid hcall
        clear hc1 hc2 ht1 ht2 hcall hat
        generalize xs[k] = x at *
        generalize ys[k] = y at *
        obtain ⟨x0, x1, x2, x3, x4, x5, x6, x7, x8, x9, xa, xb⟩ := x
        obtain ⟨y0, y1, y2, y3, y4, y5, y6, y7, y8, y9, ya, yb⟩ := y
        have a0 := hc 0 (by omega)
        have a1 := hc 1 (by omega)
        have a2 := hc 2 (by omega)
        have a3 := hc 3 (by omega)
        have a4 := hc 4 (by omega)
        have a5 := hc 5 (by omega)
        have b0 := hd 0 (by omega)
        have b1 := hd 1 (by omega)
        have b2 := hd 2 (by omega)
        have b3 := hd 3 (by omega)
        have b4 := hd 4 (by omega)
        have b5 := hd 5 (by omega)
        simp only [RA.enc, Nat.add_zero] at a0 a1 a2 a3 a4 a5 b0 b1 b2 b3 b4 b5
        simp only [RA.val] at HCALL
        clear hc hd
        go_wp2_with fail
        refine (HCALL.out _ (((Mod.refl _ _).alloc _).alloc _)).mono ?_
        rintro e w2 ⟨rfl, hm2⟩
        have HM2 := Lib.hid (HM.out.trans ((((Mod.refl _ _).alloc _).alloc _).trans hm2))
        clear hm2 HCALL a0 a1 a2 a3 a4 a5 b0 b1 b2 b3 b4 b5
        go_wp2_with fail
        go_roundw
        case rel => exact ⟨k + 1, by omega, by go_num, HM2⟩
        case measure => simp [intOf]; omega
      · obtain rfl : k = m := by omega
        go_wp2_with fail
        go_ret
        exact ⟨rfl, HM.out⟩
  clear h1 h2 k1 k2 hL
  go_enter Tryz.func11, Tryz.ntmps11
  go_wp2_with fail
  refine key.mono ?_
  clear key
  rintro e w1 ⟨rfl, m1⟩
  go_wp2_with fail
  go_ret
  exact ⟨rfl, m1⟩
end Go.Proofs.YtnbcfpjalgfikaaGreatDoor
