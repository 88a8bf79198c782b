/- Several texts in one. (1) Paths that read alike are equal (slices.Equal of steps). Conditions: at most 1000000. (2) The reference: SameChanges of changes that read alike. Conditions: values that fit, at most 100000 changes, paths of at most 1000000. -/
import Derived.Test.YtjfgfkbgbhbhjaaGreatDoorChgMemGrp
import Derived.Test.YtjfgfkbgbhbhjaaGreatDoorSame
import Derived.Test.YtjfgfkbgbhbhjaaGreatDoorDAddGrp

namespace Go.Proofs.YtjfgfkbgbhbhjaaGreatDoor
open Go.RowKit
set_option linter.unusedVariables false
set_option linter.unusedSimpArgs false

set_option maxRecDepth 100000 in
set_option maxHeartbeats 700000 in
theorem equal_steps (zs : List St) (A1 A2 : Option Addr) (n c1 c2 : Nat) (w : World) (h1 : Sl w 76 3 St.enc A1 n zs) (h2 : Sl w 76 3 St.enc A2 n zs) (hn : n ≤ 1000000) :
    Calls Tryz.prog 47 #[.slice A1 n c1, .slice A2 n c2] w fun e w' => e = .returned (.bool true) ∧ New w w' := by
  have hlen := h1.1
  have H1 := Lib.hid h1
  have H2 := Lib.hid h2
  clear h1 h2
  go_enter Tryz.func47, Tryz.ntmps47
  go_wp2_with fail
  go_loopw [5, 13] (fun _ i wr => ∃ k : Nat, k ≤ n ∧ i = .int .i64 k ∧ ∃ q, wr = w.drewN q) (fun _ i _ => n - (intOf i).toNat)
  case atStart => exact ⟨0, Nat.zero_le _, rfl, 0, rfl⟩
  case round =>
    obtain ⟨k, hk, rfl, q, rfl⟩ := hrel
    by_cases hlt : k < n
    · obtain ⟨g1, o1, hA1, t1, k1⟩ := H1.out.2 (by omega)
      obtain ⟨g2, o2, hA2, t2, k2⟩ := H2.out.2 (by omega)
      subst hA1 hA2
      have a0 := k1 k (by omega) 0 (by omega)
      have a1 := k1 k (by omega) 1 (by omega)
      have a2 := k1 k (by omega) 2 (by omega)
      have b0 := k2 k (by omega) 0 (by omega)
      have b1 := k2 k (by omega) 1 (by omega)
      have b2 := k2 k (by omega) 2 (by omega)
      simp only [St.enc, Nat.add_zero] at a0 a1 a2 b0 b1 b2
      have l1 := t1.lt
      have l2 := t2.lt
      have hb1 : (0 : Int) ≤ k := by omega
      have hb2 : (k : Int) < n := by omega
      clear k1 k2
      generalize zs[k] = z at *
      obtain ⟨nm, sn, at_⟩ := z
      simp only at a0 a1 a2 b0 b1 b2
      go_wp2_with fail
      go_quiet (fail)
      go_wp2_with fail
      exact ⟨⟨k + 1, by omega, by go_num, _, rfl⟩, by simp [intOf]; omega⟩
    · obtain rfl : k = n := by omega
      go_wp2_with fail
      go_ret
      exact ⟨rfl, (Mod.refl _ _).drewN _⟩

end Go.Proofs.YtjfgfkbgbhbhjaaGreatDoor

namespace Go.Proofs.YtjfgfkbgbhbhjaaGreatDoor
open Go.RowKit
set_option linter.unusedVariables false
set_option linter.unusedSimpArgs false

theorem eqV_refl (v : VT) : eqV v v = true := (eqV_iff v v).2 rfl
set_option maxRecDepth 100000 in
set_option maxHeartbeats 700000 in
theorem sameChanges1 (D : Nat) (o : ChD) (x y : CA) (w : World) (hx : ChT w D x o) (hy : ChT w D y o) (hf : Fit D o.val) (hn : o.path.length ≤ 1000000) :
    Calls Tryz.prog 46 #[x.val, y.val] w fun e w' => e = .returned (.bool true) ∧ New w w' := by
  have e1 := hx.path.1
  have e2 := hy.path.1
  have hk : (x.kind == y.kind) = true := by rw [hx.kind, hy.kind]; simp
  have HST := Lib.hid (fun W (h : New w W) => equal_steps o.path x.pa y.pa x.pn x.pc y.pc W (hx.path.new h) (by have q := hy.path.new h; rw [show y.pn = x.pn by omega] at q; exact q) (by omega))
  have HSM := Lib.hid (fun W (h : New w W) => (by have q := same_v D x.v y.v o.val o.val _ W (hx.tree.new h) (hy.tree.new h) hf hf; rw [eqV_refl] at q; exact q : Calls Tryz.prog 11 #[x.v.val, y.v.val] W fun e w' => e = .returned (.bool true) ∧ New W w'))
  have hpn : y.pn = x.pn := by omega
  obtain ⟨xc, xpa, xpn, xpc, ⟨xk, xf, xn, xw, xla, xln, xlc, xma, xmn, xmc⟩⟩ := x
  obtain ⟨yc, ypa, ypn, ypc, ⟨yk, yf, yn, yw, yla, yln, ylc, yma, ymn, ymc⟩⟩ := y
  simp only at hk HST HSM hpn
  subst hpn
  clear hx hy e1 e2 hf hn
  have hx := Blk.new w 65 #[.int .i64 xc, .slice xpa ypn xpc, .int .i64 xk, .bool xf, .int .i64 xn, .string xw, .slice xla xln xlc, .slice xma xmn xmc]
  have hm1 : New w (w.alloc (.cells #[.int .i64 xc, .slice xpa ypn xpc, .int .i64 xk, .bool xf, .int .i64 xn, .string xw, .slice xla xln xlc, .slice xma xmn xmc] 65)) := (Mod.refl _ _).alloc _
  have z1 : (w.alloc (.cells #[.int .i64 xc, .slice xpa ypn xpc, .int .i64 xk, .bool xf, .int .i64 xn, .string xw, .slice xla xln xlc, .slice xma xmn xmc] 65)).heap.size = w.heap.size + 1 := by simp
  go_enter Tryz.func46, Tryz.ntmps46
  go_upto_region 1 with (fail)
  generalize w.alloc (.cells #[.int .i64 xc, .slice xpa ypn xpc, .int .i64 xk, .bool xf, .int .i64 xn, .string xw, .slice xla xln xlc, .slice xma xmn xmc] 65) = w1 at *
  have hy := Blk.new w1 65 #[.int .i64 yc, .slice ypa ypn ypc, .int .i64 yk, .bool yf, .int .i64 yn, .string yw, .slice yla yln ylc, .slice yma ymn ymc]
  have hm2 : New w1 (w1.alloc (.cells #[.int .i64 yc, .slice ypa ypn ypc, .int .i64 yk, .bool yf, .int .i64 yn, .string yw, .slice yla yln ylc, .slice yma ymn ymc] 65)) := (Mod.refl _ _).alloc _
  rw [z1] at hy
  generalize w1.alloc (.cells #[.int .i64 yc, .slice ypa ypn ypc, .int .i64 yk, .bool yf, .int .i64 yn, .string yw, .slice yla yln ylc, .slice yma ymn ymc] 65) = w2 at *
  have HX := Lib.hid (hx.mod hm2 (fun e => e))
  have HY := Lib.hid hy
  have HM := Lib.hid (hm1.trans hm2)
  clear hx hy hm1 hm2 z1
  generalize w.heap.size = xb at *
  generalize xb + 1 = yb at *
  have hst := HST.out w2 HM.out
  have hxx := HX.out
  have hyy := HY.out
  have e0 := hxx.cell 0
  have e1 := hxx.cell 1
  have e2 := hxx.cell 2
  have e3 := hxx.cell 3
  have e4 := hxx.cell 4
  have e5 := hxx.cell 5
  have e6 := hxx.cell 6
  have e7 := hxx.cell 7
  have el := hxx.lt
  have f0 := hyy.cell 0
  have f1 := hyy.cell 1
  have f2 := hyy.cell 2
  have f3 := hyy.cell 3
  have f4 := hyy.cell 4
  have f5 := hyy.cell 5
  have f6 := hyy.cell 6
  have f7 := hyy.cell 7
  have fl := hyy.lt
  simp only [List.getElem?_toArray, List.getElem?_cons_zero, List.getElem?_cons_succ] at e0 e1 e2 e3 e4 e5 e6 e7 f0 f1 f2 f3 f4 f5 f6 f7
  clear hxx hyy
  go_wp2_with fail
  clear e0 e1 e2 e3 e4 e5 e6 e7 el f0 f1 f2 f3 f4 f5 f6 f7 fl
  refine hst.mono ?_
  clear hst HST
  rintro e w3 ⟨rfl, m3⟩
  have HX3 := Lib.hid (HX.out.mod m3 (fun e => e))
  have HY3 := Lib.hid (HY.out.mod m3 (fun e => e))
  have HM3 := Lib.hid (HM.out.trans m3)
  clear HX HY HM m3
  have HX := HX3
  have HY := HY3
  have hsm := HSM.out w3 HM3.out
  try simp only [VA.val] at hsm
  have hxx := HX.out
  have hyy := HY.out
  have e0 := hxx.cell 0
  have e1 := hxx.cell 1
  have e2 := hxx.cell 2
  have e3 := hxx.cell 3
  have e4 := hxx.cell 4
  have e5 := hxx.cell 5
  have e6 := hxx.cell 6
  have e7 := hxx.cell 7
  have el := hxx.lt
  have f0 := hyy.cell 0
  have f1 := hyy.cell 1
  have f2 := hyy.cell 2
  have f3 := hyy.cell 3
  have f4 := hyy.cell 4
  have f5 := hyy.cell 5
  have f6 := hyy.cell 6
  have f7 := hyy.cell 7
  have fl := hyy.lt
  simp only [List.getElem?_toArray, List.getElem?_cons_zero, List.getElem?_cons_succ] at e0 e1 e2 e3 e4 e5 e6 e7 f0 f1 f2 f3 f4 f5 f6 f7
  clear hxx hyy
  go_wp2_with fail
  clear e0 e1 e2 e3 e4 e5 e6 e7 el f0 f1 f2 f3 f4 f5 f6 f7 fl
  refine hsm.mono ?_
  clear hsm HSM
  rintro e w4 ⟨rfl, m4⟩
  go_wp2_with fail
  go_ret
  exact ⟨rfl, HM3.out.trans m4⟩
theorem enters_same1 (args : Array Value) (w : World) : (callFunc 46 args).run Tryz.prog w = .ok (.enter 46 args) w := by
  go_simp
set_option maxRecDepth 100000 in
set_option maxHeartbeats 700000 in
theorem sameChanges_v (D : Nat) (L : List ChD) (xs ys : List CA) (A1 A2 : Option Addr) (n c1 c2 : Nat) (w : World) (h1 : Sl w 65 8 CA.enc A1 n xs) (h2 : Sl w 65 8 CA.enc A2 n ys) (k1 : Al (ChT w D) xs L) (k2 : Al (ChT w D) ys L) (hn : n ≤ 1000000) (hL : ∀ o ∈ L, Fit D o.val ∧ o.path.length ≤ 1000000) :
    Calls Tryz.prog 15 #[.slice A1 n c1, .slice A2 n c2] w fun e w' => e = .returned (.bool true) ∧ New w w' := by
  have key : Calls Tryz.prog 45 #[.slice A1 n c1, .slice A2 n c2, .func (.func 46) #[] #[]] w fun e w' => e = .returned (.bool true) ∧ New w w' := by
    have HS1 := Lib.hid h1
    have HS2 := Lib.hid h2
    have HK1 := Lib.hid k1
    have HK2 := Lib.hid k2
    have HL := Lib.hid hL
    have hx1 := h1.1
    have hx2 := h2.1
    have hl1 := k1.len
    have eg := enters_same1
    clear h1 h2 k1 k2 hL
    go_enter Tryz.func45, Tryz.ntmps45
    go_wp2_with fail
    go_loopw [17] (fun i wr => ∃ k : Nat, k ≤ n ∧ i = .int .i64 k ∧ Hid (New w wr)) (fun i _ => n - (intOf i).toNat)
    case atStart => exact ⟨0, Nat.zero_le _, rfl, Lib.hid (Mod.refl _ _)⟩
    case round =>
      rename World => wr
      obtain ⟨k, hk, rfl, HM⟩ := hrel
      by_cases hlt : k < n
      · have hkx : k < xs.length := by omega
        have hky : k < ys.length := by omega
        have hkl : k < L.length := by omega
        obtain ⟨g1, o1, hA1, ht1, hc1⟩ := (HS1.out.new HM.out).2 (by omega)
        obtain ⟨g2, o2, hA2, ht2, hc2⟩ := (HS2.out.new HM.out).2 (by omega)
        subst hA1 hA2
        have hc := fun q (hq : q < 8) => hc1 k hkx q hq
        have hd := fun q (hq : q < 8) => hc2 k hky q hq
        have l1 := ht1.lt
        have l2 := ht2.lt
        have hb1 : (0 : Int) ≤ k := by omega
        have hb2 : (k : Int) < n := by omega
        have hcall := fun W (h : New wr W) => sameChanges1 D L[k] xs[k] ys[k] W (((HK1.out.get k hkx hkl).new HM.out).new h) (((HK2.out.get k hky hkl).new HM.out).new h) (HL.out _ (List.getElem_mem _)).1 (HL.out _ (List.getElem_mem _)).2
        have HCALL := Lib.hid hcall
        clear hc1 hc2 ht1 ht2 hcall
        generalize xs[k] = x at *
        generalize ys[k] = y at *
        obtain ⟨xc, xpa, xpn, xpc, ⟨xk, xf, xn, xw, xla, xln, xlc, xma, xmn, xmc⟩⟩ := x
        obtain ⟨yc, ypa, ypn, ypc, ⟨yk, yf, yn, yw, yla, yln, ylc, yma, ymn, ymc⟩⟩ := y
        have a0 := hc 0 (by omega)
        have a1 := hc 1 (by omega)
        have a2 := hc 2 (by omega)
        have a3 := hc 3 (by omega)
        have a4 := hc 4 (by omega)
        have a5 := hc 5 (by omega)
        have a6 := hc 6 (by omega)
        have a7 := hc 7 (by omega)
        have b0 := hd 0 (by omega)
        have b1 := hd 1 (by omega)
        have b2 := hd 2 (by omega)
        have b3 := hd 3 (by omega)
        have b4 := hd 4 (by omega)
        have b5 := hd 5 (by omega)
        have b6 := hd 6 (by omega)
        have b7 := hd 7 (by omega)
        simp only [CA.enc, VA.enc, Nat.add_zero] at a0 a1 a2 a3 a4 a5 a6 a7 b0 b1 b2 b3 b4 b5 b6 b7
        clear hc hd
        go_wp2_with fail
        refine (HCALL.out _ (((Mod.refl _ _).alloc _).alloc _)).mono ?_
        rintro e w2 ⟨rfl, hm2⟩
        have HM2 := Lib.hid (HM.out.trans ((((Mod.refl _ _).alloc _).alloc _).trans hm2))
        clear hm2 HCALL a0 a1 a2 a3 a4 a5 a6 a7 b0 b1 b2 b3 b4 b5 b6 b7
        go_wp2_with fail
        go_roundw
        case rel => exact ⟨k + 1, by omega, by go_num, HM2⟩
        case measure => simp [intOf]; omega
      · obtain rfl : k = n := by omega
        go_wp2_with fail
        go_ret
        exact ⟨rfl, HM.out⟩
  clear h1 h2 k1 k2 hL
  go_enter Tryz.func15, Tryz.ntmps15
  go_wp2_with fail
  refine key.mono ?_
  clear key
  rintro e w1 ⟨rfl, m1⟩
  go_wp2_with fail
  go_ret
  exact ⟨rfl, m1⟩
end Go.Proofs.YtjfgfkbgbhbhjaaGreatDoor
