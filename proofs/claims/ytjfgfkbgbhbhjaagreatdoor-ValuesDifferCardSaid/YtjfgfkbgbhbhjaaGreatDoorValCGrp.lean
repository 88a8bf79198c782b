/- Several texts in one. (1) Comparing: the first that is not nought, two rows over a function. Conditions: rows of modest size. (2) Comparing two values: the program's. (XValE, the reference's member comparison, is printed out of this by mkvale.py.) Conditions: the values stand in memory as trees. -/
import Derived.Test.YtjfgfkbgbhbhjaaGreatDoorVal1Grp
import Derived.Test.YtjfgfkbgbhbhjaaGreatDoorVal7Grp
import Derived.Test.YtjfgfkbgbhbhjaaGreatDoorVal2Grp
import Derived.Test.YtjfgfkbgbhbhjaaGreatDoorHeldGrp

namespace Go.Proofs.YtjfgfkbgbhbhjaaGreatDoor
open Go.RowKit
set_option linter.unusedVariables false
set_option linter.unusedSimpArgs false

section
variable {β : Type}
set_option maxRecDepth 100000 in
set_option maxHeartbeats 4000000 in
theorem compareFunc_val (F : Nat) (eg : ∀ args w, (callFunc F args).run Tryz.prog w = .ok (.enter F args) w) (f : β → β → Int) (us vs : List β) (A1 A2 : Option Addr) (n1 c1 n2 c2 : Nat) (xs ys : List VA) (w : World)
    (h1 : Sl w 29 6 VA.enc A1 n1 xs) (h2 : Sl w 29 6 VA.enc A2 n2 ys) (l1 : us.length = n1) (l2 : vs.length = n2) (hn1 : n1 ≤ 100000) (hn2 : n2 ≤ 100000)
    (hF : ∀ i (a1 : i < xs.length) (a2 : i < ys.length) (a3 : i < us.length) (a4 : i < vs.length) W, New w W → Calls Tryz.prog F #[xs[i].val, ys[i].val] W fun e w' => e = .returned (.int .i64 (f us[i] vs[i])) ∧ New W w') :
    Calls Tryz.prog 118 #[.slice A1 n1 c1, .slice A2 n2 c2, .func (.func F) #[] #[]] w fun e w' => e = .returned (.int .i64 (cmpL f us vs)) ∧ New w w' := by
  obtain ⟨R, hR⟩ : ∃ R, R = cmpL f us vs := ⟨_, rfl⟩
  rw [← hR]
  have HR := Lib.hid hR
  have HS1 := Lib.hid h1
  have HS2 := Lib.hid h2
  have HX1 := Lib.hid h1.1
  have HX2 := Lib.hid h2.1
  have HL1 := Lib.hid l1
  have HL2 := Lib.hid l2
  have HF := Lib.hid hF
  clear hF h1 h2 l1 l2 hR
  go_enter Tryz.func118, Tryz.ntmps118
  go_wp2_with fail
  go_loopw [13] (fun i wr => ∃ k : Nat, k ≤ n1 ∧ i = .int .i64 k ∧ Hid (cmpL f us vs = cmpL f (us.drop k) (vs.drop k)) ∧ Hid (New w wr)) (fun i _ => n1 - (intOf i).toNat)
  case atStart => exact ⟨0, Nat.zero_le _, rfl, Lib.hid (by simp), Lib.hid (Mod.refl _ _)⟩
  case round =>
    rename World => wr
    obtain ⟨k, hk, rfl, HC, HM⟩ := hrel
    by_cases hlt : k < n1
    · have hkx : k < xs.length := by have := HX1.out; omega
      have hku : k < us.length := by have := HL1.out; omega
      obtain ⟨g1, o1, hA1, ht1, hc1⟩ := (HS1.out.new HM.out).2 (by omega)
      subst hA1
      have hgl1 := ht1.lt
      have hc := fun q (hq : q < 6) => hc1 k hkx q hq
      have hb1 : (0 : Int) ≤ k := by omega
      have hb2 : (k : Int) < n1 := by omega
      by_cases hlt2 : k < n2
      · have hky : k < ys.length := by have := HX2.out; omega
        have hkv : k < vs.length := by have := HL2.out; omega
        obtain ⟨g2, o2, hA2, ht2, hc2⟩ := (HS2.out.new HM.out).2 (by omega)
        subst hA2
        have hgl2 := ht2.lt
        have hd := fun q (hq : q < 6) => hc2 k hky q hq
        have hcall := fun W h => HF.out k hkx hky hku hkv W (HM.out.trans h)
        have HD := Lib.hid (cmpL_drop f hku hkv)
        clear hc1 hc2
        generalize xs[k] = x at *
        generalize ys[k] = y at *
        obtain ⟨xk, xf, xn, xw, xla, xln, xlc, xma, xmn, xmc⟩ := x
        obtain ⟨yk, yf, yn, yw, yla, yln, ylc, yma, ymn, ymc⟩ := y
        generalize f us[k] vs[k] = r at *
        have b0 := hc 0 (by omega)
        have b1 := hc 1 (by omega)
        have b2 := hc 2 (by omega)
        have b3 := hc 3 (by omega)
        have b4 := hc 4 (by omega)
        have b5 := hc 5 (by omega)
        have d0 := hd 0 (by omega)
        have d1 := hd 1 (by omega)
        have d2 := hd 2 (by omega)
        have d3 := hd 3 (by omega)
        have d4 := hd 4 (by omega)
        have d5 := hd 5 (by omega)
        simp only [VA.enc, Nat.add_zero] at b0 b1 b2 b3 b4 b5 d0 d1 d2 d3 d4 d5
        have hb3 : (k : Int) < n2 := by omega
        have hb4 : ¬ (n2 : Int) ≤ k := by omega
        have hmw := ((Mod.refl (fun _ => False) wr).alloc (.cells #[.int .i64 xk, .bool xf, .int .i64 xn, .string xw, .slice xla xln xlc, .slice xma xmn xmc] 29)).alloc (.cells #[.int .i64 yk, .bool yf, .int .i64 yn, .string yw, .slice yla yln ylc, .slice yma ymn ymc] 29)
        have hcall1 := hcall _ hmw
        have HMW := Lib.hid hmw
        clear hc hd hcall hmw ht1 ht2
        go_wp2_with fail
        refine hcall1.mono ?_
        clear hcall1
        rintro e w5 ⟨rfl, m5⟩
        have HM5 := Lib.hid (HM.out.trans (HMW.out.trans m5))
        clear m5
        by_cases hr : r = 0
        · have hr1 : (r != 0) = false := by simpa using hr
          have HG : Hid (cmpL f us vs = cmpL f (us.drop (k + 1)) (vs.drop (k + 1))) := Lib.hid (by rw [HC.out, HD.out, if_neg (by simp [hr])])
          clear hr
          go_wp2_with fail
          go_roundw
          case rel => exact ⟨k + 1, by omega, by go_num, HG, HM5⟩
          case measure => simp [intOf]; omega
        · have hr1 : (r != 0) = true := by simpa using hr
          have HFF : Hid (R = r) := Lib.hid (by rw [HR.out, HC.out, HD.out, if_pos hr])
          clear hr
          go_wp2_with fail
          go_ret
          exact ⟨ret_int HFF.out.symm, HM5.out⟩
      · have HFF : Hid (R = 1) := Lib.hid (by rw [HR.out, HC.out, cmpL_left f hku (by have := HL2.out; omega)])
        have hb4 : (n2 : Int) ≤ k := by omega
        clear hc1
        generalize xs[k] = x at *
        obtain ⟨xk, xf, xn, xw, xla, xln, xlc, xma, xmn, xmc⟩ := x
        have b0 := hc 0 (by omega)
        have b1 := hc 1 (by omega)
        have b2 := hc 2 (by omega)
        have b3 := hc 3 (by omega)
        have b4 := hc 4 (by omega)
        have b5 := hc 5 (by omega)
        simp only [VA.enc, Nat.add_zero] at b0 b1 b2 b3 b4 b5
        clear hc ht1
        go_wp2_with fail
        go_ret
        exact ⟨ret_int HFF.out.symm, HM.out.alloc _⟩
    · obtain rfl : k = n1 := by omega
      have HM2 := HM
      by_cases hlt : k < n2
      · have HFF : Hid (R = -1) := Lib.hid (by rw [HR.out, HC.out, cmpL_right f (by have := HL1.out; omega) (by have := HL2.out; omega)])
        have hb3 : (k : Int) < n2 := by omega
        go_wp2_with fail
        go_ret
        exact ⟨ret_int HFF.out.symm, HM2.out⟩
      · have HFF : Hid (R = 0) := Lib.hid (by rw [HR.out, HC.out, cmpL_end f (by have := HL1.out; omega) (by have := HL2.out; omega)])
        have hb3 : ¬ (k : Int) < n2 := by omega
        go_wp2_with fail
        go_ret
        exact ⟨ret_int HFF.out.symm, HM2.out⟩
set_option maxRecDepth 100000 in
set_option maxHeartbeats 4000000 in
theorem compareFunc_mem (F : Nat) (eg : ∀ args w, (callFunc F args).run Tryz.prog w = .ok (.enter F args) w) (f : β → β → Int) (us vs : List β) (A1 A2 : Option Addr) (n1 c1 n2 c2 : Nat) (xs ys : List MA) (w : World)
    (h1 : Sl w 54 7 MA.enc A1 n1 xs) (h2 : Sl w 54 7 MA.enc A2 n2 ys) (l1 : us.length = n1) (l2 : vs.length = n2) (hn1 : n1 ≤ 100000) (hn2 : n2 ≤ 100000)
    (hF : ∀ i (a1 : i < xs.length) (a2 : i < ys.length) (a3 : i < us.length) (a4 : i < vs.length) W, New w W → Calls Tryz.prog F #[xs[i].val, ys[i].val] W fun e w' => e = .returned (.int .i64 (f us[i] vs[i])) ∧ New W w') :
    Calls Tryz.prog 119 #[.slice A1 n1 c1, .slice A2 n2 c2, .func (.func F) #[] #[]] w fun e w' => e = .returned (.int .i64 (cmpL f us vs)) ∧ New w w' := by
  obtain ⟨R, hR⟩ : ∃ R, R = cmpL f us vs := ⟨_, rfl⟩
  rw [← hR]
  have HR := Lib.hid hR
  have HS1 := Lib.hid h1
  have HS2 := Lib.hid h2
  have HX1 := Lib.hid h1.1
  have HX2 := Lib.hid h2.1
  have HL1 := Lib.hid l1
  have HL2 := Lib.hid l2
  have HF := Lib.hid hF
  clear hF h1 h2 l1 l2 hR
  go_enter Tryz.func119, Tryz.ntmps119
  go_wp2_with fail
  go_loopw [13] (fun i wr => ∃ k : Nat, k ≤ n1 ∧ i = .int .i64 k ∧ Hid (cmpL f us vs = cmpL f (us.drop k) (vs.drop k)) ∧ Hid (New w wr)) (fun i _ => n1 - (intOf i).toNat)
  case atStart => exact ⟨0, Nat.zero_le _, rfl, Lib.hid (by simp), Lib.hid (Mod.refl _ _)⟩
  case round =>
    rename World => wr
    obtain ⟨k, hk, rfl, HC, HM⟩ := hrel
    by_cases hlt : k < n1
    · have hkx : k < xs.length := by have := HX1.out; omega
      have hku : k < us.length := by have := HL1.out; omega
      obtain ⟨g1, o1, hA1, ht1, hc1⟩ := (HS1.out.new HM.out).2 (by omega)
      subst hA1
      have hgl1 := ht1.lt
      have hc := fun q (hq : q < 7) => hc1 k hkx q hq
      have hb1 : (0 : Int) ≤ k := by omega
      have hb2 : (k : Int) < n1 := by omega
      by_cases hlt2 : k < n2
      · have hky : k < ys.length := by have := HX2.out; omega
        have hkv : k < vs.length := by have := HL2.out; omega
        obtain ⟨g2, o2, hA2, ht2, hc2⟩ := (HS2.out.new HM.out).2 (by omega)
        subst hA2
        have hgl2 := ht2.lt
        have hd := fun q (hq : q < 7) => hc2 k hky q hq
        have hcall := fun W h => HF.out k hkx hky hku hkv W (HM.out.trans h)
        have HD := Lib.hid (cmpL_drop f hku hkv)
        clear hc1 hc2
        generalize xs[k] = x at *
        generalize ys[k] = y at *
        obtain ⟨xm, xk, xf, xn, xw, xla, xln, xlc, xma, xmn, xmc⟩ := x
        obtain ⟨ym, yk, yf, yn, yw, yla, yln, ylc, yma, ymn, ymc⟩ := y
        generalize f us[k] vs[k] = r at *
        have b0 := hc 0 (by omega)
        have b1 := hc 1 (by omega)
        have b2 := hc 2 (by omega)
        have b3 := hc 3 (by omega)
        have b4 := hc 4 (by omega)
        have b5 := hc 5 (by omega)
        have b6 := hc 6 (by omega)
        have d0 := hd 0 (by omega)
        have d1 := hd 1 (by omega)
        have d2 := hd 2 (by omega)
        have d3 := hd 3 (by omega)
        have d4 := hd 4 (by omega)
        have d5 := hd 5 (by omega)
        have d6 := hd 6 (by omega)
        simp only [MA.enc, VA.enc, Nat.add_zero] at b0 b1 b2 b3 b4 b5 b6 d0 d1 d2 d3 d4 d5 d6
        have hb3 : (k : Int) < n2 := by omega
        have hb4 : ¬ (n2 : Int) ≤ k := by omega
        have hmw := ((Mod.refl (fun _ => False) wr).alloc (.cells #[.string xm, .int .i64 xk, .bool xf, .int .i64 xn, .string xw, .slice xla xln xlc, .slice xma xmn xmc] 54)).alloc (.cells #[.string ym, .int .i64 yk, .bool yf, .int .i64 yn, .string yw, .slice yla yln ylc, .slice yma ymn ymc] 54)
        have hcall1 := hcall _ hmw
        simp only [MA.val] at hcall1
        have HMW := Lib.hid hmw
        clear hc hd hcall hmw ht1 ht2
        go_wp2_with fail
        refine hcall1.mono ?_
        clear hcall1
        rintro e w5 ⟨rfl, m5⟩
        have HM5 := Lib.hid (HM.out.trans (HMW.out.trans m5))
        clear m5
        by_cases hr : r = 0
        · have hr1 : (r != 0) = false := by simpa using hr
          have HG : Hid (cmpL f us vs = cmpL f (us.drop (k + 1)) (vs.drop (k + 1))) := Lib.hid (by rw [HC.out, HD.out, if_neg (by simp [hr])])
          clear hr
          go_wp2_with fail
          go_roundw
          case rel => exact ⟨k + 1, by omega, by go_num, HG, HM5⟩
          case measure => simp [intOf]; omega
        · have hr1 : (r != 0) = true := by simpa using hr
          have HFF : Hid (R = r) := Lib.hid (by rw [HR.out, HC.out, HD.out, if_pos hr])
          clear hr
          go_wp2_with fail
          go_ret
          exact ⟨ret_int HFF.out.symm, HM5.out⟩
      · have HFF : Hid (R = 1) := Lib.hid (by rw [HR.out, HC.out, cmpL_left f hku (by have := HL2.out; omega)])
        have hb4 : (n2 : Int) ≤ k := by omega
        clear hc1
        generalize xs[k] = x at *
        obtain ⟨xm, xk, xf, xn, xw, xla, xln, xlc, xma, xmn, xmc⟩ := x
        have b0 := hc 0 (by omega)
        have b1 := hc 1 (by omega)
        have b2 := hc 2 (by omega)
        have b3 := hc 3 (by omega)
        have b4 := hc 4 (by omega)
        have b5 := hc 5 (by omega)
        have b6 := hc 6 (by omega)
        simp only [MA.enc, VA.enc, Nat.add_zero] at b0 b1 b2 b3 b4 b5 b6
        clear hc ht1
        go_wp2_with fail
        go_ret
        exact ⟨ret_int HFF.out.symm, HM.out.alloc _⟩
    · obtain rfl : k = n1 := by omega
      have HM2 := HM
      by_cases hlt : k < n2
      · have HFF : Hid (R = -1) := Lib.hid (by rw [HR.out, HC.out, cmpL_right f (by have := HL1.out; omega) (by have := HL2.out; omega)])
        have hb3 : (k : Int) < n2 := by omega
        go_wp2_with fail
        go_ret
        exact ⟨ret_int HFF.out.symm, HM2.out⟩
      · have HFF : Hid (R = 0) := Lib.hid (by rw [HR.out, HC.out, cmpL_end f (by have := HL1.out; omega) (by have := HL2.out; omega)])
        have hb3 : ¬ (k : Int) < n2 := by omega
        go_wp2_with fail
        go_ret
        exact ⟨ret_int HFF.out.symm, HM2.out⟩
end

end Go.Proofs.YtjfgfkbgbhbhjaaGreatDoor

namespace Go.Proofs.YtjfgfkbgbhbhjaaGreatDoor
open Go.RowKit
set_option linter.unusedVariables false
set_option linter.unusedSimpArgs false

theorem enters_valueCompare (args : Array Value) (w : World) : (callFunc 84 args).run Tryz.prog w = .ok (.enter 84 args) w := by
  go_simp
theorem enters_valueCompare1 (args : Array Value) (w : World) : (callFunc 120 args).run Tryz.prog w = .ok (.enter 120 args) w := by
  go_simp

theorem Tree.rows {w : World} {G : Nat → Prop} {d : Nat} {x : VA} {v : VT} (h : Tree w G (d + 1) x v) : ∃ (xs : List VA) (ms : List MA), Row w G 29 6 VA.enc x.la x.ln xs ∧ xs.length = v.list.length ∧ (∀ i (h : i < xs.length) (h' : i < v.list.length), Tree w G d xs[i] v.list[i]) ∧
    Row w G 54 7 MA.enc x.ma x.mn ms ∧ ms.length = v.mem.length ∧ ∀ i (h : i < ms.length) (h' : i < v.mem.length), ms[i].name = v.mem[i].1 ∧ Tree w G d ms[i].v v.mem[i].2 := by
  obtain ⟨vs, ps, rfl, ⟨xs, h1, h2, h3⟩, ⟨ms, h4, h5, h6⟩⟩ := h
  exact ⟨xs, ms, h1, h2, h3, h4, h5, h6⟩
--begin1
/-- what is said of a comparison of values no deeper than d -/
def CmpSpec1 (d : Nat) : Prop := ∀ (x y : VA) (v u : VT) (G : Nat → Prop) (w : World), Tree w G d x v → Tree w G d y u → Fit d v → Fit d u →
    Calls Tryz.prog 84 #[x.val, y.val] w fun e w' => e = .returned (.int .i64 (vCmp d v u)) ∧ New w w'
set_option maxRecDepth 100000 in
set_option maxHeartbeats 1500000 in
theorem cmpMember_1 (d : Nat) (hI : CmpSpec1 d) (m k : MA) (p q : ByteArray × VT) (G : Nat → Prop) (w : World) (hn1 : m.name = p.1) (hn2 : k.name = q.1) (ht1 : Tree w G d m.v p.2) (ht2 : Tree w G d k.v q.2) (hf1 : Fit d p.2) (hf2 : Fit d q.2) :
    Calls Tryz.prog 120 #[m.val, k.val] w fun e w' => e = .returned (.int .i64 (fz [cmpB p.1 q.1, vCmp d p.2 q.2])) ∧ New w w' := by
  have HI := Lib.hid (fun W (h : New w W) => hI m.v k.v p.2 q.2 G W (ht1.new h) (ht2.new h) hf1 hf2)
  have hsc := fun W => Tryz.strings_Compare p.1 q.1 W
  obtain ⟨xm, xk, xf, xn, xw, xla, xln, xlc, xma, xmn, xmc⟩ := m
  obtain ⟨ym, yk, yf, yn, yw, yla, yln, ylc, yma, ymn, ymc⟩ := k
  simp only at hn1 hn2 HI
  subst hn1 hn2
  have HCB : Hid (∀ a b : ByteArray, cmpB a b = Lib.compareBytes a.data.toList b.data.toList) := Lib.hid (fun _ _ => rfl)
  rw [HCB.out]
  clear hI ht1 ht2 hf1 hf2
  generalize vCmp d p.2 q.2 = c2 at *
  generalize Lib.compareBytes p.1.data.toList q.1.data.toList = c1 at *
  generalize p.1 = xm at *
  generalize q.1 = ym at *
  have hx := Blk.new w 54 #[.string xm, .int .i64 xk, .bool xf, .int .i64 xn, .string xw, .slice xla xln xlc, .slice xma xmn xmc]
  have hm1 : New w (w.alloc (.cells #[.string xm, .int .i64 xk, .bool xf, .int .i64 xn, .string xw, .slice xla xln xlc, .slice xma xmn xmc] 54)) := (Mod.refl _ _).alloc _
  have hy := Blk.new (w.alloc (.cells #[.string xm, .int .i64 xk, .bool xf, .int .i64 xn, .string xw, .slice xla xln xlc, .slice xma xmn xmc] 54)) 54 #[.string ym, .int .i64 yk, .bool yf, .int .i64 yn, .string yw, .slice yla yln ylc, .slice yma ymn ymc]
  have hm2 : New (w.alloc (.cells #[.string xm, .int .i64 xk, .bool xf, .int .i64 xn, .string xw, .slice xla xln xlc, .slice xma xmn xmc] 54)) ((w.alloc (.cells #[.string xm, .int .i64 xk, .bool xf, .int .i64 xn, .string xw, .slice xla xln xlc, .slice xma xmn xmc] 54)).alloc (.cells #[.string ym, .int .i64 yk, .bool yf, .int .i64 yn, .string yw, .slice yla yln ylc, .slice yma ymn ymc] 54)) := (Mod.refl _ _).alloc _
  go_enter Tryz.func120, Tryz.ntmps120
  go_upto_region 1 with (fail)
  rw [show (w.alloc (.cells #[.string xm, .int .i64 xk, .bool xf, .int .i64 xn, .string xw, .slice xla xln xlc, .slice xma xmn xmc] 54)).heap.size = w.heap.size + 1 by simp] at hy
  generalize w.alloc (.cells #[.string xm, .int .i64 xk, .bool xf, .int .i64 xn, .string xw, .slice xla xln xlc, .slice xma xmn xmc] 54) = w1 at *
  generalize w1.alloc (.cells #[.string ym, .int .i64 yk, .bool yf, .int .i64 yn, .string yw, .slice yla yln ylc, .slice yma ymn ymc] 54) = w2 at *
  have hx2 := hx.mod hm2 (fun e => e)
  generalize w.heap.size = xb at *
  generalize xb + 1 = yb at *
  have HM2 := Lib.hid (hm1.trans hm2)
  have hS : ∀ W, New w2 W → (W.cell? ⟨xb, 0, none⟩ = some (.string xm) ∧ W.cell? ⟨xb, 1, none⟩ = some (.int .i64 xk) ∧ W.cell? ⟨xb, 2, none⟩ = some (.bool xf) ∧ W.cell? ⟨xb, 3, none⟩ = some (.int .i64 xn) ∧ W.cell? ⟨xb, 4, none⟩ = some (.string xw) ∧ W.cell? ⟨xb, 5, none⟩ = some (.slice xla xln xlc) ∧ W.cell? ⟨xb, 6, none⟩ = some (.slice xma xmn xmc) ∧ xb < W.heap.size ∧
      W.cell? ⟨yb, 0, none⟩ = some (.string ym) ∧ W.cell? ⟨yb, 1, none⟩ = some (.int .i64 yk) ∧ W.cell? ⟨yb, 2, none⟩ = some (.bool yf) ∧ W.cell? ⟨yb, 3, none⟩ = some (.int .i64 yn) ∧ W.cell? ⟨yb, 4, none⟩ = some (.string yw) ∧ W.cell? ⟨yb, 5, none⟩ = some (.slice yla yln ylc) ∧ W.cell? ⟨yb, 6, none⟩ = some (.slice yma ymn ymc) ∧ yb < W.heap.size) := fun W hW => by
    have hb := hx2.mod hW (fun e => e)
    have hc := hy.mod hW (fun e => e)
    exact ⟨(hb.cell 0).trans rfl, (hb.cell 1).trans rfl, (hb.cell 2).trans rfl, (hb.cell 3).trans rfl, (hb.cell 4).trans rfl, (hb.cell 5).trans rfl, (hb.cell 6).trans rfl, hb.lt, (hc.cell 0).trans rfl, (hc.cell 1).trans rfl, (hc.cell 2).trans rfl, (hc.cell 3).trans rfl, (hc.cell 4).trans rfl, (hc.cell 5).trans rfl, (hc.cell 6).trans rfl, hc.lt⟩
  have HS := Lib.hid hS
  clear hS hx hx2 hy hm1 hm2
  refine wp_region_held_ord (fun W => W.cell? ⟨xb, 0, none⟩ = some (.string xm) ∧ W.cell? ⟨xb, 1, none⟩ = some (.int .i64 xk) ∧ W.cell? ⟨xb, 2, none⟩ = some (.bool xf) ∧ W.cell? ⟨xb, 3, none⟩ = some (.int .i64 xn) ∧ W.cell? ⟨xb, 4, none⟩ = some (.string xw) ∧ W.cell? ⟨xb, 5, none⟩ = some (.slice xla xln xlc) ∧ W.cell? ⟨xb, 6, none⟩ = some (.slice xma xmn xmc) ∧ xb < W.heap.size ∧ W.cell? ⟨yb, 0, none⟩ = some (.string ym) ∧ W.cell? ⟨yb, 1, none⟩ = some (.int .i64 yk) ∧ W.cell? ⟨yb, 2, none⟩ = some (.bool yf) ∧ W.cell? ⟨yb, 3, none⟩ = some (.int .i64 yn) ∧ W.cell? ⟨yb, 4, none⟩ = some (.string yw) ∧ W.cell? ⟨yb, 5, none⟩ = some (.slice yla yln ylc) ∧ W.cell? ⟨yb, 6, none⟩ = some (.slice yma ymn ymc) ∧ yb < W.heap.size) [4, 9, 10, 11] [0, 1, 2, 3, 5, 6, 7, 8, 4, 9, 10, 11] (by kernel_rfl) (by kernel_rfl) (fun _ _ d _ _ h => by cases d <;> exact h) ?_ (fun hHeld => ?_)
  · exact HS.out _ (Mod.refl _ _).drew
  simp only [List.length_cons, List.length_nil, List.drop_succ_cons, List.drop_zero]
  refine heldO_take ?_ (by rfl) (by rfl) (by rfl) (fun w hSw => ?_) ?_
  rotate_left
  · (try dsimp only at hSw); go_simp; any_goals (with_reducible rfl)
  simp only [Act.put, List.setIfInBounds_toArray, List.set_cons_zero, List.set_cons_succ]
  refine heldO_take ?_ (by rfl) (by rfl) (by rfl) (fun w hSw => ?_) ?_
  rotate_left
  · (try dsimp only at hSw); go_simp; any_goals (with_reducible rfl)
  simp only [Act.put, List.setIfInBounds_toArray, List.set_cons_zero, List.set_cons_succ]
  refine heldO_take ?_ (by rfl) (by rfl) (by rfl) (fun w hSw => ?_) ?_
  rotate_left
  · (try dsimp only at hSw); go_simp; any_goals (with_reducible rfl)
  simp only [Act.put, List.setIfInBounds_toArray, List.set_cons_zero, List.set_cons_succ]
  refine heldO_take ?_ (by rfl) (by rfl) (by rfl) (fun w hSw => ?_) ?_
  rotate_left
  · (try dsimp only at hSw); go_simp; any_goals (with_reducible rfl)
  simp only [Act.put, List.setIfInBounds_toArray, List.set_cons_zero, List.set_cons_succ]
  refine heldO_take ?_ (by rfl) (by rfl) (by rfl) (fun w hSw => ?_) ?_
  rotate_left
  · (try dsimp only at hSw); go_simp; any_goals (with_reducible rfl)
  simp only [Act.put, List.setIfInBounds_toArray, List.set_cons_zero, List.set_cons_succ]
  refine heldO_take ?_ (by rfl) (by rfl) (by rfl) (fun w hSw => ?_) ?_
  rotate_left
  · (try dsimp only at hSw); go_simp; any_goals (with_reducible rfl)
  simp only [Act.put, List.setIfInBounds_toArray, List.set_cons_zero, List.set_cons_succ]
  refine heldO_take ?_ (by rfl) (by rfl) (by rfl) (fun w hSw => ?_) ?_
  rotate_left
  · (try dsimp only at hSw); go_simp; any_goals (with_reducible rfl)
  simp only [Act.put, List.setIfInBounds_toArray, List.set_cons_zero, List.set_cons_succ]
  refine heldO_take ?_ (by rfl) (by rfl) (by rfl) (fun w hSw => ?_) ?_
  rotate_left
  · (try dsimp only at hSw); go_simp; any_goals (with_reducible rfl)
  simp only [Act.put, List.setIfInBounds_toArray, List.set_cons_zero, List.set_cons_succ]
  refine heldO_step (by rfl) (by rfl) (by rfl) (fun K hK => ?_)
  go_simp
  refine (hsc _).mono ?_
  rintro e w3 ⟨rfl, rfl⟩
  have m3 : New w2 w2.drew := (Mod.refl (fun _ => False) w2).drew
  go_wp2_with fail
  refine hK.out _ _ (HS.out _ m3) (fun hHeld => ?_)
  clear hK K
  try simp only [Act.put, List.setIfInBounds_toArray, List.set_cons_zero, List.set_cons_succ]
  refine heldO_step (by rfl) (by rfl) (by rfl) (fun K hK => ?_)
  go_simp
  refine (HI.out _ (HM2.out.trans m3)).mono ?_
  rintro e w4 ⟨rfl, hm4⟩
  have m4 := m3.trans hm4
  clear hm4
  go_wp2_with fail
  refine hK.out _ _ (HS.out _ m4) (fun hHeld => ?_)
  clear hK K
  try simp only [Act.put, List.setIfInBounds_toArray, List.set_cons_zero, List.set_cons_succ]
  refine heldO_step (by rfl) (by rfl) (by rfl) (fun K hK => ?_)
  go_simp
  have m5 := m4.alloc (.cells #[.int .i64 c1, .int .i64 c2] 3)
  have b5 := Blk.new w4 3 #[.int .i64 c1, .int .i64 c2]
  have hor := cmpOrI_any [c1, c2] w4.heap.size 2 _ b5 rfl (by omega)
  refine hK.out _ _ (HS.out _ m5) (fun hHeld => ?_)
  clear hK K b5
  try simp only [Act.put, List.setIfInBounds_toArray, List.set_cons_zero, List.set_cons_succ]
  generalize hFZ : fz [c1, c2] = FZ at *
  refine heldO_step (by rfl) (by rfl) (by rfl) (fun K hK => ?_)
  go_simp
  refine hor.mono ?_
  clear hor
  rintro e w6 ⟨rfl, rfl⟩
  go_wp2_with fail
  refine hK.out _ _ (HS.out _ m5) (fun hHeld => ?_)
  clear hK K
  try simp only [Act.put, List.setIfInBounds_toArray, List.set_cons_zero, List.set_cons_succ]
  refine heldO_nil ?_
  go_wp2_with fail
  go_ret
  exact ⟨ret_int hFZ.symm, HM2.out.trans m5⟩
--end1
theorem fz_six (a b c d e f : Int) : fz [a, b, c, d, e, f] = if fz [a, b, c, d] ≠ 0 then fz [a, b, c, d] else if e ≠ 0 then e else f := by
  simp only [fz]
  by_cases ha : a = 0 <;> by_cases hb : b = 0 <;> by_cases hc : c = 0 <;> by_cases hd : d = 0 <;> by_cases he : e = 0 <;> by_cases hf : f = 0 <;> simp [ha, hb, hc, hd, he, hf]
theorem flagN_cmp (a b : Bool) : Lib.compareInt (flagN a) (flagN b) = flagN a - flagN b := by
  cases a <;> cases b <;> rfl
theorem flagN_le (a : Bool) : 0 ≤ flagN a ∧ flagN a ≤ 1 := by
  cases a <;> decide

set_option maxRecDepth 100000 in
set_option maxHeartbeats 1500000 in
theorem compare_v (d : Nat) : CmpSpec1 d := by
  induction d with
  | zero => intro x y v u G w ht; exact ht.elim
  | succ d ih =>
    intro x y v u G w ht1 ht2 hf1 hf2
    obtain ⟨xs, ms, hxs, hxl, hxt, hms, hml, hmt⟩ := ht1.rows
    obtain ⟨ys, ns, hys, hyl, hyt, hns, hnl, hnt⟩ := ht2.rows
    have hp1 := hf1.parts
    have hp2 := hf2.parts
    have hL := fun W (h : New w W) => compareFunc_val 84 enters_valueCompare (vCmp d) v.list u.list x.la y.la x.ln x.lc y.ln y.lc xs ys W (hxs.sl.new h) (hys.sl.new h) (by rw [← hxl]; exact hxs.1) (by rw [← hyl]; exact hys.1) (by have := hxs.1; omega) (by have := hys.1; omega)
      (fun i a1 a2 a3 a4 W' hW' => ih xs[i] ys[i] v.list[i] u.list[i] G W' ((hxt i a1 a3).new (h.trans hW')) ((hyt i a2 a4).new (h.trans hW')) (hf1.item a3) (hf2.item a4))
    have hM := fun W (h : New w W) => compareFunc_mem 120 enters_valueCompare1 (fun p q : ByteArray × VT => fz [cmpB p.1 q.1, vCmp d p.2 q.2]) v.mem u.mem x.ma y.ma x.mn x.mc y.mn y.mc ms ns W (hms.sl.new h) (hns.sl.new h) (by rw [← hml]; exact hms.1) (by rw [← hnl]; exact hns.1) (by have := hms.1; omega) (by have := hns.1; omega)
      (fun i a1 a2 a3 a4 W' hW' => cmpMember_1 d ih ms[i] ns[i] v.mem[i] u.mem[i] G W' (hmt i a1 a3).1 (hnt i a2 a4).1 ((hmt i a1 a3).2.new (h.trans hW')) ((hnt i a2 a4).2.new (h.trans hW')) (hf1.member a3).1 (hf2.member a4).1)
    have HV : Hid (vCmp (d + 1) v u = fz [Lib.compareInt v.kind u.kind, Lib.compareInt (flagN v.flag) (flagN u.flag), Lib.compareInt v.num u.num, cmpB v.words u.words, cmpL (vCmp d) v.list u.list, cmpL (fun p q : ByteArray × VT => fz [cmpB p.1 q.1, vCmp d p.2 q.2]) v.mem u.mem]) := Lib.hid rfl
    obtain ⟨g1, g2, g3, g4, -, -⟩ := ht1.fields
    obtain ⟨k1, k2, k3, k4, -, -⟩ := ht2.fields
    have HV2 : Hid (vCmp (d + 1) v u = if fz [Lib.compareInt x.kind y.kind, flagN x.flag - flagN y.flag, Lib.compareInt x.num y.num, Lib.compareBytes x.words.data.toList y.words.data.toList] ≠ 0 then fz [Lib.compareInt x.kind y.kind, flagN x.flag - flagN y.flag, Lib.compareInt x.num y.num, Lib.compareBytes x.words.data.toList y.words.data.toList] else if cmpL (vCmp d) v.list u.list ≠ 0 then cmpL (vCmp d) v.list u.list else cmpL (fun p q : ByteArray × VT => fz [cmpB p.1 q.1, vCmp d p.2 q.2]) v.mem u.mem) := Lib.hid (by
      rw [HV.out, fz_six, g1, g2, g3, g4, k1, k2, k3, k4, flagN_cmp]; rfl)
    have hsc := fun W => Tryz.strings_Compare x.words y.words W
    have hk := fun W => Tryz.cmp_Compare_int x.kind y.kind W
    have hn := fun W => Tryz.cmp_Compare_int x.num y.num W
    have hq1 := flagN_le x.flag
    have hq2 := flagN_le y.flag
    have hfl1 := fun W => flagNumber_v x.flag W
    have hfl2 := fun W => flagNumber_v y.flag W
    clear HV ht1 ht2 hf1 hf2 hxs hxl hxt hms hml hmt hys hyl hyt hns hnl hnt hp1 hp2 g1 g2 g3 g4 k1 k2 k3 k4 ih
    obtain ⟨xk, xf, xn, xw, xla, xln, xlc, xma, xmn, xmc⟩ := x
    obtain ⟨yk, yf, yn, yw, yla, yln, ylc, yma, ymn, ymc⟩ := y
    simp only at hL hM HV2 hsc hk hn hq1 hq2 hfl1 hfl2
    generalize vCmp (d + 1) v u = R at *
    generalize cmpL (vCmp d) v.list u.list = L at *
    generalize cmpL (fun p q : ByteArray × VT => fz [cmpB p.1 q.1, vCmp d p.2 q.2]) v.mem u.mem = M at *
    generalize Lib.compareInt xk yk = z1 at *
    generalize Lib.compareInt xn yn = z3 at *
    generalize Lib.compareBytes xw.data.toList yw.data.toList = z4 at *
    generalize flagN xf = q1 at *
    generalize flagN yf = q2 at *
    obtain ⟨hq10, hq11⟩ := hq1
    obtain ⟨hq20, hq21⟩ := hq2
    have HLL := Lib.hid hL
    have HMM := Lib.hid hM
    clear hL hM
    have hx := Blk.new w 29 #[.int .i64 xk, .bool xf, .int .i64 xn, .string xw, .slice xla xln xlc, .slice xma xmn xmc]
    have hm1 : New w (w.alloc (.cells #[.int .i64 xk, .bool xf, .int .i64 xn, .string xw, .slice xla xln xlc, .slice xma xmn xmc] 29)) := (Mod.refl _ _).alloc _
    have hy := Blk.new (w.alloc (.cells #[.int .i64 xk, .bool xf, .int .i64 xn, .string xw, .slice xla xln xlc, .slice xma xmn xmc] 29)) 29 #[.int .i64 yk, .bool yf, .int .i64 yn, .string yw, .slice yla yln ylc, .slice yma ymn ymc]
    have hm2 : New (w.alloc (.cells #[.int .i64 xk, .bool xf, .int .i64 xn, .string xw, .slice xla xln xlc, .slice xma xmn xmc] 29)) ((w.alloc (.cells #[.int .i64 xk, .bool xf, .int .i64 xn, .string xw, .slice xla xln xlc, .slice xma xmn xmc] 29)).alloc (.cells #[.int .i64 yk, .bool yf, .int .i64 yn, .string yw, .slice yla yln ylc, .slice yma ymn ymc] 29)) := (Mod.refl _ _).alloc _
    go_enter Tryz.func84, Tryz.ntmps84
    go_upto_region 1 with (fail)
    rw [show (w.alloc (.cells #[.int .i64 xk, .bool xf, .int .i64 xn, .string xw, .slice xla xln xlc, .slice xma xmn xmc] 29)).heap.size = w.heap.size + 1 by simp] at hy
    generalize w.alloc (.cells #[.int .i64 xk, .bool xf, .int .i64 xn, .string xw, .slice xla xln xlc, .slice xma xmn xmc] 29) = w1 at *
    generalize w1.alloc (.cells #[.int .i64 yk, .bool yf, .int .i64 yn, .string yw, .slice yla yln ylc, .slice yma ymn ymc] 29) = w2 at *
    have hx2 := hx.mod hm2 (fun e => e)
    generalize w.heap.size = xb at *
    generalize xb + 1 = yb at *
    have HM2 := Lib.hid (hm1.trans hm2)
    have hS : ∀ W, New w2 W → (W.cell? ⟨xb, 0, none⟩ = some (.int .i64 xk) ∧ W.cell? ⟨xb, 1, none⟩ = some (.bool xf) ∧ W.cell? ⟨xb, 2, none⟩ = some (.int .i64 xn) ∧ W.cell? ⟨xb, 3, none⟩ = some (.string xw) ∧ xb < W.heap.size ∧
        W.cell? ⟨yb, 0, none⟩ = some (.int .i64 yk) ∧ W.cell? ⟨yb, 1, none⟩ = some (.bool yf) ∧ W.cell? ⟨yb, 2, none⟩ = some (.int .i64 yn) ∧ W.cell? ⟨yb, 3, none⟩ = some (.string yw) ∧ yb < W.heap.size) := fun W hW => by
      have hb := hx2.mod hW (fun e => e)
      have hc := hy.mod hW (fun e => e)
      exact ⟨(hb.cell 0).trans rfl, (hb.cell 1).trans rfl, (hb.cell 2).trans rfl, (hb.cell 3).trans rfl, hb.lt, (hc.cell 0).trans rfl, (hc.cell 1).trans rfl, (hc.cell 2).trans rfl, (hc.cell 3).trans rfl, hc.lt⟩
    have HS := Lib.hid hS
    have HX2 := Lib.hid hx2
    have HY2 := Lib.hid hy
    clear hS hx hx2 hy hm1 hm2
    refine wp_region_held_ord (fun W => W.cell? ⟨xb, 0, none⟩ = some (.int .i64 xk) ∧ W.cell? ⟨xb, 1, none⟩ = some (.bool xf) ∧ W.cell? ⟨xb, 2, none⟩ = some (.int .i64 xn) ∧ W.cell? ⟨xb, 3, none⟩ = some (.string xw) ∧ xb < W.heap.size ∧ W.cell? ⟨yb, 0, none⟩ = some (.int .i64 yk) ∧ W.cell? ⟨yb, 1, none⟩ = some (.bool yf) ∧ W.cell? ⟨yb, 2, none⟩ = some (.int .i64 yn) ∧ W.cell? ⟨yb, 3, none⟩ = some (.string yw) ∧ yb < W.heap.size) [4, 7, 10, 16, 21, 22, 23] [0, 1, 2, 3, 5, 6, 8, 9, 12, 13, 14, 15, 17, 18, 19, 20, 4, 7, 10, 11, 16, 21, 22, 23] (by kernel_rfl) (by kernel_rfl) (fun _ _ d _ _ h => by cases d <;> exact h) ?_ (fun hHeld => ?_)
    · exact HS.out _ (Mod.refl _ _).drew
    simp only [List.length_cons, List.length_nil, List.drop_succ_cons, List.drop_zero]
    refine heldO_take ?_ (by rfl) (by rfl) (by rfl) (fun w hSw => ?_) ?_
    rotate_left
    · (try dsimp only at hSw); go_simp; any_goals (with_reducible rfl)
    simp only [Act.put, List.setIfInBounds_toArray, List.set_cons_zero, List.set_cons_succ]
    refine heldO_take ?_ (by rfl) (by rfl) (by rfl) (fun w hSw => ?_) ?_
    rotate_left
    · (try dsimp only at hSw); go_simp; any_goals (with_reducible rfl)
    simp only [Act.put, List.setIfInBounds_toArray, List.set_cons_zero, List.set_cons_succ]
    refine heldO_take ?_ (by rfl) (by rfl) (by rfl) (fun w hSw => ?_) ?_
    rotate_left
    · (try dsimp only at hSw); go_simp; any_goals (with_reducible rfl)
    simp only [Act.put, List.setIfInBounds_toArray, List.set_cons_zero, List.set_cons_succ]
    refine heldO_take ?_ (by rfl) (by rfl) (by rfl) (fun w hSw => ?_) ?_
    rotate_left
    · (try dsimp only at hSw); go_simp; any_goals (with_reducible rfl)
    simp only [Act.put, List.setIfInBounds_toArray, List.set_cons_zero, List.set_cons_succ]
    refine heldO_take ?_ (by rfl) (by rfl) (by rfl) (fun w hSw => ?_) ?_
    rotate_left
    · (try dsimp only at hSw); go_simp; any_goals (with_reducible rfl)
    simp only [Act.put, List.setIfInBounds_toArray, List.set_cons_zero, List.set_cons_succ]
    refine heldO_take ?_ (by rfl) (by rfl) (by rfl) (fun w hSw => ?_) ?_
    rotate_left
    · (try dsimp only at hSw); go_simp; any_goals (with_reducible rfl)
    simp only [Act.put, List.setIfInBounds_toArray, List.set_cons_zero, List.set_cons_succ]
    refine heldO_take ?_ (by rfl) (by rfl) (by rfl) (fun w hSw => ?_) ?_
    rotate_left
    · (try dsimp only at hSw); go_simp; any_goals (with_reducible rfl)
    simp only [Act.put, List.setIfInBounds_toArray, List.set_cons_zero, List.set_cons_succ]
    refine heldO_take ?_ (by rfl) (by rfl) (by rfl) (fun w hSw => ?_) ?_
    rotate_left
    · (try dsimp only at hSw); go_simp; any_goals (with_reducible rfl)
    simp only [Act.put, List.setIfInBounds_toArray, List.set_cons_zero, List.set_cons_succ]
    refine heldO_take ?_ (by rfl) (by rfl) (by rfl) (fun w hSw => ?_) ?_
    rotate_left
    · (try dsimp only at hSw); go_simp; any_goals (with_reducible rfl)
    simp only [Act.put, List.setIfInBounds_toArray, List.set_cons_zero, List.set_cons_succ]
    refine heldO_take ?_ (by rfl) (by rfl) (by rfl) (fun w hSw => ?_) ?_
    rotate_left
    · (try dsimp only at hSw); go_simp; any_goals (with_reducible rfl)
    simp only [Act.put, List.setIfInBounds_toArray, List.set_cons_zero, List.set_cons_succ]
    refine heldO_take ?_ (by rfl) (by rfl) (by rfl) (fun w hSw => ?_) ?_
    rotate_left
    · (try dsimp only at hSw); go_simp; any_goals (with_reducible rfl)
    simp only [Act.put, List.setIfInBounds_toArray, List.set_cons_zero, List.set_cons_succ]
    refine heldO_take ?_ (by rfl) (by rfl) (by rfl) (fun w hSw => ?_) ?_
    rotate_left
    · (try dsimp only at hSw); go_simp; any_goals (with_reducible rfl)
    simp only [Act.put, List.setIfInBounds_toArray, List.set_cons_zero, List.set_cons_succ]
    refine heldO_take ?_ (by rfl) (by rfl) (by rfl) (fun w hSw => ?_) ?_
    rotate_left
    · (try dsimp only at hSw); go_simp; any_goals (with_reducible rfl)
    simp only [Act.put, List.setIfInBounds_toArray, List.set_cons_zero, List.set_cons_succ]
    refine heldO_take ?_ (by rfl) (by rfl) (by rfl) (fun w hSw => ?_) ?_
    rotate_left
    · (try dsimp only at hSw); go_simp; any_goals (with_reducible rfl)
    simp only [Act.put, List.setIfInBounds_toArray, List.set_cons_zero, List.set_cons_succ]
    refine heldO_take ?_ (by rfl) (by rfl) (by rfl) (fun w hSw => ?_) ?_
    rotate_left
    · (try dsimp only at hSw); go_simp; any_goals (with_reducible rfl)
    simp only [Act.put, List.setIfInBounds_toArray, List.set_cons_zero, List.set_cons_succ]
    refine heldO_take ?_ (by rfl) (by rfl) (by rfl) (fun w hSw => ?_) ?_
    rotate_left
    · (try dsimp only at hSw); go_simp; any_goals (with_reducible rfl)
    simp only [Act.put, List.setIfInBounds_toArray, List.set_cons_zero, List.set_cons_succ]
    have m3 : New w2 w2.drew := (Mod.refl (fun _ => False) w2).drew
    refine heldO_step (by rfl) (by rfl) (by rfl) (fun K hK => ?_)
    go_simp
    refine (hk _).mono ?_
    rintro e w3 ⟨rfl, rfl⟩
    go_wp2_with fail
    refine hK.out _ _ (HS.out _ m3) (fun hHeld => ?_)
    clear hK K
    try simp only [Act.put, List.setIfInBounds_toArray, List.set_cons_zero, List.set_cons_succ]
    refine heldO_step (by rfl) (by rfl) (by rfl) (fun K hK => ?_)
    go_simp
    refine (hfl1 _).mono ?_
    rintro e w3 ⟨rfl, rfl⟩
    go_wp2_with fail
    refine hK.out _ _ (HS.out _ m3) (fun hHeld => ?_)
    clear hK K
    try simp only [Act.put, List.setIfInBounds_toArray, List.set_cons_zero, List.set_cons_succ]
    refine heldO_step (by rfl) (by rfl) (by rfl) (fun K hK => ?_)
    go_simp
    refine (hfl2 _).mono ?_
    rintro e w3 ⟨rfl, rfl⟩
    go_wp2_with fail
    refine hK.out _ _ (HS.out _ m3) (fun hHeld => ?_)
    clear hK K
    try simp only [Act.put, List.setIfInBounds_toArray, List.set_cons_zero, List.set_cons_succ]
    refine heldO_take ?_ (by rfl) (by rfl) (by rfl) (fun w hSw => ?_) ?_
    rotate_left
    · (try dsimp only at hSw); go_simp; any_goals (with_reducible rfl)
    simp only [Act.put, List.setIfInBounds_toArray, List.set_cons_zero, List.set_cons_succ]
    have hwr : IntKind.i64.wrap (q1 - q2) = q1 - q2 := by
      have a1 : q1 = 0 ∨ q1 = 1 := by omega
      have a2 : q2 = 0 ∨ q2 = 1 := by omega
      rcases a1 with rfl | rfl <;> rcases a2 with rfl | rfl <;> rfl
    simp only [hwr]
    refine heldO_step (by rfl) (by rfl) (by rfl) (fun K hK => ?_)
    go_simp
    refine (hn _).mono ?_
    rintro e w3 ⟨rfl, rfl⟩
    go_wp2_with fail
    refine hK.out _ _ (HS.out _ m3) (fun hHeld => ?_)
    clear hK K
    try simp only [Act.put, List.setIfInBounds_toArray, List.set_cons_zero, List.set_cons_succ]
    refine heldO_step (by rfl) (by rfl) (by rfl) (fun K hK => ?_)
    go_simp
    refine (hsc _).mono ?_
    rintro e w3 ⟨rfl, rfl⟩
    go_wp2_with fail
    refine hK.out _ _ (HS.out _ m3) (fun hHeld => ?_)
    clear hK K
    try simp only [Act.put, List.setIfInBounds_toArray, List.set_cons_zero, List.set_cons_succ]
    refine heldO_step (by rfl) (by rfl) (by rfl) (fun K hK => ?_)
    go_simp
    have m5 := m3.alloc (.cells #[.int .i64 z1, .int .i64 (q1 - q2), .int .i64 z3, .int .i64 z4] 3)
    have b5 := Blk.new w2.drew 3 #[.int .i64 z1, .int .i64 (q1 - q2), .int .i64 z3, .int .i64 z4]
    have hor := cmpOrI_any [z1, q1 - q2, z3, z4] w2.drew.heap.size 4 _ b5 rfl (by omega)
    refine hK.out _ _ (HS.out _ m5) (fun hHeld => ?_)
    clear hK K b5
    try simp only [Act.put, List.setIfInBounds_toArray, List.set_cons_zero, List.set_cons_succ]
    generalize fz [z1, q1 - q2, z3, z4] = O at *
    refine heldO_step (by rfl) (by rfl) (by rfl) (fun K hK => ?_)
    go_simp
    refine hor.mono ?_
    clear hor
    rintro e w6 ⟨rfl, rfl⟩
    go_wp2_with fail
    refine hK.out _ _ (HS.out _ m5) (fun hHeld => ?_)
    clear hK K
    try simp only [Act.put, List.setIfInBounds_toArray, List.set_cons_zero, List.set_cons_succ]
    refine heldO_nil ?_
    have m6 : New w2 ((w2.alloc (.cells #[.int .i64 z1, .int .i64 (q1 - q2), .int .i64 z3, .int .i64 z4] 3)).drew) := ((Mod.refl _ _).alloc _).drew
    have HX6 := Lib.hid (HX2.out.mod m6 (fun e => e))
    have HY6 := Lib.hid (HY2.out.mod m6 (fun e => e))
    have HM6 := Lib.hid (HM2.out.trans m6)
    generalize ((w2.alloc (.cells #[.int .i64 z1, .int .i64 (q1 - q2), .int .i64 z3, .int .i64 z4] 3)).drew) = w6 at *
    clear m6
    clear m3 m5 HS HX2 HY2 HM2 hHeld hsc hk hn hfl1 hfl2
    by_cases hO : O = 0
    · have hO1 : (O != 0) = false := by simpa using hO
      have HR1 : Hid (R = if L ≠ 0 then L else M) := Lib.hid (by rw [HV2.out, if_neg (by simp [hO])])
      have e4 := HX6.out.cell 4
      have el := HX6.out.lt
      have f4 := HY6.out.cell 4
      have fl := HY6.out.lt
      have hl6 := HLL.out w6 HM6.out
      simp only [List.getElem?_toArray, List.getElem?_cons_zero, List.getElem?_cons_succ] at e4 f4
      clear hO HV2
      go_wp2_with fail
      refine hl6.mono ?_
      clear hl6
      rintro e w7 ⟨rfl, m7⟩
      have HM7 := Lib.hid (HM6.out.trans m7)
      clear e4 el f4 fl
      by_cases hL : L = 0
      · have hL1 : (L != 0) = false := by simpa using hL
        have HR2 : Hid (R = M) := Lib.hid (by rw [HR1.out, if_neg (by simp [hL])])
        have hx7 := HX6.out.mod m7 (fun e => e)
        have hy7 := HY6.out.mod m7 (fun e => e)
        have e5 := hx7.cell 5
        have el := hx7.lt
        have f5 := hy7.cell 5
        have fl := hy7.lt
        have hm7 := HMM.out w7 HM7.out
        simp only [List.getElem?_toArray, List.getElem?_cons_zero, List.getElem?_cons_succ] at e5 f5
        clear hL HR1 hx7 hy7
        go_wp2_with fail
        refine hm7.mono ?_
        clear hm7
        rintro e w8 ⟨rfl, m8⟩
        go_wp2_with fail
        go_ret
        exact ⟨ret_int HR2.out.symm, HM7.out.trans m8⟩
      · have hL1 : (L != 0) = true := by simpa using hL
        have HR2 : Hid (R = L) := Lib.hid (by rw [HR1.out, if_pos hL])
        clear hL
        go_wp2_with fail
        go_ret
        exact ⟨ret_int HR2.out.symm, HM7.out⟩
    · have hO1 : (O != 0) = true := by simpa using hO
      have HR1 : Hid (R = O) := Lib.hid (by rw [HV2.out, if_pos hO])
      clear hO HV2
      go_wp2_with fail
      go_ret
      exact ⟨ret_int HR1.out.symm, HM6.out⟩

end Go.Proofs.YtjfgfkbgbhbhjaaGreatDoor
