/- Comparing: the first that is not nought, two rows over a function. Conditions: rows of modest size. -/
import Derived.Test.YtahofcopedlenaaGreatDoorVal1
import Derived.Test.YtahofcopedlenaaGreatDoorOr
namespace Go.Proofs.YtahofcopedlenaaGreatDoor
open Go.RowKit
set_option linter.unusedVariables false
set_option linter.unusedSimpArgs false

section
variable {β : Type}
set_option maxRecDepth 100000 in
set_option maxHeartbeats 4000000 in
theorem compareFunc_val (F : Nat) (eg : ∀ args w, (callFunc F args).run Tryz.prog w = .ok (.enter F args) w) (f : β → β → Int) (us vs : List β) (A1 A2 : Option Addr) (n1 c1 n2 c2 : Nat) (xs ys : List VA) (w : World)
    (h1 : Sl w 29 6 VA.enc A1 n1 xs) (h2 : Sl w 29 6 VA.enc A2 n2 ys) (l1 : us.length = n1) (l2 : vs.length = n2) (hn1 : n1 ≤ 100000) (hn2 : n2 ≤ 100000)
    (hF : ∀ i (a1 : i < xs.length) (a2 : i < ys.length) (a3 : i < us.length) (a4 : i < vs.length) W, New w W → Calls Tryz.prog F #[xs[i].val, ys[i].val] W fun e w' => e = .returned (.int .i64 (f us[i] vs[i])) ∧ New W w') :
    Calls Tryz.prog 97 #[.slice A1 n1 c1, .slice A2 n2 c2, .func (.func F) #[] #[]] w fun e w' => e = .returned (.int .i64 (cmpL f us vs)) ∧ New w w' := by
  obtain ⟨R, hR⟩ : ∃ R, R = cmpL f us vs := ⟨_, rfl⟩
  rw [← hR]
  have HR := Lib.hid hR
  have HS1 := Lib.hid h1
  have HS2 := Lib.hid h2
  have HX1 := Lib.hid h1.1
  have HX2 := Lib.hid h2.1
  have HL1 := Lib.hid l1
  have HL2 := Lib.hid l2
  have HF := Lib.hid hF
  clear hF h1 h2 l1 l2 hR
  go_enter Tryz.func97, Tryz.ntmps97
  go_wp2_with fail
  go_loopw [13] (fun i wr => ∃ k : Nat, k ≤ n1 ∧ i = .int .i64 k ∧ Hid (cmpL f us vs = cmpL f (us.drop k) (vs.drop k)) ∧ Hid (New w wr)) (fun i _ => n1 - (intOf i).toNat)
  case atStart => exact ⟨0, Nat.zero_le _, rfl, Lib.hid (by simp), Lib.hid (Mod.refl _ _)⟩
  case round =>
    rename World => wr
    obtain ⟨k, hk, rfl, HC, HM⟩ := hrel
    by_cases hlt : k < n1
    · have hkx : k < xs.length := by have := HX1.out; omega
      have hku : k < us.length := by have := HL1.out; omega
      obtain ⟨g1, o1, hA1, ht1, hc1⟩ := (HS1.out.new HM.out).2 (by omega)
      subst hA1
      have hgl1 := ht1.lt
      have hc := fun q (hq : q < 6) => hc1 k hkx q hq
      have hb1 : (0 : Int) ≤ k := by omega
      have hb2 : (k : Int) < n1 := by omega
      by_cases hlt2 : k < n2
      · have hky : k < ys.length := by have := HX2.out; omega
        have hkv : k < vs.length := by have := HL2.out; omega
        obtain ⟨g2, o2, hA2, ht2, hc2⟩ := (HS2.out.new HM.out).2 (by omega)
        subst hA2
        have hgl2 := ht2.lt
        have hd := fun q (hq : q < 6) => hc2 k hky q hq
        have hcall := fun W h => HF.out k hkx hky hku hkv W (HM.out.trans h)
        have HD := Lib.hid (cmpL_drop f hku hkv)
        clear hc1 hc2
        generalize xs[k] = x at *
        generalize ys[k] = y at *
        obtain ⟨xk, xf, xn, xw, xla, xln, xlc, xma, xmn, xmc⟩ := x
        obtain ⟨yk, yf, yn, yw, yla, yln, ylc, yma, ymn, ymc⟩ := y
        generalize f us[k] vs[k] = r at *
        have b0 := hc 0 (by omega)
        have b1 := hc 1 (by omega)
        have b2 := hc 2 (by omega)
        have b3 := hc 3 (by omega)
        have b4 := hc 4 (by omega)
        have b5 := hc 5 (by omega)
        have d0 := hd 0 (by omega)
        have d1 := hd 1 (by omega)
        have d2 := hd 2 (by omega)
        have d3 := hd 3 (by omega)
        have d4 := hd 4 (by omega)
        have d5 := hd 5 (by omega)
        simp only [VA.enc, Nat.add_zero] at b0 b1 b2 b3 b4 b5 d0 d1 d2 d3 d4 d5
        have hb3 : (k : Int) < n2 := by omega
        have hb4 : ¬ (n2 : Int) ≤ k := by omega
        have hmw := ((Mod.refl (fun _ => False) wr).alloc (.cells #[.int .i64 xk, .bool xf, .int .i64 xn, .string xw, .slice xla xln xlc, .slice xma xmn xmc] 29)).alloc (.cells #[.int .i64 yk, .bool yf, .int .i64 yn, .string yw, .slice yla yln ylc, .slice yma ymn ymc] 29)
        have hcall1 := hcall _ hmw
        have HMW := Lib.hid hmw
        clear hc hd hcall hmw ht1 ht2
        go_wp2_with fail
        refine hcall1.mono ?_
        clear hcall1
        rintro e w5 ⟨rfl, m5⟩
        have HM5 := Lib.hid (HM.out.trans (HMW.out.trans m5))
        clear m5
        by_cases hr : r = 0
        · have hr1 : (r != 0) = false := by simpa using hr
          have HG : Hid (cmpL f us vs = cmpL f (us.drop (k + 1)) (vs.drop (k + 1))) := Lib.hid (by rw [HC.out, HD.out, if_neg (by simp [hr])])
          clear hr
          go_wp2_with fail
          go_roundw
          case rel => exact ⟨k + 1, by omega, by go_num, HG, HM5⟩
          case measure => simp [intOf]; omega
        · have hr1 : (r != 0) = true := by simpa using hr
          have HFF : Hid (R = r) := Lib.hid (by rw [HR.out, HC.out, HD.out, if_pos hr])
          clear hr
          go_wp2_with fail
          go_ret
          exact ⟨ret_int HFF.out.symm, HM5.out⟩
      · have HFF : Hid (R = 1) := Lib.hid (by rw [HR.out, HC.out, cmpL_left f hku (by have := HL2.out; omega)])
        have hb4 : (n2 : Int) ≤ k := by omega
        clear hc1
        generalize xs[k] = x at *
        obtain ⟨xk, xf, xn, xw, xla, xln, xlc, xma, xmn, xmc⟩ := x
        have b0 := hc 0 (by omega)
        have b1 := hc 1 (by omega)
        have b2 := hc 2 (by omega)
        have b3 := hc 3 (by omega)
        have b4 := hc 4 (by omega)
        have b5 := hc 5 (by omega)
        simp only [VA.enc, Nat.add_zero] at b0 b1 b2 b3 b4 b5
        clear hc ht1
        go_wp2_with fail
        go_ret
        exact ⟨ret_int HFF.out.symm, HM.out.alloc _⟩
    · obtain rfl : k = n1 := by omega
      have HM2 := HM
      by_cases hlt : k < n2
      · have HFF : Hid (R = -1) := Lib.hid (by rw [HR.out, HC.out, cmpL_right f (by have := HL1.out; omega) (by have := HL2.out; omega)])
        have hb3 : (k : Int) < n2 := by omega
        go_wp2_with fail
        go_ret
        exact ⟨ret_int HFF.out.symm, HM2.out⟩
      · have HFF : Hid (R = 0) := Lib.hid (by rw [HR.out, HC.out, cmpL_end f (by have := HL1.out; omega) (by have := HL2.out; omega)])
        have hb3 : ¬ (k : Int) < n2 := by omega
        go_wp2_with fail
        go_ret
        exact ⟨ret_int HFF.out.symm, HM2.out⟩
set_option maxRecDepth 100000 in
set_option maxHeartbeats 4000000 in
theorem compareFunc_mem (F : Nat) (eg : ∀ args w, (callFunc F args).run Tryz.prog w = .ok (.enter F args) w) (f : β → β → Int) (us vs : List β) (A1 A2 : Option Addr) (n1 c1 n2 c2 : Nat) (xs ys : List MA) (w : World)
    (h1 : Sl w 49 7 MA.enc A1 n1 xs) (h2 : Sl w 49 7 MA.enc A2 n2 ys) (l1 : us.length = n1) (l2 : vs.length = n2) (hn1 : n1 ≤ 100000) (hn2 : n2 ≤ 100000)
    (hF : ∀ i (a1 : i < xs.length) (a2 : i < ys.length) (a3 : i < us.length) (a4 : i < vs.length) W, New w W → Calls Tryz.prog F #[xs[i].val, ys[i].val] W fun e w' => e = .returned (.int .i64 (f us[i] vs[i])) ∧ New W w') :
    Calls Tryz.prog 98 #[.slice A1 n1 c1, .slice A2 n2 c2, .func (.func F) #[] #[]] w fun e w' => e = .returned (.int .i64 (cmpL f us vs)) ∧ New w w' := by
  obtain ⟨R, hR⟩ : ∃ R, R = cmpL f us vs := ⟨_, rfl⟩
  rw [← hR]
  have HR := Lib.hid hR
  have HS1 := Lib.hid h1
  have HS2 := Lib.hid h2
  have HX1 := Lib.hid h1.1
  have HX2 := Lib.hid h2.1
  have HL1 := Lib.hid l1
  have HL2 := Lib.hid l2
  have HF := Lib.hid hF
  clear hF h1 h2 l1 l2 hR
  go_enter Tryz.func98, Tryz.ntmps98
  go_wp2_with fail
  go_loopw [13] (fun i wr => ∃ k : Nat, k ≤ n1 ∧ i = .int .i64 k ∧ Hid (cmpL f us vs = cmpL f (us.drop k) (vs.drop k)) ∧ Hid (New w wr)) (fun i _ => n1 - (intOf i).toNat)
  case atStart => exact ⟨0, Nat.zero_le _, rfl, Lib.hid (by simp), Lib.hid (Mod.refl _ _)⟩
  case round =>
    rename World => wr
    obtain ⟨k, hk, rfl, HC, HM⟩ := hrel
    by_cases hlt : k < n1
    · have hkx : k < xs.length := by have := HX1.out; omega
      have hku : k < us.length := by have := HL1.out; omega
      obtain ⟨g1, o1, hA1, ht1, hc1⟩ := (HS1.out.new HM.out).2 (by omega)
      subst hA1
      have hgl1 := ht1.lt
      have hc := fun q (hq : q < 7) => hc1 k hkx q hq
      have hb1 : (0 : Int) ≤ k := by omega
      have hb2 : (k : Int) < n1 := by omega
      by_cases hlt2 : k < n2
      · have hky : k < ys.length := by have := HX2.out; omega
        have hkv : k < vs.length := by have := HL2.out; omega
        obtain ⟨g2, o2, hA2, ht2, hc2⟩ := (HS2.out.new HM.out).2 (by omega)
        subst hA2
        have hgl2 := ht2.lt
        have hd := fun q (hq : q < 7) => hc2 k hky q hq
        have hcall := fun W h => HF.out k hkx hky hku hkv W (HM.out.trans h)
        have HD := Lib.hid (cmpL_drop f hku hkv)
        clear hc1 hc2
        generalize xs[k] = x at *
        generalize ys[k] = y at *
        obtain ⟨xm, xk, xf, xn, xw, xla, xln, xlc, xma, xmn, xmc⟩ := x
        obtain ⟨ym, yk, yf, yn, yw, yla, yln, ylc, yma, ymn, ymc⟩ := y
        generalize f us[k] vs[k] = r at *
        have b0 := hc 0 (by omega)
        have b1 := hc 1 (by omega)
        have b2 := hc 2 (by omega)
        have b3 := hc 3 (by omega)
        have b4 := hc 4 (by omega)
        have b5 := hc 5 (by omega)
        have b6 := hc 6 (by omega)
        have d0 := hd 0 (by omega)
        have d1 := hd 1 (by omega)
        have d2 := hd 2 (by omega)
        have d3 := hd 3 (by omega)
        have d4 := hd 4 (by omega)
        have d5 := hd 5 (by omega)
        have d6 := hd 6 (by omega)
        simp only [MA.enc, VA.enc, Nat.add_zero] at b0 b1 b2 b3 b4 b5 b6 d0 d1 d2 d3 d4 d5 d6
        have hb3 : (k : Int) < n2 := by omega
        have hb4 : ¬ (n2 : Int) ≤ k := by omega
        have hmw := ((Mod.refl (fun _ => False) wr).alloc (.cells #[.string xm, .int .i64 xk, .bool xf, .int .i64 xn, .string xw, .slice xla xln xlc, .slice xma xmn xmc] 49)).alloc (.cells #[.string ym, .int .i64 yk, .bool yf, .int .i64 yn, .string yw, .slice yla yln ylc, .slice yma ymn ymc] 49)
        have hcall1 := hcall _ hmw
        simp only [MA.val] at hcall1
        have HMW := Lib.hid hmw
        clear hc hd hcall hmw ht1 ht2
        go_wp2_with fail
        refine hcall1.mono ?_
        clear hcall1
        rintro e w5 ⟨rfl, m5⟩
        have HM5 := Lib.hid (HM.out.trans (HMW.out.trans m5))
        clear m5
        by_cases hr : r = 0
        · have hr1 : (r != 0) = false := by simpa using hr
          have HG : Hid (cmpL f us vs = cmpL f (us.drop (k + 1)) (vs.drop (k + 1))) := Lib.hid (by rw [HC.out, HD.out, if_neg (by simp [hr])])
          clear hr
          go_wp2_with fail
          go_roundw
          case rel => exact ⟨k + 1, by omega, by go_num, HG, HM5⟩
          case measure => simp [intOf]; omega
        · have hr1 : (r != 0) = true := by simpa using hr
          have HFF : Hid (R = r) := Lib.hid (by rw [HR.out, HC.out, HD.out, if_pos hr])
          clear hr
          go_wp2_with fail
          go_ret
          exact ⟨ret_int HFF.out.symm, HM5.out⟩
      · have HFF : Hid (R = 1) := Lib.hid (by rw [HR.out, HC.out, cmpL_left f hku (by have := HL2.out; omega)])
        have hb4 : (n2 : Int) ≤ k := by omega
        clear hc1
        generalize xs[k] = x at *
        obtain ⟨xm, xk, xf, xn, xw, xla, xln, xlc, xma, xmn, xmc⟩ := x
        have b0 := hc 0 (by omega)
        have b1 := hc 1 (by omega)
        have b2 := hc 2 (by omega)
        have b3 := hc 3 (by omega)
        have b4 := hc 4 (by omega)
        have b5 := hc 5 (by omega)
        have b6 := hc 6 (by omega)
        simp only [MA.enc, VA.enc, Nat.add_zero] at b0 b1 b2 b3 b4 b5 b6
        clear hc ht1
        go_wp2_with fail
        go_ret
        exact ⟨ret_int HFF.out.symm, HM.out.alloc _⟩
    · obtain rfl : k = n1 := by omega
      have HM2 := HM
      by_cases hlt : k < n2
      · have HFF : Hid (R = -1) := Lib.hid (by rw [HR.out, HC.out, cmpL_right f (by have := HL1.out; omega) (by have := HL2.out; omega)])
        have hb3 : (k : Int) < n2 := by omega
        go_wp2_with fail
        go_ret
        exact ⟨ret_int HFF.out.symm, HM2.out⟩
      · have HFF : Hid (R = 0) := Lib.hid (by rw [HR.out, HC.out, cmpL_end f (by have := HL1.out; omega) (by have := HL2.out; omega)])
        have hb3 : ¬ (k : Int) < n2 := by omega
        go_wp2_with fail
        go_ret
        exact ⟨ret_int HFF.out.symm, HM2.out⟩
end

end Go.Proofs.YtahofcopedlenaaGreatDoor
