/- Are two values the same: the reference's Same, the program's equal to nothing. Conditions: the values stand in memory as trees. -/
import Derived.Test.YtjfgfkbgbhbhjaaGreatDoorValCGrp
import Derived.Test.YtjfgfkbgbhbhjaaGreatDoorChgLawGrp
namespace Go.Proofs.YtjfgfkbgbhbhjaaGreatDoor
open Go.RowKit
set_option linter.unusedVariables false
set_option linter.unusedSimpArgs false

noncomputable def eqV (v u : VT) : Bool := @decide (v = u) (Classical.propDecidable _)
theorem eqV_iff (v u : VT) : eqV v u = true ↔ v = u := by
  unfold eqV; exact @decide_eq_true_iff _ (Classical.propDecidable _)
noncomputable def eqM (p q : Mem) : Bool := decide (p.1 = q.1) && eqV p.2 q.2
theorem eqM_iff (p q : Mem) : eqM p q = true ↔ p = q := by
  unfold eqM
  rw [Bool.and_eq_true, eqV_iff, decide_eq_true_iff]
  exact ⟨fun h => Prod.ext h.1 h.2, fun h => by rw [h]; exact ⟨rfl, rfl⟩⟩
noncomputable def eqL {β : Type} (us vs : List β) : Bool := @decide (us = vs) (Classical.propDecidable _)
theorem eqL_iff {β : Type} (us vs : List β) : eqL us vs = true ↔ us = vs := by
  unfold eqL; exact @decide_eq_true_iff _ (Classical.propDecidable _)
theorem eqL_false {β : Type} {us vs : List β} (h : ¬ us = vs) : eqL us vs = false := by
  cases e : eqL us vs with
  | false => rfl
  | true => exact absurd ((eqL_iff _ _).1 e) h
section
variable {β : Type}
set_option maxRecDepth 100000 in
set_option maxHeartbeats 1500000 in
theorem equalFunc_val (F : Nat) (eg : ∀ args w, (callFunc F args).run Tryz.prog w = .ok (.enter F args) w) (f : β → β → Bool) (hfi : ∀ u v, f u v = true ↔ u = v) (us vs : List β) (A1 A2 : Option Addr) (n1 c1 n2 c2 : Nat) (xs ys : List VA) (w : World)
    (h1 : Sl w 29 6 VA.enc A1 n1 xs) (h2 : Sl w 29 6 VA.enc A2 n2 ys) (l1 : us.length = n1) (l2 : vs.length = n2) (hn1 : n1 ≤ 100000) (hn2 : n2 ≤ 100000)
    (hF : ∀ i (a1 : i < xs.length) (a2 : i < ys.length) (a3 : i < us.length) (a4 : i < vs.length) W, New w W → Calls Tryz.prog F #[xs[i].val, ys[i].val] W fun e w' => e = .returned (.bool (f us[i] vs[i])) ∧ New W w') :
    Calls Tryz.prog 34 #[.slice A1 n1 c1, .slice A2 n2 c2, .func (.func F) #[] #[]] w fun e w' => e = .returned (.bool (eqL us vs)) ∧ New w w' := by
  by_cases hne : n1 = n2
  rotate_left
  · have hne1 : ((n1 : Int) != (n2 : Int)) = true := by simp only [bne_iff_ne, ne_eq]; omega
    have hR : eqL us vs = false := eqL_false (fun e => hne (by rw [← l1, ← l2, e]))
    rw [hR]
    go_enter Tryz.func34, Tryz.ntmps34
    go_wp2_with fail
    go_ret
    exact ⟨rfl, Mod.refl _ _⟩
  subst hne
  obtain ⟨R, hR⟩ : ∃ R, R = eqL us vs := ⟨_, rfl⟩
  rw [← hR]
  have HR := Lib.hid hR
  have HS1 := Lib.hid h1
  have HS2 := Lib.hid h2
  have HX1 := Lib.hid h1.1
  have HX2 := Lib.hid h2.1
  have HL1 := Lib.hid l1
  have HL2 := Lib.hid l2
  have HF := Lib.hid hF
  have HFI := Lib.hid hfi
  clear hF h1 h2 l1 l2 hR hfi
  go_enter Tryz.func34, Tryz.ntmps34
  go_wp2_with fail
  go_loopw [17] (fun i wr => ∃ k : Nat, k ≤ n1 ∧ i = .int .i64 k ∧ Hid (∀ i (a : i < us.length) (b : i < vs.length), i < k → us[i] = vs[i]) ∧ Hid (New w wr)) (fun i _ => n1 - (intOf i).toNat)
  case atStart => exact ⟨0, Nat.zero_le _, rfl, Lib.hid (fun i a b h => absurd h (by omega)), Lib.hid (Mod.refl _ _)⟩
  case round =>
    rename World => wr
    obtain ⟨k, hk, rfl, HE, HM⟩ := hrel
    by_cases hlt : k < n1
    · have hkx : k < xs.length := by have := HX1.out; omega
      have hku : k < us.length := by have := HL1.out; omega
      obtain ⟨g1, o1, hA1, ht1, hc1⟩ := (HS1.out.new HM.out).2 (by omega)
      subst hA1
      have hgl1 := ht1.lt
      have hc := fun q (hq : q < 6) => hc1 k hkx q hq
      have hb1 : (0 : Int) ≤ k := by omega
      have hb2 : (k : Int) < n1 := by omega
      have hky : k < ys.length := by have := HX2.out; omega
      have hkv : k < vs.length := by have := HL2.out; omega
      obtain ⟨g2, o2, hA2, ht2, hc2⟩ := (HS2.out.new HM.out).2 (by omega)
      subst hA2
      have hgl2 := ht2.lt
      have hd := fun q (hq : q < 6) => hc2 k hky q hq
      have hcall := fun W h => HF.out k hkx hky hku hkv W (HM.out.trans h)
      have HST : Hid (f us[k] vs[k] = false → R = false) := Lib.hid (fun h => by
        rw [HR.out]
        refine eqL_false (fun e => ?_)
        have h2 : f us[k] vs[k] = true := (HFI.out _ _).2 (by simp only [e])
        rw [h] at h2; cases h2)
      have HNX : Hid (f us[k] vs[k] = true → ∀ i (a : i < us.length) (b : i < vs.length), i < k + 1 → us[i] = vs[i]) := Lib.hid (fun h i a b hi => by
        by_cases e : i = k
        · subst e; exact (HFI.out _ _).1 h
        · exact HE.out i a b (by omega))
      generalize f us[k] vs[k] = r at *
      clear hc1 hc2
      generalize xs[k] = x at *
      generalize ys[k] = y at *
      obtain ⟨xk, xf, xn, xw, xla, xln, xlc, xma, xmn, xmc⟩ := x
      obtain ⟨yk, yf, yn, yw, yla, yln, ylc, yma, ymn, ymc⟩ := y
      have b0 := hc 0 (by omega)
      have b1 := hc 1 (by omega)
      have b2 := hc 2 (by omega)
      have b3 := hc 3 (by omega)
      have b4 := hc 4 (by omega)
      have b5 := hc 5 (by omega)
      have d0 := hd 0 (by omega)
      have d1 := hd 1 (by omega)
      have d2 := hd 2 (by omega)
      have d3 := hd 3 (by omega)
      have d4 := hd 4 (by omega)
      have d5 := hd 5 (by omega)
      simp only [VA.enc, Nat.add_zero] at b0 b1 b2 b3 b4 b5 d0 d1 d2 d3 d4 d5
      have hmw := ((Mod.refl (fun _ => False) wr).alloc (.cells #[.int .i64 xk, .bool xf, .int .i64 xn, .string xw, .slice xla xln xlc, .slice xma xmn xmc] 29)).alloc (.cells #[.int .i64 yk, .bool yf, .int .i64 yn, .string yw, .slice yla yln ylc, .slice yma ymn ymc] 29)
      have hcall1 := hcall _ hmw
      have HMW := Lib.hid hmw
      clear hc hd hcall hmw ht1 ht2
      go_wp2_with fail
      refine hcall1.mono ?_
      clear hcall1
      rintro e w5 ⟨rfl, m5⟩
      have HM5 := Lib.hid (HM.out.trans (HMW.out.trans m5))
      clear m5
      cases r with
      | true =>
        have HG := Lib.hid (HNX.out rfl)
        go_wp2_with fail
        go_roundw
        case rel => exact ⟨k + 1, by omega, by go_num, HG, HM5⟩
        case measure => simp [intOf]; omega
      | false =>
        have HFF := Lib.hid (HST.out rfl)
        go_wp2_with fail
        go_ret
        exact ⟨ret_bool HFF.out.symm, HM5.out⟩
    · obtain rfl : k = n1 := by omega
      have HFF : Hid (R = true) := Lib.hid (by
        rw [HR.out, eqL_iff]
        exact List.ext_getElem (by rw [HL1.out, HL2.out]) (fun i h1 h2 => HE.out i h1 h2 (by have := HL1.out; omega)))
      go_wp2_with fail
      go_ret
      exact ⟨ret_bool HFF.out.symm, HM.out⟩
set_option maxRecDepth 100000 in
set_option maxHeartbeats 1500000 in
theorem equalFunc_mem (F : Nat) (eg : ∀ args w, (callFunc F args).run Tryz.prog w = .ok (.enter F args) w) (f : β → β → Bool) (hfi : ∀ u v, f u v = true ↔ u = v) (us vs : List β) (A1 A2 : Option Addr) (n1 c1 n2 c2 : Nat) (xs ys : List MA) (w : World)
    (h1 : Sl w 54 7 MA.enc A1 n1 xs) (h2 : Sl w 54 7 MA.enc A2 n2 ys) (l1 : us.length = n1) (l2 : vs.length = n2) (hn1 : n1 ≤ 100000) (hn2 : n2 ≤ 100000)
    (hF : ∀ i (a1 : i < xs.length) (a2 : i < ys.length) (a3 : i < us.length) (a4 : i < vs.length) W, New w W → Calls Tryz.prog F #[xs[i].val, ys[i].val] W fun e w' => e = .returned (.bool (f us[i] vs[i])) ∧ New W w') :
    Calls Tryz.prog 35 #[.slice A1 n1 c1, .slice A2 n2 c2, .func (.func F) #[] #[]] w fun e w' => e = .returned (.bool (eqL us vs)) ∧ New w w' := by
  by_cases hne : n1 = n2
  rotate_left
  · have hne1 : ((n1 : Int) != (n2 : Int)) = true := by simp only [bne_iff_ne, ne_eq]; omega
    have hR : eqL us vs = false := eqL_false (fun e => hne (by rw [← l1, ← l2, e]))
    rw [hR]
    go_enter Tryz.func35, Tryz.ntmps35
    go_wp2_with fail
    go_ret
    exact ⟨rfl, Mod.refl _ _⟩
  subst hne
  obtain ⟨R, hR⟩ : ∃ R, R = eqL us vs := ⟨_, rfl⟩
  rw [← hR]
  have HR := Lib.hid hR
  have HS1 := Lib.hid h1
  have HS2 := Lib.hid h2
  have HX1 := Lib.hid h1.1
  have HX2 := Lib.hid h2.1
  have HL1 := Lib.hid l1
  have HL2 := Lib.hid l2
  have HF := Lib.hid hF
  have HFI := Lib.hid hfi
  clear hF h1 h2 l1 l2 hR hfi
  go_enter Tryz.func35, Tryz.ntmps35
  go_wp2_with fail
  go_loopw [17] (fun i wr => ∃ k : Nat, k ≤ n1 ∧ i = .int .i64 k ∧ Hid (∀ i (a : i < us.length) (b : i < vs.length), i < k → us[i] = vs[i]) ∧ Hid (New w wr)) (fun i _ => n1 - (intOf i).toNat)
  case atStart => exact ⟨0, Nat.zero_le _, rfl, Lib.hid (fun i a b h => absurd h (by omega)), Lib.hid (Mod.refl _ _)⟩
  case round =>
    rename World => wr
    obtain ⟨k, hk, rfl, HE, HM⟩ := hrel
    by_cases hlt : k < n1
    · have hkx : k < xs.length := by have := HX1.out; omega
      have hku : k < us.length := by have := HL1.out; omega
      obtain ⟨g1, o1, hA1, ht1, hc1⟩ := (HS1.out.new HM.out).2 (by omega)
      subst hA1
      have hgl1 := ht1.lt
      have hc := fun q (hq : q < 7) => hc1 k hkx q hq
      have hb1 : (0 : Int) ≤ k := by omega
      have hb2 : (k : Int) < n1 := by omega
      have hky : k < ys.length := by have := HX2.out; omega
      have hkv : k < vs.length := by have := HL2.out; omega
      obtain ⟨g2, o2, hA2, ht2, hc2⟩ := (HS2.out.new HM.out).2 (by omega)
      subst hA2
      have hgl2 := ht2.lt
      have hd := fun q (hq : q < 7) => hc2 k hky q hq
      have hcall := fun W h => HF.out k hkx hky hku hkv W (HM.out.trans h)
      have HST : Hid (f us[k] vs[k] = false → R = false) := Lib.hid (fun h => by
        rw [HR.out]
        refine eqL_false (fun e => ?_)
        have h2 : f us[k] vs[k] = true := (HFI.out _ _).2 (by simp only [e])
        rw [h] at h2; cases h2)
      have HNX : Hid (f us[k] vs[k] = true → ∀ i (a : i < us.length) (b : i < vs.length), i < k + 1 → us[i] = vs[i]) := Lib.hid (fun h i a b hi => by
        by_cases e : i = k
        · subst e; exact (HFI.out _ _).1 h
        · exact HE.out i a b (by omega))
      generalize f us[k] vs[k] = r at *
      clear hc1 hc2
      generalize xs[k] = x at *
      generalize ys[k] = y at *
      obtain ⟨xm, xk, xf, xn, xw, xla, xln, xlc, xma, xmn, xmc⟩ := x
      obtain ⟨ym, yk, yf, yn, yw, yla, yln, ylc, yma, ymn, ymc⟩ := y
      have b0 := hc 0 (by omega)
      have b1 := hc 1 (by omega)
      have b2 := hc 2 (by omega)
      have b3 := hc 3 (by omega)
      have b4 := hc 4 (by omega)
      have b5 := hc 5 (by omega)
      have b6 := hc 6 (by omega)
      have d0 := hd 0 (by omega)
      have d1 := hd 1 (by omega)
      have d2 := hd 2 (by omega)
      have d3 := hd 3 (by omega)
      have d4 := hd 4 (by omega)
      have d5 := hd 5 (by omega)
      have d6 := hd 6 (by omega)
      simp only [MA.enc, VA.enc, Nat.add_zero] at b0 b1 b2 b3 b4 b5 b6 d0 d1 d2 d3 d4 d5 d6
      have hmw := ((Mod.refl (fun _ => False) wr).alloc (.cells #[.string xm, .int .i64 xk, .bool xf, .int .i64 xn, .string xw, .slice xla xln xlc, .slice xma xmn xmc] 54)).alloc (.cells #[.string ym, .int .i64 yk, .bool yf, .int .i64 yn, .string yw, .slice yla yln ylc, .slice yma ymn ymc] 54)
      have hcall1 := hcall _ hmw
      simp only [MA.val] at hcall1
      have HMW := Lib.hid hmw
      clear hc hd hcall hmw ht1 ht2
      go_wp2_with fail
      refine hcall1.mono ?_
      clear hcall1
      rintro e w5 ⟨rfl, m5⟩
      have HM5 := Lib.hid (HM.out.trans (HMW.out.trans m5))
      clear m5
      cases r with
      | true =>
        have HG := Lib.hid (HNX.out rfl)
        go_wp2_with fail
        go_roundw
        case rel => exact ⟨k + 1, by omega, by go_num, HG, HM5⟩
        case measure => simp [intOf]; omega
      | false =>
        have HFF := Lib.hid (HST.out rfl)
        go_wp2_with fail
        go_ret
        exact ⟨ret_bool HFF.out.symm, HM5.out⟩
    · obtain rfl : k = n1 := by omega
      have HFF : Hid (R = true) := Lib.hid (by
        rw [HR.out, eqL_iff]
        exact List.ext_getElem (by rw [HL1.out, HL2.out]) (fun i h1 h2 => HE.out i h1 h2 (by have := HL1.out; omega)))
      go_wp2_with fail
      go_ret
      exact ⟨ret_bool HFF.out.symm, HM.out⟩
end
theorem enters_Same (args : Array Value) (w : World) : (callFunc 11 args).run Tryz.prog w = .ok (.enter 11 args) w := by
  go_simp
theorem enters_Same1 (args : Array Value) (w : World) : (callFunc 36 args).run Tryz.prog w = .ok (.enter 36 args) w := by
  go_simp
def SameSpec (d : Nat) : Prop := ∀ (x y : VA) (v u : VT) (G : Nat → Prop) (w : World), Tree w G d x v → Tree w G d y u → Fit d v → Fit d u →
    Calls Tryz.prog 11 #[x.val, y.val] w fun e w' => e = .returned (.bool (eqV v u)) ∧ New w w'
theorem toList_beq (a b : ByteArray) : (a.toList == b.toList) = decide (a = b) := by
  rw [ba_toList, ba_toList, Bool.eq_iff_iff, beq_iff_eq, decide_eq_true_iff]
  exact ⟨ba_ext, fun e => by rw [e]⟩
set_option maxRecDepth 100000 in
set_option maxHeartbeats 1500000 in
theorem sameMember (d : Nat) (hI : SameSpec d) (m k : MA) (p q : ByteArray × VT) (G : Nat → Prop) (w : World) (hn1 : m.name = p.1) (hn2 : k.name = q.1) (ht1 : Tree w G d m.v p.2) (ht2 : Tree w G d k.v q.2) (hf1 : Fit d p.2) (hf2 : Fit d q.2) :
    Calls Tryz.prog 36 #[m.val, k.val] w fun e w' => e = .returned (.bool (eqM p q)) ∧ New w w' := by
  have HI := Lib.hid (fun W (h : New w W) => hI m.v k.v p.2 q.2 G W (ht1.new h) (ht2.new h) hf1 hf2)
  obtain ⟨xm, xk, xf, xn, xw, xla, xln, xlc, xma, xmn, xmc⟩ := m
  obtain ⟨ym, yk, yf, yn, yw, yla, yln, ylc, yma, ymn, ymc⟩ := k
  simp only at hn1 hn2 HI
  have hE : eqM p q = ((xm.toList == ym.toList) && eqV p.2 q.2) := by rw [toList_beq, hn1, hn2]; rfl
  generalize eqM p q = E at *
  have HEE := Lib.hid hE
  clear hI ht1 ht2 hf1 hf2 hn1 hn2 hE
  generalize eqV p.2 q.2 = c2 at *
  have hx := Blk.new w 54 #[.string xm, .int .i64 xk, .bool xf, .int .i64 xn, .string xw, .slice xla xln xlc, .slice xma xmn xmc]
  have hm1 : New w (w.alloc (.cells #[.string xm, .int .i64 xk, .bool xf, .int .i64 xn, .string xw, .slice xla xln xlc, .slice xma xmn xmc] 54)) := (Mod.refl _ _).alloc _
  have hy := Blk.new (w.alloc (.cells #[.string xm, .int .i64 xk, .bool xf, .int .i64 xn, .string xw, .slice xla xln xlc, .slice xma xmn xmc] 54)) 54 #[.string ym, .int .i64 yk, .bool yf, .int .i64 yn, .string yw, .slice yla yln ylc, .slice yma ymn ymc]
  have hm2 : New (w.alloc (.cells #[.string xm, .int .i64 xk, .bool xf, .int .i64 xn, .string xw, .slice xla xln xlc, .slice xma xmn xmc] 54)) ((w.alloc (.cells #[.string xm, .int .i64 xk, .bool xf, .int .i64 xn, .string xw, .slice xla xln xlc, .slice xma xmn xmc] 54)).alloc (.cells #[.string ym, .int .i64 yk, .bool yf, .int .i64 yn, .string yw, .slice yla yln ylc, .slice yma ymn ymc] 54)) := (Mod.refl _ _).alloc _
  go_enter Tryz.func36, Tryz.ntmps36
  go_upto_region 1 with (fail)
  rw [show (w.alloc (.cells #[.string xm, .int .i64 xk, .bool xf, .int .i64 xn, .string xw, .slice xla xln xlc, .slice xma xmn xmc] 54)).heap.size = w.heap.size + 1 by simp] at hy
  generalize w.alloc (.cells #[.string xm, .int .i64 xk, .bool xf, .int .i64 xn, .string xw, .slice xla xln xlc, .slice xma xmn xmc] 54) = w1 at *
  generalize w1.alloc (.cells #[.string ym, .int .i64 yk, .bool yf, .int .i64 yn, .string yw, .slice yla yln ylc, .slice yma ymn ymc] 54) = w2 at *
  have hx2 := hx.mod hm2 (fun e => e)
  generalize w.heap.size = xb at *
  generalize xb + 1 = yb at *
  have HM2 := Lib.hid (hm1.trans hm2)
  have hi := HI.out w2 HM2.out
  have b0 := hx2.cell 0
  have b1 := hx2.cell 1
  have b2 := hx2.cell 2
  have b3 := hx2.cell 3
  have b4 := hx2.cell 4
  have b5 := hx2.cell 5
  have b6 := hx2.cell 6
  have bl := hx2.lt
  have d0 := hy.cell 0
  have d1 := hy.cell 1
  have d2 := hy.cell 2
  have d3 := hy.cell 3
  have d4 := hy.cell 4
  have d5 := hy.cell 5
  have d6 := hy.cell 6
  have dl := hy.lt
  simp only [List.getElem?_toArray, List.getElem?_cons_zero, List.getElem?_cons_succ] at b0 b1 b2 b3 b4 b5 b6 d0 d1 d2 d3 d4 d5 d6
  clear hx hx2 hy hm1 hm2
  cases he : (xm.toList == ym.toList) with
  | true =>
    have HF : Hid (E = c2) := Lib.hid (by rw [HEE.out, he, Bool.true_and])
    go_wp2_with fail
    refine hi.mono ?_
    clear hi
    rintro e w6 ⟨rfl, m6⟩
    go_wp2_with fail
    go_ret
    exact ⟨ret_bool HF.out.symm, HM2.out.trans m6⟩
  | false =>
    have HF : Hid (E = false) := Lib.hid (by rw [HEE.out, he, Bool.false_and])
    go_wp2_with fail
    go_ret
    exact ⟨ret_bool HF.out.symm, HM2.out⟩

set_option maxRecDepth 100000 in
set_option maxHeartbeats 1500000 in
theorem same_v (d : Nat) : SameSpec d := by
  induction d with
  | zero => intro x y v u G w ht; exact ht.elim
  | succ d ih =>
    intro x y v u G w ht1 ht2 hf1 hf2
    obtain ⟨xs, ms, hxs, hxl, hxt, hms, hml, hmt⟩ := ht1.rows
    obtain ⟨ys, ns, hys, hyl, hyt, hns, hnl, hnt⟩ := ht2.rows
    have hp1 := hf1.parts
    have hp2 := hf2.parts
    have hL := fun W (h : New w W) => equalFunc_val 11 enters_Same eqV eqV_iff v.list u.list x.la y.la x.ln x.lc y.ln y.lc xs ys W (hxs.sl.new h) (hys.sl.new h) (by rw [← hxl]; exact hxs.1) (by rw [← hyl]; exact hys.1) (by have := hxs.1; omega) (by have := hys.1; omega)
      (fun i a1 a2 a3 a4 W' hW' => ih xs[i] ys[i] v.list[i] u.list[i] G W' ((hxt i a1 a3).new (h.trans hW')) ((hyt i a2 a4).new (h.trans hW')) (hf1.item a3) (hf2.item a4))
    have hM := fun W (h : New w W) => equalFunc_mem 36 enters_Same1 eqM eqM_iff v.mem u.mem x.ma y.ma x.mn x.mc y.mn y.mc ms ns W (hms.sl.new h) (hns.sl.new h) (by rw [← hml]; exact hms.1) (by rw [← hnl]; exact hns.1) (by have := hms.1; omega) (by have := hns.1; omega)
      (fun i a1 a2 a3 a4 W' hW' => sameMember d ih ms[i] ns[i] v.mem[i] u.mem[i] G W' (hmt i a1 a3).1 (hnt i a2 a4).1 ((hmt i a1 a3).2.new (h.trans hW')) ((hnt i a2 a4).2.new (h.trans hW')) (hf1.member a3).1 (hf2.member a4).1)
    obtain ⟨g1, g2, g3, g4, -, -⟩ := ht1.fields
    obtain ⟨k1, k2, k3, k4, -, -⟩ := ht2.fields
    have HEE : Hid (eqV v u = ((x.kind == y.kind) && (x.flag == y.flag) && (x.num == y.num) && (x.words.toList == y.words.toList) && eqL v.list u.list && eqL v.mem u.mem)) := Lib.hid (by
      rw [toList_beq, Bool.eq_iff_iff, eqV_iff]
      simp only [Bool.and_eq_true, eqL_iff, beq_iff_eq, decide_eq_true_iff]
      rw [← g1, ← g2, ← g3, ← g4, ← k1, ← k2, ← k3, ← k4]
      clear hL hM hxs hxl hxt hms hml hmt hys hyl hyt hns hnl hnt hp1 hp2 ht1 ht2 hf1 hf2 g1 g2 g3 g4 k1 k2 k3 k4 ih
      obtain ⟨a1, a2, a3, a4, a5, a6⟩ := v
      obtain ⟨e1, e2, e3, e4, e5, e6⟩ := u
      simp only [VT.kind, VT.flag, VT.num, VT.words, VT.list, VT.mem, VT.mk.injEq, and_assoc])
    clear ht1 ht2 hf1 hf2 hxs hxl hxt hms hml hmt hys hyl hyt hns hnl hnt hp1 hp2 g1 g2 g3 g4 k1 k2 k3 k4 ih
    obtain ⟨xk, xf, xn, xw, xla, xln, xlc, xma, xmn, xmc⟩ := x
    obtain ⟨yk, yf, yn, yw, yla, yln, ylc, yma, ymn, ymc⟩ := y
    simp only at hL hM HEE
    generalize eqV v u = E at *
    generalize eqL v.list u.list = L at *
    generalize eqL v.mem u.mem = M at *
    have HLL := Lib.hid hL
    have HMM := Lib.hid hM
    clear hL hM
    have hx := Blk.new w 29 #[.int .i64 xk, .bool xf, .int .i64 xn, .string xw, .slice xla xln xlc, .slice xma xmn xmc]
    have hm1 : New w (w.alloc (.cells #[.int .i64 xk, .bool xf, .int .i64 xn, .string xw, .slice xla xln xlc, .slice xma xmn xmc] 29)) := (Mod.refl _ _).alloc _
    have hy := Blk.new (w.alloc (.cells #[.int .i64 xk, .bool xf, .int .i64 xn, .string xw, .slice xla xln xlc, .slice xma xmn xmc] 29)) 29 #[.int .i64 yk, .bool yf, .int .i64 yn, .string yw, .slice yla yln ylc, .slice yma ymn ymc]
    have hm2 : New (w.alloc (.cells #[.int .i64 xk, .bool xf, .int .i64 xn, .string xw, .slice xla xln xlc, .slice xma xmn xmc] 29)) ((w.alloc (.cells #[.int .i64 xk, .bool xf, .int .i64 xn, .string xw, .slice xla xln xlc, .slice xma xmn xmc] 29)).alloc (.cells #[.int .i64 yk, .bool yf, .int .i64 yn, .string yw, .slice yla yln ylc, .slice yma ymn ymc] 29)) := (Mod.refl _ _).alloc _
    go_enter Tryz.func11, Tryz.ntmps11
    go_upto_region 1 with (fail)
    rw [show (w.alloc (.cells #[.int .i64 xk, .bool xf, .int .i64 xn, .string xw, .slice xla xln xlc, .slice xma xmn xmc] 29)).heap.size = w.heap.size + 1 by simp] at hy
    generalize w.alloc (.cells #[.int .i64 xk, .bool xf, .int .i64 xn, .string xw, .slice xla xln xlc, .slice xma xmn xmc] 29) = w1 at *
    generalize w1.alloc (.cells #[.int .i64 yk, .bool yf, .int .i64 yn, .string yw, .slice yla yln ylc, .slice yma ymn ymc] 29) = w2 at *
    have hxx := hx.mod hm2 (fun e => e)
    have hyy := hy
    generalize w.heap.size = xb at *
    generalize xb + 1 = yb at *
    have HM2 := Lib.hid (hm1.trans hm2)
    have HX := Lib.hid hxx
    have HY := Lib.hid hyy
    have hl2 := HLL.out w2 HM2.out
    clear hx hy hm1 hm2
    have b0 := hxx.cell 0
    have b1 := hxx.cell 1
    have b2 := hxx.cell 2
    have b3 := hxx.cell 3
    have b4 := hxx.cell 4
    have b5 := hxx.cell 5
    have bl := hxx.lt
    have d0 := hyy.cell 0
    have d1 := hyy.cell 1
    have d2 := hyy.cell 2
    have d3 := hyy.cell 3
    have d4 := hyy.cell 4
    have d5 := hyy.cell 5
    have dl := hyy.lt
    simp only [List.getElem?_toArray, List.getElem?_cons_zero, List.getElem?_cons_succ] at b0 b1 b2 b3 b4 b5 d0 d1 d2 d3 d4 d5
    clear hxx hyy
    cases h1 : (xk == yk) with
    | false =>
      have HF : Hid (E = false) := Lib.hid (by rw [HEE.out, h1]; simp)
      go_wp2_with fail
      go_ret
      exact ⟨ret_bool HF.out.symm, HM2.out⟩
    | true =>
    cases h2 : (xf == yf) with
    | false =>
      have HF : Hid (E = false) := Lib.hid (by rw [HEE.out, h2]; simp)
      go_wp2_with fail
      go_ret
      exact ⟨ret_bool HF.out.symm, HM2.out⟩
    | true =>
    cases h3 : (xn == yn) with
    | false =>
      have HF : Hid (E = false) := Lib.hid (by rw [HEE.out, h3]; simp)
      go_wp2_with fail
      go_ret
      exact ⟨ret_bool HF.out.symm, HM2.out⟩
    | true =>
    cases h4 : (xw.toList == yw.toList) with
    | false =>
      have HF : Hid (E = false) := Lib.hid (by rw [HEE.out, h4]; simp)
      go_wp2_with fail
      go_ret
      exact ⟨ret_bool HF.out.symm, HM2.out⟩
    | true =>
    have HF : Hid (E = (L && M)) := Lib.hid (by rw [HEE.out, h1, h2, h3, h4]; simp)
    go_wp2_with fail
    refine hl2.mono ?_
    clear hl2
    rintro e w6 ⟨rfl, m6⟩
    have hm2 := HMM.out w6 (HM2.out.trans m6)
    have HM6 := Lib.hid (HM2.out.trans m6)
    have hxx := HX.out.mod m6 (fun e => e)
    have hyy := HY.out.mod m6 (fun e => e)
    clear b0 b1 b2 b3 b4 b5 d0 d1 d2 d3 d4 d5 bl dl m6
    have b0 := hxx.cell 0
    have b1 := hxx.cell 1
    have b2 := hxx.cell 2
    have b3 := hxx.cell 3
    have b4 := hxx.cell 4
    have b5 := hxx.cell 5
    have bl := hxx.lt
    have d0 := hyy.cell 0
    have d1 := hyy.cell 1
    have d2 := hyy.cell 2
    have d3 := hyy.cell 3
    have d4 := hyy.cell 4
    have d5 := hyy.cell 5
    have dl := hyy.lt
    simp only [List.getElem?_toArray, List.getElem?_cons_zero, List.getElem?_cons_succ] at b0 b1 b2 b3 b4 b5 d0 d1 d2 d3 d4 d5
    clear hxx hyy
    cases L with
    | false =>
      have HG : Hid (E = false) := Lib.hid (by rw [HF.out]; rfl)
      go_wp2_with fail
      go_ret
      exact ⟨ret_bool HG.out.symm, HM6.out⟩
    | true =>
      have HG : Hid (E = M) := Lib.hid (by rw [HF.out]; rfl)
      go_wp2_with fail
      refine hm2.mono ?_
      clear hm2
      rintro e w7 ⟨rfl, m7⟩
      go_wp2_with fail
      go_ret
      exact ⟨ret_bool HG.out.symm, HM6.out.trans m7⟩

end Go.Proofs.YtjfgfkbgbhbhjaaGreatDoor
