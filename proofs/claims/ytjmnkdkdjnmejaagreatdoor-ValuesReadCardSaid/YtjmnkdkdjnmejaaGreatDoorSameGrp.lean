/- Several texts in one. (1) Are two values the same: the reference's Same, the program's equal to nothing. Conditions: the values stand in memory as trees. (2) The law ValuesRead: what it needs beside the walks. Conditions: the library's tables lie as they should. (3) A conversion's row of bytes in memory. No program is walked. No conditions. (4) Rows of strings, as cells. No conditions. (5) The Replacer's build: what its table holds, and what one pair turns. Conditions: none. -/
import Derived.Test.YtjmnkdkdjnmejaaGreatDoorVal8Grp
import Derived.Test.YtjmnkdkdjnmejaaGreatDoorChgLaw2Grp
import Derived.Test.YtjmnkdkdjnmejaaGreatDoorValM
import Derived.Test.YtjmnkdkdjnmejaaGreatDoorBaseGrp
import Derived.Test.YtjmnkdkdjnmejaaGreatDoorVal1Grp
import Derived.Laws.BytesArg
import Derived.Lib.ConvBytes
import Derived.Lib.AtoiErrMem
import Derived.Laws.IdiomStrings
import Derived.Lib.SliceRun

namespace Go.Proofs.YtjmnkdkdjnmejaaGreatDoor
open Go.RowKit
set_option linter.unusedVariables false
set_option linter.unusedSimpArgs false

noncomputable def eqV (v u : VT) : Bool := @decide (v = u) (Classical.propDecidable _)
theorem eqV_iff (v u : VT) : eqV v u = true ↔ v = u := by
  unfold eqV; exact @decide_eq_true_iff _ (Classical.propDecidable _)
noncomputable def eqM (p q : Mem) : Bool := decide (p.1 = q.1) && eqV p.2 q.2
theorem eqM_iff (p q : Mem) : eqM p q = true ↔ p = q := by
  unfold eqM
  rw [Bool.and_eq_true, eqV_iff, decide_eq_true_iff]
  exact ⟨fun h => Prod.ext h.1 h.2, fun h => by rw [h]; exact ⟨rfl, rfl⟩⟩
noncomputable def eqL {β : Type} (us vs : List β) : Bool := @decide (us = vs) (Classical.propDecidable _)
theorem eqL_iff {β : Type} (us vs : List β) : eqL us vs = true ↔ us = vs := by
  unfold eqL; exact @decide_eq_true_iff _ (Classical.propDecidable _)
theorem eqL_false {β : Type} {us vs : List β} (h : ¬ us = vs) : eqL us vs = false := by
  cases e : eqL us vs with
  | false => rfl
  | true => exact absurd ((eqL_iff _ _).1 e) h
section
variable {β : Type}
set_option maxRecDepth 100000 in
set_option maxHeartbeats 1500000 in
theorem equalFunc_val (F : Nat) (eg : ∀ args w, (callFunc F args).run Tryz.prog w = .ok (.enter F args) w) (f : β → β → Bool) (hfi : ∀ u v, f u v = true ↔ u = v) (us vs : List β) (A1 A2 : Option Addr) (n1 c1 n2 c2 : Nat) (xs ys : List VA) (w : World)
    (h1 : Sl w 30 6 VA.enc A1 n1 xs) (h2 : Sl w 30 6 VA.enc A2 n2 ys) (l1 : us.length = n1) (l2 : vs.length = n2) (hn1 : n1 ≤ 1000000) (hn2 : n2 ≤ 1000000)
    (hF : ∀ i (a1 : i < xs.length) (a2 : i < ys.length) (a3 : i < us.length) (a4 : i < vs.length) W, New w W → Calls Tryz.prog F #[xs[i].val, ys[i].val] W fun e w' => e = .returned (.bool (f us[i] vs[i])) ∧ New W w') :
    Calls Tryz.prog 23 #[.slice A1 n1 c1, .slice A2 n2 c2, .func (.func F) #[] #[]] w fun e w' => e = .returned (.bool (eqL us vs)) ∧ New w w' := by
  by_cases hne : n1 = n2
  rotate_left
  · have hne1 : ((n1 : Int) != (n2 : Int)) = true := by simp only [bne_iff_ne, ne_eq]; omega
    have hR : eqL us vs = false := eqL_false (fun e => hne (by rw [← l1, ← l2, e]))
    rw [hR]
    go_enter Tryz.func23, Tryz.ntmps23
    go_wp2_with fail
    go_ret
    exact ⟨rfl, Mod.refl _ _⟩
  subst hne
  obtain ⟨R, hR⟩ : ∃ R, R = eqL us vs := ⟨_, rfl⟩
  rw [← hR]
  have HR := hId hR
  have HS1 := hId h1
  have HS2 := hId h2
  have HX1 := hId h1.1
  have HX2 := hId h2.1
  have HL1 := hId l1
  have HL2 := hId l2
  have HF := hId hF
  have HFI := hId hfi
  clear hF h1 h2 l1 l2 hR hfi
  go_enter Tryz.func23, Tryz.ntmps23
  go_wp2_with fail
  go_loopw [17] (fun i wr => ∃ k : Nat, k ≤ n1 ∧ i = .int .i64 k ∧ Hid (∀ i (a : i < us.length) (b : i < vs.length), i < k → us[i] = vs[i]) ∧ Hid (New w wr)) (fun i _ => n1 - (intOf i).toNat)
  case atStart => exact ⟨0, Nat.zero_le _, rfl, hId (fun i a b h => absurd h (by omega)), hId (Mod.refl _ _)⟩
  case round =>
    rename World => wr
    obtain ⟨k, hk, rfl, HE, HM⟩ := hrel
    by_cases hlt : k < n1
    · have hkx : k < xs.length := by have := HX1.out; omega
      have hku : k < us.length := by have := HL1.out; omega
      obtain ⟨g1, o1, hA1, ht1, hc1⟩ := (HS1.out.new HM.out).2 (by omega)
      subst hA1
      have hgl1 := ht1.lt
      have hc := fun q (hq : q < 6) => hc1 k hkx q hq
      have hb1 : (0 : Int) ≤ k := by omega
      have hb2 : (k : Int) < n1 := by omega
      have hky : k < ys.length := by have := HX2.out; omega
      have hkv : k < vs.length := by have := HL2.out; omega
      obtain ⟨g2, o2, hA2, ht2, hc2⟩ := (HS2.out.new HM.out).2 (by omega)
      subst hA2
      have hgl2 := ht2.lt
      have hd := fun q (hq : q < 6) => hc2 k hky q hq
      have hcall := fun W h => HF.out k hkx hky hku hkv W (HM.out.trans h)
      have HST : Hid (f us[k] vs[k] = false → R = false) := hId (fun h => by
        rw [HR.out]
        refine eqL_false (fun e => ?_)
        have h2 : f us[k] vs[k] = true := (HFI.out _ _).2 (by simp only [e])
        rw [h] at h2; cases h2)
      have HNX : Hid (f us[k] vs[k] = true → ∀ i (a : i < us.length) (b : i < vs.length), i < k + 1 → us[i] = vs[i]) := hId (fun h i a b hi => by
        by_cases e : i = k
        · subst e; exact (HFI.out _ _).1 h
        · exact HE.out i a b (by omega))
      generalize f us[k] vs[k] = r at *
      clear hc1 hc2
      generalize xs[k] = x at *
      generalize ys[k] = y at *
      obtain ⟨xk, xf, xn, xw, xla, xln, xlc, xma, xmn, xmc⟩ := x
      obtain ⟨yk, yf, yn, yw, yla, yln, ylc, yma, ymn, ymc⟩ := y
      have b0 := hc 0 (by omega)
      have b1 := hc 1 (by omega)
      have b2 := hc 2 (by omega)
      have b3 := hc 3 (by omega)
      have b4 := hc 4 (by omega)
      have b5 := hc 5 (by omega)
      have d0 := hd 0 (by omega)
      have d1 := hd 1 (by omega)
      have d2 := hd 2 (by omega)
      have d3 := hd 3 (by omega)
      have d4 := hd 4 (by omega)
      have d5 := hd 5 (by omega)
      simp only [VA.enc, Nat.add_zero] at b0 b1 b2 b3 b4 b5 d0 d1 d2 d3 d4 d5
      have hmw := ((Mod.refl (fun _ => False) wr).alloc (.cells #[.int .i64 xk, .bool xf, .int .i64 xn, .string xw, .slice xla xln xlc, .slice xma xmn xmc] 30)).alloc (.cells #[.int .i64 yk, .bool yf, .int .i64 yn, .string yw, .slice yla yln ylc, .slice yma ymn ymc] 30)
      have hcall1 := hcall _ hmw
      have HMW := hId hmw
      clear hc hd hcall hmw ht1 ht2
      go_wp2_with fail
      refine hcall1.mono ?_
      clear hcall1
      rintro e w5 ⟨rfl, m5⟩
      have HM5 := hId (HM.out.trans (HMW.out.trans m5))
      clear m5
      cases r with
      | true =>
        have HG := hId (HNX.out rfl)
        go_wp2_with fail
        go_roundw
        case rel => exact ⟨k + 1, by omega, by go_num, HG, HM5⟩
        case measure => simp [intOf]; omega
      | false =>
        have HFF := hId (HST.out rfl)
        go_wp2_with fail
        go_ret
        exact ⟨ret_bool HFF.out.symm, HM5.out⟩
    · obtain rfl : k = n1 := by omega
      have HFF : Hid (R = true) := hId (by
        rw [HR.out, eqL_iff]
        exact List.ext_getElem (by rw [HL1.out, HL2.out]) (fun i h1 h2 => HE.out i h1 h2 (by have := HL1.out; omega)))
      go_wp2_with fail
      go_ret
      exact ⟨ret_bool HFF.out.symm, HM.out⟩
set_option maxRecDepth 100000 in
set_option maxHeartbeats 1500000 in
theorem equalFunc_mem (F : Nat) (eg : ∀ args w, (callFunc F args).run Tryz.prog w = .ok (.enter F args) w) (f : β → β → Bool) (hfi : ∀ u v, f u v = true ↔ u = v) (us vs : List β) (A1 A2 : Option Addr) (n1 c1 n2 c2 : Nat) (xs ys : List MA) (w : World)
    (h1 : Sl w 60 7 MA.enc A1 n1 xs) (h2 : Sl w 60 7 MA.enc A2 n2 ys) (l1 : us.length = n1) (l2 : vs.length = n2) (hn1 : n1 ≤ 1000000) (hn2 : n2 ≤ 1000000)
    (hF : ∀ i (a1 : i < xs.length) (a2 : i < ys.length) (a3 : i < us.length) (a4 : i < vs.length) W, New w W → Calls Tryz.prog F #[xs[i].val, ys[i].val] W fun e w' => e = .returned (.bool (f us[i] vs[i])) ∧ New W w') :
    Calls Tryz.prog 24 #[.slice A1 n1 c1, .slice A2 n2 c2, .func (.func F) #[] #[]] w fun e w' => e = .returned (.bool (eqL us vs)) ∧ New w w' := by
  by_cases hne : n1 = n2
  rotate_left
  · have hne1 : ((n1 : Int) != (n2 : Int)) = true := by simp only [bne_iff_ne, ne_eq]; omega
    have hR : eqL us vs = false := eqL_false (fun e => hne (by rw [← l1, ← l2, e]))
    rw [hR]
    go_enter Tryz.func24, Tryz.ntmps24
    go_wp2_with fail
    go_ret
    exact ⟨rfl, Mod.refl _ _⟩
  subst hne
  obtain ⟨R, hR⟩ : ∃ R, R = eqL us vs := ⟨_, rfl⟩
  rw [← hR]
  have HR := hId hR
  have HS1 := hId h1
  have HS2 := hId h2
  have HX1 := hId h1.1
  have HX2 := hId h2.1
  have HL1 := hId l1
  have HL2 := hId l2
  have HF := hId hF
  have HFI := hId hfi
  clear hF h1 h2 l1 l2 hR hfi
  go_enter Tryz.func24, Tryz.ntmps24
  go_wp2_with fail
  go_loopw [17] (fun i wr => ∃ k : Nat, k ≤ n1 ∧ i = .int .i64 k ∧ Hid (∀ i (a : i < us.length) (b : i < vs.length), i < k → us[i] = vs[i]) ∧ Hid (New w wr)) (fun i _ => n1 - (intOf i).toNat)
  case atStart => exact ⟨0, Nat.zero_le _, rfl, hId (fun i a b h => absurd h (by omega)), hId (Mod.refl _ _)⟩
  case round =>
    rename World => wr
    obtain ⟨k, hk, rfl, HE, HM⟩ := hrel
    by_cases hlt : k < n1
    · have hkx : k < xs.length := by have := HX1.out; omega
      have hku : k < us.length := by have := HL1.out; omega
      obtain ⟨g1, o1, hA1, ht1, hc1⟩ := (HS1.out.new HM.out).2 (by omega)
      subst hA1
      have hgl1 := ht1.lt
      have hc := fun q (hq : q < 7) => hc1 k hkx q hq
      have hb1 : (0 : Int) ≤ k := by omega
      have hb2 : (k : Int) < n1 := by omega
      have hky : k < ys.length := by have := HX2.out; omega
      have hkv : k < vs.length := by have := HL2.out; omega
      obtain ⟨g2, o2, hA2, ht2, hc2⟩ := (HS2.out.new HM.out).2 (by omega)
      subst hA2
      have hgl2 := ht2.lt
      have hd := fun q (hq : q < 7) => hc2 k hky q hq
      have hcall := fun W h => HF.out k hkx hky hku hkv W (HM.out.trans h)
      have HST : Hid (f us[k] vs[k] = false → R = false) := hId (fun h => by
        rw [HR.out]
        refine eqL_false (fun e => ?_)
        have h2 : f us[k] vs[k] = true := (HFI.out _ _).2 (by simp only [e])
        rw [h] at h2; cases h2)
      have HNX : Hid (f us[k] vs[k] = true → ∀ i (a : i < us.length) (b : i < vs.length), i < k + 1 → us[i] = vs[i]) := hId (fun h i a b hi => by
        by_cases e : i = k
        · subst e; exact (HFI.out _ _).1 h
        · exact HE.out i a b (by omega))
      generalize f us[k] vs[k] = r at *
      clear hc1 hc2
      generalize xs[k] = x at *
      generalize ys[k] = y at *
      obtain ⟨xm, xk, xf, xn, xw, xla, xln, xlc, xma, xmn, xmc⟩ := x
      obtain ⟨ym, yk, yf, yn, yw, yla, yln, ylc, yma, ymn, ymc⟩ := y
      have b0 := hc 0 (by omega)
      have b1 := hc 1 (by omega)
      have b2 := hc 2 (by omega)
      have b3 := hc 3 (by omega)
      have b4 := hc 4 (by omega)
      have b5 := hc 5 (by omega)
      have b6 := hc 6 (by omega)
      have d0 := hd 0 (by omega)
      have d1 := hd 1 (by omega)
      have d2 := hd 2 (by omega)
      have d3 := hd 3 (by omega)
      have d4 := hd 4 (by omega)
      have d5 := hd 5 (by omega)
      have d6 := hd 6 (by omega)
      simp only [MA.enc, VA.enc, Nat.add_zero] at b0 b1 b2 b3 b4 b5 b6 d0 d1 d2 d3 d4 d5 d6
      have hmw := ((Mod.refl (fun _ => False) wr).alloc (.cells #[.string xm, .int .i64 xk, .bool xf, .int .i64 xn, .string xw, .slice xla xln xlc, .slice xma xmn xmc] 60)).alloc (.cells #[.string ym, .int .i64 yk, .bool yf, .int .i64 yn, .string yw, .slice yla yln ylc, .slice yma ymn ymc] 60)
      have hcall1 := hcall _ hmw
      simp only [MA.val] at hcall1
      have HMW := hId hmw
      clear hc hd hcall hmw ht1 ht2
      go_wp2_with fail
      refine hcall1.mono ?_
      clear hcall1
      rintro e w5 ⟨rfl, m5⟩
      have HM5 := hId (HM.out.trans (HMW.out.trans m5))
      clear m5
      cases r with
      | true =>
        have HG := hId (HNX.out rfl)
        go_wp2_with fail
        go_roundw
        case rel => exact ⟨k + 1, by omega, by go_num, HG, HM5⟩
        case measure => simp [intOf]; omega
      | false =>
        have HFF := hId (HST.out rfl)
        go_wp2_with fail
        go_ret
        exact ⟨ret_bool HFF.out.symm, HM5.out⟩
    · obtain rfl : k = n1 := by omega
      have HFF : Hid (R = true) := hId (by
        rw [HR.out, eqL_iff]
        exact List.ext_getElem (by rw [HL1.out, HL2.out]) (fun i h1 h2 => HE.out i h1 h2 (by have := HL1.out; omega)))
      go_wp2_with fail
      go_ret
      exact ⟨ret_bool HFF.out.symm, HM.out⟩
end
theorem enters_Same (args : Array Value) (w : World) : (callFunc 7 args).run Tryz.prog w = .ok (.enter 7 args) w := by
  go_simp
theorem enters_Same1 (args : Array Value) (w : World) : (callFunc 25 args).run Tryz.prog w = .ok (.enter 25 args) w := by
  go_simp
def SameSpec (d : Nat) : Prop := ∀ (x y : VA) (v u : VT) (G : Nat → Prop) (w : World), Tree w G d x v → Tree w G d y u → Fit d v → Fit d u →
    Calls Tryz.prog 7 #[x.val, y.val] w fun e w' => e = .returned (.bool (eqV v u)) ∧ New w w'
theorem toList_beq (a b : ByteArray) : (a.toList == b.toList) = decide (a = b) := by
  rw [ba_toList, ba_toList, Bool.eq_iff_iff, beq_iff_eq, decide_eq_true_iff]
  exact ⟨ba_ext, fun e => by rw [e]⟩
set_option maxRecDepth 100000 in
set_option maxHeartbeats 1500000 in
theorem sameMember (d : Nat) (hI : SameSpec d) (m k : MA) (p q : ByteArray × VT) (G : Nat → Prop) (w : World) (hn1 : m.name = p.1) (hn2 : k.name = q.1) (ht1 : Tree w G d m.v p.2) (ht2 : Tree w G d k.v q.2) (hf1 : Fit d p.2) (hf2 : Fit d q.2) :
    Calls Tryz.prog 25 #[m.val, k.val] w fun e w' => e = .returned (.bool (eqM p q)) ∧ New w w' := by
  have HI := hId (fun W (h : New w W) => hI m.v k.v p.2 q.2 G W (ht1.new h) (ht2.new h) hf1 hf2)
  obtain ⟨xm, xk, xf, xn, xw, xla, xln, xlc, xma, xmn, xmc⟩ := m
  obtain ⟨ym, yk, yf, yn, yw, yla, yln, ylc, yma, ymn, ymc⟩ := k
  simp only at hn1 hn2 HI
  have hE : eqM p q = ((xm.toList == ym.toList) && eqV p.2 q.2) := by rw [toList_beq, hn1, hn2]; rfl
  generalize eqM p q = E at *
  have HEE := hId hE
  clear hI ht1 ht2 hf1 hf2 hn1 hn2 hE
  generalize eqV p.2 q.2 = c2 at *
  have hx := Blk.new w 60 #[.string xm, .int .i64 xk, .bool xf, .int .i64 xn, .string xw, .slice xla xln xlc, .slice xma xmn xmc]
  have hm1 : New w (w.alloc (.cells #[.string xm, .int .i64 xk, .bool xf, .int .i64 xn, .string xw, .slice xla xln xlc, .slice xma xmn xmc] 60)) := (Mod.refl _ _).alloc _
  have hy := Blk.new (w.alloc (.cells #[.string xm, .int .i64 xk, .bool xf, .int .i64 xn, .string xw, .slice xla xln xlc, .slice xma xmn xmc] 60)) 60 #[.string ym, .int .i64 yk, .bool yf, .int .i64 yn, .string yw, .slice yla yln ylc, .slice yma ymn ymc]
  have hm2 : New (w.alloc (.cells #[.string xm, .int .i64 xk, .bool xf, .int .i64 xn, .string xw, .slice xla xln xlc, .slice xma xmn xmc] 60)) ((w.alloc (.cells #[.string xm, .int .i64 xk, .bool xf, .int .i64 xn, .string xw, .slice xla xln xlc, .slice xma xmn xmc] 60)).alloc (.cells #[.string ym, .int .i64 yk, .bool yf, .int .i64 yn, .string yw, .slice yla yln ylc, .slice yma ymn ymc] 60)) := (Mod.refl _ _).alloc _
  go_enter Tryz.func25, Tryz.ntmps25
  go_upto_region 1 with (fail)
  rw [show (w.alloc (.cells #[.string xm, .int .i64 xk, .bool xf, .int .i64 xn, .string xw, .slice xla xln xlc, .slice xma xmn xmc] 60)).heap.size = w.heap.size + 1 by simp] at hy
  generalize w.alloc (.cells #[.string xm, .int .i64 xk, .bool xf, .int .i64 xn, .string xw, .slice xla xln xlc, .slice xma xmn xmc] 60) = w1 at *
  generalize w1.alloc (.cells #[.string ym, .int .i64 yk, .bool yf, .int .i64 yn, .string yw, .slice yla yln ylc, .slice yma ymn ymc] 60) = w2 at *
  have hx2 := hx.mod hm2 (fun e => e)
  generalize w.heap.size = xb at *
  generalize xb + 1 = yb at *
  have HM2 := hId (hm1.trans hm2)
  have hi := HI.out w2 HM2.out
  have b0 := hx2.cell 0
  have b1 := hx2.cell 1
  have b2 := hx2.cell 2
  have b3 := hx2.cell 3
  have b4 := hx2.cell 4
  have b5 := hx2.cell 5
  have b6 := hx2.cell 6
  have bl := hx2.lt
  have d0 := hy.cell 0
  have d1 := hy.cell 1
  have d2 := hy.cell 2
  have d3 := hy.cell 3
  have d4 := hy.cell 4
  have d5 := hy.cell 5
  have d6 := hy.cell 6
  have dl := hy.lt
  simp only [lqt, lqz, lqs] at b0 b1 b2 b3 b4 b5 b6 d0 d1 d2 d3 d4 d5 d6
  clear hx hx2 hy hm1 hm2
  cases he : (xm.toList == ym.toList) with
  | true =>
    have HF : Hid (E = c2) := hId (by rw [HEE.out, he, Bool.true_and])
    go_wp2_with fail
    refine hi.mono ?_
    clear hi
    rintro e w6 ⟨rfl, m6⟩
    go_wp2_with fail
    go_ret
    exact ⟨ret_bool HF.out.symm, HM2.out.trans m6⟩
  | false =>
    have HF : Hid (E = false) := hId (by rw [HEE.out, he, Bool.false_and])
    go_wp2_with fail
    go_ret
    exact ⟨ret_bool HF.out.symm, HM2.out⟩

set_option maxRecDepth 100000 in
set_option maxHeartbeats 1500000 in
theorem same_v (d : Nat) : SameSpec d := by
  induction d with
  | zero => intro x y v u G w ht; exact ht.elim
  | succ d ih =>
    intro x y v u G w ht1 ht2 hf1 hf2
    obtain ⟨xs, ms, hxs, hxl, hxt, hms, hml, hmt⟩ := ht1.rows
    obtain ⟨ys, ns, hys, hyl, hyt, hns, hnl, hnt⟩ := ht2.rows
    have hp1 := hf1.parts
    have hp2 := hf2.parts
    have hL := fun W (h : New w W) => equalFunc_val 7 enters_Same eqV eqV_iff v.list u.list x.la y.la x.ln x.lc y.ln y.lc xs ys W (hxs.sl.new h) (hys.sl.new h) (by rw [← hxl]; exact hxs.1) (by rw [← hyl]; exact hys.1) (by have := hxs.1; omega) (by have := hys.1; omega)
      (fun i a1 a2 a3 a4 W' hW' => ih xs[i] ys[i] v.list[i] u.list[i] G W' ((hxt i a1 a3).new (h.trans hW')) ((hyt i a2 a4).new (h.trans hW')) (hf1.item a3) (hf2.item a4))
    have hM := fun W (h : New w W) => equalFunc_mem 25 enters_Same1 eqM eqM_iff v.mem u.mem x.ma y.ma x.mn x.mc y.mn y.mc ms ns W (hms.sl.new h) (hns.sl.new h) (by rw [← hml]; exact hms.1) (by rw [← hnl]; exact hns.1) (by have := hms.1; omega) (by have := hns.1; omega)
      (fun i a1 a2 a3 a4 W' hW' => sameMember d ih ms[i] ns[i] v.mem[i] u.mem[i] G W' (hmt i a1 a3).1 (hnt i a2 a4).1 ((hmt i a1 a3).2.new (h.trans hW')) ((hnt i a2 a4).2.new (h.trans hW')) (hf1.member a3).1 (hf2.member a4).1)
    obtain ⟨g1, g2, g3, g4, -, -⟩ := ht1.fields
    obtain ⟨k1, k2, k3, k4, -, -⟩ := ht2.fields
    have HEE : Hid (eqV v u = ((x.kind == y.kind) && (x.flag == y.flag) && (x.num == y.num) && (x.words.toList == y.words.toList) && eqL v.list u.list && eqL v.mem u.mem)) := hId (by
      rw [toList_beq, Bool.eq_iff_iff, eqV_iff]
      simp only [Bool.and_eq_true, eqL_iff, beq_iff_eq, decide_eq_true_iff]
      rw [← g1, ← g2, ← g3, ← g4, ← k1, ← k2, ← k3, ← k4]
      clear hL hM hxs hxl hxt hms hml hmt hys hyl hyt hns hnl hnt hp1 hp2 ht1 ht2 hf1 hf2 g1 g2 g3 g4 k1 k2 k3 k4 ih
      obtain ⟨a1, a2, a3, a4, a5, a6⟩ := v
      obtain ⟨e1, e2, e3, e4, e5, e6⟩ := u
      simp only [VT.kind, VT.flag, VT.num, VT.words, VT.list, VT.mem, VT.mk.injEq, and_assoc])
    clear ht1 ht2 hf1 hf2 hxs hxl hxt hms hml hmt hys hyl hyt hns hnl hnt hp1 hp2 g1 g2 g3 g4 k1 k2 k3 k4 ih
    obtain ⟨xk, xf, xn, xw, xla, xln, xlc, xma, xmn, xmc⟩ := x
    obtain ⟨yk, yf, yn, yw, yla, yln, ylc, yma, ymn, ymc⟩ := y
    simp only at hL hM HEE
    generalize eqV v u = E at *
    generalize eqL v.list u.list = L at *
    generalize eqL v.mem u.mem = M at *
    have HLL := hId hL
    have HMM := hId hM
    clear hL hM
    have hx := Blk.new w 30 #[.int .i64 xk, .bool xf, .int .i64 xn, .string xw, .slice xla xln xlc, .slice xma xmn xmc]
    have hm1 : New w (w.alloc (.cells #[.int .i64 xk, .bool xf, .int .i64 xn, .string xw, .slice xla xln xlc, .slice xma xmn xmc] 30)) := (Mod.refl _ _).alloc _
    have hy := Blk.new (w.alloc (.cells #[.int .i64 xk, .bool xf, .int .i64 xn, .string xw, .slice xla xln xlc, .slice xma xmn xmc] 30)) 30 #[.int .i64 yk, .bool yf, .int .i64 yn, .string yw, .slice yla yln ylc, .slice yma ymn ymc]
    have hm2 : New (w.alloc (.cells #[.int .i64 xk, .bool xf, .int .i64 xn, .string xw, .slice xla xln xlc, .slice xma xmn xmc] 30)) ((w.alloc (.cells #[.int .i64 xk, .bool xf, .int .i64 xn, .string xw, .slice xla xln xlc, .slice xma xmn xmc] 30)).alloc (.cells #[.int .i64 yk, .bool yf, .int .i64 yn, .string yw, .slice yla yln ylc, .slice yma ymn ymc] 30)) := (Mod.refl _ _).alloc _
    go_enter Tryz.func7, Tryz.ntmps7
    go_upto_region 1 with (fail)
    rw [show (w.alloc (.cells #[.int .i64 xk, .bool xf, .int .i64 xn, .string xw, .slice xla xln xlc, .slice xma xmn xmc] 30)).heap.size = w.heap.size + 1 by simp] at hy
    generalize w.alloc (.cells #[.int .i64 xk, .bool xf, .int .i64 xn, .string xw, .slice xla xln xlc, .slice xma xmn xmc] 30) = w1 at *
    generalize w1.alloc (.cells #[.int .i64 yk, .bool yf, .int .i64 yn, .string yw, .slice yla yln ylc, .slice yma ymn ymc] 30) = w2 at *
    have hxx := hx.mod hm2 (fun e => e)
    have hyy := hy
    generalize w.heap.size = xb at *
    generalize xb + 1 = yb at *
    have HM2 := hId (hm1.trans hm2)
    have HX := hId hxx
    have HY := hId hyy
    have hl2 := HLL.out w2 HM2.out
    clear hx hy hm1 hm2
    have b0 := hxx.cell 0
    have b1 := hxx.cell 1
    have b2 := hxx.cell 2
    have b3 := hxx.cell 3
    have b4 := hxx.cell 4
    have b5 := hxx.cell 5
    have bl := hxx.lt
    have d0 := hyy.cell 0
    have d1 := hyy.cell 1
    have d2 := hyy.cell 2
    have d3 := hyy.cell 3
    have d4 := hyy.cell 4
    have d5 := hyy.cell 5
    have dl := hyy.lt
    simp only [lqt, lqz, lqs] at b0 b1 b2 b3 b4 b5 d0 d1 d2 d3 d4 d5
    clear hxx hyy
    cases h1 : (xk == yk) with
    | false =>
      have HF : Hid (E = false) := hId (by rw [HEE.out, h1]; simp)
      go_wp2_with fail
      go_ret
      exact ⟨ret_bool HF.out.symm, HM2.out⟩
    | true =>
    cases h2 : (xf == yf) with
    | false =>
      have HF : Hid (E = false) := hId (by rw [HEE.out, h2]; simp)
      go_wp2_with fail
      go_ret
      exact ⟨ret_bool HF.out.symm, HM2.out⟩
    | true =>
    cases h3 : (xn == yn) with
    | false =>
      have HF : Hid (E = false) := hId (by rw [HEE.out, h3]; simp)
      go_wp2_with fail
      go_ret
      exact ⟨ret_bool HF.out.symm, HM2.out⟩
    | true =>
    cases h4 : (xw.toList == yw.toList) with
    | false =>
      have HF : Hid (E = false) := hId (by rw [HEE.out, h4]; simp)
      go_wp2_with fail
      go_ret
      exact ⟨ret_bool HF.out.symm, HM2.out⟩
    | true =>
    have HF : Hid (E = (L && M)) := hId (by rw [HEE.out, h1, h2, h3, h4]; simp)
    go_wp2_with fail
    refine hl2.mono ?_
    clear hl2
    rintro e w6 ⟨rfl, m6⟩
    have hm2 := HMM.out w6 (HM2.out.trans m6)
    have HM6 := hId (HM2.out.trans m6)
    have hxx := HX.out.mod m6 (fun e => e)
    have hyy := HY.out.mod m6 (fun e => e)
    clear b0 b1 b2 b3 b4 b5 d0 d1 d2 d3 d4 d5 bl dl m6
    have b0 := hxx.cell 0
    have b1 := hxx.cell 1
    have b2 := hxx.cell 2
    have b3 := hxx.cell 3
    have b4 := hxx.cell 4
    have b5 := hxx.cell 5
    have bl := hxx.lt
    have d0 := hyy.cell 0
    have d1 := hyy.cell 1
    have d2 := hyy.cell 2
    have d3 := hyy.cell 3
    have d4 := hyy.cell 4
    have d5 := hyy.cell 5
    have dl := hyy.lt
    simp only [lqt, lqz, lqs] at b0 b1 b2 b3 b4 b5 d0 d1 d2 d3 d4 d5
    clear hxx hyy
    cases L with
    | false =>
      have HG : Hid (E = false) := hId (by rw [HF.out]; rfl)
      go_wp2_with fail
      go_ret
      exact ⟨ret_bool HG.out.symm, HM6.out⟩
    | true =>
      have HG : Hid (E = M) := hId (by rw [HF.out]; rfl)
      go_wp2_with fail
      refine hm2.mono ?_
      clear hm2
      rintro e w7 ⟨rfl, m7⟩
      go_wp2_with fail
      go_ret
      exact ⟨ret_bool HG.out.symm, HM6.out.trans m7⟩


def InInts (w : World) (A : Option Addr) (n : Nat) : Prop :=
  n ≤ maxLen ∧ (0 < n → ∃ g o, A = some ⟨g, o, none⟩ ∧ g < w.heap.size ∧ ∃ z : Nat → Int, ∀ i, i < n → w.cell? ⟨g, o + i, none⟩ = some (.int .i64 (z i)) ∧ I64 (z i))

theorem SInv.start {w : World} {A : Option Addr} {n c : Nat} (h : InInts w A n) : SInv w.heap.size (w.alloc (.cells #[.slice A n c, .int .i64 0] 25)) 0 := by
  rcases Nat.eq_zero_or_pos n with rfl | hn
  · exact ⟨A, 0, c, 0, fun _ => 0, Blk.new _ _ _, by omega, by unfold maxLen; omega, fun h => absurd h (by omega)⟩
  · obtain ⟨g, o, hA, hg, z, hz⟩ := h.2 hn
    refine ⟨A, n, c, 0, z, Blk.new _ _ _, by omega, h.1, fun _ => ⟨g, o, hA, hg, fun i hi => ⟨?_, (hz i hi).2⟩⟩⟩
    rw [← (hz i hi).1]
    exact World.cell?_alloc_lt w _ _ hg

/-- what the stream does is nothing to the caller's memory -/
theorem SStep.news {w w' : World} {o : Obj} {k : Nat} (h : SStep w.heap.size (w.alloc o) w' k) : New w w' :=
  ((Mod.refl (fun _ => False) w).alloc o).step h.only (fun i hi e => by omega)


def nullV : VT := .mk 4 false 0 ⟨#[]⟩ [.mk 0 false 0 ⟨#[]⟩ [] []] []
theorem nullV_check : vCheck 2 nullV = 0 := by kernel_rfl
theorem nullV_text : vText 2 nullV = [91, 110, 117, 108, 108, 93] := by kernel_rfl
theorem nullV_w : vW 2 nullV ≤ 1000 := by decide
theorem nullV_fit : Fit 2 nullV := by
  refine ⟨Nat.le_trans nullV_w (by omega), by show 1 ≤ 200000; omega, Nat.zero_le _, by show (⟨#[]⟩ : ByteArray).size ≤ 1000000; decide, fun z hz => ?_, fun z hz => by simp [nullV, VT.mem] at hz⟩
  have : z = .mk 0 false 0 ⟨#[]⟩ [] [] := by simpa [nullV, VT.list] using hz
  subst this
  exact ⟨Nat.zero_le _, Nat.zero_le _, by show (⟨#[]⟩ : ByteArray).size ≤ 1000000; decide, fun x hx => by simp [VT.list] at hx, fun x hx => by simp [VT.mem] at hx⟩
set_option maxRecDepth 100000 in
set_option maxHeartbeats 1000000 in
theorem valued_v (w : World) (hP : Pow10 w) (hU : Utf8T w) : Calls Tryz.prog 8 #[] w fun e w' => e = .returned (.bool true) ∧ New w w' := by
  have m1 : New w (w.alloc (.cells #[.int .i64 0, .bool false, .int .i64 0, .string ⟨#[]⟩, .slice none 0 0, .slice none 0 0] 30)) := (Mod.refl _ _).alloc _
  have bk := Blk.new w 30 #[.int .i64 0, .bool false, .int .i64 0, .string ⟨#[]⟩, .slice none 0 0, .slice none 0 0]
  have hown : Own (w.alloc (.cells #[.int .i64 0, .bool false, .int .i64 0, .string ⟨#[]⟩, .slice none 0 0, .slice none 0 0] 30)) w.heap.size 30 6 VA.enc (some ⟨w.heap.size, 0, none⟩) 1 1 [(⟨0, false, 0, ⟨#[]⟩, none, 0, 0, none, 0, 0⟩ : VA)] := Own.of_blk (xs := [(⟨0, false, 0, ⟨#[]⟩, none, 0, 0, none, 0, 0⟩ : VA)]) bk (Nat.le_refl _) rfl (by omega)
  have hks : Kids (TrV 1) 30 6 VA.enc (w.alloc (.cells #[.int .i64 0, .bool false, .int .i64 0, .string ⟨#[]⟩, .slice none 0 0, .slice none 0 0] 30)) w.heap.size (fun _ => True) (some ⟨w.heap.size, 0, none⟩) 1 1 [(⟨0, false, 0, ⟨#[]⟩, none, 0, 0, none, 0, 0⟩ : VA)] [VT.mk 0 false 0 ⟨#[]⟩ [] []] := ⟨hown, rfl, fun i h h' => by
    simp only [List.length_cons, List.length_nil] at h
    obtain rfl : i = 0 := by omega
    exact leaf_tree _ _ 0 0 false 0 ⟨#[]⟩⟩
  have hty : Tree (w.alloc (.cells #[.int .i64 0, .bool false, .int .i64 0, .string ⟨#[]⟩, .slice none 0 0, .slice none 0 0] 30)) (fun _ => True) (1 + 1) ⟨4, false, 0, ⟨#[]⟩, some ⟨w.heap.size, 0, none⟩, 1, 1, none, 0, 0⟩ nullV := Tree.of_kids hks (B' := 0) (G2 := fun _ => True) Kids.nil (fun _ _ _ => trivial) (fun _ _ _ => trivial) (fun _ _ => trivial) (fun _ _ => trivial)
  have htx := text_v 1 ⟨4, false, 0, ⟨#[]⟩, some ⟨w.heap.size, 0, none⟩, 1, 1, none, 0, 0⟩ nullV (fun _ => True) _ hty nullV_fit (Nat.le_trans nullV_w (by omega)) (hP.new m1) (hU.new m1)
  have hc : vCheck (1 + 1) nullV = 0 := nullV_check
  have ht : vText (1 + 1) nullV = [91, 110, 117, 108, 108, 93] := nullV_text
  rw [hc, ht, if_neg (by simp)] at htx
  have HM1 := hId m1
  clear hty hks hown bk m1 hc ht
  go_enter Tryz.func8, Tryz.ntmps8
  go_wp2_with fail
  refine htx.mono ?_
  clear htx
  rintro e w2 ⟨rfl, m2⟩
  have hte : ((⟨[91, 110, 117, 108, 108, 93].toArray⟩ : ByteArray).toList == [91, 110, 117, 108, 108, 93]) = true := by
    rw [ByteArray.toList_eq]; rfl
  go_wp2_with fail
  go_ret
  exact ⟨rfl, HM1.out.trans m2⟩



/-- block g holds a conversion's row of bytes, which reads as l -/
def BRow (w : World) (g : Nat) (l : List UInt8) : Prop := ∃ cur fz, w.heap[g]? = some (.cells cur 5 fz) ∧ l.length ≤ fz.1 ∧ ∀ i (h : i < l.length), cur[i]? = some (.int .u8 (l[i].toNat : Int))
theorem BRow.lt {w : World} {g : Nat} {l : List UInt8} (h : BRow w g l) : g < w.heap.size := by obtain ⟨_, _, h, _⟩ := h; exact heap_lt h
theorem BRow.cell {w : World} {g : Nat} {l : List UInt8} (h : BRow w g l) {i : Nat} (hi : i < l.length) : w.cell? ⟨g, i, none⟩ = some (.int .u8 (l[i].toNat : Int)) := by
  obtain ⟨cur, fz, h1, h2, h3⟩ := h
  rw [← h3 i hi]
  simp [World.cell?, h1]
theorem BRow.frozen {w : World} {g : Nat} {l : List UInt8} (h : BRow w g l) {i : Nat} (hi : i < l.length) : w.frozen? ⟨g, i, none⟩ = false := by
  obtain ⟨cur, ⟨lo, hi'⟩, h1, h2, h3⟩ := h
  simp only at h2
  simp [World.frozen?, h1]
  omega
theorem BRow.set {w : World} {g : Nat} {l : List UInt8} (h : BRow w g l) {i : Nat} (hi : i < l.length) (c : UInt8) : BRow (w.setCell ⟨g, i, none⟩ (.int .u8 (c.toNat : Int))) g (l.set i c) := by
  obtain ⟨cur, fz, h1, h2, h3⟩ := h
  refine ⟨cur.setIfInBounds i (.int .u8 (c.toNat : Int)), fz, ?_, by simpa using h2, fun j hj => ?_⟩
  · simp [World.setCell, Array.getElem?_modify, h1]
  · have hj' : j < l.length := by simpa using hj
    rw [Array.getElem?_setIfInBounds, List.getElem_set]
    by_cases e : i = j
    · subst e
      have hc : i < cur.size := by
        have := h3 i hi
        rcases Nat.lt_or_ge i cur.size with h | h
        · exact h
        · rw [Array.getElem?_eq_none h] at this; cases this
      simp [hc]
    · rw [if_neg e, if_neg e]
      exact h3 j hj'
theorem BRow.mod {S : Nat → Prop} {w w' : World} {g : Nat} {l : List UInt8} (h : BRow w g l) (hm : Mod S w w') (hs : ¬ S g) : BRow w' g l := by
  obtain ⟨cur, fz, h1, h2, h3⟩ := h
  exact ⟨cur, fz, (hm.block g (heap_lt h1) hs).trans h1, h2, h3⟩
theorem BRow.conv (w : World) (s : ByteArray) : BRow (Lib.bytesWorld w 5 s) w.heap.size s.data.toList := by
  refine ⟨_, _, Lib.bytesWorld_at_new w 5 s, ?_, fun i hi => ?_⟩
  · show s.size ≤ (Lib.bytesCells w 5 s).size
    unfold Lib.bytesCells
    simp
  · unfold Lib.bytesCells
    have hi' : i < s.data.size := hi
    rw [Array.getElem?_append_left (by simpa using hi')]
    rw [Array.getElem?_map, Array.getElem?_eq_getElem hi']
    rfl
theorem BRow.string {w : World} {g n c : Nat} {l : List UInt8} (h : BRow w g l) (hn : l.length = n) :
    (convert 106 9 (.slice (some ⟨g, 0, none⟩) n c)).run Tryz.prog w = .ok (.string ⟨l.toArray⟩) w := by
  have := run_convert_bytes_arg (P := Tryz.prog) w 106 5 Tryz.underlying106 Tryz.underlying5 g 0 n c (l.map fun x => (x.toNat : Int)) (by simp [hn]) (fun i hi => by
    rw [Nat.zero_add, h.cell (by omega)]
    simp [List.getD_eq_getElem?_getD, show i < l.length by omega]) 9 Tryz.underlying9
  have e : strOfNums (l.map fun x => (x.toNat : Int)) = ⟨l.toArray⟩ := by
    unfold strOfNums
    rw [List.map_map]
    have hid : ((fun n : Int => UInt8.ofNat n.toNat) ∘ fun x : UInt8 => (x.toNat : Int)) = id := by
      funext x
      simp
    rw [hid, List.map_id]
  rw [e] at this
  exact this

def sEnc (x : ByteArray) (_ : Nat) : Value := .string x
theorem sEnc_one (x : ByteArray) (j : Nat) (hj : j < 1) : (sEnc x j).oneCell' = true := rfl
theorem einfo_str : EInfo Tryz.prog 9 1 16 := EInfo.of (z := .string ⟨#[]⟩) (by kernel_rfl) rfl (by decide)
def rpOld : List ByteArray := [⟨#[44]⟩, ⟨#[32, 44, 10]⟩, ⟨#[58]⟩, ⟨#[32, 58, 32]⟩, ⟨#[91]⟩, ⟨#[91, 32]⟩, ⟨#[125]⟩, ⟨#[9, 125]⟩]
theorem BRow.tb {w : World} {g : Nat} {l : List UInt8} (h : BRow w g l) : TB w g 5 := by obtain ⟨cur, fz, h1, _⟩ := h; exact ⟨cur, fz, h1⟩
theorem Own.blkS {α : Type} {w : World} {B g : Nat} {t : TypeId} {sz : Nat} {enc : α → Nat → Value} {n c : Nat} {xs : List α} (h : Own w B t sz enc (some ⟨g, 0, none⟩) n c xs) : B ≤ g ∧ TB w g t := by
  rcases h.blk with ⟨hA, _⟩ | ⟨g', hA, hB, ht⟩
  · cases hA
  · injection hA with hA; injection hA with hA; subst hA; exact ⟨hB, ht⟩
/-- the table's cells: for each byte what stands for it -/
def RpT (w : World) (b0 : Nat) (cs : Array Value) (m : Nat → Nat) : Prop := ∀ y, y < 256 → (m y = 0 ∧ cs[y]? = some (.slice none 0 0)) ∨ (0 < m y ∧ ∃ g c L, L.length = m y ∧ cs[y]? = some (.slice (some ⟨g, 0, none⟩) (m y) c) ∧ BRow w g L ∧ b0 ≤ g)
theorem RpT.mod {S : Nat → Prop} {w w' : World} {b0 : Nat} {cs : Array Value} {m : Nat → Nat} (h : RpT w b0 cs m) (hm : Mod S w w') (hs : ∀ g, TB w g 5 → ¬ S g) : RpT w' b0 cs m := fun y hy => by
  rcases h y hy with h | ⟨h0, g, c, L, h1, h2, h3, h4⟩
  · exact .inl h
  · exact .inr ⟨h0, g, c, L, h1, h2, h3.mod hm (hs g h3.tb), h4⟩
theorem RpT.set {w : World} {b0 : Nat} {cs : Array Value} {m : Nat → Nat} (h : RpT w b0 cs m) (hs : cs.size = 257) (v : Value) : RpT w b0 (cs.setIfInBounds 256 v) m := fun y hy => by
  have e : (cs.setIfInBounds 256 v)[y]? = cs[y]? := by rw [Array.getElem?_setIfInBounds, if_neg (by omega)]
  rw [e]
  exact h y hy
theorem RpT.put {w : World} {b0 : Nat} {cs : Array Value} {m : Nat → Nat} (h : RpT w b0 cs m) (hs : cs.size = 257) {x g c : Nat} {L : List UInt8} (hx : x < 256) (h0 : 0 < L.length) (hb : BRow w g L) (hg : b0 ≤ g) :
    RpT w b0 (cs.setIfInBounds x (.slice (some ⟨g, 0, none⟩) L.length c)) (fun y => if y = x then L.length else m y) := fun y hy => by
  by_cases e : y = x
  · subst e
    simp only [if_true]
    refine .inr ⟨h0, g, c, L, rfl, ?_, hb, hg⟩
    rw [Array.getElem?_setIfInBounds, if_pos rfl, if_pos (by omega)]
  · simp only [if_neg e]
    have e2 : (cs.setIfInBounds x (.slice (some ⟨g, 0, none⟩) L.length c))[y]? = cs[y]? := by rw [Array.getElem?_setIfInBounds, if_neg (by omega)]
    rw [e2]
    exact h y hy

structure RpS (w0 w : World) (B b2 og oc : Nat) (cs : Array Value) (gk ck : Nat) (xs : List ByteArray) (m : Nat → Nat) : Prop where
  new : New w0 w
  old : Own w B 9 1 sEnc (some ⟨og, 0, none⟩) 8 oc rpOld
  hog : og < w0.heap.size
  blk : Blk w b2 158 cs
  hb2 : w0.heap.size ≤ b2
  sz : cs.size = 257
  row : Own w w0.heap.size 9 1 sEnc (some ⟨gk, 0, none⟩) xs.length ck xs
  c256 : cs[256]? = some (.slice (some ⟨gk, 0, none⟩) xs.length ck)
  rep : RpT w w0.heap.size cs m
theorem RpS.nil {w0 w : World} {B b2 og oc gk ck : Nat} {cs : Array Value} {xs : List ByteArray} {m : Nat → Nat} (h : RpS w0 w B b2 og oc cs gk ck xs m) (y : Nat) (hy : y < 256) (hm : m y = 0) : w.cell? ⟨b2, y, none⟩ = some (.slice none 0 0) := by
  rw [h.blk.cell]
  rcases h.rep y hy with e | ⟨e, _⟩
  · exact e.2
  · omega
def rpNew : List ByteArray := [⟨#[125]⟩, ⟨#[91]⟩, ⟨#[58]⟩, ⟨#[44]⟩]
def rpW (z : Nat) : Nat := if z = 44 then 3 else if z = 58 then 3 else if z = 91 then 2 else if z = 125 then 2 else 0
/-- the built replacer in memory: block b2, all that it holds from b0 on -/
structure RpR (w : World) (b0 b2 : Nat) : Prop where
  hb : b0 ≤ b2
  ex : ∃ cs gk ck, Blk w b2 158 cs ∧ cs.size = 257 ∧ Own w b0 9 1 sEnc (some ⟨gk, 0, none⟩) 4 ck rpNew ∧ cs[256]? = some (.slice (some ⟨gk, 0, none⟩) 4 ck) ∧ RpT w b0 cs rpW
theorem RpR.new {w w' : World} {b0 b2 : Nat} (h : RpR w b0 b2) (hm : New w w') : RpR w' b0 b2 := by
  obtain ⟨hb, cs, gk, ck, h1, h2, h3, h4, h5⟩ := h
  exact ⟨hb, cs, gk, ck, h1.mod hm (fun x => x), h2, h3.new hm, h4, h5.mod hm (fun _ _ x => x)⟩
theorem RpR.mod {S : Nat → Prop} {w w' : World} {b0 b2 : Nat} (h : RpR w b0 b2) (hm : Mod S w w') (hs : ∀ g, b0 ≤ g → ¬ S g) : RpR w' b0 b2 := by
  obtain ⟨hb, cs, gk, ck, h1, h2, h3, h4, h5⟩ := h
  refine ⟨hb, cs, gk, ck, h1.mod hm (hs _ hb), h2, h3.mod hm (fun k e => ?_), h4, fun y hy => ?_⟩
  · simp only [blkOf, Option.map_some, Option.some.injEq] at e
    subst e
    exact hs _ h3.blkS.1
  · rcases h5 y hy with h | ⟨h0, g, c, L, e1, e2, e3, e4⟩
    · exact .inl h
    · exact .inr ⟨h0, g, c, L, e1, e2, e3.mod hm (hs g e4), e4⟩
theorem rp_append {w0 w : World} {B b2 og oc gk ck : Nat} {cs : Array Value} {xs : List ByteArray} {m : Nat → Nat} (h : RpS w0 w B b2 og oc cs gk ck xs m) (hx : xs.length ≤ 100) (y : UInt8) :
    ∃ g cap w', (Builtin.append_ #[65, 65] 65 #[.slice (some ⟨gk, 0, none⟩) xs.length ck, .slice (some ⟨w.heap.size + 1, 0, none⟩) 1 1]).run Tryz.prog ((w.alloc (.cells #[.int .u8 (y.toNat : Int)] 5)).alloc (.cells #[.string ⟨#[y]⟩] 9)) = .ok (.slice (some ⟨g, 0, none⟩) (xs.length + 1) cap) w' ∧
      RpS w0 (w'.setCell ⟨b2, 256, none⟩ (.slice (some ⟨g, 0, none⟩) (xs.length + 1) cap)) B b2 og oc (cs.setIfInBounds 256 (.slice (some ⟨g, 0, none⟩) (xs.length + 1) cap)) g cap (xs ++ [⟨#[y]⟩]) m ∧ Blk w' b2 158 cs := by
  have hn2 : New w ((w.alloc (.cells #[.int .u8 (y.toNat : Int)] 5)).alloc (.cells #[.string ⟨#[y]⟩] 9)) := ((Mod.refl _ _).alloc _).alloc _
  have hs2 : ((w.alloc (.cells #[.int .u8 (y.toNat : Int)] 5)).alloc (.cells #[.string ⟨#[y]⟩] 9)).heap.size = w.heap.size + 2 := by simp
  have hbb : Blk ((w.alloc (.cells #[.int .u8 (y.toNat : Int)] 5)).alloc (.cells #[.string ⟨#[y]⟩] 9)) (w.heap.size + 1) 9 #[.string ⟨#[y]⟩] := Blk.new' _ _ (by simp)
  generalize (w.alloc (.cells #[.int .u8 (y.toNat : Int)] 5)).alloc (.cells #[.string ⟨#[y]⟩] 9) = W2 at *
  have hown := h.row.new hn2
  obtain ⟨i, z, hi0, hz, hsz, hby, hzs, h0⟩ := einfo_str
  have hsize := h.new.size
  obtain ⟨g, cap, w', hr, h2, h3, h4, h5⟩ := run_append_lies (P := Tryz.prog) W2 65 65 w0.heap.size 9 i z 1 16 Tryz.underlying65 hi0 hz hsz hby hzs h0 _ xs.length _ hown.2 ⟨w.heap.size + 1, 0, none⟩ 1 1 [.string ⟨#[y]⟩] rfl
    (fun j u hj => by
      have := World.news_of_block hbb
      simpa using this j u hj)
    (fun u hu => by rw [List.mem_singleton] at hu; rw [hu]; rfl) (by omega) (by unfold maxLen; omega) (by omega) (by omega) _ rfl
  rw [ownBlock_eq] at h3 h4
  have ho' : Own w' w0.heap.size 9 1 sEnc (some ⟨g, 0, none⟩) (xs.length + 1) cap (xs ++ [⟨#[y]⟩]) := ⟨by simp, by have e : encL 1 sEnc (⟨#[y]⟩ : ByteArray) = [.string ⟨#[y]⟩] := rfl; simpa [e] using h2⟩
  have hm3 : Mod (fun k => k = gk) W2 w' := (Mod.refl (fun k => k = gk) W2).grown h3 (fun k e => .inl (by simpa [blkOf] using e.symm))
  have hm4 : Mod (fun k => k = gk) w w' := (hn2.mono (T := fun k => k = gk) (fun _ _ x => x.elim)).step hm3 (fun i _ e => e)
  obtain ⟨hgk, htg⟩ := h.row.blkS
  have hnb : b2 ≠ gk := h.blk.tb.ne htg (by decide)
  have hnew : New w0 w' := (h.new).step hm4 (fun i hi e => by subst e; omega)
  have hog := h.hog
  have hold : Own w' B 9 1 sEnc (some ⟨og, 0, none⟩) 8 oc rpOld := h.old.mod hm4 (fun k e1 e2 => by simp only [blkOf, Option.map_some, Option.some.injEq] at e1; omega)
  have hblk : Blk w' b2 158 cs := h.blk.mod hm4 hnb
  have hb2 := h.hb2
  have hg : w0.heap.size ≤ g ∧ g ≠ b2 := ⟨ho'.blkS.1, ho'.blkS.2.ne hblk.tb (by decide)⟩
  have hms : Mod (fun k => k = b2) w' (w'.setCell ⟨b2, 256, none⟩ (.slice (some ⟨g, 0, none⟩) (xs.length + 1) cap)) := (Mod.refl (fun k => k = b2) w').setCell (p := ⟨b2, 256, none⟩) (.inl rfl) _
  have hre : RpT w' w0.heap.size cs m := h.rep.mod hm4 (fun k e1 e2 => e1.ne htg (by decide) e2)
  refine ⟨g, cap, w', hr, ⟨hnew.setCell (.inr hb2) _, hold.mod hms (fun k e1 e2 => by simp only [blkOf, Option.map_some, Option.some.injEq] at e1; omega), hog, hblk.set 256 _, hb2, by simp [h.sz], by simpa using ho'.mod hms (fun k e1 e2 => by simp only [blkOf, Option.map_some, Option.some.injEq] at e1; omega), ?_, (hre.set h.sz _).mod hms (fun k e1 e2 => e1.ne hblk.tb (by decide) e2)⟩, hblk⟩
  simp [h.sz]
theorem rp_wp_append {P : Program} {w w' : World} {ops : Array Oper} {rest : List Oper} {o : Oper} {a : Act} {Q : Exit → Act → World → Prop} (hgd : o.guard = none) (s x : Operand) (t : TypeId)
    (ho : o.op = .call { callee := .builtin .append, args := #[s, x], argTypes := #[t, t] }) (ht : o.type = t) {v1 v2 v : Value} (hs : a.eval s = v1) (hx : a.eval x = v2) (hr : (Builtin.append_ #[t, t] t #[v1, v2]).run P w = .ok v w')
    (h : wpList P ops Q rest (a.put o.dst v) w') : wpList P ops Q (o :: rest) a w := by
  refine wpList_plain hgd fun K hK => ?_
  unfold Oper.wp execOp
  simp only [ho, ht, resolve, invoke, builtin, Sem.run_bind, Sem.run_pure, Result.andThen_ok, List.map_toArray, List.map_cons, List.map_nil, hs, hx, hr]
  exact hK _ _ h
theorem rp_conv {w0 w : World} {B b2 og oc gk ck : Nat} {cs : Array Value} {xs : List ByteArray} {m : Nat → Nat} (h : RpS w0 w B b2 og oc cs gk ck xs m) (s : ByteArray) (hs : 0 < s.size) (y : Nat) (hy : y < 256) :
    ∃ w' cap ad, (convert 9 106 (.string s)).run Tryz.prog w = .ok (.slice (some ⟨ad, 0, none⟩) s.size cap) w' ∧ Blk w' b2 158 cs ∧
      RpS w0 (w'.setCell ⟨b2, y, none⟩ (.slice (some ⟨ad, 0, none⟩) s.size cap)) B b2 og oc (cs.setIfInBounds y (.slice (some ⟨ad, 0, none⟩) s.size cap)) gk ck xs (fun z => if z = y then s.size else m z) := by
  have hcv := Lib.run_convert_string_bytes (P := Tryz.prog) w 9 106 5 s Tryz.underlying9 Tryz.underlying106 Tryz.underlying5
  have hn : New w (Lib.bytesWorld w 5 s) := Mod.of_below (Lib.bytesWorld_below w 5 s)
  have hb := BRow.conv w s
  refine ⟨_, _, _, hcv, ?_⟩
  generalize Lib.bytesWorld w 5 s = w' at *
  generalize grownCap w s.size 0 5 = cap
  have hblk : Blk w' b2 158 cs := h.blk.mod hn (fun x => x)
  have hms : Mod (fun k => k = b2) w' (w'.setCell ⟨b2, y, none⟩ (.slice (some ⟨w.heap.size, 0, none⟩) s.size cap)) := (Mod.refl (fun k => k = b2) w').setCell (p := ⟨b2, y, none⟩) (.inl rfl) _
  have hb2 := h.hb2
  have hog := h.hog
  have hsz := h.new.size
  obtain ⟨hgk, htg⟩ := h.row.blkS
  have hnb : b2 ≠ gk := h.blk.tb.ne htg (by decide)
  have hl : s.data.toList.length = s.size := rfl
  have hre := (h.rep.mod hn (fun _ _ x => x)).put h.sz (c := cap) hy (by rw [hl]; exact hs) hb hsz
  rw [hl] at hre
  refine ⟨hblk, ⟨(h.new.trans hn).setCell (.inr hb2) _, (h.old.new hn).mod hms (fun k e1 e2 => by simp only [blkOf, Option.map_some, Option.some.injEq] at e1; omega), hog, hblk.set y _, hb2, by simp [h.sz], (h.row.new hn).mod hms (fun k e1 e2 => by simp only [blkOf, Option.map_some, Option.some.injEq] at e1; omega), ?_, hre.mod hms (fun k e1 e2 => e1.ne hblk.tb (by decide) e2)⟩⟩
  rw [Array.getElem?_setIfInBounds, if_neg (by omega)]
  exact h.c256
end Go.Proofs.YtjmnkdkdjnmejaaGreatDoor
