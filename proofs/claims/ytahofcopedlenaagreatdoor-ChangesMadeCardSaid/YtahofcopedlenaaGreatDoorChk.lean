/- Changes in memory: what is wrong with them, in both. Conditions: values and paths that the walks can carry; the library's tables lie as they should. -/
import Derived.Test.YtahofcopedlenaaGreatDoorStepC
import Derived.Test.YtahofcopedlenaaGreatDoorSame
import Derived.Test.YtahofcopedlenaaGreatDoorVal8
namespace Go.Proofs.YtahofcopedlenaaGreatDoor
open Go.RowKit
set_option linter.unusedVariables false
set_option linter.unusedSimpArgs false

structure CFit (D : Nat) (x : ChD) : Prop where
  ok : StOk x.path
  len : x.path.length ≤ 200000
  fit : Fit D x.val

theorem compareInt_zero (a b : Int) : Lib.compareInt a b = 0 ↔ a = b := by
  unfold Lib.compareInt
  repeat' split
  all_goals omega
theorem cmpL_nil {α : Type} (f : α → α → Int) (l : List α) : cmpL f l [] = 0 ↔ l = [] := by
  cases l <;> simp [cmpL]
theorem flagN_zero (b : Bool) : Lib.compareInt (flagN b) (flagN false) = 0 ↔ b = false := by
  cases b <;> simp [flagN, Lib.compareInt]
theorem flagN_eq (b : Bool) : flagN b = flagN false ↔ b = false := by
  cases b <;> simp [flagN]
theorem vCmp_nil (d : Nat) (v : VT) : (vCmp (d + 1) v nilV == 0) = nilB v := by
  obtain ⟨a, b, c, e, f, g⟩ := v
  have e1 : vCmp (d + 1) (.mk a b c e f g) nilV = fz [Lib.compareInt a 0, Lib.compareInt (flagN b) (flagN false), Lib.compareInt c 0, cmpB e ⟨#[]⟩, cmpL (vCmp d) f [], cmpL (fun p q => fz [cmpB p.1 q.1, vCmp d p.2 q.2]) g []] := rfl
  rw [Bool.eq_iff_iff, beq_iff_eq, nilB_iff, e1]
  constructor
  · intro h
    have hz := fz_zero h
    simp only [List.mem_cons, List.not_mem_nil, or_false, forall_eq_or_imp, forall_eq, compareInt_zero, flagN_eq, cmpB_zero, cmpL_nil] at hz
    obtain ⟨rfl, rfl, rfl, rfl, rfl, rfl⟩ := hz
    rfl
  · intro h
    unfold nilV at h
    injection h with h1 h2 h3 h4 h5 h6
    subst h1 h2 h3 h4 h5 h6
    have k1 : Lib.compareInt 0 0 = 0 := (compareInt_zero _ _).2 rfl
    have k2 : Lib.compareInt (flagN false) (flagN false) = 0 := rfl
    have k3 : cmpB ⟨#[]⟩ ⟨#[]⟩ = 0 := rfl
    simp [fz, k1, k2, k3, cmpL]
theorem eqV_nil (v : VT) : eqV v nilV = nilB v := by
  rw [Bool.eq_iff_iff, eqV_iff, nilB_iff]
theorem nil_fit (d : Nat) : Fit (d + 1) nilV := by
  refine ⟨?_, Nat.zero_le _, Nat.zero_le _, by show (⟨#[]⟩ : ByteArray).size ≤ 100000; decide, fun x hx => by simp [nilV, VT.list] at hx, fun x hx => by simp [nilV, VT.mem] at hx⟩
  have : vW (d + 1) nilV = 40 := rfl
  omega

set_option maxHeartbeats 1000000 in
theorem equal_nil (d : Nat) (x : VA) (v : VT) (G : Nat → Prop) (w : World) (ht : Tree w G (d + 1) x v) (hf : Fit (d + 1) v) :
    Calls Tryz.prog 57 #[x.val, nilVA.val] w fun e w' => e = .returned (.bool (nilB v)) ∧ New w w' := by
  have HCO := Lib.hid (fun W (h : New w W) => compare_v (d + 1) x nilVA v nilV G W (ht.new h) (nil_tree W G d) hf (nil_fit d))
  have HE : Hid ((vCmp (d + 1) v nilV == 0) = nilB v) := Lib.hid (vCmp_nil d v)
  clear ht hf
  generalize vCmp (d + 1) v nilV = r at *
  generalize nilB v = R at *
  obtain ⟨xk, xf, xn, xw, xla, xln, xlc, xma, xmn, xmc⟩ := x
  have hx := Blk.new w 29 #[.int .i64 xk, .bool xf, .int .i64 xn, .string xw, .slice xla xln xlc, .slice xma xmn xmc]
  have hm1 : New w (w.alloc (.cells #[.int .i64 xk, .bool xf, .int .i64 xn, .string xw, .slice xla xln xlc, .slice xma xmn xmc] 29)) := (Mod.refl _ _).alloc _
  have hy := Blk.new (w.alloc (.cells #[.int .i64 xk, .bool xf, .int .i64 xn, .string xw, .slice xla xln xlc, .slice xma xmn xmc] 29)) 29 #[.int .i64 0, .bool false, .int .i64 0, .string ⟨#[]⟩, .slice none 0 0, .slice none 0 0]
  have hm2 : New (w.alloc (.cells #[.int .i64 xk, .bool xf, .int .i64 xn, .string xw, .slice xla xln xlc, .slice xma xmn xmc] 29)) ((w.alloc (.cells #[.int .i64 xk, .bool xf, .int .i64 xn, .string xw, .slice xla xln xlc, .slice xma xmn xmc] 29)).alloc (.cells #[.int .i64 0, .bool false, .int .i64 0, .string ⟨#[]⟩, .slice none 0 0, .slice none 0 0] 29)) := (Mod.refl _ _).alloc _
  go_enter Tryz.func57, Tryz.ntmps57
  go_upto_region 1 with (fail)
  rw [show (w.alloc (.cells #[.int .i64 xk, .bool xf, .int .i64 xn, .string xw, .slice xla xln xlc, .slice xma xmn xmc] 29)).heap.size = w.heap.size + 1 by simp] at hy
  generalize w.alloc (.cells #[.int .i64 xk, .bool xf, .int .i64 xn, .string xw, .slice xla xln xlc, .slice xma xmn xmc] 29) = w1 at *
  generalize w1.alloc (.cells #[.int .i64 0, .bool false, .int .i64 0, .string ⟨#[]⟩, .slice none 0 0, .slice none 0 0] 29) = w2 at *
  have hxx := hx.mod hm2 (fun e => e)
  generalize w.heap.size = xb at *
  generalize xb + 1 = yb at *
  have HM2 := Lib.hid (hm1.trans hm2)
  have hco := HCO.out w2 HM2.out
  have e0 := hxx.cell 0
  have e1 := hxx.cell 1
  have e2 := hxx.cell 2
  have e3 := hxx.cell 3
  have e4 := hxx.cell 4
  have e5 := hxx.cell 5
  have el := hxx.lt
  have f0 := hy.cell 0
  have f1 := hy.cell 1
  have f2 := hy.cell 2
  have f3 := hy.cell 3
  have f4 := hy.cell 4
  have f5 := hy.cell 5
  have fl := hy.lt
  simp only [List.getElem?_toArray, List.getElem?_cons_zero, List.getElem?_cons_succ] at e0 e1 e2 e3 e4 e5 f0 f1 f2 f3 f4 f5
  clear hx hxx hy hm1 hm2
  go_wp2_with fail
  refine hco.mono ?_
  clear hco
  rintro e w5 ⟨rfl, m5⟩
  go_wp2_with fail
  go_ret
  exact ⟨ret_bool HE.out, HM2.out.trans m5⟩

set_option maxRecDepth 100000 in
set_option maxHeartbeats 1500000 in
theorem changeFault_v (d : Nat) (c : CA) (x : ChD) (w : World) (hc : ChT w (d + 1) c x) (hf : CFit (d + 1) x) (hU : Utf8T w) :
    Calls Tryz.prog 33 #[c.val] w fun e w' => e = .returned (.int .i64 (chgF (d + 1) x)) ∧ New w w' := by
  have hpn := hc.path.1
  have HP := Lib.hid (fun W (h : New w W) => checkPath_v c.pa c.pn c.pc x.path W (hc.path.new h) (by have := hf.len; omega) hf.ok (hU.new h))
  have HV := Lib.hid (fun W (h : New w W) => check_v (d + 1) c.v x.val _ W (hc.tree.new h) hf.fit (hU.new h))
  have HQ := Lib.hid (fun W (h : New w W) => equal_nil d c.v x.val _ W (hc.tree.new h) hf.fit)
  have HS := Lib.hid hc.path
  have HLL := Lib.hid hf.len
  have HF0 : ∃ F, F = chgF (d + 1) x := ⟨_, rfl⟩
  obtain ⟨F, hF⟩ := HF0
  rw [← hF]
  obtain ⟨xk, xp, xv⟩ := x
  obtain ⟨ck, A, n, pc, cv⟩ := c
  obtain ⟨vk, vf, vn, vw, vla, vln, vlc, vma, vmn, vmc⟩ := cv
  have hkk := hc.kind
  simp only at hkk HP HV HQ HS hpn HLL hF
  obtain rfl : xk = ck := hkk.symm
  have HF : Hid (F = chgF (d + 1) ⟨xk, xp, xv⟩) := Lib.hid hF
  have HPN := Lib.hid hpn
  clear hF hc hf hU hpn
  have hx := Blk.new w 57 #[.int .i64 xk, .slice A n pc, .int .i64 vk, .bool vf, .int .i64 vn, .string vw, .slice vla vln vlc, .slice vma vmn vmc]
  have hm1 : New w (w.alloc (.cells #[.int .i64 xk, .slice A n pc, .int .i64 vk, .bool vf, .int .i64 vn, .string vw, .slice vla vln vlc, .slice vma vmn vmc] 57)) := (Mod.refl _ _).alloc _
  go_enter Tryz.func33, Tryz.ntmps33
  go_upto_region 1 with (fail)
  generalize w.alloc (.cells #[.int .i64 xk, .slice A n pc, .int .i64 vk, .bool vf, .int .i64 vn, .string vw, .slice vla vln vlc, .slice vma vmn vmc] 57) = w1 at *
  generalize w.heap.size = xb at *
  have b0 := hx.cell 0
  have b1 := hx.cell 1
  have b2 := hx.cell 2
  have b3 := hx.cell 3
  have b4 := hx.cell 4
  have b5 := hx.cell 5
  have b6 := hx.cell 6
  have b7 := hx.cell 7
  have bl := hx.lt
  simp only [List.getElem?_toArray, List.getElem?_cons_zero, List.getElem?_cons_succ] at b0 b1 b2 b3 b4 b5 b6 b7
  have HM1 := Lib.hid hm1
  have HX := Lib.hid hx
  have hou := outside_v xk 1 3 w1
  clear hx hm1
  go_wp2_with fail
  refine hou.mono ?_
  clear hou
  rintro e w2 ⟨rfl, rfl⟩
  by_cases hk : xk < 1 ∨ 3 < xk
  · have hk1 : (!(decide (1 ≤ xk) && decide (xk ≤ 3))) = true := by simp; omega
    have HK := Lib.hid hk
    clear hk
    have HFF : Hid (F = 4) := Lib.hid (by
      rw [HF.out]
      unfold chgF
      simp only; rw [if_pos HK.out])
    go_wp2_with fail
    go_ret
    exact ⟨ret_int HFF.out.symm, HM1.out⟩
  have hk1 : (!(decide (1 ≤ xk) && decide (xk ≤ 3))) = false := by simp; omega
  have HK := Lib.hid hk
  clear hk
  have hp2 := HP.out w1 HM1.out
  generalize hpf : pathF xp = P at *
  have HPF := Lib.hid hpf
  clear hpf
  go_wp2_with fail
  refine hp2.mono ?_
  clear hp2
  rintro e w2 ⟨rfl, m2⟩
  have HM2 := Lib.hid (HM1.out.trans m2)
  have HX' := Lib.hid (HX.out.mod m2 (fun e => e))
  clear b0 b1 b2 b3 b4 b5 b6 b7 bl
  clear HX
  have HX := HX'
  clear HX'
  have hxx := HX.out
  have b0 := hxx.cell 0
  have b1 := hxx.cell 1
  have b2 := hxx.cell 2
  have b3 := hxx.cell 3
  have b4 := hxx.cell 4
  have b5 := hxx.cell 5
  have b6 := hxx.cell 6
  have b7 := hxx.cell 7
  have bl := hxx.lt
  simp only [List.getElem?_toArray, List.getElem?_cons_zero, List.getElem?_cons_succ] at b0 b1 b2 b3 b4 b5 b6 b7
  clear hxx
  clear m2 HM1
  by_cases hP : P = 0
  rotate_left
  · have hP1 : (P != 0) = true := by simpa using hP
    have HP0 := Lib.hid hP
    clear hP
    have HFF : Hid (F = P) := Lib.hid (by
      rw [HF.out]
      unfold chgF
      simp only; rw [if_neg HK.out, HPF.out, if_pos HP0.out])
    go_wp2_with fail
    go_ret
    exact ⟨ret_int HFF.out.symm, HM2.out⟩
  subst hP
  clear hk1
  have HFC : Hid (F = if xk ≠ 1 ∧ xp.length = 0 then 8 else if xk = 2 ∧ lastNamed xp = true then 10 else if vCheck (d + 1) xv ≠ 0 then vCheck (d + 1) xv else if xk = 3 ∧ nilB xv = false then 3 else 0) := Lib.hid (by
    rw [HF.out]; unfold chgF; simp only
    rw [if_neg HK.out, HPF.out, if_neg (by decide)])
  clear HF HPF
  have hxk : 1 ≤ xk ∧ xk ≤ 3 := by have := HK.out; omega
  by_cases hn1 : xk = 1
  · have HFV : Hid (F = if vCheck (d + 1) xv ≠ 0 then vCheck (d + 1) xv else if xk = 3 ∧ nilB xv = false then 3 else 0) := Lib.hid (by
      rw [HFC.out, if_neg (by omega), if_neg (by omega)])
    have k1 : (xk != 1) = false := by simp [hn1]
    have k2 : (xk == 2) = false := by simp [hn1]
    have k3 : (xk == 3) = false := by simp [hn1]
    clear hn1 hxk
    have hv := HV.out w2 HM2.out
    generalize vCheck (d + 1) xv = C at *
    go_wp2_with fail
    refine hv.mono ?_
    clear hv
    rintro e w3 ⟨rfl, m3⟩
    have HM3 := Lib.hid (HM2.out.trans m3)
    have HX' := Lib.hid (HX.out.mod m3 (fun e => e))
    clear b0 b1 b2 b3 b4 b5 b6 b7 bl
    clear HX
    have HX := HX'
    clear HX'
    have hxx := HX.out
    have b0 := hxx.cell 0
    have b1 := hxx.cell 1
    have b2 := hxx.cell 2
    have b3 := hxx.cell 3
    have b4 := hxx.cell 4
    have b5 := hxx.cell 5
    have b6 := hxx.cell 6
    have b7 := hxx.cell 7
    have bl := hxx.lt
    simp only [List.getElem?_toArray, List.getElem?_cons_zero, List.getElem?_cons_succ] at b0 b1 b2 b3 b4 b5 b6 b7
    clear hxx
    clear m3
    by_cases hC : C = 0
    rotate_left
    · have hC1 : (C != 0) = true := by simpa using hC
      have HFF : Hid (F = C) := Lib.hid (by rw [HFV.out, if_pos hC])
      clear hC
      go_wp2_with fail
      go_ret
      exact ⟨ret_int HFF.out.symm, HM3.out⟩
    subst hC
    have HFF : Hid (F = 0) := Lib.hid (by rw [HFV.out, if_neg (by decide), if_neg (by intro q; have := k3; simp [q.1] at this)])
    go_wp2_with fail
    go_ret
    exact ⟨ret_int HFF.out.symm, HM3.out⟩
  have k1 : (xk != 1) = true := by simpa using hn1
  rcases Nat.eq_zero_or_pos n with hn0 | hn0
  · have HFV : Hid (F = 8) := Lib.hid (by rw [HFC.out, if_pos ⟨hn1, by have := HPN.out; omega⟩])
    subst hn0
    clear hn1 hxk
    go_wp2_with fail
    go_ret
    exact ⟨ret_int HFV.out.symm, HM2.out⟩
  have hz0 : ((n : Int) == 0) = false := by simp; omega
  by_cases hn2 : xk = 2
  · have k2 : (xk == 2) = true := by simpa using hn2
    have k3 : (xk == 3) = false := by simp [hn2]
    obtain ⟨m, rfl⟩ : ∃ m, n = m + 1 := ⟨n - 1, by omega⟩
    obtain ⟨g, o, hA, htb, hc0⟩ := (HS.out.new HM2.out).2 (by omega)
    subst hA
    have hgl := htb.lt
    have hmx : m < xp.length := by have := HPN.out; omega
    have hc := hc0 m hmx 0 (by omega)
    have hlast : lastNamed xp = xp[m].named := by
      unfold lastNamed
      rw [List.getLast?_eq_getElem?]
      have : xp.length - 1 = m := by have := HPN.out; omega
      rw [this, List.getElem?_eq_getElem hmx]
    have HLA := Lib.hid hlast
    clear hc0 htb hlast
    generalize xp[m] = y at *
    obtain ⟨ynm, ys, ya⟩ := y
    simp only [St.enc, Nat.add_zero] at hc HLA
    have hwr : IntKind.i64.wrap (m : Int) = (m : Int) := by
      have := HLL.out
      have := HPN.out
      simp [IntKind.wrap, IntKind.signed, IntKind.bits]; omega
    have hb1 : (0 : Int) ≤ m := by omega
    have hb2 : (m : Int) < (m : Int) + 1 := by omega
    cases ynm with
    | true =>
      have HFV : Hid (F = 10) := Lib.hid (by rw [HFC.out, if_neg (by have := HPN.out; omega), if_pos ⟨hn2, HLA.out⟩])
      clear hn1 hn2 hxk hn0
      go_wp2_with fail
      go_ret
      exact ⟨ret_int HFV.out.symm, HM2.out⟩
    | false =>
      have HFV : Hid (F = if vCheck (d + 1) xv ≠ 0 then vCheck (d + 1) xv else if xk = 3 ∧ nilB xv = false then 3 else 0) := Lib.hid (by
        rw [HFC.out, if_neg (by have := HPN.out; omega), if_neg (by rw [HLA.out]; simp)])
      clear hn1 hn2 hxk hn0
      have hv := HV.out w2 HM2.out
      generalize vCheck (d + 1) xv = C at *
      go_wp2_with fail
      refine hv.mono ?_
      clear hv
      rintro e w3 ⟨rfl, m3⟩
      have HM3 := Lib.hid (HM2.out.trans m3)
      have HX' := Lib.hid (HX.out.mod m3 (fun e => e))
      clear b0 b1 b2 b3 b4 b5 b6 b7 bl
      clear HX
      have HX := HX'
      clear HX'
      have hxx := HX.out
      have b0 := hxx.cell 0
      have b1 := hxx.cell 1
      have b2 := hxx.cell 2
      have b3 := hxx.cell 3
      have b4 := hxx.cell 4
      have b5 := hxx.cell 5
      have b6 := hxx.cell 6
      have b7 := hxx.cell 7
      have bl := hxx.lt
      simp only [List.getElem?_toArray, List.getElem?_cons_zero, List.getElem?_cons_succ] at b0 b1 b2 b3 b4 b5 b6 b7
      clear hxx
      clear m3
      by_cases hC : C = 0
      rotate_left
      · have hC1 : (C != 0) = true := by simpa using hC
        have HFF : Hid (F = C) := Lib.hid (by rw [HFV.out, if_pos hC])
        clear hC
        go_wp2_with fail
        go_ret
        exact ⟨ret_int HFF.out.symm, HM3.out⟩
      subst hC
      have HFF : Hid (F = 0) := Lib.hid (by rw [HFV.out, if_neg (by decide), if_neg (by intro q; have := k3; simp [q.1] at this)])
      go_wp2_with fail
      go_ret
      exact ⟨ret_int HFF.out.symm, HM3.out⟩
  · have k2 : (xk == 2) = false := by simpa using hn2
    have k3 : (xk == 3) = true := by simp; omega
    have HK3 : Hid (xk = 3) := Lib.hid (by omega)
    have HFV : Hid (F = if vCheck (d + 1) xv ≠ 0 then vCheck (d + 1) xv else if xk = 3 ∧ nilB xv = false then 3 else 0) := Lib.hid (by
      rw [HFC.out, if_neg (by have := HPN.out; omega), if_neg (by omega)])
    clear hn1 hn2 hxk
    have hv := HV.out w2 HM2.out
    generalize vCheck (d + 1) xv = C at *
    go_wp2_with fail
    refine hv.mono ?_
    clear hv
    rintro e w3 ⟨rfl, m3⟩
    have HM3 := Lib.hid (HM2.out.trans m3)
    have HX' := Lib.hid (HX.out.mod m3 (fun e => e))
    clear b0 b1 b2 b3 b4 b5 b6 b7 bl
    clear HX
    have HX := HX'
    clear HX'
    have hxx := HX.out
    have b0 := hxx.cell 0
    have b1 := hxx.cell 1
    have b2 := hxx.cell 2
    have b3 := hxx.cell 3
    have b4 := hxx.cell 4
    have b5 := hxx.cell 5
    have b6 := hxx.cell 6
    have b7 := hxx.cell 7
    have bl := hxx.lt
    simp only [List.getElem?_toArray, List.getElem?_cons_zero, List.getElem?_cons_succ] at b0 b1 b2 b3 b4 b5 b6 b7
    clear hxx
    clear m3
    by_cases hC : C = 0
    rotate_left
    · have hC1 : (C != 0) = true := by simpa using hC
      have HFF : Hid (F = C) := Lib.hid (by rw [HFV.out, if_pos hC])
      clear hC
      go_wp2_with fail
      go_ret
      exact ⟨ret_int HFF.out.symm, HM3.out⟩
    subst hC
    have hq := HQ.out w3 HM3.out
    generalize nilB xv = Z at *
    go_wp2_with fail
    refine hq.mono ?_
    clear hq
    rintro e w5 ⟨rfl, m5⟩
    have HM5 := Lib.hid (HM3.out.trans m5)
    clear m5
    cases Z with
    | true =>
      have HFF : Hid (F = 0) := Lib.hid (by rw [HFV.out, if_neg (by decide), if_neg (fun q => Bool.noConfusion q.2)])
      go_wp2_with fail
      go_ret
      exact ⟨ret_int HFF.out.symm, HM5.out⟩
    | false =>
      have HFF : Hid (F = 3) := Lib.hid (by rw [HFV.out, if_neg (by decide), if_pos ⟨HK3.out, rfl⟩])
      go_wp2_with fail
      go_ret
      exact ⟨ret_int HFF.out.symm, HM5.out⟩

end Go.Proofs.YtahofcopedlenaaGreatDoor
