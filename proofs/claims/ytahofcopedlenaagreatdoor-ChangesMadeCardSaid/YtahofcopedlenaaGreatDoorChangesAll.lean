/- Several texts in one. (1) The reference: ApplyOf, changes, one after another. Conditions: a value that is right; at most 5 changes that are right; rows of at most 11; the library's tables lie as they should. (2) The reference: LeavesOf, the paths of a value; what is said of them is how many they are and how long. Conditions: rows of at most 100, a weight of at most 70000. (3) Paths as the stream makes them: Path, PathTo. Conditions: the stream has been asked fewer than 2^61 times; a value of rows of at most 100. (4) Changes as the stream makes them. Conditions: the stream has been asked fewer than 2^61 times; a value of rows of at most 100. (5) Changes in memory: what is wrong with a row of them, in the reference. (printed by mkchk3.py) Conditions: values and paths that the walks can carry; the library's tables lie as they should. (6) A strings.Builder wherever it lies: alone, or as the first thing of another struct (the block's type is T). The walks are the shelf's own, at a block of any type. Conditions: modest sizes. (7) A Builder's bytes in the words of these texts; words in quotes: the program's. Conditions: modest sizes. (8) strconv's table of powers of ten; strconv.Itoa. No conditions. (9) Values written: the program's writer. Conditions: a right value, a text that is not too large; strconv's table. (10) Values written: the walk of the program's writer. Conditions: a right value, a text that is not too large; strconv's table. (11) value.textOf, value.Text. Conditions: the value stands in memory as a tree of modest size; the library's tables. (12) The law ChangesMade: what it needs beside the walks. Conditions: the library's tables lie as they should. (13) The law ChangesMade, walked. Conditions: the argument is a slice of ints that can be read; the library's tables lie as they should. -/
import Derived.Test.YtahofcopedlenaaGreatDoorApply
import Derived.Test.YtahofcopedlenaaGreatDoorRChg
import Derived.Test.YtahofcopedlenaaGreatDoorCloneS
import Derived.Test.YtahofcopedlenaaGreatDoorChgd
import Derived.Test.YtahofcopedlenaaGreatDoorHeld4
import Derived.Test.YtahofcopedlenaaGreatDoorValK
import Derived.Deep.RegionHeld3
import Derived.Deep.CutBlock
import Derived.Test.YtahofcopedlenaaGreatDoorValO
import Derived.Test.YtahofcopedlenaaGreatDoorChk2
import Derived.Test.YtahofcopedlenaaGreatDoorOwn
import Derived.Test.YtahofcopedlenaaGreatDoorShelf
import Derived.Shelf.Strings.Builder1
import Derived.Test.YtahofcopedlenaaGreatDoorValLaw
import Derived.Test.YtahofcopedlenaaGreatDoorStream
import Derived.Lib.LaidTab
import Derived.Lib.ItoaLen
import Derived.Test.YtahofcopedlenaaGreatDoorVal2
import Derived.Test.YtahofcopedlenaaGreatDoorHeld2
import Derived.Lib.ItoaMem
import Derived.Test.YtahofcopedlenaaGreatDoorVal8

namespace Go.Proofs.YtahofcopedlenaaGreatDoor
open Go.RowKit
set_option linter.unusedVariables false
set_option linter.unusedSimpArgs false

set_option maxRecDepth 100000 in
set_option maxHeartbeats 2000000 in
theorem applyOf_v (D d m : Nat) (x : VA) (v : VT) (A : Option Addr) (n c : Nat) (cs : List ChD) (w : World) (ht : Tree w (fun _ => True) (d + 1) x v) (hw : Wide m (d + 1) v) (hl : vW (d + 1) v ≤ 100000000) (hv0 : vFault (d + 1) v = 0) (hr : ChRowC w (D + 1) A n cs) (hn : n ≤ 5) (hm : m + n ≤ 11) (hd : d + 1 + (D + 1) * n ≤ 800)
    (hok : ∀ c ∈ cs, COk (D + 1) m c) (hU : Utf8T w) :
    Calls Tryz.prog 13 #[x.val, .slice A n c] w (RApp w (runF refC (D + 1) (d + 1) v 0 cs)) := by
  obtain ⟨RR, hRR⟩ : ∃ R, R = runF refC (D + 1) (d + 1) v 0 cs := ⟨_, rfl⟩
  rw [← hRR]
  have HEQ : Hid (RR = runF refC (D + 1) (d + 1) v 0 cs) := Lib.hid hRR
  have HT := Lib.hid ht.oldG
  have HWD := Lib.hid hw
  have HLW := Lib.hid hl
  have HV0 := Lib.hid hv0
  have HOK := Lib.hid hok
  have HU := Lib.hid hU
  obtain ⟨ca, hs, hcl, hct⟩ := hr
  have HS := Lib.hid hs
  have HCL := Lib.hid hcl
  have HCT := Lib.hid hct
  have HN := Lib.hid hs.1
  obtain ⟨xk, xf, xn, xw, xla, xln, xlc, xma, xmn, xmc⟩ := x
  clear ht hw hl hok hU hRR hs hcl hct hv0
  have hx := Blk.new w 29 #[.int .i64 xk, .bool xf, .int .i64 xn, .string xw, .slice xla xln xlc, .slice xma xmn xmc]
  have m1 : New w (w.alloc (.cells #[.int .i64 xk, .bool xf, .int .i64 xn, .string xw, .slice xla xln xlc, .slice xma xmn xmc] 29)) := (Mod.refl _ _).alloc _
  have z1 : (w.alloc (.cells #[.int .i64 xk, .bool xf, .int .i64 xn, .string xw, .slice xla xln xlc, .slice xma xmn xmc] 29)).heap.size = w.heap.size + 1 := by simp
  go_enter Tryz.func13, Tryz.ntmps13
  go_upto_region 1 with (fail)
  generalize w.alloc (.cells #[.int .i64 xk, .bool xf, .int .i64 xn, .string xw, .slice xla xln xlc, .slice xma xmn xmc] 29) = w1 at *
  have hz := Blk.new w1 29 #[.int .i64 0, .bool false, .int .i64 0, .string ⟨#[]⟩, .slice none 0 0, .slice none 0 0]
  have m2 : New w1 (w1.alloc (.cells #[.int .i64 0, .bool false, .int .i64 0, .string ⟨#[]⟩, .slice none 0 0, .slice none 0 0] 29)) := (Mod.refl _ _).alloc _
  generalize w1.alloc (.cells #[.int .i64 0, .bool false, .int .i64 0, .string ⟨#[]⟩, .slice none 0 0, .slice none 0 0] 29) = w2 at *
  rw [z1] at hz
  have HX := Lib.hid (hx.mod m2 (fun e => e))
  have HR := Lib.hid hz
  have HM := Lib.hid (m1.trans m2)
  have z2 : w.heap.size + 1 < w2.heap.size := hz.lt
  clear hx hz m1 m2 z1
  generalize hxb : w.heap.size = xb at *
  have hwb : w.heap.size ≤ xb := by omega
  have HTI : Hid (AppInv refC w xb D d m v cs 0 ⟨xk, xf, xn, xw, xla, xln, xlc, xma, xmn, xmc⟩ v w2) := Lib.hid ⟨HX.out, HR.out, Tree.imp (fun g hg _ => .inl hg.2) _ _ _ (HT.out.new HM.out), ⟨HT.out.deep, HWD.out, HV0.out, by have := HLW.out; omega⟩, rfl, HM.out⟩
  clear HX HR HM HT HWD HV0 HLW
  go_wp2_with fail
  go_loopw [13] (fun i wr => ∃ (k : Nat) (y : VA) (vk : VT), k ≤ n ∧ i = .int .i64 k ∧ Hid (AppInv refC w xb D d m v cs k y vk wr)) (fun i _ => n - (intOf i).toNat)
  case atStart => exact ⟨0, _, _, Nat.zero_le _, rfl, HTI⟩
  clear HTI
  case round =>
    rename World => wr
    obtain ⟨k, y, vk, hk, rfl, HI⟩ := hrel
    obtain ⟨yk, yf, yn, yw, yla, yln, ylc, yma, ymn, ymc⟩ := y
    have HX : Hid (Blk wr xb 29 #[.int .i64 yk, .bool yf, .int .i64 yn, .string yw, .slice yla yln ylc, .slice yma ymn ymc]) := Lib.hid HI.out.box
    have HR := Lib.hid HI.out.res
    have HM := Lib.hid HI.out.new
    obtain ⟨dk, hdk⟩ : ∃ dk, d + (D + 1) * k = dk := ⟨_, rfl⟩
    have hdk1 : d + 1 + (D + 1) * k = dk + 1 := by omega
    have hdn : (D + 1) * k ≤ (D + 1) * n := Nat.mul_le_mul_left _ hk
    have HTY : Hid (Tree wr (fun g => g < xb ∨ xb + 1 < g) (dk + 1) ⟨yk, yf, yn, yw, yla, yln, ylc, yma, ymn, ymc⟩ vk) := Lib.hid (by rw [← hdk1]; exact HI.out.tree)
    have HRS : Hid (RS (m + k) k (dk + 1) vk) := Lib.hid (by rw [← hdk1]; exact HI.out.rs)
    have HRUN : Hid (RR = runF refC (D + 1) (dk + 1) vk k (cs.drop k)) := Lib.hid (by rw [HEQ.out, ← hdk1]; exact HI.out.run)
    clear HI
    by_cases hlt : k < n
    · have hdn1 : (D + 1) * k + (D + 1) ≤ (D + 1) * n := by rw [← Nat.mul_succ]; exact Nat.mul_le_mul_left _ hlt
      have hkc : k < ca.length := by have := HN.out; omega
      have hkx : k < cs.length := by have := HCL.out; omega
      obtain ⟨g, o, hA, htb, hc0⟩ := (HS.out.new HM.out).2 (by omega)
      subst hA
      have hgl := htb.lt
      have hc := fun j h => hc0 k hkc j h
      clear hc0 htb
      have hct := HCT.out k hkc hkx
      have HKD := Lib.hid hct.1.kind
      have HPA := Lib.hid hct.1.path
      have HTC := Lib.hid hct.1.tree.oldG
      have hpc := hct.2
      have HOKC := Lib.hid ((HOK.out _ (List.getElem_mem hkx)).up (show m ≤ m + k by omega))
      have HDROP := Lib.hid (List.drop_eq_getElem_cons hkx)
      clear hct
      generalize cs[k] = xc at *
      generalize ca[k] = cc at *
      obtain ⟨ck, pa, pn, pc, tk, tf, tn, tw, tla, tln, tlc, tma, tmn, tmc⟩ := cc
      have b0 := hc 0 (by omega)
      have b1 := hc 1 (by omega)
      have b2 := hc 2 (by omega)
      have b3 := hc 3 (by omega)
      have b4 := hc 4 (by omega)
      have b5 := hc 5 (by omega)
      have b6 := hc 6 (by omega)
      have b7 := hc 7 (by omega)
      simp only [CA.enc, VA.enc, Nat.add_zero] at b0 b1 b2 b3 b4 b5 b6 b7
      clear hc
      simp only at HKD HPA HTC hpc
      obtain ⟨kk, hkk⟩ : ∃ q, xc.kind = q := ⟨_, rfl⟩
      have hck : ck = kk := by rw [← hkk]; exact HKD.out
      subst hck
      have HKK := Lib.hid hkk
      clear HKD hkk
      have hb1 : (0 : Int) ≤ k := by omega
      have hb2 : (k : Int) < n := by omega
      have m5 : New wr (wr.alloc (.cells #[.int .i64 ck, .slice pa pn pc, .int .i64 tk, .bool tf, .int .i64 tn, .string tw, .slice tla tln tlc, .slice tma tmn tmc] 57)) := (Mod.refl _ _).alloc _
      have hx5 := Blk.new wr 57 #[.int .i64 ck, .slice pa pn pc, .int .i64 tk, .bool tf, .int .i64 tn, .string tw, .slice tla tln tlc, .slice tma tmn tmc]
      go_upto_region 4 with (fail)
      generalize wr.alloc (.cells #[.int .i64 ck, .slice pa pn pc, .int .i64 tk, .bool tf, .int .i64 tn, .string tw, .slice tla tln tlc, .slice tma tmn tmc] 57) = w5 at *
      clear b0 b1 b2 b3 b4 b5 b6 b7 hgl
      have hsz := HR.out.lt
      generalize wr.heap.size = cb at *
      have HTY5 := Lib.hid (HTY.out.new m5)
      have HTC5 : Hid (Tree w5 (fun g => g < xb ∨ xb + 1 < g) (D + 1) ⟨tk, tf, tn, tw, tla, tln, tlc, tma, tmn, tmc⟩ xc.val) := Lib.hid (Tree.imp (fun g hg _ => .inl (by have := hg.2; omega)) _ _ _ (HTC.out.new (HM.out.trans m5)))
      have HPA5 := Lib.hid (HPA.out.new (HM.out.trans m5))
      have HX1 := Lib.hid (HX.out.mod m5 (fun e => e))
      have HR1 := Lib.hid (HR.out.mod m5 (fun e => e))
      have HM1 := Lib.hid (HM.out.trans m5)
      clear HX HR HM
      have HX := HX1
      have HR := HR1
      have HM := HM1
      clear HX1 HR1 HM1
      clear m5
      have hpl := HPA.out.1
      have hp5 := HOKC.out.ok.2.2.2.2.1
      have HRN := Lib.hid (RS.ref HRS.out HOKC.out)
      have hsz5 : xb + 1 < w5.heap.size := HR.out.lt
      have hch := rchg_v (D + 1) ⟨ck, pa, pn, pc, ⟨tk, tf, tn, tw, tla, tln, tlc, tma, tmn, tmc⟩⟩ xc.val ⟨by rw [← HKK.out]; exact HOKC.out.ok.1, by rw [← HKK.out]; exact HOKC.out.ok.2.1⟩ xc.path HOKC.out.at_ (fun e => HOKC.out.ok.2.2.1 (HKK.out.trans e)) (fun g => g < xb ∨ xb + 1 < g) (dk + 1) ⟨yk, yf, yn, yw, yla, yln, ylc, yma, ymn, ymc⟩ vk pa pn pc w5 HTY5.out HRS.out.good (Wide.mono (by omega) _ _ HRS.out.wide) HTC5.out HPA5.out hpc (by omega)
      have HPR : Hid (rchg ck xc.val xc.path vk = refC xc vk) := Lib.hid (by rw [← HKK.out]; rfl)
      simp only [HPR.out] at hch
      generalize hr : refC xc vk = r at *
      obtain ⟨rv, re⟩ := r
      have HPC := Lib.hid hr
      clear hr HPR
      simp only at HRN
      have b0 := hx5.cell 0
      have b1 := hx5.cell 1
      have b2 := hx5.cell 2
      have b3 := hx5.cell 3
      have b4 := hx5.cell 4
      have b5 := hx5.cell 5
      have b6 := hx5.cell 6
      have b7 := hx5.cell 7
      have bl := hx5.lt
      simp only [List.getElem?_toArray, List.getElem?_cons_zero, List.getElem?_cons_succ] at b0 b1 b2 b3 b4 b5 b6 b7
      have e0 := HX.out.cell 0
      have e1 := HX.out.cell 1
      have e2 := HX.out.cell 2
      have e3 := HX.out.cell 3
      have e4 := HX.out.cell 4
      have e5 := HX.out.cell 5
      have el := HX.out.lt
      have ef := HX.out.frozen
      simp only [List.getElem?_toArray, List.getElem?_cons_zero, List.getElem?_cons_succ] at e0 e1 e2 e3 e4 e5
      clear hx5
      go_wp2_with fail
      refine hch.mono ?_
      clear hch
      rintro e w6 ⟨⟨zk, zf, zn, zw, zla, zln, zlc, zma, zmn, zmc⟩, rfl, htz, m6⟩
      have hx7 := Blk.new w6 29 #[.int .i64 zk, .bool zf, .int .i64 zn, .string zw, .slice zla zln zlc, .slice zma zmn zmc]
      have m7 : New w6 (w6.alloc (.cells #[.int .i64 zk, .bool zf, .int .i64 zn, .string zw, .slice zla zln zlc, .slice zma zmn zmc] 29)) := (Mod.refl _ _).alloc _
      have HTZ0 : Hid (Tree w6 (fun g => g < xb ∨ xb + 1 < g) (dk + 1 + (D + 1)) ⟨zk, zf, zn, zw, zla, zln, zlc, zma, zmn, zmc⟩ rv) := Lib.hid (Tree.imp (fun g hg _ => by rcases hg with h | h; exact h; exact .inr (by omega)) _ _ _ htz)
      have hsz6 : xb + 1 < w6.heap.size := Nat.lt_of_lt_of_le hsz5 m6.size
      clear htz
      clear e0 e1 e2 e3 e4 e5 el ef
      clear b0 b1 b2 b3 b4 b5 b6 b7 bl
      go_upto_region 5 with (fail)
      generalize w6.alloc (.cells #[.int .i64 zk, .bool zf, .int .i64 zn, .string zw, .slice zla zln zlc, .slice zma zmn zmc] 29) = w7 at *
      generalize w6.heap.size = yb at *
      have HTZ := Lib.hid (HTZ0.out.new m7)
      have HYB := Lib.hid hx7
      have HX1 := Lib.hid (HX.out.mod (m6.trans m7) (fun e => e))
      have HR1 := Lib.hid (HR.out.mod (m6.trans m7) (fun e => e))
      have HM1 := Lib.hid (HM.out.trans (m6.trans m7))
      clear HX HR HM
      have HX := HX1
      have HR := HR1
      have HM := HM1
      clear HX1 HR1 HM1
      clear m6 m7 hx7 HTZ0
      have hfz := HRN.out.fit (by omega) (by omega)
      have q3 := valueFault_v (dk + 1 + (D + 1)) ⟨zk, zf, zn, zw, zla, zln, zlc, zma, zmn, zmc⟩ rv _ w7 HTZ.out hfz (by omega) (HU.out.new HM.out)
      have d0 := HYB.out.cell 0
      have d1 := HYB.out.cell 1
      have d2 := HYB.out.cell 2
      have d3 := HYB.out.cell 3
      have d4 := HYB.out.cell 4
      have d5 := HYB.out.cell 5
      have dl := HYB.out.lt
      simp only [List.getElem?_toArray, List.getElem?_cons_zero, List.getElem?_cons_succ] at d0 d1 d2 d3 d4 d5
      go_wp2_with fail
      refine q3.mono ?_
      clear q3 hfz
      rintro e w8' ⟨rfl, m8⟩
      clear d0 d1 d2 d3 d4 d5 dl
      have hm8 : New w8' (w8'.alloc (.cells #[.int .i64 re, .int .i64 (vCheck (dk + 1 + (D + 1)) rv)] 32)) := (Mod.refl _ _).alloc _
      have hb8 := Blk.new w8' 32 #[.int .i64 re, .int .i64 (vCheck (dk + 1 + (D + 1)) rv)]
      have q4 := or_two re (vCheck (dk + 1 + (D + 1)) rv) w8'.heap.size _ hb8
      go_wp2_with fail
      refine q4.mono ?_
      clear q4 hb8
      rintro e w8 ⟨rfl, rfl⟩
      have hm9 := m8.trans hm8
      clear m8 hm8
      generalize w8'.alloc (.cells #[.int .i64 re, .int .i64 (vCheck (dk + 1 + (D + 1)) rv)] 32) = w8 at *
      have HY8 := Lib.hid (HYB.out.mod hm9 (fun e => e))
      have HT8 := Lib.hid (HTZ.out.new hm9)
      have HX1 := Lib.hid (HX.out.mod hm9 (fun e => e))
      have HR1 := Lib.hid (HR.out.mod hm9 (fun e => e))
      have HM1 := Lib.hid (HM.out.trans hm9)
      clear HX HR HM
      have HX := HX1
      have HR := HR1
      have HM := HM1
      clear HX1 HR1 HM1
      clear HYB HTZ hm9
      have HYB := HY8
      have HTZ := HT8
      have HOR : Hid (orF (refC xc vk).2 (vCheck (dk + 1 + (D + 1)) (refC xc vk).1) = orF re (vCheck (dk + 1 + (D + 1)) rv)) := Lib.hid (by rw [HPC.out])
      have HVZ : Hid (orF re (vCheck (dk + 1 + (D + 1)) rv) = 0 → vCheck (dk + 1 + (D + 1)) rv = 0) := Lib.hid (fun h => (orF_eq_zero h).2)
      by_cases hv : orF re (vCheck (dk + 1 + (D + 1)) rv) = 0
      · have HRSN := Lib.hid (HRN.out.rs (HVZ.out hv))
        have HRUNN : Hid (RR = runF refC (D + 1) (dk + 1 + (D + 1)) rv (k + 1) (cs.drop (k + 1))) := Lib.hid (by
          rw [HRUN.out, HDROP.out, runF_step (by rw [HOR.out]; exact hv), HPC.out])
        generalize orF re (vCheck (dk + 1 + (D + 1)) rv) = FV at *
        have hvb : (FV != 0) = false := by simpa using hv
        clear hv
        have hbx := HX.out
        have HX9 := Lib.hid (Blk.copy6 HX.out (.int .i64 zk) (.bool zf) (.int .i64 zn) (.string zw) (.slice zla zln zlc) (.slice zma zmn zmc))
        have o9 := Only.cell6 w8 xb (.int .i64 zk) (.bool zf) (.int .i64 zn) (.string zw) (.slice zla zln zlc) (.slice zma zmn zmc)
        have HR9 := Lib.hid (HR.out.mod o9 (by omega))
        have HTZ9 := Lib.hid (Tree.mod o9 (fun g hg _ e => by omega) _ _ _ HTZ.out)
        have HM9 := Lib.hid (HM.out.step o9 (fun i hi e => by omega))
        clear hbx o9
        have e0 := HX.out.cell 0
        have e1 := HX.out.cell 1
        have e2 := HX.out.cell 2
        have e3 := HX.out.cell 3
        have e4 := HX.out.cell 4
        have e5 := HX.out.cell 5
        have el := HX.out.lt
        have ef := HX.out.frozen
        simp only [List.getElem?_toArray, List.getElem?_cons_zero, List.getElem?_cons_succ] at e0 e1 e2 e3 e4 e5
        have d0 := HYB.out.cell 0
        have d1 := HYB.out.cell 1
        have d2 := HYB.out.cell 2
        have d3 := HYB.out.cell 3
        have d4 := HYB.out.cell 4
        have d5 := HYB.out.cell 5
        have dl := HYB.out.lt
        simp only [List.getElem?_toArray, List.getElem?_cons_zero, List.getElem?_cons_succ] at d0 d1 d2 d3 d4 d5
        go_wp2_with fail
        go_roundw
        case rel =>
          have ek : d + 1 + (D + 1) * (k + 1) = dk + 1 + (D + 1) := by rw [Nat.mul_succ]; omega
          refine ⟨k + 1, ⟨zk, zf, zn, zw, zla, zln, zlc, zma, zmn, zmc⟩, rv, by omega, by go_num, Lib.hid ⟨HX9.out, HR9.out, ?_, ?_, ?_, HM9.out⟩⟩
          · rw [ek]; exact HTZ9.out
          · rw [ek]; exact HRSN.out
          · rw [ek, ← HRUNN.out]; exact HEQ.out.symm
        case measure => simp [intOf]; omega
      · have HST : Hid (RR = (k, orF re (vCheck (dk + 1 + (D + 1)) rv), nilV)) := Lib.hid (by
          rw [HRUN.out, HDROP.out]
          exact runF_stop HOR.out hv)
        generalize orF re (vCheck (dk + 1 + (D + 1)) rv) = FV at *
        have hvb : (FV != 0) = true := by simpa using hv
        clear hv
        have r0 := HR.out.cell 0
        have r1 := HR.out.cell 1
        have r2 := HR.out.cell 2
        have r3 := HR.out.cell 3
        have r4 := HR.out.cell 4
        have r5 := HR.out.cell 5
        have rl := HR.out.lt
        have rf := HR.out.frozen
        simp only [List.getElem?_toArray, List.getElem?_cons_zero, List.getElem?_cons_succ] at r0 r1 r2 r3 r4 r5
        go_wp2_with fail
        refine bodyPost_ret (v := .tuple #[nilVA.val, .int .i64 k, .int .i64 FV]) (by simp [results, Tryz.results13, go_sem, r0, r1, r2, r3, r4, r5, rf]) rfl ⟨nilVA, 0, by rw [HST.out] <;> rfl, by rw [HST.out]; exact nil_tree _ _ _, by rw [HST.out]; exact nil_fit _, by omega, ?_⟩
        repeat (with_reducible (first | exact HM.out | (refine Mod.setCell ?_ (.inr (by first | omega | (dsimp only; omega) | skip)) _)))
    · obtain rfl : n = k := by omega
      have HEND : Hid (RR = (0, 0, vk)) := Lib.hid (by rw [HRUN.out, List.drop_of_length_le (by have := HN.out; have := HCL.out; omega)]; rfl)
      have HFIT := Lib.hid (HRS.out.rn.fit (by omega) (by omega))
      have e0 := HX.out.cell 0
      have e1 := HX.out.cell 1
      have e2 := HX.out.cell 2
      have e3 := HX.out.cell 3
      have e4 := HX.out.cell 4
      have e5 := HX.out.cell 5
      have el := HX.out.lt
      have ef := HX.out.frozen
      simp only [List.getElem?_toArray, List.getElem?_cons_zero, List.getElem?_cons_succ] at e0 e1 e2 e3 e4 e5
      have r0 := HR.out.cell 0
      have r1 := HR.out.cell 1
      have r2 := HR.out.cell 2
      have r3 := HR.out.cell 3
      have r4 := HR.out.cell 4
      have r5 := HR.out.cell 5
      have rl := HR.out.lt
      have rf := HR.out.frozen
      simp only [List.getElem?_toArray, List.getElem?_cons_zero, List.getElem?_cons_succ] at r0 r1 r2 r3 r4 r5
      go_wp2_with fail
      refine bodyPost_ret (v := .tuple #[VA.val ⟨yk, yf, yn, yw, yla, yln, ylc, yma, ymn, ymc⟩, .int .i64 0, .int .i64 0]) (by simp [results, Tryz.results13, go_sem, e0, e1, e2, e3, e4, e5, ef, r0, r1, r2, r3, r4, r5, rf]) rfl ⟨⟨yk, yf, yn, yw, yla, yln, ylc, yma, ymn, ymc⟩, dk, by rw [HEND.out]; rfl, by
        rw [HEND.out]
        refine Tree.any (Tree.mod (S := fun k => k = xb + 1) (G := fun g => g < xb ∨ xb + 1 < g) ?_ (fun g hg _ q => by omega) _ _ _ HTY.out)
        repeat (with_reducible (first | exact Mod.refl _ _ | (refine Mod.setCell ?_ (.inl (by first | rfl | omega | (dsimp only; omega) | skip)) _)))
        , by rw [HEND.out]; exact HFIT.out, by omega, ?_⟩
      repeat (with_reducible (first | exact HM.out | (refine Mod.setCell ?_ (.inr (by first | omega | (dsimp only; omega) | skip)) _)))

end Go.Proofs.YtahofcopedlenaaGreatDoor

namespace Go.Proofs.YtahofcopedlenaaGreatDoor
open Go.RowKit
set_option linter.unusedVariables false
set_option linter.unusedSimpArgs false

/-- append of a slice's elements, in a region that draws its order -/
theorem wp_pushAll {α : Type} {w : World} {B : Nat} {t : TypeId} {sz : Nat} {enc : α → Nat → Value} {A : Option Addr} {n c : Nat} {xs : List α} {P : Program} {o : Oper} {a : Act} {K : Act → World → Prop} {Q : Exit → Act → World → Prop} (s x : Operand) (ts : TypeId)
    (ho : o.op = .call { callee := .builtin .append, args := #[s, x], argTypes := #[ts, ts] }) (bytes : Nat) (ht : P.underlying ts = some (.slice t)) (hi : EInfo P t sz bytes)
    (hs : a.eval s = .slice A n c) (hown : Own w B t sz enc A n c xs) (ys : List α) (g0 o0 m cm : Nat) (hx : a.eval x = .slice (some ⟨g0, o0, none⟩) m cm) (hy : Sl w t sz enc (some ⟨g0, o0, none⟩) m ys) (hm : 0 < m)
    (h1 : ∀ y ∈ ys, ∀ j, j < sz → (enc y j).oneCell' = true) (hn : n + m < 1000000) (hbytes : bytes ≤ 1000000) (hB : B ≤ w.heap.size)
    (h : ∀ g cap w', Own w' B t sz enc (some ⟨g, 0, none⟩) (n + m) cap (xs ++ ys) → Mod (fun k => blkOf A = some k) w w' → (blkOf A = some g ∨ g = w.heap.size) → g < w'.heap.size →
      K (a.put o.dst (.slice (some ⟨g, 0, none⟩) (n + m) cap)) w') : Oper.wp P o a w K Q := by
  obtain ⟨i, z, hi0, hz, hsz, hby, hzs, h0⟩ := hi
  have hml := hy.1
  refine wp_append_lies w s x ts ho B t i z sz bytes ht hi0 hz hsz hby hzs h0 _ n _ hs hown.2 ⟨g0, o0, none⟩ m cm (ys.flatMap (encL sz enc)) hx (by rw [flat_length, hml]) (hy.flat hm h0) ?_ hm (by unfold maxLen; omega) ?_ hB _ rfl ?_
  · intro u hu
    simp only [List.mem_flatMap, encL, List.mem_map, List.mem_range] at hu
    obtain ⟨y, hy', j, hj, rfl⟩ := hu
    exact h1 y hy' j hj
  · have : (n + m) * bytes ≤ 1000000 * 1000000 := Nat.mul_le_mul (by omega) hbytes
    omega
  · intro g cap w' hown' hg hat hlt
    rw [ownBlock_eq] at hg hat
    refine h g cap w' ⟨by simp [hown.1, hml], by rw [List.flatMap_append]; exact hown'⟩ ?_ hat hlt
    exact (Mod.refl (fun k => blkOf A = some k) w).grown hg (fun k e => .inl e)

/-- a path as a cell says -/
structure PA where
  a : Option Addr
  n : Nat
  c : Nat
def PA.enc (x : PA) (_ : Nat) : Value := .slice x.a x.n x.c
theorem PA.one (x : PA) (j : Nat) : (x.enc j).oneCell' = true := rfl
theorem einfo_path : EInfo Tryz.prog 54 1 24 := EInfo.of (z := .slice none 0 0) (by kernel_rfl) rfl (by decide)
/-- a path that stands in memory, no longer than L -/
def PthOk (w : World) (L : Nat) (x : PA) : Prop := ∃ ps : List St, Sl w 60 3 St.enc x.a x.n ps ∧ x.n ≤ L ∧ x.n ≤ x.c ∧ (x.a = none → x.c = 0) ∧ ∀ s ∈ ps, s.name.size ≤ 100000
theorem PthOk.mod {w w' : World} {S : Nat → Prop} {L : Nat} {x : PA} (h : PthOk w L x) (hm : Mod S w w') (hs : ∀ g, TB w g 60 → ¬ S g) : PthOk w' L x := by
  obtain ⟨ps, h1, h2⟩ := h
  exact ⟨ps, h1.mod hm hs, h2⟩
theorem PthOk.new {w w' : World} {L : Nat} {x : PA} (h : PthOk w L x) (hm : New w w') : PthOk w' L x := h.mod hm (fun _ _ e => e)
theorem PthOk.le {w : World} {L L' : Nat} {x : PA} (h : PthOk w L x) (hL : L ≤ L') : PthOk w L' x := by
  obtain ⟨ps, h1, h2, h3⟩ := h
  exact ⟨ps, h1, by omega, h3⟩
theorem Own.cap {α : Type} {w : World} {B : Nat} {t : TypeId} {sz : Nat} {enc : α → Nat → Value} {A : Option Addr} {n c : Nat} {xs : List α} (h : Own w B t sz enc A n c xs) : n ≤ c := by
  rcases Nat.eq_zero_or_pos n with h0 | h0
  · omega
  · obtain ⟨_, _, _, _, h4, _⟩ := h.form h0
    exact h4
theorem Own.noneC {α : Type} {w : World} {B : Nat} {t : TypeId} {sz : Nat} {enc : α → Nat → Value} {A : Option Addr} {n c : Nat} {xs : List α} (h : Own w B t sz enc A n c xs) (hA : A = none) : c = 0 := by
  rcases h.blk with ⟨_, _, h3⟩ | ⟨g, h1, _⟩
  · exact h3
  · rw [hA] at h1; cases h1
def RLeaves (w : World) (L W : Nat) (e : Ending) (w' : World) : Prop := ∃ (A : Option Addr) (n c : Nat) (qs : List PA), e = .returned (.slice A n c) ∧ Sl w' 54 1 PA.enc A n qs ∧ (∀ q ∈ qs, PthOk w' L q) ∧ 0 < n ∧ n ≤ W ∧ n ≤ c ∧ New w w'
def LvSpec (d : Nat) : Prop := ∀ (x : VA) (v : VT) (A : Option Addr) (n c : Nat) (ps : List St) (w : World), Tree w (fun _ => True) d x v → Wide 100 d v → Sl w 60 3 St.enc A n ps → n + d ≤ 900 → (∀ s ∈ ps, s.name.size ≤ 100000) → vW d v ≤ 70000 →
  Calls Tryz.prog 47 #[x.val, .slice A n c] w (RLeaves w (n + d) (vW d v))
/-- what the loops keep: the row of paths so far -/
structure LvInv (w : World) (xb : Nat) (xc : Array Value) (L W : Nat) (A : Option Addr) (n c : Nat) (wr : World) : Prop where
  box : Blk wr xb 29 xc
  row : ∃ qs : List PA, Own wr (xb + 1) 54 1 PA.enc A n c qs ∧ ∀ q ∈ qs, PthOk wr L q
  many : n ≤ W
  new : New w wr
theorem take_sum {α : Type} (l : List α) (f : α → Nat) (k : Nat) (h : k < l.length) : ((l.take (k + 1)).map f).sum = ((l.take k).map f).sum + f l[k] := by
  rw [List.take_succ_eq_append_getElem h, List.map_append, List.sum_append]
  simp
theorem take_sum_le {α : Type} (l : List α) (f : α → Nat) (k : Nat) : ((l.take k).map f).sum ≤ (l.map f).sum := by
  have h1 : (l.map f).sum = ((l.take k).map f).sum + ((l.drop k).map f).sum := by rw [← List.sum_append, ← List.map_append, List.take_append_drop]
  omega
set_option maxRecDepth 100000 in
set_option maxHeartbeats 3000000 in
theorem leaves_walk (d : Nat) (IH : LvSpec d) : LvSpec (d + 1) := by
  intro x v A n c ps w ht hw hs hn hps hW
  replace ht := ht.oldG
  obtain ⟨xs, ms, h1, h2, h3, h4⟩ := ht.als
  obtain ⟨-, -, -, -, f5, f6⟩ := ht.fields
  have hlm := hw.1
  have hmm := hw.2.1
  have hWW : vW (d + 1) v = 40 + 6 * v.words.size + ((v.list.map fun x => vW d x + 1).sum + (v.mem.map fun p => vW d p.2 + (6 * p.1.size + 4)).sum) := rfl
  have HL1 := Lib.hid h1
  have HL2 := Lib.hid h2
  have HL3 := Lib.hid h3
  have HL4 := Lib.hid h4
  have HWD := Lib.hid hw
  have HS := Lib.hid hs
  have HPS := Lib.hid hps
  obtain ⟨xk, xf, xn, xw, xla, xln, xlc, xma, xmn, xmc⟩ := x
  simp only at f5 f6 HL1 HL3
  have hln : xln ≤ 100 := by omega
  have hmn : xmn ≤ 100 := by omega
  have HF5 := Lib.hid f5
  have HF6 := Lib.hid f6
  obtain ⟨WL, hWL⟩ : ∃ z, (v.list.map fun x => vW d x + 1).sum = z := ⟨_, rfl⟩
  obtain ⟨WM, hWM⟩ : ∃ z, (v.mem.map fun p => vW d p.2 + (6 * p.1.size + 4)).sum = z := ⟨_, rfl⟩
  rw [hWL, hWM] at hWW
  obtain ⟨WT, hWT⟩ : ∃ z, vW (d + 1) v = z := ⟨_, rfl⟩
  rw [hWT] at hWW hW
  rw [hWT]
  have HWL := Lib.hid hWL
  have HWM := Lib.hid hWM
  clear ht hw hs h1 h2 h3 h4 hps f5 f6 hlm hmm hWL hWM hWT
  have hx := Blk.new w 29 #[.int .i64 xk, .bool xf, .int .i64 xn, .string xw, .slice xla xln xlc, .slice xma xmn xmc]
  have m1 : New w (w.alloc (.cells #[.int .i64 xk, .bool xf, .int .i64 xn, .string xw, .slice xla xln xlc, .slice xma xmn xmc] 29)) := (Mod.refl _ _).alloc _
  go_enter Tryz.func47, Tryz.ntmps47
  go_upto_region 1 with (fail)
  generalize w.alloc (.cells #[.int .i64 xk, .bool xf, .int .i64 xn, .string xw, .slice xla xln xlc, .slice xma xmn xmc] 29) = w1 at *
  generalize hxb : w.heap.size = xb at *
  have HX := Lib.hid hx
  have HM := Lib.hid m1
  clear hx m1
  have HI0 : Hid (LvInv w xb #[.int .i64 xk, .bool xf, .int .i64 xn, .string xw, .slice xla xln xlc, .slice xma xmn xmc] (n + d + 1) 0 none 0 0 w1) := Lib.hid ⟨HX.out, ⟨[], Own.nil, fun q h => absurd h (by simp)⟩, Nat.le_refl _, HM.out⟩
  have e0 := HX.out.cell 0
  have e1 := HX.out.cell 1
  have e2 := HX.out.cell 2
  have e3 := HX.out.cell 3
  have e4 := HX.out.cell 4
  have e5 := HX.out.cell 5
  have el := HX.out.lt
  have ef := HX.out.frozen
  simp only [List.getElem?_toArray, List.getElem?_cons_zero, List.getElem?_cons_succ] at e0 e1 e2 e3 e4 e5
  go_wp2_with fail
  clear e0 e1 e2 e3 e4 e5 el ef
  clear HX HM
  go_loopw [13, 5] (fun i s wr => ∃ (k : Nat) (Aq : Option Addr) (nq cq : Nat), k ≤ xln ∧ i = .int .i64 k ∧ s = .slice Aq nq cq ∧ Hid (LvInv w xb #[.int .i64 xk, .bool xf, .int .i64 xn, .string xw, .slice xla xln xlc, .slice xma xmn xmc] (n + d + 1) ((v.list.take k).map fun x => vW d x + 1).sum Aq nq cq wr)) (fun i _ _ => xln - (intOf i).toNat)
  case atStart => exact ⟨0, none, 0, 0, Nat.zero_le _, rfl, rfl, HI0⟩
  clear HI0
  case round =>
    rename World => wr
    obtain ⟨k, Aq, nq, cq, hk, rfl, rfl, HI⟩ := hrel
    have HX := Lib.hid HI.out.box
    have HM := Lib.hid HI.out.new
    have hmany := HI.out.many
    obtain ⟨qs, hoq0, hqp⟩ := HI.out.row
    clear HI
    by_cases hlt : k < xln
    · have hkx : k < xs.length := by have := HL1.out.1; omega
      have hkv : k < v.list.length := by have := HF5.out; omega
      obtain ⟨g2, o2, hA, htb, hc0⟩ := (HL1.out.sl.new HM.out).2 (by omega)
      subst hA
      have hgl := htb.lt
      have hty := HL2.out.get k hkx hkv
      have hwk := HWD.out.2.2.2.1 _ (List.getElem_mem hkv)
      have HSUM : Hid (((v.list.take (k + 1)).map fun x => vW d x + 1).sum = ((v.list.take k).map fun x => vW d x + 1).sum + (vW d v.list[k] + 1)) := Lib.hid (take_sum v.list (fun x => vW d x + 1) k hkv)
      have hle := vW_item d v hkv
      have hwle : ((v.list.take (k + 1)).map fun x => vW d x + 1).sum ≤ WL := by rw [← HWL.out]; exact take_sum_le _ _ _
      rw [HSUM.out] at hwle
      have IHH := Lib.hid (fun A' n' c' ps' W (h : New wr W) h2 h3 h4 => IH xs[k] v.list[k] A' n' c' ps' W (hty.any.new (HM.out.trans h)) hwk h2 h3 h4 (by omega))
      have hc := fun j (hj : j < 6) => hc0 k hkx j hj
      clear hc0 htb hty hwk hle
      generalize ((v.list.take k).map fun x => vW d x + 1).sum = SK at *
      generalize vW d v.list[k] = VK at *
      generalize xs[k] = z at *
      obtain ⟨zk, zf, zn, zw, zla, zln, zlc, zma, zmn, zmc⟩ := z
      have b0 := hc 0 (by omega)
      have b1 := hc 1 (by omega)
      have b2 := hc 2 (by omega)
      have b3 := hc 3 (by omega)
      have b4 := hc 4 (by omega)
      have b5 := hc 5 (by omega)
      simp only [VA.enc, Nat.add_zero, Nat.zero_add] at b0 b1 b2 b3 b4 b5
      clear hc
      have hb2 : (0 : Int) ≤ k := by omega
      have hb3 : (k : Int) < xln := by omega
      have m5 : New wr (wr.alloc (.cells #[.int .i64 zk, .bool zf, .int .i64 zn, .string zw, .slice zla zln zlc, .slice zma zmn zmc] 29)) := (Mod.refl _ _).alloc _
      have hlb := Blk.new wr 29 #[.int .i64 zk, .bool zf, .int .i64 zn, .string zw, .slice zla zln zlc, .slice zma zmn zmc]
      go_upto_region 5 with (fail)
      have hszr : xb < wr.heap.size := HX.out.lt
      have IHH5 := Lib.hid (fun A' n' c' ps' W (h : New (wr.alloc (.cells #[.int .i64 zk, .bool zf, .int .i64 zn, .string zw, .slice zla zln zlc, .slice zma zmn zmc] 29)) W) => IHH.out A' n' c' ps' W (m5.trans h))
      clear IHH
      have IHH := IHH5
      clear IHH5
      generalize wr.alloc (.cells #[.int .i64 zk, .bool zf, .int .i64 zn, .string zw, .slice zla zln zlc, .slice zma zmn zmc] 29) = w5 at *
      have HX5 := Lib.hid (HX.out.mod m5 (fun e => e))
      have HM5 := Lib.hid (HM.out.trans m5)
      have HOQ := Lib.hid (hoq0.new m5)
      have HQP := Lib.hid (fun q hq => (hqp q hq).new m5)
      have hfarq := hoq0.far'
      have hxlt : xb < w5.heap.size := HX5.out.lt
      have HCLS : Hid (∀ W, New w5 W → Calls Tryz.prog 27 #[.slice A n c] W (RCloneS W n ps)) := Lib.hid (fun W h => cloneS ps A n c W (HS.out.new (HM5.out.trans h)) (by omega))
      clear m5 HX HM hoq0 hqp
      have HSL : Hid (∀ W, Mod (fun i => blkOf Aq = some i) w5 W → W.cell? ⟨wr.heap.size, 0, none⟩ = some (.int .i64 zk) ∧ W.cell? ⟨wr.heap.size, 1, none⟩ = some (.bool zf) ∧ W.cell? ⟨wr.heap.size, 2, none⟩ = some (.int .i64 zn) ∧ W.cell? ⟨wr.heap.size, 3, none⟩ = some (.string zw) ∧ W.cell? ⟨wr.heap.size, 4, none⟩ = some (.slice zla zln zlc) ∧ W.cell? ⟨wr.heap.size, 5, none⟩ = some (.slice zma zmn zmc) ∧ wr.heap.size < W.heap.size) := Lib.hid (fun W hW => by
        have h1 := hlb.mod hW (fun e => by have := (hfarq _ e).2.1; omega)
        exact ⟨(h1.cell 0).trans rfl, (h1.cell 1).trans rfl, (h1.cell 2).trans rfl, (h1.cell 3).trans rfl, (h1.cell 4).trans rfl, (h1.cell 5).trans rfl, h1.lt⟩)
      clear b0 b1 b2 b3 b4 b5 hgl hlb
      generalize wr.heap.size = lb at *
      have HSTV : Hid ((⟨false, ⟨#[]⟩, (k : Int)⟩ : St).name.size ≤ 100000) := Lib.hid (by show (⟨#[]⟩ : ByteArray).size ≤ 100000; decide)
      refine wp_region_held_tree (Mod (fun i => blkOf Aq = some i) w5) 10 (by kernel_rfl) (by kernel_rfl) ?_
      have hn0 : Mod (fun i => blkOf Aq = some i) w5 w5.drew := (Mod.refl _ _).drew
      have hn1 : New w5 w5.drew := (Mod.refl _ _).drew
      refine headW_take 0 _ ?_ (fun _ _ d _ _ h => by cases d <;> exact h) (by kernel_rfl) rfl (by kernel_rfl) hn0 (by rfl) (fun W hSw => ?_) ?_
      rotate_left
      · (have hq := HSL.out W hSw); (try simp only [List.getElem_toArray, List.getElem_cons_zero, List.getElem_cons_succ]); go_simp; any_goals (with_reducible rfl)
      simp only [Act.put, List.getElem_toArray, List.getElem_cons_zero, List.getElem_cons_succ, List.setIfInBounds_toArray, List.set_cons_zero, List.set_cons_succ]
      refine headW_take 1 _ ?_ (fun _ _ d _ _ h => by cases d <;> exact h) (by kernel_rfl) rfl (by kernel_rfl) hn0 (by rfl) (fun W hSw => ?_) ?_
      rotate_left
      · (have hq := HSL.out W hSw); (try simp only [List.getElem_toArray, List.getElem_cons_zero, List.getElem_cons_succ]); go_simp; any_goals (with_reducible rfl)
      simp only [Act.put, List.getElem_toArray, List.getElem_cons_zero, List.getElem_cons_succ, List.setIfInBounds_toArray, List.set_cons_zero, List.set_cons_succ]
      refine headW_take 2 _ ?_ (fun _ _ d _ _ h => by cases d <;> exact h) (by kernel_rfl) rfl (by kernel_rfl) hn0 (by rfl) (fun W hSw => ?_) ?_
      rotate_left
      · (have hq := HSL.out W hSw); (try simp only [List.getElem_toArray, List.getElem_cons_zero, List.getElem_cons_succ]); go_simp; any_goals (with_reducible rfl)
      simp only [Act.put, List.getElem_toArray, List.getElem_cons_zero, List.getElem_cons_succ, List.setIfInBounds_toArray, List.set_cons_zero, List.set_cons_succ]
      refine headW_take 4 _ ?_ (fun _ _ d _ _ h => by cases d <;> exact h) (by kernel_rfl) rfl (by kernel_rfl) hn0 (by rfl) (fun W hSw => ?_) ?_
      rotate_left
      · (have hq := HSL.out W hSw); (try simp only [List.getElem_toArray, List.getElem_cons_zero, List.getElem_cons_succ]); go_simp; any_goals (with_reducible rfl)
      simp only [Act.put, List.getElem_toArray, List.getElem_cons_zero, List.getElem_cons_succ, List.setIfInBounds_toArray, List.set_cons_zero, List.set_cons_succ]
      refine headW_take 5 _ ?_ (fun _ _ d _ _ h => by cases d <;> exact h) (by kernel_rfl) rfl (by kernel_rfl) hn0 (by rfl) (fun W hSw => ?_) ?_
      rotate_left
      · (have hq := HSL.out W hSw); (try simp only [List.getElem_toArray, List.getElem_cons_zero, List.getElem_cons_succ]); go_simp; any_goals (with_reducible rfl)
      simp only [Act.put, List.getElem_toArray, List.getElem_cons_zero, List.getElem_cons_succ, List.setIfInBounds_toArray, List.set_cons_zero, List.set_cons_succ]
      refine headW_ready [3, 6] (by kernel_rfl) (by rfl) ?_
      refine eachW_step rfl rfl (fun K hK => ?_) (eachW_step rfl rfl (fun K hK => ?_) eachW_nil)
      · have hcl := HCLS.out _ hn1
        (try simp only [List.getElem_toArray, List.getElem_cons_zero, List.getElem_cons_succ])
        go_simp
        refine hcl.mono ?_
        clear hcl
        rintro e w6 ⟨A6, c6, rfl, own6, m6⟩
        have HN6 := Lib.hid (hn1.trans m6)
        have HOW6 : Hid (Own w6 w5.heap.size 60 3 St.enc A6 n c6 ps) := Lib.hid own6
        clear own6 m6
        go_wp2_with fail
        refine hK.out _ _ (HN6.out.mono (fun _ _ e => e.elim)) (fun _ => ?_)
        clear hK K
        (try simp only [Act.put, List.getElem_toArray, List.getElem_cons_zero, List.getElem_cons_succ, List.setIfInBounds_toArray, List.set_cons_zero, List.set_cons_succ])
        refine headW_ready [6] (by kernel_rfl) (by rfl) ?_
        refine eachW_step rfl rfl (fun K hK => ?_) eachW_nil
        have HBL : Hid (Blk (w6.alloc (.cells #[.bool false, .string ⟨#[]⟩, .int .i64 k] 60)) w6.heap.size 60 (encL 3 St.enc ⟨false, ⟨#[]⟩, (k : Int)⟩).toArray) := Lib.hid (Blk.new _ _ _)
        have HMA : Hid (New w6 (w6.alloc (.cells #[.bool false, .string ⟨#[]⟩, .int .i64 k] 60))) := Lib.hid ((Mod.refl _ _).alloc _)
        (try simp only [List.getElem_toArray, List.getElem_cons_zero, List.getElem_cons_succ])
        go_simp
        have HOW := Lib.hid (HOW6.out.new HMA.out)
        have HN := Lib.hid (HN6.out.trans HMA.out)
        refine hK.out _ _ (HN.out.mono (fun _ _ e => e.elim)) (fun _ => ?_)
        clear hK K HOW6 HN6 HMA
        (try simp only [Act.put, List.getElem_toArray, List.getElem_cons_zero, List.getElem_cons_succ, List.setIfInBounds_toArray, List.set_cons_zero, List.set_cons_succ])
        generalize w6.alloc (.cells #[.bool false, .string ⟨#[]⟩, .int .i64 k] 60) = wa at *
        generalize w6.heap.size = bi at *
        refine headW_ready [7] (by kernel_rfl) (by rfl) ?_
        refine eachW_step rfl rfl (fun K hK => ?_) eachW_nil
        have hblp := HBL.out
        have hszp := HN.out.size
        refine wp_push (.tmp 21) (.tmp 24) _ rfl 32 Tryz.underlying54 einfo_step rfl (by exact HOW.out) ⟨false, ⟨#[]⟩, (k : Int)⟩ bi rfl (by exact hblp) (fun j hj => St.one _ j hj) (by omega) (by omega) (by omega) ?_
        intro g8 cap8 w8 own8 hm8 hat8 hlt8
        have HN8 := Lib.hid (HN.out.step hm8 (fun i hi e => by have := (HOW.out.far' i e).1; omega))
        refine hK.out _ _ (HN8.out.mono (fun _ _ e => e.elim)) (fun _ => ?_)
        clear hK K hblp hat8 hlt8 hm8
        (try simp only [Act.put, List.getElem_toArray, List.getElem_cons_zero, List.getElem_cons_succ, List.setIfInBounds_toArray, List.set_cons_zero, List.set_cons_succ])
        refine headW_ready [8] (by kernel_rfl) (by rfl) ?_
        refine eachW_step rfl rfl (fun K hK => ?_) eachW_nil
        have hih := IHH.out (some ⟨g8, 0, none⟩) (n + 1) cap8 (ps ++ [⟨false, ⟨#[]⟩, (k : Int)⟩]) w8 HN8.out own8.sl (by omega) (fun s hs => by
          rcases List.mem_append.1 hs with h | h
          · exact HPS.out s h
          · rw [List.mem_singleton.1 h]; exact HSTV.out)
        (try simp only [List.getElem_toArray, List.getElem_cons_zero, List.getElem_cons_succ])
        go_simp
        refine hih.mono ?_
        clear hih own8
        rintro e w9 ⟨A9, n9, c9, qs9, rfl, hq9, hp9, h09, hle9, hcap9, m9⟩
        have HN9 := Lib.hid (HN8.out.trans m9)
        clear m9
        go_wp2_with fail
        refine hK.out _ _ (HN9.out.mono (fun _ _ e => e.elim)) (fun _ => ?_)
        clear hK K
        (try simp only [Act.put, List.getElem_toArray, List.getElem_cons_zero, List.getElem_cons_succ, List.setIfInBounds_toArray, List.set_cons_zero, List.set_cons_succ])
        obtain ⟨g9, o9, hA9, -, -⟩ := hq9.2 h09
        subst hA9
        refine headW_ready [9] (by kernel_rfl) (by rfl) ?_
        refine eachW_step rfl rfl (fun K hK => ?_) eachW_nil
        have hoq := HOQ.out.new HN9.out
        have hsz9 := HN9.out.size
        refine wp_pushAll (.tmp 18) (.tmp 26) _ rfl 24 Tryz.underlying91 einfo_path rfl (by exact hoq) qs9 g9 o9 n9 c9 rfl (by exact hq9) h09 (fun y _ j _ => PA.one y j) (by omega) (by omega) (by omega) ?_
        intro g10 cap10 w10 own10 hm10 hat10 hlt10
        refine hK.out _ _ ((HN9.out.mono (fun _ _ e => e.elim)).trans hm10) (fun _ => ?_)
        clear hK K
        (try simp only [Act.put, List.getElem_toArray, List.getElem_cons_zero, List.getElem_cons_succ, List.setIfInBounds_toArray, List.set_cons_zero, List.set_cons_succ])
        refine headW_done (by kernel_rfl) ?_
        have HN10 := Lib.hid hm10
        have HOW10 := Lib.hid own10
        have HHOQ := Lib.hid hoq
        have HP9 := Lib.hid hp9
        clear hat10 hlt10 own10 hm10 hoq hp9 hq9
        go_wp2_with fail
        go_roundw
        case rel =>
          have hty : ∀ g, TB w9 g 60 → ¬ blkOf Aq = some g := fun g ht e => (ht.ne (HHOQ.out.far' g e).2.2 (by decide)) rfl
          refine ⟨k + 1, _, _, _, by omega, by go_num, rfl, Lib.hid ⟨?_, ⟨_, HOW10.out, fun q hq => ?_⟩, ?_, ?_⟩⟩
          · exact (HX5.out.mod HN9.out (fun e => e)).mod HN10.out (fun e => by have := (HHOQ.out.far' _ e).1; omega)
          · rcases List.mem_append.1 hq with h | h
            · exact ((HQP.out q h).new HN9.out).mod HN10.out hty
            · exact ((HP9.out q h).le (by omega)).mod HN10.out hty
          · rw [HSUM.out]
            omega
          · exact (HM5.out.trans HN9.out).step HN10.out (fun i hi e => by have := (HHOQ.out.far' i e).1; omega)
        case measure => simp [intOf]; omega
      · have HB0 : Blk (w5.alloc (.cells #[.bool false, .string ⟨#[]⟩, .int .i64 k] 60)) w5.heap.size 60 (encL 3 St.enc ⟨false, ⟨#[]⟩, (k : Int)⟩).toArray := Blk.new _ _ _
        have HNa : Hid (New w5 (World.drew (w5.alloc (.cells #[.bool false, .string ⟨#[]⟩, .int .i64 k] 60)))) := Lib.hid (((Mod.refl _ _).alloc _).drew)
        have HBL0 : Hid (Blk (World.drew (w5.alloc (.cells #[.bool false, .string ⟨#[]⟩, .int .i64 k] 60))) w5.heap.size 60 (encL 3 St.enc ⟨false, ⟨#[]⟩, (k : Int)⟩).toArray) := Lib.hid (HB0.mod (Mod.drew (Mod.refl (fun _ => False) _)) (fun e => e))
        clear HB0
        have hbi : w5.heap.size < (World.drew (w5.alloc (.cells #[.bool false, .string ⟨#[]⟩, .int .i64 k] 60))).heap.size := HBL0.out.lt
        (try simp only [List.getElem_toArray, List.getElem_cons_zero, List.getElem_cons_succ])
        go_simp
        refine hK.out _ _ (HNa.out.mono (fun _ _ e => e.elim)) (fun _ => ?_)
        clear hK K
        (try simp only [Act.put, List.getElem_toArray, List.getElem_cons_zero, List.getElem_cons_succ, List.setIfInBounds_toArray, List.set_cons_zero, List.set_cons_succ])
        generalize World.drew (w5.alloc (.cells #[.bool false, .string ⟨#[]⟩, .int .i64 k] 60)) = wa at *
        refine headW_ready [3] (by kernel_rfl) (by rfl) ?_
        refine eachW_step rfl rfl (fun K hK => ?_) eachW_nil
        have hcl := HCLS.out _ HNa.out
        (try simp only [List.getElem_toArray, List.getElem_cons_zero, List.getElem_cons_succ])
        go_simp
        refine hcl.mono ?_
        clear hcl
        rintro e w6 ⟨A6, c6, rfl, own6, m6⟩
        have HN := Lib.hid (HNa.out.trans m6)
        have HOW : Hid (Own w6 w5.heap.size 60 3 St.enc A6 n c6 ps) := Lib.hid (own6.less (Nat.le_of_lt hbi))
        have HBL := Lib.hid (HBL0.out.mod m6 (fun e => e))
        clear own6 m6
        go_wp2_with fail
        refine hK.out _ _ (HN.out.mono (fun _ _ e => e.elim)) (fun _ => ?_)
        clear hK K
        (try simp only [Act.put, List.getElem_toArray, List.getElem_cons_zero, List.getElem_cons_succ, List.setIfInBounds_toArray, List.set_cons_zero, List.set_cons_succ])
        refine headW_ready [7] (by kernel_rfl) (by rfl) ?_
        refine eachW_step rfl rfl (fun K hK => ?_) eachW_nil
        have hblp := HBL.out
        have hszp := HN.out.size
        refine wp_push (.tmp 21) (.tmp 24) _ rfl 32 Tryz.underlying54 einfo_step rfl (by exact HOW.out) ⟨false, ⟨#[]⟩, (k : Int)⟩ w5.heap.size rfl (by exact hblp) (fun j hj => St.one _ j hj) (by omega) (by omega) (by omega) ?_
        intro g8 cap8 w8 own8 hm8 hat8 hlt8
        have HN8 := Lib.hid (HN.out.step hm8 (fun i hi e => by have := (HOW.out.far' i e).1; omega))
        refine hK.out _ _ (HN8.out.mono (fun _ _ e => e.elim)) (fun _ => ?_)
        clear hK K hblp hat8 hlt8 hm8
        (try simp only [Act.put, List.getElem_toArray, List.getElem_cons_zero, List.getElem_cons_succ, List.setIfInBounds_toArray, List.set_cons_zero, List.set_cons_succ])
        refine headW_ready [8] (by kernel_rfl) (by rfl) ?_
        refine eachW_step rfl rfl (fun K hK => ?_) eachW_nil
        have hih := IHH.out (some ⟨g8, 0, none⟩) (n + 1) cap8 (ps ++ [⟨false, ⟨#[]⟩, (k : Int)⟩]) w8 HN8.out own8.sl (by omega) (fun s hs => by
          rcases List.mem_append.1 hs with h | h
          · exact HPS.out s h
          · rw [List.mem_singleton.1 h]; exact HSTV.out)
        (try simp only [List.getElem_toArray, List.getElem_cons_zero, List.getElem_cons_succ])
        go_simp
        refine hih.mono ?_
        clear hih own8
        rintro e w9 ⟨A9, n9, c9, qs9, rfl, hq9, hp9, h09, hle9, hcap9, m9⟩
        have HN9 := Lib.hid (HN8.out.trans m9)
        clear m9
        go_wp2_with fail
        refine hK.out _ _ (HN9.out.mono (fun _ _ e => e.elim)) (fun _ => ?_)
        clear hK K
        (try simp only [Act.put, List.getElem_toArray, List.getElem_cons_zero, List.getElem_cons_succ, List.setIfInBounds_toArray, List.set_cons_zero, List.set_cons_succ])
        obtain ⟨g9, o9, hA9, -, -⟩ := hq9.2 h09
        subst hA9
        refine headW_ready [9] (by kernel_rfl) (by rfl) ?_
        refine eachW_step rfl rfl (fun K hK => ?_) eachW_nil
        have hoq := HOQ.out.new HN9.out
        have hsz9 := HN9.out.size
        refine wp_pushAll (.tmp 18) (.tmp 26) _ rfl 24 Tryz.underlying91 einfo_path rfl (by exact hoq) qs9 g9 o9 n9 c9 rfl (by exact hq9) h09 (fun y _ j _ => PA.one y j) (by omega) (by omega) (by omega) ?_
        intro g10 cap10 w10 own10 hm10 hat10 hlt10
        refine hK.out _ _ ((HN9.out.mono (fun _ _ e => e.elim)).trans hm10) (fun _ => ?_)
        clear hK K
        (try simp only [Act.put, List.getElem_toArray, List.getElem_cons_zero, List.getElem_cons_succ, List.setIfInBounds_toArray, List.set_cons_zero, List.set_cons_succ])
        refine headW_done (by kernel_rfl) ?_
        have HN10 := Lib.hid hm10
        have HOW10 := Lib.hid own10
        have HHOQ := Lib.hid hoq
        have HP9 := Lib.hid hp9
        clear hat10 hlt10 own10 hm10 hoq hp9 hq9
        go_wp2_with fail
        go_roundw
        case rel =>
          have hty : ∀ g, TB w9 g 60 → ¬ blkOf Aq = some g := fun g ht e => (ht.ne (HHOQ.out.far' g e).2.2 (by decide)) rfl
          refine ⟨k + 1, _, _, _, by omega, by go_num, rfl, Lib.hid ⟨?_, ⟨_, HOW10.out, fun q hq => ?_⟩, ?_, ?_⟩⟩
          · exact (HX5.out.mod HN9.out (fun e => e)).mod HN10.out (fun e => by have := (HHOQ.out.far' _ e).1; omega)
          · rcases List.mem_append.1 hq with h | h
            · exact ((HQP.out q h).new HN9.out).mod HN10.out hty
            · exact ((HP9.out q h).le (by omega)).mod HN10.out hty
          · rw [HSUM.out]
            omega
          · exact (HM5.out.trans HN9.out).step HN10.out (fun i hi e => by have := (HHOQ.out.far' i e).1; omega)
        case measure => simp [intOf]; omega
    · obtain rfl : xln = k := by omega
      have hmy : nq ≤ WL + ((v.mem.take 0).map fun p => vW d p.2 + (6 * p.1.size + 4)).sum := by
        have h := take_sum_le v.list (fun x => vW d x + 1) xln
        rw [HWL.out] at h
        omega
      have HI1 : Hid (LvInv w xb #[.int .i64 xk, .bool xf, .int .i64 xn, .string xw, .slice xla xln xlc, .slice xma xmn xmc] (n + d + 1) (WL + ((v.mem.take 0).map fun p => vW d p.2 + (6 * p.1.size + 4)).sum) Aq nq cq wr) := Lib.hid ⟨HX.out, ⟨qs, hoq0, hqp⟩, hmy, HM.out⟩
      clear hmy hmany hoq0 hqp
      have e0 := HX.out.cell 0
      have e1 := HX.out.cell 1
      have e2 := HX.out.cell 2
      have e3 := HX.out.cell 3
      have e4 := HX.out.cell 4
      have e5 := HX.out.cell 5
      have el := HX.out.lt
      have ef := HX.out.frozen
      simp only [List.getElem?_toArray, List.getElem?_cons_zero, List.getElem?_cons_succ] at e0 e1 e2 e3 e4 e5
      go_wp2_with fail
      clear e0 e1 e2 e3 e4 e5 el ef
      clear HX HM
      go_loopw [32, 5] (fun i s wr => ∃ (k : Nat) (Aq : Option Addr) (nq cq : Nat), k ≤ xmn ∧ i = .int .i64 k ∧ s = .slice Aq nq cq ∧ Hid (LvInv w xb #[.int .i64 xk, .bool xf, .int .i64 xn, .string xw, .slice xla xln xlc, .slice xma xmn xmc] (n + d + 1) (WL + ((v.mem.take k).map fun p => vW d p.2 + (6 * p.1.size + 4)).sum) Aq nq cq wr)) (fun i _ _ => xmn - (intOf i).toNat)
      case atStart => exact ⟨0, _, _, _, Nat.zero_le _, rfl, rfl, HI1⟩
      clear HI1
      case round =>
        rename World => wr
        obtain ⟨k, Aq, nq, cq, hk, rfl, rfl, HI⟩ := hrel
        have HX := Lib.hid HI.out.box
        have HM := Lib.hid HI.out.new
        have hmany := HI.out.many
        obtain ⟨qs, hoq0, hqp⟩ := HI.out.row
        clear HI
        by_cases hlt : k < xmn
        · have hkx : k < ms.length := by have := HL3.out.1; omega
          have hkv : k < v.mem.length := by have := HF6.out; omega
          obtain ⟨g2, o2, hA, htb, hc0⟩ := (HL3.out.sl.new HM.out).2 (by omega)
          subst hA
          have hgl := htb.lt
          have hty := HL4.out.get k hkx hkv
          have hwk := HWD.out.2.2.2.2 _ (List.getElem_mem hkv)
          have HSUM : Hid (((v.mem.take (k + 1)).map fun p => vW d p.2 + (6 * p.1.size + 4)).sum = ((v.mem.take k).map fun p => vW d p.2 + (6 * p.1.size + 4)).sum + (vW d v.mem[k].2 + (6 * v.mem[k].1.size + 4))) := Lib.hid (take_sum v.mem (fun p => vW d p.2 + (6 * p.1.size + 4)) k hkv)
          have hle := vW_member d v hkv
          have hwle : ((v.mem.take (k + 1)).map fun p => vW d p.2 + (6 * p.1.size + 4)).sum ≤ WM := by rw [← HWM.out]; exact take_sum_le _ _ _
          rw [HSUM.out] at hwle
          have IHH := Lib.hid (fun A' n' c' ps' W (h : New wr W) h2 h3 h4 => IH ms[k].v v.mem[k].2 A' n' c' ps' W (hty.2.any.new (HM.out.trans h)) hwk.2 h2 h3 h4 (by omega))
          have hnm : ms[k].name.size ≤ 100000 := by rw [hty.1]; exact hwk.1
          have hc := fun j (hj : j < 7) => hc0 k hkx j hj
          clear hc0 htb hty hwk hle
          generalize ((v.mem.take k).map fun p => vW d p.2 + (6 * p.1.size + 4)).sum = SK at *
          generalize vW d v.mem[k].2 = VK at *
          generalize v.mem[k].1.size = NK at *
          generalize ms[k] = z at *
          obtain ⟨zn0, zk, zf, zn, zw, zla, zln, zlc, zma, zmn, zmc⟩ := z
          have b0 := hc 0 (by omega)
          have b1 := hc 1 (by omega)
          have b2 := hc 2 (by omega)
          have b3 := hc 3 (by omega)
          have b4 := hc 4 (by omega)
          have b5 := hc 5 (by omega)
          have b6 := hc 6 (by omega)
          simp only [MA.enc, VA.enc, Nat.add_zero, Nat.zero_add] at b0 b1 b2 b3 b4 b5 b6
          clear hc
          have hb2 : (0 : Int) ≤ k := by omega
          have hb3 : (k : Int) < xmn := by omega
          have m5 : New wr (wr.alloc (.cells #[.string zn0, .int .i64 zk, .bool zf, .int .i64 zn, .string zw, .slice zla zln zlc, .slice zma zmn zmc] 49)) := (Mod.refl _ _).alloc _
          have hlb := Blk.new wr 49 #[.string zn0, .int .i64 zk, .bool zf, .int .i64 zn, .string zw, .slice zla zln zlc, .slice zma zmn zmc]
          go_upto_region 10 with (fail)
          have hszr : xb < wr.heap.size := HX.out.lt
          have IHH5 := Lib.hid (fun A' n' c' ps' W (h : New (wr.alloc (.cells #[.string zn0, .int .i64 zk, .bool zf, .int .i64 zn, .string zw, .slice zla zln zlc, .slice zma zmn zmc] 49)) W) => IHH.out A' n' c' ps' W (m5.trans h))
          clear IHH
          have IHH := IHH5
          clear IHH5
          generalize wr.alloc (.cells #[.string zn0, .int .i64 zk, .bool zf, .int .i64 zn, .string zw, .slice zla zln zlc, .slice zma zmn zmc] 49) = w5 at *
          have HX5 := Lib.hid (HX.out.mod m5 (fun e => e))
          have HM5 := Lib.hid (HM.out.trans m5)
          have HOQ := Lib.hid (hoq0.new m5)
          have HQP := Lib.hid (fun q hq => (hqp q hq).new m5)
          have hfarq := hoq0.far'
          have hxlt : xb < w5.heap.size := HX5.out.lt
          have HCLS : Hid (∀ W, New w5 W → Calls Tryz.prog 27 #[.slice A n c] W (RCloneS W n ps)) := Lib.hid (fun W h => cloneS ps A n c W (HS.out.new (HM5.out.trans h)) (by omega))
          clear m5 HX HM hoq0 hqp
          have HSL : Hid (∀ W, Mod (fun i => blkOf Aq = some i) w5 W → W.cell? ⟨wr.heap.size, 0, none⟩ = some (.string zn0) ∧ W.cell? ⟨wr.heap.size, 1, none⟩ = some (.int .i64 zk) ∧ W.cell? ⟨wr.heap.size, 2, none⟩ = some (.bool zf) ∧ W.cell? ⟨wr.heap.size, 3, none⟩ = some (.int .i64 zn) ∧ W.cell? ⟨wr.heap.size, 4, none⟩ = some (.string zw) ∧ W.cell? ⟨wr.heap.size, 5, none⟩ = some (.slice zla zln zlc) ∧ W.cell? ⟨wr.heap.size, 6, none⟩ = some (.slice zma zmn zmc) ∧ wr.heap.size < W.heap.size) := Lib.hid (fun W hW => by
            have h1 := hlb.mod hW (fun e => by have := (hfarq _ e).2.1; omega)
            exact ⟨(h1.cell 0).trans rfl, (h1.cell 1).trans rfl, (h1.cell 2).trans rfl, (h1.cell 3).trans rfl, (h1.cell 4).trans rfl, (h1.cell 5).trans rfl, (h1.cell 6).trans rfl, h1.lt⟩)
          clear b0 b1 b2 b3 b4 b5 b6 hgl hlb
          generalize wr.heap.size = lb at *
          have HSTV : Hid ((⟨true, zn0, (0 : Int)⟩ : St).name.size ≤ 100000) := Lib.hid hnm
          clear hnm
          refine wp_region_held_tree (Mod (fun i => blkOf Aq = some i) w5) 12 (by kernel_rfl) (by kernel_rfl) ?_
          have hn0 : Mod (fun i => blkOf Aq = some i) w5 w5.drew := (Mod.refl _ _).drew
          have hn1 : New w5 w5.drew := (Mod.refl _ _).drew
          refine headW_take 0 _ ?_ (fun _ _ d _ _ h => by cases d <;> exact h) (by kernel_rfl) rfl (by kernel_rfl) hn0 (by rfl) (fun W hSw => ?_) ?_
          rotate_left
          · (have hq := HSL.out W hSw); (try simp only [List.getElem_toArray, List.getElem_cons_zero, List.getElem_cons_succ]); go_simp; any_goals (with_reducible rfl)
          simp only [Act.put, List.getElem_toArray, List.getElem_cons_zero, List.getElem_cons_succ, List.setIfInBounds_toArray, List.set_cons_zero, List.set_cons_succ]
          refine headW_take 1 _ ?_ (fun _ _ d _ _ h => by cases d <;> exact h) (by kernel_rfl) rfl (by kernel_rfl) hn0 (by rfl) (fun W hSw => ?_) ?_
          rotate_left
          · (have hq := HSL.out W hSw); (try simp only [List.getElem_toArray, List.getElem_cons_zero, List.getElem_cons_succ]); go_simp; any_goals (with_reducible rfl)
          simp only [Act.put, List.getElem_toArray, List.getElem_cons_zero, List.getElem_cons_succ, List.setIfInBounds_toArray, List.set_cons_zero, List.set_cons_succ]
          refine headW_take 2 _ ?_ (fun _ _ d _ _ h => by cases d <;> exact h) (by kernel_rfl) rfl (by kernel_rfl) hn0 (by rfl) (fun W hSw => ?_) ?_
          rotate_left
          · (have hq := HSL.out W hSw); (try simp only [List.getElem_toArray, List.getElem_cons_zero, List.getElem_cons_succ]); go_simp; any_goals (with_reducible rfl)
          simp only [Act.put, List.getElem_toArray, List.getElem_cons_zero, List.getElem_cons_succ, List.setIfInBounds_toArray, List.set_cons_zero, List.set_cons_succ]
          refine headW_take 3 _ ?_ (fun _ _ d _ _ h => by cases d <;> exact h) (by kernel_rfl) rfl (by kernel_rfl) hn0 (by rfl) (fun W hSw => ?_) ?_
          rotate_left
          · (have hq := HSL.out W hSw); (try simp only [List.getElem_toArray, List.getElem_cons_zero, List.getElem_cons_succ]); go_simp; any_goals (with_reducible rfl)
          simp only [Act.put, List.getElem_toArray, List.getElem_cons_zero, List.getElem_cons_succ, List.setIfInBounds_toArray, List.set_cons_zero, List.set_cons_succ]
          refine headW_take 5 _ ?_ (fun _ _ d _ _ h => by cases d <;> exact h) (by kernel_rfl) rfl (by kernel_rfl) hn0 (by rfl) (fun W hSw => ?_) ?_
          rotate_left
          · (have hq := HSL.out W hSw); (try simp only [List.getElem_toArray, List.getElem_cons_zero, List.getElem_cons_succ]); go_simp; any_goals (with_reducible rfl)
          simp only [Act.put, List.getElem_toArray, List.getElem_cons_zero, List.getElem_cons_succ, List.setIfInBounds_toArray, List.set_cons_zero, List.set_cons_succ]
          refine headW_take 6 _ ?_ (fun _ _ d _ _ h => by cases d <;> exact h) (by kernel_rfl) rfl (by kernel_rfl) hn0 (by rfl) (fun W hSw => ?_) ?_
          rotate_left
          · (have hq := HSL.out W hSw); (try simp only [List.getElem_toArray, List.getElem_cons_zero, List.getElem_cons_succ]); go_simp; any_goals (with_reducible rfl)
          simp only [Act.put, List.getElem_toArray, List.getElem_cons_zero, List.getElem_cons_succ, List.setIfInBounds_toArray, List.set_cons_zero, List.set_cons_succ]
          refine headW_take 7 _ ?_ (fun _ _ d _ _ h => by cases d <;> exact h) (by kernel_rfl) rfl (by kernel_rfl) hn0 (by rfl) (fun W hSw => ?_) ?_
          rotate_left
          · (have hq := HSL.out W hSw); (try simp only [List.getElem_toArray, List.getElem_cons_zero, List.getElem_cons_succ]); go_simp; any_goals (with_reducible rfl)
          simp only [Act.put, List.getElem_toArray, List.getElem_cons_zero, List.getElem_cons_succ, List.setIfInBounds_toArray, List.set_cons_zero, List.set_cons_succ]
          refine headW_ready [4, 8] (by kernel_rfl) (by rfl) ?_
          refine eachW_step rfl rfl (fun K hK => ?_) (eachW_step rfl rfl (fun K hK => ?_) eachW_nil)
          · have hcl := HCLS.out _ hn1
            (try simp only [List.getElem_toArray, List.getElem_cons_zero, List.getElem_cons_succ])
            go_simp
            refine hcl.mono ?_
            clear hcl
            rintro e w6 ⟨A6, c6, rfl, own6, m6⟩
            have HN6 := Lib.hid (hn1.trans m6)
            have HOW6 : Hid (Own w6 w5.heap.size 60 3 St.enc A6 n c6 ps) := Lib.hid own6
            clear own6 m6
            go_wp2_with fail
            refine hK.out _ _ (HN6.out.mono (fun _ _ e => e.elim)) (fun _ => ?_)
            clear hK K
            (try simp only [Act.put, List.getElem_toArray, List.getElem_cons_zero, List.getElem_cons_succ, List.setIfInBounds_toArray, List.set_cons_zero, List.set_cons_succ])
            refine headW_ready [8] (by kernel_rfl) (by rfl) ?_
            refine eachW_step rfl rfl (fun K hK => ?_) eachW_nil
            have HBL : Hid (Blk (w6.alloc (.cells #[.bool true, .string zn0, .int .i64 0] 60)) w6.heap.size 60 (encL 3 St.enc ⟨true, zn0, (0 : Int)⟩).toArray) := Lib.hid (Blk.new _ _ _)
            have HMA : Hid (New w6 (w6.alloc (.cells #[.bool true, .string zn0, .int .i64 0] 60))) := Lib.hid ((Mod.refl _ _).alloc _)
            (try simp only [List.getElem_toArray, List.getElem_cons_zero, List.getElem_cons_succ])
            go_simp
            have HOW := Lib.hid (HOW6.out.new HMA.out)
            have HN := Lib.hid (HN6.out.trans HMA.out)
            refine hK.out _ _ (HN.out.mono (fun _ _ e => e.elim)) (fun _ => ?_)
            clear hK K HOW6 HN6 HMA
            (try simp only [Act.put, List.getElem_toArray, List.getElem_cons_zero, List.getElem_cons_succ, List.setIfInBounds_toArray, List.set_cons_zero, List.set_cons_succ])
            generalize w6.alloc (.cells #[.bool true, .string zn0, .int .i64 0] 60) = wa at *
            generalize w6.heap.size = bi at *
            refine headW_ready [9] (by kernel_rfl) (by rfl) ?_
            refine eachW_step rfl rfl (fun K hK => ?_) eachW_nil
            have hblp := HBL.out
            have hszp := HN.out.size
            refine wp_push (.tmp 40) (.tmp 44) _ rfl 32 Tryz.underlying54 einfo_step rfl (by exact HOW.out) ⟨true, zn0, (0 : Int)⟩ bi rfl (by exact hblp) (fun j hj => St.one _ j hj) (by omega) (by omega) (by omega) ?_
            intro g8 cap8 w8 own8 hm8 hat8 hlt8
            have HN8 := Lib.hid (HN.out.step hm8 (fun i hi e => by have := (HOW.out.far' i e).1; omega))
            refine hK.out _ _ (HN8.out.mono (fun _ _ e => e.elim)) (fun _ => ?_)
            clear hK K hblp hat8 hlt8 hm8
            (try simp only [Act.put, List.getElem_toArray, List.getElem_cons_zero, List.getElem_cons_succ, List.setIfInBounds_toArray, List.set_cons_zero, List.set_cons_succ])
            refine headW_ready [10] (by kernel_rfl) (by rfl) ?_
            refine eachW_step rfl rfl (fun K hK => ?_) eachW_nil
            have hih := IHH.out (some ⟨g8, 0, none⟩) (n + 1) cap8 (ps ++ [⟨true, zn0, (0 : Int)⟩]) w8 HN8.out own8.sl (by omega) (fun s hs => by
              rcases List.mem_append.1 hs with h | h
              · exact HPS.out s h
              · rw [List.mem_singleton.1 h]; exact HSTV.out)
            (try simp only [List.getElem_toArray, List.getElem_cons_zero, List.getElem_cons_succ])
            go_simp
            refine hih.mono ?_
            clear hih own8
            rintro e w9 ⟨A9, n9, c9, qs9, rfl, hq9, hp9, h09, hle9, hcap9, m9⟩
            have HN9 := Lib.hid (HN8.out.trans m9)
            clear m9
            go_wp2_with fail
            refine hK.out _ _ (HN9.out.mono (fun _ _ e => e.elim)) (fun _ => ?_)
            clear hK K
            (try simp only [Act.put, List.getElem_toArray, List.getElem_cons_zero, List.getElem_cons_succ, List.setIfInBounds_toArray, List.set_cons_zero, List.set_cons_succ])
            obtain ⟨g9, o9, hA9, -, -⟩ := hq9.2 h09
            subst hA9
            refine headW_ready [11] (by kernel_rfl) (by rfl) ?_
            refine eachW_step rfl rfl (fun K hK => ?_) eachW_nil
            have hoq := HOQ.out.new HN9.out
            have hsz9 := HN9.out.size
            refine wp_pushAll (.tmp 36) (.tmp 46) _ rfl 24 Tryz.underlying91 einfo_path rfl (by exact hoq) qs9 g9 o9 n9 c9 rfl (by exact hq9) h09 (fun y _ j _ => PA.one y j) (by omega) (by omega) (by omega) ?_
            intro g10 cap10 w10 own10 hm10 hat10 hlt10
            refine hK.out _ _ ((HN9.out.mono (fun _ _ e => e.elim)).trans hm10) (fun _ => ?_)
            clear hK K
            (try simp only [Act.put, List.getElem_toArray, List.getElem_cons_zero, List.getElem_cons_succ, List.setIfInBounds_toArray, List.set_cons_zero, List.set_cons_succ])
            refine headW_done (by kernel_rfl) ?_
            have HN10 := Lib.hid hm10
            have HOW10 := Lib.hid own10
            have HHOQ := Lib.hid hoq
            have HP9 := Lib.hid hp9
            clear hat10 hlt10 own10 hm10 hoq hp9 hq9
            go_wp2_with fail
            go_roundw
            case rel =>
              have hty : ∀ g, TB w9 g 60 → ¬ blkOf Aq = some g := fun g ht e => (ht.ne (HHOQ.out.far' g e).2.2 (by decide)) rfl
              refine ⟨k + 1, _, _, _, by omega, by go_num, rfl, Lib.hid ⟨?_, ⟨_, HOW10.out, fun q hq => ?_⟩, ?_, ?_⟩⟩
              · exact (HX5.out.mod HN9.out (fun e => e)).mod HN10.out (fun e => by have := (HHOQ.out.far' _ e).1; omega)
              · rcases List.mem_append.1 hq with h | h
                · exact ((HQP.out q h).new HN9.out).mod HN10.out hty
                · exact ((HP9.out q h).le (by omega)).mod HN10.out hty
              · rw [HSUM.out]
                omega
              · exact (HM5.out.trans HN9.out).step HN10.out (fun i hi e => by have := (HHOQ.out.far' i e).1; omega)
            case measure => simp [intOf]; omega
          · have HB0 : Blk (w5.alloc (.cells #[.bool true, .string zn0, .int .i64 0] 60)) w5.heap.size 60 (encL 3 St.enc ⟨true, zn0, (0 : Int)⟩).toArray := Blk.new _ _ _
            have HNa : Hid (New w5 (World.drew (w5.alloc (.cells #[.bool true, .string zn0, .int .i64 0] 60)))) := Lib.hid (((Mod.refl _ _).alloc _).drew)
            have HBL0 : Hid (Blk (World.drew (w5.alloc (.cells #[.bool true, .string zn0, .int .i64 0] 60))) w5.heap.size 60 (encL 3 St.enc ⟨true, zn0, (0 : Int)⟩).toArray) := Lib.hid (HB0.mod (Mod.drew (Mod.refl (fun _ => False) _)) (fun e => e))
            clear HB0
            have hbi : w5.heap.size < (World.drew (w5.alloc (.cells #[.bool true, .string zn0, .int .i64 0] 60))).heap.size := HBL0.out.lt
            (try simp only [List.getElem_toArray, List.getElem_cons_zero, List.getElem_cons_succ])
            go_simp
            refine hK.out _ _ (HNa.out.mono (fun _ _ e => e.elim)) (fun _ => ?_)
            clear hK K
            (try simp only [Act.put, List.getElem_toArray, List.getElem_cons_zero, List.getElem_cons_succ, List.setIfInBounds_toArray, List.set_cons_zero, List.set_cons_succ])
            generalize World.drew (w5.alloc (.cells #[.bool true, .string zn0, .int .i64 0] 60)) = wa at *
            refine headW_ready [4] (by kernel_rfl) (by rfl) ?_
            refine eachW_step rfl rfl (fun K hK => ?_) eachW_nil
            have hcl := HCLS.out _ HNa.out
            (try simp only [List.getElem_toArray, List.getElem_cons_zero, List.getElem_cons_succ])
            go_simp
            refine hcl.mono ?_
            clear hcl
            rintro e w6 ⟨A6, c6, rfl, own6, m6⟩
            have HN := Lib.hid (HNa.out.trans m6)
            have HOW : Hid (Own w6 w5.heap.size 60 3 St.enc A6 n c6 ps) := Lib.hid (own6.less (Nat.le_of_lt hbi))
            have HBL := Lib.hid (HBL0.out.mod m6 (fun e => e))
            clear own6 m6
            go_wp2_with fail
            refine hK.out _ _ (HN.out.mono (fun _ _ e => e.elim)) (fun _ => ?_)
            clear hK K
            (try simp only [Act.put, List.getElem_toArray, List.getElem_cons_zero, List.getElem_cons_succ, List.setIfInBounds_toArray, List.set_cons_zero, List.set_cons_succ])
            refine headW_ready [9] (by kernel_rfl) (by rfl) ?_
            refine eachW_step rfl rfl (fun K hK => ?_) eachW_nil
            have hblp := HBL.out
            have hszp := HN.out.size
            refine wp_push (.tmp 40) (.tmp 44) _ rfl 32 Tryz.underlying54 einfo_step rfl (by exact HOW.out) ⟨true, zn0, (0 : Int)⟩ w5.heap.size rfl (by exact hblp) (fun j hj => St.one _ j hj) (by omega) (by omega) (by omega) ?_
            intro g8 cap8 w8 own8 hm8 hat8 hlt8
            have HN8 := Lib.hid (HN.out.step hm8 (fun i hi e => by have := (HOW.out.far' i e).1; omega))
            refine hK.out _ _ (HN8.out.mono (fun _ _ e => e.elim)) (fun _ => ?_)
            clear hK K hblp hat8 hlt8 hm8
            (try simp only [Act.put, List.getElem_toArray, List.getElem_cons_zero, List.getElem_cons_succ, List.setIfInBounds_toArray, List.set_cons_zero, List.set_cons_succ])
            refine headW_ready [10] (by kernel_rfl) (by rfl) ?_
            refine eachW_step rfl rfl (fun K hK => ?_) eachW_nil
            have hih := IHH.out (some ⟨g8, 0, none⟩) (n + 1) cap8 (ps ++ [⟨true, zn0, (0 : Int)⟩]) w8 HN8.out own8.sl (by omega) (fun s hs => by
              rcases List.mem_append.1 hs with h | h
              · exact HPS.out s h
              · rw [List.mem_singleton.1 h]; exact HSTV.out)
            (try simp only [List.getElem_toArray, List.getElem_cons_zero, List.getElem_cons_succ])
            go_simp
            refine hih.mono ?_
            clear hih own8
            rintro e w9 ⟨A9, n9, c9, qs9, rfl, hq9, hp9, h09, hle9, hcap9, m9⟩
            have HN9 := Lib.hid (HN8.out.trans m9)
            clear m9
            go_wp2_with fail
            refine hK.out _ _ (HN9.out.mono (fun _ _ e => e.elim)) (fun _ => ?_)
            clear hK K
            (try simp only [Act.put, List.getElem_toArray, List.getElem_cons_zero, List.getElem_cons_succ, List.setIfInBounds_toArray, List.set_cons_zero, List.set_cons_succ])
            obtain ⟨g9, o9, hA9, -, -⟩ := hq9.2 h09
            subst hA9
            refine headW_ready [11] (by kernel_rfl) (by rfl) ?_
            refine eachW_step rfl rfl (fun K hK => ?_) eachW_nil
            have hoq := HOQ.out.new HN9.out
            have hsz9 := HN9.out.size
            refine wp_pushAll (.tmp 36) (.tmp 46) _ rfl 24 Tryz.underlying91 einfo_path rfl (by exact hoq) qs9 g9 o9 n9 c9 rfl (by exact hq9) h09 (fun y _ j _ => PA.one y j) (by omega) (by omega) (by omega) ?_
            intro g10 cap10 w10 own10 hm10 hat10 hlt10
            refine hK.out _ _ ((HN9.out.mono (fun _ _ e => e.elim)).trans hm10) (fun _ => ?_)
            clear hK K
            (try simp only [Act.put, List.getElem_toArray, List.getElem_cons_zero, List.getElem_cons_succ, List.setIfInBounds_toArray, List.set_cons_zero, List.set_cons_succ])
            refine headW_done (by kernel_rfl) ?_
            have HN10 := Lib.hid hm10
            have HOW10 := Lib.hid own10
            have HHOQ := Lib.hid hoq
            have HP9 := Lib.hid hp9
            clear hat10 hlt10 own10 hm10 hoq hp9 hq9
            go_wp2_with fail
            go_roundw
            case rel =>
              have hty : ∀ g, TB w9 g 60 → ¬ blkOf Aq = some g := fun g ht e => (ht.ne (HHOQ.out.far' g e).2.2 (by decide)) rfl
              refine ⟨k + 1, _, _, _, by omega, by go_num, rfl, Lib.hid ⟨?_, ⟨_, HOW10.out, fun q hq => ?_⟩, ?_, ?_⟩⟩
              · exact (HX5.out.mod HN9.out (fun e => e)).mod HN10.out (fun e => by have := (HHOQ.out.far' _ e).1; omega)
              · rcases List.mem_append.1 hq with h | h
                · exact ((HQP.out q h).new HN9.out).mod HN10.out hty
                · exact ((HP9.out q h).le (by omega)).mod HN10.out hty
              · rw [HSUM.out]
                omega
              · exact (HM5.out.trans HN9.out).step HN10.out (fun i hi e => by have := (HHOQ.out.far' i e).1; omega)
            case measure => simp [intOf]; omega
        · obtain rfl : xmn = k := by omega
          have hwt : nq ≤ WT := by
            have h := take_sum_le v.mem (fun p => vW d p.2 + (6 * p.1.size + 4)) xmn
            rw [HWM.out] at h
            omega
          have HQ := Lib.hid hoq0
          have HQP := Lib.hid hqp
          clear hoq0 hqp hmany
          by_cases h0 : nq = 0
          · have h0b : ((nq : Int) == 0) = true := by simp; omega
            have hcl := cloneS ps A n c wr (HS.out.new HM.out) (by omega)
            clear h0
            go_wp2_with fail
            refine hcl.mono ?_
            clear hcl
            rintro e w6 ⟨A6, c6, rfl, own6, m6⟩
            have HOW6 := Lib.hid own6
            have HM6 := Lib.hid (HM.out.trans m6)
            clear own6 m6
            go_wp2_with fail
            go_ret
            have ma : New w6 (w6.alloc (.cells #[.slice A6 n c6] 54)) := (Mod.refl _ _).alloc _
            refine ⟨some ⟨w6.heap.size, 0, none⟩, 1, 1, [⟨A6, n, c6⟩], rfl, Sl.of_blk (Blk.new _ _ _) rfl (fun i h j hj => ?_), fun q hq => ?_, by omega, by omega, by omega, HM6.out.trans ma⟩
            · simp only [List.length_cons, List.length_nil] at h
              obtain rfl : i = 0 := by omega
              obtain rfl : j = 0 := by omega
              rfl
            · rw [List.mem_singleton.1 hq]
              exact ⟨ps, (HOW6.out.new ma).sl, by simp only; omega, HOW6.out.cap, HOW6.out.noneC, HPS.out⟩
          · have h0b : ((nq : Int) == 0) = false := by simp; omega
            go_wp2_with fail
            go_ret
            exact ⟨Aq, nq, cq, qs, rfl, HQ.out.sl, fun q hq => (HQP.out q hq).le (by omega), by omega, hwt, HQ.out.cap, HM.out⟩

theorem leaves_v : ∀ d, LvSpec d
  | 0 => fun x v A n c ps w ht => ht.elim
  | d + 1 => leaves_walk d (leaves_v d)

end Go.Proofs.YtahofcopedlenaaGreatDoor

namespace Go.Proofs.YtahofcopedlenaaGreatDoor
open Go.RowKit
set_option linter.unusedVariables false
set_option linter.unusedSimpArgs false

theorem SInv.tb {b k : Nat} {w : World} (h : SInv b w k) : TB w b 25 := by
  obtain ⟨A, n, c, q, z, hb, _⟩ := h
  exact hb.tb
theorem Tree.stream {w w' : World} {G : Nat → Prop} {d b k : Nat} {x : VA} {v : VT} (h : Tree w G d x v) (hs : SStep b w w' k) (hb : TB w b 25) : Tree w' G d x v := h.only hs.only hb (by decide) (by decide)
theorem PthOk.stream {w w' : World} {L b k : Nat} {x : PA} (h : PthOk w L x) (hs : SStep b w w' k) (hb : TB w b 25) : PthOk w' L x := h.mod hs.only (fun g h e => h.ne hb (by decide) e)
theorem Sl.pre {α : Type} {w : World} {t : TypeId} {sz : Nat} {enc : α → Nat → Value} {A : Option Addr} {n r : Nat} {xs : List α} (h : Sl w t sz enc A n xs) (hr : r ≤ n) : Sl w t sz enc A r (xs.take r) := by
  refine ⟨by have := h.1; simp; omega, fun h0 => ?_⟩
  obtain ⟨g, o, hA, ht, hc⟩ := h.2 (by omega)
  refine ⟨g, o, hA, ht, fun i hi j hj => ?_⟩
  simp only [List.length_take] at hi
  rw [List.getElem_take]
  exact hc i (by omega) j hj
theorem append_nil' {P : Program} {t e : TypeId} (ht : P.underlying t = some (.slice e)) {i : TypeInfo} (hi : P.info? e = some i) (A : Option Addr) (n c : Nat) (h : n ≤ c) (ty : TypeId) (w : World) :
    (Builtin.append_ #[t, t] ty #[.slice A n c, .slice none 0 0]).run P w = .ok (.slice A n c) w := by
  cases A <;> simp [Builtin.append_, run_underlying ht, sizeOf, typeInfo, hi, Builtin.lenOf, Builtin.firstCells, h, storeCells]
/-- a path that the stream hands out -/
def RPathM (b : Nat) (w : World) (L k : Nat) (e : Ending) (w' : World) : Prop := ∃ x : PA, e = .returned (.slice x.a x.n x.c) ∧ PthOk w' L x ∧ SStep b w w' k
/-- a path that the stream makes anew -/
def RPathN (b : Nat) (w : World) (L k : Nat) (e : Ending) (w' : World) : Prop := ∃ x : PA, e = .returned (.slice x.a x.n x.c) ∧ PthOk w' L x ∧ (x.n = 0 → x.a = none ∧ x.c = 0) ∧ SStep b w w' k
set_option maxRecDepth 100000 in
set_option maxHeartbeats 1000000 in
theorem stream_path (b k : Nat) (w : World) (hs : SInv b w k) (hk : k + 40 < 4611686018426000000) :
    Calls Tryz.prog 48 #[.pointer (some ⟨b, 0, none⟩)] w (RPathN b w 4 (k + 30)) := by
  have hb := hs.lt
  have T0 := SStep.refl hs
  have hr1 := fun W : World => (Tryz.strings_Repeat ⟨#[110]⟩ 101 W (by omega) (by decide) : Calls Tryz.prog 19 #[.string ⟨#[110]⟩, .int .i64 101] W fun e w' => e = .returned (.string ⟨(Lib.repeatL [110] 101).toArray⟩) ∧ Below W.heap.size W w')
  have z1 : (⟨(Lib.repeatL [110] 101).toArray⟩ : ByteArray).size ≤ 101 := by
    have := Lib.repeatL_length [110] 101
    simp only [ByteArray.size, List.size_toArray]; simp at this; omega
  generalize (⟨(Lib.repeatL [110] 101).toArray⟩ : ByteArray) = S1 at *
  have HR1 := Lib.hid hr1
  have HZ1 := Lib.hid z1
  clear hr1 z1
  go_enter Tryz.func48, Tryz.ntmps48
  go_wp2_with fail
  refine (pick_any [0, 1, 1, 2, 2, 3] b _ w.heap.size 6 _ (T0.alloc _).inv (by omega) (Blk.new _ _ _) rfl (by omega) (by omega)).mono ?_
  rintro e w1 ⟨m, rfl, mm, h1⟩
  have hm : 0 ≤ m ∧ m ≤ 3 := by simp at mm; omega
  obtain ⟨m, rfl⟩ := Int.eq_ofNat_of_zero_le hm.1
  have hm3 : m ≤ 3 := by omega
  have T1 := (T0.alloc _).trans h1
  clear mm h1 hm
  go_wp2_with fail
  go_loopw [7, 3] (fun i s wr => ∃ (j c : Nat) (A : Option Addr) (qs : List St), j ≤ m ∧ i = .int .i64 j ∧ s = .slice A j c ∧ (j = 0 → A = none ∧ c = 0) ∧ Own wr w.heap.size 60 3 St.enc A j c qs ∧ Hid (∀ s ∈ qs, s.name.size ≤ 100000) ∧ SStep b w wr (k + 1 + 2 * j)) (fun i _ _ => m - (intOf i).toNat)
  case atStart => exact ⟨0, 0, none, [], Nat.zero_le _, rfl, rfl, fun _ => ⟨rfl, rfl⟩, Own.nil, Lib.hid (by simp), T1⟩
  case round =>
    rename_i wr
    clear T1 T0
    obtain ⟨j, c, A, qs, hj, rfl, rfl, hz0, own, HV, T⟩ := hrel
    by_cases hlt : j < m
    · go_wp2_with fail
      refine (flip_any b _ _ _ T.inv (by omega) (by omega) (by omega)).mono ?_
      rintro e w6 ⟨f, rfl, h6⟩
      have own6 := own.mod h6.only (fun g e => by have := (own.far' g e).1; omega)
      have T6 := T.trans h6
      clear h6 T own
      have own := own6
      have T := T6
      clear own6 T6
      cases f with
      | true =>
        go_wp2_with fail
        refine (pick_any [0, 0, 1, 2, 5] b _ w6.heap.size 5 _ (T.alloc _).inv (by omega) (Blk.new _ _ _) rfl (by omega) (by omega)).mono ?_
        rintro e w9 ⟨x, rfl, mx, hx⟩
        have ownX := own.mod hx.only.pre.1 (fun g e => by have := (own.far' g e).1; omega)
        have T' := (T.alloc _).trans hx
        clear own T hx mx
        have own := ownX
        have T := T'
        clear ownX T'
        have hzz := T.only.size
        go_wp2_with (at_builtin; refine wpList_push rfl _ _ _ rfl 32 Tryz.underlying54 einfo_step rfl (own.alloc _) ⟨false, ⟨#[]⟩, x⟩ w9.heap.size rfl (Blk.new _ _ _) (fun j hj => St.one _ j hj) (by omega) (by omega) (by simp; omega) ?_; intro g1 cap w8 own8 hm8 hat8 hlt8)
        have T8 := (T.alloc (.cells #[.bool false, .string ⟨#[]⟩, .int .i64 x] 60)).mod hm8 (fun i e => by have := ((own.alloc (.cells #[.bool false, .string ⟨#[]⟩, .int .i64 x] 60)).far' i e).1; omega)
        clear hm8 hat8 own T
        go_roundw
        case rel =>
          refine ⟨j + 1, cap, some ⟨g1, 0, none⟩, qs ++ [⟨false, ⟨#[]⟩, x⟩], by omega, by go_num, rfl, fun e => absurd e (by omega), own8, Lib.hid ?_, T8.more (by omega)⟩
          intro s hs
          rcases List.mem_append.1 hs with h | h
          · exact HV.out s h
          · rw [List.mem_singleton.1 h]; exact (show (⟨#[]⟩ : ByteArray).size ≤ 100000 by decide)
        case measure => simp [intOf]; omega
      | false =>
        go_wp2_with fail
        refine (some_any [⟨#[97]⟩, ⟨#[98]⟩, ⟨#[99, 32, 100]⟩, ⟨#[]⟩, ⟨#[110]⟩, ⟨#[122]⟩] b _ w6.heap.size 6 _ (T.alloc _).inv (by omega) (Blk.new _ _ _) rfl (by omega) (by omega)).mono ?_
        rintro e w9 ⟨x, rfl, mx, hx⟩
        have hz : x.size ≤ 100000 := by
          simp only [List.mem_cons, List.not_mem_nil, or_false] at mx
          rcases mx with rfl | rfl | rfl | rfl | rfl | rfl <;> decide
        have ownX := own.mod hx.only.pre.1 (fun g e => by have := (own.far' g e).1; omega)
        have T' := (T.alloc _).trans hx
        clear own T hx mx
        have own := ownX
        have T := T'
        clear ownX T'
        have hzz := T.only.size
        go_wp2_with (at_builtin; refine wpList_push rfl _ _ _ rfl 32 Tryz.underlying54 einfo_step rfl (own.alloc _) ⟨true, x, 0⟩ w9.heap.size rfl (Blk.new _ _ _) (fun j hj => St.one _ j hj) (by omega) (by omega) (by simp; omega) ?_; intro g1 cap w8 own8 hm8 hat8 hlt8)
        have T8 := (T.alloc (.cells #[.bool true, .string x, .int .i64 0] 60)).mod hm8 (fun i e => by have := ((own.alloc (.cells #[.bool true, .string x, .int .i64 0] 60)).far' i e).1; omega)
        clear hm8 hat8 own T
        go_roundw
        case rel =>
          refine ⟨j + 1, cap, some ⟨g1, 0, none⟩, qs ++ [⟨true, x, 0⟩], by omega, by go_num, rfl, fun e => absurd e (by omega), own8, Lib.hid ?_, T8.more (by omega)⟩
          intro s hs
          rcases List.mem_append.1 hs with h | h
          · exact HV.out s h
          · rw [List.mem_singleton.1 h]; exact (show x.size ≤ 100000 from hz)
        case measure => simp [intOf]; omega
    · obtain rfl : m = j := by omega
      go_wp2_with fail
      refine (flip_any b _ _ _ T.inv (by omega) (by omega) (by omega)).mono ?_
      rintro e w6 ⟨f, rfl, h6⟩
      have own6 := own.mod h6.only (fun g e => by have := (own.far' g e).1; omega)
      have T6 := T.trans h6
      clear h6 T own
      have own := own6
      have T := T6
      clear own6 T6
      cases f with
      | false =>
        go_wp2_with fail
        go_ret
        exact ⟨⟨A, m, c⟩, rfl, ⟨qs, own.sl, by simp only; omega, own.cap, own.noneC, HV.out⟩, hz0, T.more (by omega)⟩
      | true =>
        go_wp2_with fail
        refine (flip_any b _ _ _ T.inv (by omega) (by omega) (by omega)).mono ?_
        rintro e w7 ⟨f2, rfl, h7⟩
        have own7 := own.mod h7.only (fun g e => by have := (own.far' g e).1; omega)
        have T7 := T.trans h7
        clear h7 T own
        have hr2 := HR1.out w7
        go_wp2_with fail
        refine hr2.mono ?_
        clear hr2
        rintro e w8 ⟨rfl, hb8⟩
        have m8 : New w7 w8 := Mod.of_below hb8
        have own8 := own7.new m8
        have T8 := T7.new m8
        clear hb8 m8 own7 T7
        have own := own8
        have T := T8
        clear own8 T8
        have hsm := some_any [⟨#[]⟩, ⟨#[97]⟩, ⟨#[255]⟩, S1] b _ w8.heap.size 4 _ (T.alloc _).inv (by omega) (Blk.new _ _ _) rfl (by omega) (by omega)
        go_wp2_with fail
        refine hsm.mono ?_
        clear hsm
        rintro e w5 ⟨q, rfl, mx, hx⟩
        have hq : q.size ≤ 100000 := by
          have := HZ1.out
          simp only [List.mem_cons, List.not_mem_nil, or_false] at mx
          rcases mx with rfl | rfl | rfl | rfl
          · decide
          · decide
          · decide
          · omega
        have ownX := own.mod hx.only.pre.1 (fun g e => by have := (own.far' g e).1; omega)
        have T' := (T.alloc _).trans hx
        clear own T hx mx
        have own := ownX
        have T := T'
        clear ownX T'
        have hod := odd_any2 b _ 0 5000 w5 T.inv (by omega) (by omega) (by omega) (by omega)
        go_wp2_with fail
        refine hod.mono ?_
        clear hod
        rintro e w9 ⟨a, rfl, a1, a2, h9⟩
        have own9 := own.mod h9.only (fun g e => by have := (own.far' g e).1; omega)
        have T9 := T.trans h9
        clear h9 T own
        have own := own9
        have T := T9
        clear own9 T9
        have hzz := T.only.size
        go_wp2_with (at_builtin; refine wpList_push rfl _ _ _ rfl 32 Tryz.underlying54 einfo_step rfl (own.alloc _) ⟨f2, q, a⟩ w9.heap.size rfl (Blk.new _ _ _) (fun j hj => St.one _ j hj) (by omega) (by omega) (by simp; omega) ?_; intro g1 cap w8 own8 hm8 hat8 hlt8)
        have T8 := (T.alloc (.cells #[.bool f2, .string q, .int .i64 a] 60)).mod hm8 (fun i e => by have := ((own.alloc (.cells #[.bool f2, .string q, .int .i64 a] 60)).far' i e).1; omega)
        clear hm8 hat8 own T
        go_ret
        refine ⟨⟨some ⟨g1, 0, none⟩, m + 1, cap⟩, rfl, ⟨qs ++ [⟨f2, q, a⟩], own8.sl, by simp only; omega, own8.cap, own8.noneC, fun s hs => ?_⟩, fun e => absurd e (by simp only; omega), T8.more (by omega)⟩
        rcases List.mem_append.1 hs with h | h
        · exact HV.out s h
        · rw [List.mem_singleton.1 h]; exact hq

set_option maxRecDepth 100000 in
set_option maxHeartbeats 1000000 in
theorem stream_pathTo (d b k : Nat) (x : VA) (v : VT) (w : World) (hs : SInv b w k) (hk : k + 60 < 4611686018426000000) (ht : Tree w (fun _ => True) d x v) (hw : Wide 100 d v) (hW : vW d v ≤ 70000) (hd : d ≤ 800) :
    Calls Tryz.prog 26 #[.pointer (some ⟨b, 0, none⟩), x.val] w (RPathM b w (d + 4) (k + 40)) := by
  have hb := hs.lt
  have T0 := SStep.refl hs
  obtain ⟨xk, xf, xn, xw, xla, xln, xlc, xma, xmn, xmc⟩ := x
  have hx := Blk.new w 29 #[.int .i64 xk, .bool xf, .int .i64 xn, .string xw, .slice xla xln xlc, .slice xma xmn xmc]
  have m1 : New w (w.alloc (.cells #[.int .i64 xk, .bool xf, .int .i64 xn, .string xw, .slice xla xln xlc, .slice xma xmn xmc] 29)) := (Mod.refl _ _).alloc _
  have hlv := leaves_v d ⟨xk, xf, xn, xw, xla, xln, xlc, xma, xmn, xmc⟩ v none 0 0 [] _ (ht.new m1) hw Sl.nil (by omega) (by simp) hW
  have T1 := T0.new m1
  go_enter Tryz.func26, Tryz.ntmps26
  go_upto_region 1 with (fail)
  generalize w.alloc (.cells #[.int .i64 xk, .bool xf, .int .i64 xn, .string xw, .slice xla xln xlc, .slice xma xmn xmc] 29) = w1 at *
  have e0 := hx.cell 0
  have e1 := hx.cell 1
  have e2 := hx.cell 2
  have e3 := hx.cell 3
  have e4 := hx.cell 4
  have e5 := hx.cell 5
  have el := hx.lt
  simp only [List.getElem?_toArray, List.getElem?_cons_zero, List.getElem?_cons_succ] at e0 e1 e2 e3 e4 e5
  clear hx ht hw m1 T0
  go_wp2_with fail
  refine hlv.mono ?_
  clear hlv e0 e1 e2 e3 e4 e5 el
  rintro e w2 ⟨A, nq, cq, qs, rfl, hsl, hpk, hn0, hnW, hcap, m2⟩
  have T2 := T1.new m2
  clear m2 T1
  have hnx := next_any b _ (nq : Int) w2 T2.inv (by omega) (by omega) (by omega)
  go_wp2_with fail
  refine hnx.mono ?_
  clear hnx
  rintro e w3 ⟨i, rfl, hi1, hi2, h3⟩
  obtain ⟨i, rfl⟩ := Int.eq_ofNat_of_zero_le hi1
  have htb := T2.inv.tb
  have hty : ∀ g, TB w2 g 54 → ¬ g = b := fun g h e => h.ne htb (by decide) e
  have hty2 : ∀ g, TB w2 g 60 → ¬ g = b := fun g h e => h.ne htb (by decide) e
  have hsl3 := hsl.mod h3.only hty
  have hix : i < qs.length := by have := hsl.1; omega
  have hpi := (hpk _ (List.getElem_mem hix)).mod h3.only hty2
  obtain ⟨g, o, hA, htb3, hc0⟩ := hsl3.2 (by omega)
  subst hA
  have hgl := htb3.lt
  have hc := hc0 i hix 0 (by omega)
  have T3 := T2.trans h3
  clear hsl3 hc0 htb3 hsl hpk hty hty2 htb h3 T2
  generalize qs[i] = q at *
  obtain ⟨pa, pn, pc⟩ := q
  simp only [PA.enc, Nat.mul_one, Nat.add_zero] at hc
  have hb1 : (0 : Int) ≤ i := by omega
  have hb2 : (i : Int) < nq := by omega
  have hb3 : i < nq := by omega
  obtain ⟨ps, hps, hpn, hpc, hpz, hpm⟩ := hpi
  simp only at hps hpn hpc hpz
  have hrg := range_any b _ 0 (pn : Int) w3 T3.inv (by omega) (by omega) (by omega) (by omega)
  go_wp2_with fail
  refine hrg.mono ?_
  clear hrg hc
  rintro e w4 ⟨r, rfl, hr1, hr2, h4⟩
  obtain ⟨r, rfl⟩ := Int.eq_ofNat_of_zero_le hr1
  have htb := T3.inv.tb
  have hps4 := hps.mod h4.only (fun g h e => h.ne htb (by decide) e)
  have T4 := T3.trans h4
  have hrp : r ≤ pn := by omega
  clear hps h4 T3 hb1 hb2 hb3 hgl
  have hb4 : (0 : Int) ≤ r := by omega
  have hb5 : (r : Int) ≤ pc := by omega
  have hb6 : r ≤ pc := by omega
  have hfl := flip_any b _ 3 w4 T4.inv (by omega) (by omega) (by omega)
  have hpq : PthOk w4 d ⟨pa, r, pc⟩ := ⟨ps.take r, hps4.pre hrp, by simp only; omega, by simp only; omega, hpz, fun s h => hpm s (List.mem_of_mem_take h)⟩
  have HPQ := Lib.hid hpq
  have hz0 : r = 0 → pn = pn := fun _ => rfl
  clear hps4 hpq hpm
  cases pa with
  | none =>
    obtain rfl : pc = 0 := hpz rfl
    obtain rfl : r = 0 := by omega
    clear hpz
    go_wp2_with fail
    refine hfl.mono ?_
    clear hfl
    rintro e w5 ⟨f, rfl, h5⟩
    have HP5 := Lib.hid (HPQ.out.stream h5 T4.inv.tb)
    have T5 := T4.trans h5
    clear h5 T4 HPQ
    cases f with
    | false =>
      go_wp2_with fail
      go_ret
      exact ⟨⟨none, 0, 0⟩, rfl, HP5.out.le (by omega), T5.more (by omega)⟩
    | true =>
      obtain ⟨ps5, q1, q2, q3, q4, q5⟩ := HP5.out
      have hcl := cloneS ps5 none 0 0 w5 q1 (by simp only at q2; omega)
      have HQ5 := Lib.hid q5
      simp only at q2
      clear q1 q3 q4 q5
      go_wp2_with fail
      refine hcl.mono ?_
      clear hcl
      rintro e w6 ⟨A6, c6, rfl, own6, m6⟩
      have T6 := T5.new m6
      have hsz5 := T5.only.size
      have hs56 := m6.size
      clear m6 T5
      have hpp := stream_path b _ w6 T6.inv (by omega)
      go_wp2_with fail
      refine hpp.mono ?_
      clear hpp
      rintro e w7 ⟨⟨A7, n7, c7⟩, rfl, hp7, hz7, h7⟩
      have own7 := own6.mod h7.only (fun g e => by have := (own6.far' g e).1; omega)
      have T7 := T6.trans h7
      have hs57 := Nat.le_trans hs56 h7.only.size
      clear h7 T6 own6
      obtain ⟨ps7, q1, q6, q7, -, q5⟩ := hp7
      simp only at q1 q6 hz7
      have HQ7 := Lib.hid q5
      clear q5 q7
      rcases Nat.eq_zero_or_pos n7 with h0 | h0
      · obtain ⟨rfl, rfl⟩ := hz7 h0
        subst h0
        obtain ⟨i9, z9, hi9, _⟩ := einfo_step
        have hap := fun ty => append_nil' (P := Tryz.prog) Tryz.underlying54 hi9 A6 0 c6 own7.cap ty w7
        have HOW := Lib.hid own7
        clear own7 q1 hz7
        go_wp2_with (at_builtin; refine wpList_append_by2 rfl _ _ 54 54 rfl rfl rfl hap ?_)
        go_ret
        exact ⟨⟨A6, 0, c6⟩, rfl, ⟨ps5, HOW.out.sl, by simp only; omega, HOW.out.cap, HOW.out.noneC, HQ5.out⟩, T7.more (by omega)⟩
      · obtain ⟨g7, o7, hA7, -, -⟩ := q1.2 h0
        subst hA7
        clear hz7
        have hsz7 := T7.only.size
        have hsz75 : w5.heap.size ≤ w7.heap.size := hs57
        go_wp2_with (at_builtin; refine wpList_pushAll rfl _ _ _ rfl 32 Tryz.underlying54 einfo_step rfl own7 ps7 g7 o7 n7 c7 rfl q1 h0 (fun y _ j hj => St.one y j hj) (by omega) (by omega) (by omega) ?_; intro g1 cap w8 own8 hm8 hat8 hlt8)
        have T8 := T7.mod hm8 (fun i e => by have := (own7.far' i e).1; omega)
        go_ret
        refine ⟨⟨some ⟨g1, 0, none⟩, 0 + n7, cap⟩, (by first | rfl | (simp only [Nat.zero_add]; rfl)), ⟨ps5 ++ ps7, own8.sl, by simp only; omega, own8.cap, own8.noneC, fun s hs => ?_⟩, T8.more (by omega)⟩
        rcases List.mem_append.1 hs with h | h
        · exact HQ5.out s h
        · exact HQ7.out s h
  | some a =>
    clear hpz
    go_wp2_with fail
    refine hfl.mono ?_
    clear hfl
    rintro e w5 ⟨f, rfl, h5⟩
    have HP5 := Lib.hid (HPQ.out.stream h5 T4.inv.tb)
    have T5 := T4.trans h5
    clear h5 T4 HPQ
    cases f with
    | false =>
      go_wp2_with fail
      go_ret
      exact ⟨⟨(some a), r, pc⟩, rfl, HP5.out.le (by omega), T5.more (by omega)⟩
    | true =>
      obtain ⟨ps5, q1, q2, q3, q4, q5⟩ := HP5.out
      have hcl := cloneS ps5 (some a) r pc w5 q1 (by simp only at q2; omega)
      have HQ5 := Lib.hid q5
      simp only at q2
      clear q1 q3 q4 q5
      go_wp2_with fail
      refine hcl.mono ?_
      clear hcl
      rintro e w6 ⟨A6, c6, rfl, own6, m6⟩
      have T6 := T5.new m6
      have hsz5 := T5.only.size
      have hs56 := m6.size
      clear m6 T5
      have hpp := stream_path b _ w6 T6.inv (by omega)
      go_wp2_with fail
      refine hpp.mono ?_
      clear hpp
      rintro e w7 ⟨⟨A7, n7, c7⟩, rfl, hp7, hz7, h7⟩
      have own7 := own6.mod h7.only (fun g e => by have := (own6.far' g e).1; omega)
      have T7 := T6.trans h7
      have hs57 := Nat.le_trans hs56 h7.only.size
      clear h7 T6 own6
      obtain ⟨ps7, q1, q6, q7, -, q5⟩ := hp7
      simp only at q1 q6 hz7
      have HQ7 := Lib.hid q5
      clear q5 q7
      rcases Nat.eq_zero_or_pos n7 with h0 | h0
      · obtain ⟨rfl, rfl⟩ := hz7 h0
        subst h0
        obtain ⟨i9, z9, hi9, _⟩ := einfo_step
        have hap := fun ty => append_nil' (P := Tryz.prog) Tryz.underlying54 hi9 A6 r c6 own7.cap ty w7
        have HOW := Lib.hid own7
        clear own7 q1 hz7
        go_wp2_with (at_builtin; refine wpList_append_by2 rfl _ _ 54 54 rfl rfl rfl hap ?_)
        go_ret
        exact ⟨⟨A6, r, c6⟩, rfl, ⟨ps5, HOW.out.sl, by simp only; omega, HOW.out.cap, HOW.out.noneC, HQ5.out⟩, T7.more (by omega)⟩
      · obtain ⟨g7, o7, hA7, -, -⟩ := q1.2 h0
        subst hA7
        clear hz7
        have hsz7 := T7.only.size
        have hsz75 : w5.heap.size ≤ w7.heap.size := hs57
        go_wp2_with (at_builtin; refine wpList_pushAll rfl _ _ _ rfl 32 Tryz.underlying54 einfo_step rfl own7 ps7 g7 o7 n7 c7 rfl q1 h0 (fun y _ j hj => St.one y j hj) (by omega) (by omega) (by omega) ?_; intro g1 cap w8 own8 hm8 hat8 hlt8)
        have T8 := T7.mod hm8 (fun i e => by have := (own7.far' i e).1; omega)
        go_ret
        refine ⟨⟨some ⟨g1, 0, none⟩, r + n7, cap⟩, (by first | rfl | (simp only [Nat.zero_add]; rfl)), ⟨ps5 ++ ps7, own8.sl, by simp only; omega, own8.cap, own8.noneC, fun s hs => ?_⟩, T8.more (by omega)⟩
        rcases List.mem_append.1 hs with h | h
        · exact HQ5.out s h
        · exact HQ7.out s h

end Go.Proofs.YtahofcopedlenaaGreatDoor

namespace Go.Proofs.YtahofcopedlenaaGreatDoor
open Go.RowKit
set_option linter.unusedVariables false
set_option linter.unusedSimpArgs false

theorem einfo_change : EInfo Tryz.prog 57 8 120 := EInfo.of (z := .agg #[.int .i64 0, .slice none 0 0, .int .i64 0, .bool false, .int .i64 0, .string ⟨#[]⟩, .slice none 0 0, .slice none 0 0]) (by kernel_rfl) rfl (by decide)
/-- a change that the stream has made -/
def ChOk (w : World) (y : CA) : Prop := PthOk w 70 ⟨y.pa, y.pn, y.pc⟩ ∧ ValAt w (fun _ => True) 70000 7 y.v
theorem ValAt.byType {w w' : World} {S : Nat → Prop} {W m : Nat} {x : VA} (h : ValAt w (fun _ => True) W m x) (hm : Mod S w w') (h1 : ∀ g, TB w g 29 → ¬ S g) (h2 : ∀ g, TB w g 49 → ¬ S g) : ValAt w' (fun _ => True) W m x := by
  obtain ⟨v, a1, a2, a3⟩ := h
  exact ⟨v, Tree.mod hm (fun g _ hg e => by
    rcases hg with hg | hg
    · exact h1 g hg e
    · exact h2 g hg e) _ _ _ a1, a2, a3⟩
theorem ValAt.new {w w' : World} {W m : Nat} {x : VA} (h : ValAt w (fun _ => True) W m x) (hm : New w w') : ValAt w' (fun _ => True) W m x := h.byType hm (fun _ _ e => e) (fun _ _ e => e)
theorem ChOk.byType {w w' : World} {S : Nat → Prop} {y : CA} (h : ChOk w y) (hm : Mod S w w') (h0 : ∀ g, TB w g 60 → ¬ S g) (h1 : ∀ g, TB w g 29 → ¬ S g) (h2 : ∀ g, TB w g 49 → ¬ S g) : ChOk w' y :=
  ⟨h.1.mod hm h0, h.2.byType hm h1 h2⟩
theorem ChOk.new {w w' : World} {y : CA} (h : ChOk w y) (hm : New w w') : ChOk w' y := h.byType hm (fun _ _ e => e) (fun _ _ e => e) (fun _ _ e => e)
/-- a block of another type than a value's -/
theorem ChOk.only {w w' : World} {y : CA} {b : Nat} {t : TypeId} (h : ChOk w y) (hm : Only b w w') (hb : TB w b t) (h0 : 60 ≠ t) (h1 : 29 ≠ t) (h2 : 49 ≠ t) : ChOk w' y :=
  h.byType hm (fun g hg e => hg.ne hb h0 e) (fun g hg e => hg.ne hb h1 e) (fun g hg e => hg.ne hb h2 e)
theorem ValAt.only' {w w' : World} {W m : Nat} {x : VA} {b : Nat} {t : TypeId} (h : ValAt w (fun _ => True) W m x) (hm : Only b w w') (hb : TB w b t) (h1 : 29 ≠ t) (h2 : 49 ≠ t) : ValAt w' (fun _ => True) W m x :=
  h.byType hm (fun g hg e => hg.ne hb h1 e) (fun g hg e => hg.ne hb h2 e)
theorem PthOk.only' {w w' : World} {L : Nat} {x : PA} {b : Nat} {t : TypeId} (h : PthOk w L x) (hm : Only b w w') (hb : TB w b t) (h0 : 60 ≠ t) : PthOk w' L x := h.mod hm (fun g hg e => hg.ne hb h0 e)
theorem Blk.copy8 {W : World} {g : Nat} {T : TypeId} {x1 x2 x3 x4 x5 x6 x7 x8 : Value} (hb : Blk W g T #[x1, x2, x3, x4, x5, x6, x7, x8]) (u1 u2 u3 u4 u5 u6 u7 u8 : Value) : Blk ((((((((W.setCell ⟨g, 0, none⟩ u1).setCell ⟨g, 1, none⟩ u2).setCell ⟨g, 2, none⟩ u3).setCell ⟨g, 3, none⟩ u4).setCell ⟨g, 4, none⟩ u5).setCell ⟨g, 5, none⟩ u6).setCell ⟨g, 6, none⟩ u7).setCell ⟨g, 7, none⟩ u8) g T #[u1, u2, u3, u4, u5, u6, u7, u8] := by
  simpa using (((((((hb.set 0 u1).set 1 u2).set 2 u3).set 3 u4).set 4 u5).set 5 u6).set 6 u7).set 7 u8
theorem Only.cell8 (w : World) (g : Nat) (u1 u2 u3 u4 u5 u6 u7 u8 : Value) : Only g w ((((((((w.setCell ⟨g, 0, none⟩ u1).setCell ⟨g, 1, none⟩ u2).setCell ⟨g, 2, none⟩ u3).setCell ⟨g, 3, none⟩ u4).setCell ⟨g, 4, none⟩ u5).setCell ⟨g, 5, none⟩ u6).setCell ⟨g, 6, none⟩ u7).setCell ⟨g, 7, none⟩ u8) :=
  (((((((Only.set (Mod.refl _ _) _ _).set _ _).set _ _).set _ _).set _ _).set _ _).set _ _).set _ _
/-- what the loop keeps -/
structure ChInv (w : World) (b xb : Nat) (xc : Array Value) (d : Nat) (x : VA) (v : VT) (A : Option Addr) (j c k : Nat) (wr : World) : Prop where
  box : Blk wr xb 29 xc
  row : ∃ cas : List CA, Own wr (xb + 1) 57 8 CA.enc A j c cas ∧ ∀ y ∈ cas, ChOk wr y
  tree : Tree wr (fun g => g < xb) d x v
  step : SStep b w wr k
theorem Blk.copyV {W : World} {g : Nat} {T : TypeId} {x1 x2 x3 x4 x5 x6 x7 x8 : Value} (hb : Blk W g T #[x1, x2, x3, x4, x5, x6, x7, x8]) (u3 u4 u5 u6 u7 u8 : Value) : Blk ((((((W.setCell ⟨g, 2, none⟩ u3).setCell ⟨g, 3, none⟩ u4).setCell ⟨g, 4, none⟩ u5).setCell ⟨g, 5, none⟩ u6).setCell ⟨g, 6, none⟩ u7).setCell ⟨g, 7, none⟩ u8) g T #[x1, x2, u3, u4, u5, u6, u7, u8] := by
  simpa using (((((hb.set 2 u3).set 3 u4).set 4 u5).set 5 u6).set 6 u7).set 7 u8
theorem Only.cellV (w : World) (g : Nat) (u3 u4 u5 u6 u7 u8 : Value) : Only g w ((((((w.setCell ⟨g, 2, none⟩ u3).setCell ⟨g, 3, none⟩ u4).setCell ⟨g, 4, none⟩ u5).setCell ⟨g, 5, none⟩ u6).setCell ⟨g, 6, none⟩ u7).setCell ⟨g, 7, none⟩ u8) :=
  (((((Only.set (Mod.refl _ _) _ _).set _ _).set _ _).set _ _).set _ _).set _ _
theorem ValAt.nil (w : World) (m : Nat) : ValAt w (fun _ => True) 70000 m nilVA :=
  ⟨nilV, nil_tree _ _ _, by show 40 ≤ 70000; omega, Nat.zero_le _, Nat.zero_le _, by show (⟨#[]⟩ : ByteArray).size ≤ 100000; decide, fun x hx => by simp [nilV, VT.list] at hx, fun x hx => by simp [nilV, VT.mem] at hx⟩
/-- stores of a change's kind and value -/
theorem flat_set8kv (k : Int) (y : VA) : ∀ (xs : List CA) (i : Nat) (h : i < xs.length),
    (((((((xs.flatMap (encL 8 CA.enc)).set (i * 8) (.int .i64 k)).set (i * 8 + 2) (y.enc 0)).set (i * 8 + 3) (y.enc 1)).set (i * 8 + 4) (y.enc 2)).set (i * 8 + 5) (y.enc 3)).set (i * 8 + 6) (y.enc 4)).set (i * 8 + 7) (y.enc 5) = (xs.set i ⟨k, xs[i].pa, xs[i].pn, xs[i].pc, y⟩).flatMap (encL 8 CA.enc)
  | [], i, h => by simp at h
  | x :: xs, 0, _ => by simp [encL, List.range_succ, List.range_zero, CA.enc]
  | x :: xs, i + 1, h => by
    have ih := flat_set8kv k y xs i (by simpa using h)
    have e : (i + 1) * 8 = i * 8 + 8 := by omega
    rw [e, show i * 8 + 8 + 2 = i * 8 + 2 + 8 by omega, show i * 8 + 8 + 3 = i * 8 + 3 + 8 by omega, show i * 8 + 8 + 4 = i * 8 + 4 + 8 by omega, show i * 8 + 8 + 5 = i * 8 + 5 + 8 by omega, show i * 8 + 8 + 6 = i * 8 + 6 + 8 by omega, show i * 8 + 8 + 7 = i * 8 + 7 + 8 by omega]
    simp only [List.flatMap_cons, List.set_cons_succ, List.getElem_cons_succ]
    rw [← ih]
    simp [encL, List.range_succ, List.range_zero]
theorem Own.set8kv {w : World} {B : Nat} {t : TypeId} {n c g : Nat} {xs : List CA} (h : Own w B t 8 CA.enc (some ⟨g, 0, none⟩) n c xs) {i : Nat} (hi : i < xs.length) (k : Int) (y : VA) :
    Own (((((((w.setCell ⟨g, i * 8, none⟩ (.int .i64 k)).setCell ⟨g, i * 8 + 2, none⟩ (y.enc 0)).setCell ⟨g, i * 8 + 3, none⟩ (y.enc 1)).setCell ⟨g, i * 8 + 4, none⟩ (y.enc 2)).setCell ⟨g, i * 8 + 5, none⟩ (y.enc 3)).setCell ⟨g, i * 8 + 6, none⟩ (y.enc 4)).setCell ⟨g, i * 8 + 7, none⟩ (y.enc 5)) B t 8 CA.enc (some ⟨g, 0, none⟩) n c (xs.set i ⟨k, xs[i].pa, xs[i].pn, xs[i].pc, y⟩) :=
  ⟨by simpa using h.1, by rw [← flat_set8kv k y xs i hi]; exact (((((((h.2.stored _ _).1.stored _ _).1.stored _ _).1.stored _ _).1.stored _ _).1.stored _ _).1.stored _ _).1⟩
set_option maxRecDepth 100000 in
set_option maxHeartbeats 3000000 in
theorem stream_changes (d b k : Nat) (x : VA) (v : VT) (w : World) (hs : SInv b w k) (hk : k + 20000 < 4611686018426000000) (ht : Tree w (fun _ => True) d x v) (hw : Wide 100 d v) (hW : vW d v ≤ 70000) (hd : d ≤ 60) :
    Calls Tryz.prog 6 #[.pointer (some ⟨b, 0, none⟩), x.val] w fun e w' => ∃ (A : Option Addr) (n c : Nat) (cas : List CA), e = .returned (.slice A n c) ∧ Sl w' 57 8 CA.enc A n cas ∧ (∀ y ∈ cas, ChOk w' y) ∧ n ≤ 3 ∧ SStep b w w' (k + 10000) := by
  have hb := hs.lt
  have T0 := SStep.refl hs
  replace ht := ht.oldG
  have HWD := Lib.hid hw
  obtain ⟨xk, xf, xn, xw, xla, xln, xlc, xma, xmn, xmc⟩ := x
  have hx := Blk.new w 29 #[.int .i64 xk, .bool xf, .int .i64 xn, .string xw, .slice xla xln xlc, .slice xma xmn xmc]
  have m1 : New w (w.alloc (.cells #[.int .i64 xk, .bool xf, .int .i64 xn, .string xw, .slice xla xln xlc, .slice xma xmn xmc] 29)) := (Mod.refl _ _).alloc _
  have T1 := T0.new m1
  have ht1 := Tree.imp (G' := fun g => g < w.heap.size) (fun g hg _ => hg.2) _ _ _ (ht.new m1)
  go_enter Tryz.func6, Tryz.ntmps6
  go_upto_region 1 with (fail)
  generalize w.alloc (.cells #[.int .i64 xk, .bool xf, .int .i64 xn, .string xw, .slice xla xln xlc, .slice xma xmn xmc] 29) = w1 at *
  generalize hxb : w.heap.size = xb at *
  clear ht hw m1 T0
  have hnx := next_any b _ 4 w1 T1.inv (by omega) (by omega) (by omega)
  go_wp2_with fail
  refine hnx.mono ?_
  clear hnx
  rintro e w2 ⟨m, rfl, hm1, hm2, h2⟩
  obtain ⟨m, rfl⟩ := Int.eq_ofNat_of_zero_le hm1
  have hm3 : m ≤ 3 := by omega
  have htb := T1.inv.tb
  have HI0 : Hid (ChInv w b xb #[.int .i64 xk, .bool xf, .int .i64 xn, .string xw, .slice xla xln xlc, .slice xma xmn xmc] d ⟨xk, xf, xn, xw, xla, xln, xlc, xma, xmn, xmc⟩ v none 0 0 (k + 1) w2) := Lib.hid ⟨hx.mod h2.only (by omega), ⟨[], Own.nil, fun q h => absurd h (by simp)⟩, ht1.stream h2 htb, T1.trans h2⟩
  clear hx T1 ht1 h2 htb hm1 hm2
  go_wp2_with fail
  go_loopw [10, 5] (fun i s wr => ∃ (j c : Nat) (A : Option Addr), j ≤ m ∧ i = .int .i64 j ∧ s = .slice A j c ∧ Hid (ChInv w b xb #[.int .i64 xk, .bool xf, .int .i64 xn, .string xw, .slice xla xln xlc, .slice xma xmn xmc] d ⟨xk, xf, xn, xw, xla, xln, xlc, xma, xmn, xmc⟩ v A j c (k + 1 + 200 * j) wr)) (fun i _ _ => m - (intOf i).toNat)
  case atStart => exact ⟨0, 0, none, Nat.zero_le _, rfl, rfl, HI0⟩
  clear HI0
  case round =>
    rename World => wr
    obtain ⟨j, c, A, hj, rfl, rfl, HI⟩ := hrel
    by_cases hlt : j < m
    · have HX := Lib.hid HI.out.box
      have HTR := Lib.hid HI.out.tree
      have HST := Lib.hid HI.out.step
      have HROW := Lib.hid HI.out.row
      clear HI
      have hbx : b < xb := by omega
      have hxr : xb < wr.heap.size := HX.out.lt
      go_upto_region 4 with (fail)
      have HSX : Hid (∀ W, Only b wr W → W.cell? ⟨xb, 0, none⟩ = some (.int .i64 xk) ∧ W.cell? ⟨xb, 1, none⟩ = some (.bool xf) ∧ W.cell? ⟨xb, 2, none⟩ = some (.int .i64 xn) ∧ W.cell? ⟨xb, 3, none⟩ = some (.string xw) ∧ W.cell? ⟨xb, 4, none⟩ = some (.slice xla xln xlc) ∧ W.cell? ⟨xb, 5, none⟩ = some (.slice xma xmn xmc) ∧ xb < W.heap.size) := Lib.hid (fun W hW => by
        have h1 := HX.out.mod hW (by omega)
        exact ⟨(h1.cell 0).trans rfl, (h1.cell 1).trans rfl, (h1.cell 2).trans rfl, (h1.cell 3).trans rfl, (h1.cell 4).trans rfl, (h1.cell 5).trans rfl, h1.lt⟩)
      go_cut [6] (fun s6 wx => ∃ (cb : Nat) (kd : Int) (q : PA), s6 = .pointer (some ⟨cb, 0, none⟩) ∧ 1 ≤ kd ∧ kd ≤ 3 ∧ Hid (Blk wx cb 57 #[.int .i64 kd, .slice q.a q.n q.c, .int .i64 0, .bool false, .int .i64 0, .string ⟨#[]⟩, .slice none 0 0, .slice none 0 0]) ∧ Hid (PthOk wx (d + 4) q) ∧ wr.heap.size ≤ cb ∧ Hid (SStep b wr wx (k + 1 + 200 * j + 41)))
      case first =>
        refine wp_region_held_tree (Only b wr) 7 (by kernel_rfl) (by kernel_rfl) ?_
        have hn0 : Only b wr wr.drew := (Mod.refl _ _).drew
        have HS : Hid (SStep b wr wr.drew (k + 1 + 200 * j)) := Lib.hid ((SStep.refl HST.out.inv).drew)
        refine headW_take 0 _ ?_ (fun _ _ d _ _ h => by cases d <;> exact h) (by kernel_rfl) rfl (by kernel_rfl) hn0 (by rfl) (fun W hSw => ?_) ?_
        rotate_left
        · (have hq := HSX.out W hSw); (try simp only [List.getElem_toArray, List.getElem_cons_zero, List.getElem_cons_succ]); go_simp; any_goals (with_reducible rfl)
        simp only [Act.put, List.getElem_toArray, List.getElem_cons_zero, List.getElem_cons_succ, List.setIfInBounds_toArray, List.set_cons_zero, List.set_cons_succ]
        refine headW_take 2 _ ?_ (fun _ _ d _ _ h => by cases d <;> exact h) (by kernel_rfl) rfl (by kernel_rfl) hn0 (by rfl) (fun W hSw => ?_) ?_
        rotate_left
        · (have hq := HSX.out W hSw); (try simp only [List.getElem_toArray, List.getElem_cons_zero, List.getElem_cons_succ]); go_simp; any_goals (with_reducible rfl)
        simp only [Act.put, List.getElem_toArray, List.getElem_cons_zero, List.getElem_cons_succ, List.setIfInBounds_toArray, List.set_cons_zero, List.set_cons_succ]
        refine headW_take 3 _ ?_ (fun _ _ d _ _ h => by cases d <;> exact h) (by kernel_rfl) rfl (by kernel_rfl) hn0 (by rfl) (fun W hSw => ?_) ?_
        rotate_left
        · (have hq := HSX.out W hSw); (try simp only [List.getElem_toArray, List.getElem_cons_zero, List.getElem_cons_succ]); go_simp; any_goals (with_reducible rfl)
        simp only [Act.put, List.getElem_toArray, List.getElem_cons_zero, List.getElem_cons_succ, List.setIfInBounds_toArray, List.set_cons_zero, List.set_cons_succ]
        clear hn0
        refine headW_ready [1, 6] (by kernel_rfl) (by rfl) ?_
        refine eachW_step rfl rfl (fun K hK => ?_) (eachW_step rfl rfl (fun K hK => ?_) eachW_nil)
        · have hrg := range_any b _ 1 3 wr.drew HS.out.inv (by omega) (by omega) (by omega) (by omega)
          (try simp only [List.getElem_toArray, List.getElem_cons_zero, List.getElem_cons_succ])
          go_simp
          refine hrg.mono ?_
          clear hrg
          rintro e w5 ⟨kd, rfl, hk1, hk2, h5⟩
          have HS5 := Lib.hid (HS.out.trans h5)
          clear HS h5
          have HS := HS5
          clear HS5
          go_wp2_with fail
          refine hK.out _ _ HS.out.only (fun _ => ?_)
          clear hK K
          (try simp only [Act.put, List.getElem_toArray, List.getElem_cons_zero, List.getElem_cons_succ, List.setIfInBounds_toArray, List.set_cons_zero, List.set_cons_succ])
          refine headW_ready [4, 6] (by kernel_rfl) (by rfl) ?_
          refine eachW_step rfl rfl (fun K hK => ?_) (eachW_step rfl rfl (fun K hK => ?_) eachW_nil)
          · have hpt := stream_pathTo d b _ ⟨xk, xf, xn, xw, xla, xln, xlc, xma, xmn, xmc⟩ v w5 HS.out.inv (by omega) (HTR.out.stream HS.out HST.out.inv.tb).any HWD.out hW (by omega)
            (try simp only [List.getElem_toArray, List.getElem_cons_zero, List.getElem_cons_succ])
            go_simp
            refine hpt.mono ?_
            clear hpt
            rintro e w6 ⟨⟨pa, pn, pc⟩, rfl, hpq, h6⟩
            have HS6 := Lib.hid (HS.out.trans h6)
            have HPQ := Lib.hid hpq
            clear HS h6 hpq
            have HS := HS6
            clear HS6
            go_wp2_with fail
            refine hK.out _ _ HS.out.only (fun _ => ?_)
            clear hK K
            (try simp only [Act.put, List.getElem_toArray, List.getElem_cons_zero, List.getElem_cons_succ, List.setIfInBounds_toArray, List.set_cons_zero, List.set_cons_succ])
            have hny := HS.out.only
            refine headW_take 5 _ ?_ (fun _ _ d _ _ h => by cases d <;> exact h) (by kernel_rfl) rfl (by kernel_rfl) hny (by rfl) (fun W hSw => ?_) ?_
            rotate_left
            · (have hq := HSX.out W hSw); (try simp only [List.getElem_toArray, List.getElem_cons_zero, List.getElem_cons_succ]); go_simp; any_goals (with_reducible rfl)
            simp only [Act.put, List.getElem_toArray, List.getElem_cons_zero, List.getElem_cons_succ, List.setIfInBounds_toArray, List.set_cons_zero, List.set_cons_succ]
            clear hny
            refine headW_ready [6] (by kernel_rfl) (by rfl) ?_
            refine eachW_step rfl rfl (fun K hK => ?_) eachW_nil
            (try simp only [List.getElem_toArray, List.getElem_cons_zero, List.getElem_cons_succ])
            go_simp
            refine hK.out _ _ (HS.out.alloc _).only (fun _ => ?_)
            clear hK K
            (try simp only [Act.put, List.getElem_toArray, List.getElem_cons_zero, List.getElem_cons_succ, List.setIfInBounds_toArray, List.set_cons_zero, List.set_cons_succ])
            refine headW_done (by kernel_rfl) ?_
            go_wp2_with fail
            go_meet
            case rel => exact ⟨_, kd, ⟨pa, pn, pc⟩, rfl, hk1, hk2, Lib.hid (Blk.new _ _ _), Lib.hid (HPQ.out.new ((Mod.refl _ _).alloc _)), HS.out.only.size, Lib.hid ((HS.out.alloc _).more (by omega))⟩
          · have HZ0 : Hid (Blk (w5.alloc (.cells #[.int .i64 0, .slice none 0 0, .int .i64 0, .bool false, .int .i64 0, .string ⟨#[]⟩, .slice none 0 0, .slice none 0 0] 57)) w5.heap.size 57 #[.int .i64 0, .slice none 0 0, .int .i64 0, .bool false, .int .i64 0, .string ⟨#[]⟩, .slice none 0 0, .slice none 0 0]) := Lib.hid (Blk.new _ _ _)
            have HSa := Lib.hid (HS.out.alloc (.cells #[.int .i64 0, .slice none 0 0, .int .i64 0, .bool false, .int .i64 0, .string ⟨#[]⟩, .slice none 0 0, .slice none 0 0] 57))
            have hsz5 := HS.out.only.size
            (try simp only [List.getElem_toArray, List.getElem_cons_zero, List.getElem_cons_succ])
            go_simp
            refine hK.out _ _ HSa.out.only (fun _ => ?_)
            clear hK K HS
            have HS := HSa
            clear HSa
            (try simp only [Act.put, List.getElem_toArray, List.getElem_cons_zero, List.getElem_cons_succ, List.setIfInBounds_toArray, List.set_cons_zero, List.set_cons_succ])
            generalize w5.alloc (.cells #[.int .i64 0, .slice none 0 0, .int .i64 0, .bool false, .int .i64 0, .string ⟨#[]⟩, .slice none 0 0, .slice none 0 0] 57) = wa at *
            generalize w5.heap.size = cb at *
            refine headW_ready [4] (by kernel_rfl) (by rfl) ?_
            refine eachW_step rfl rfl (fun K hK => ?_) eachW_nil
            have hpt := stream_pathTo d b _ ⟨xk, xf, xn, xw, xla, xln, xlc, xma, xmn, xmc⟩ v wa HS.out.inv (by omega) (HTR.out.stream HS.out HST.out.inv.tb).any HWD.out hW (by omega)
            (try simp only [List.getElem_toArray, List.getElem_cons_zero, List.getElem_cons_succ])
            go_simp
            refine hpt.mono ?_
            clear hpt
            rintro e w6 ⟨⟨pa, pn, pc⟩, rfl, hpq, h6⟩
            have HS6 := Lib.hid (HS.out.trans h6)
            have HPQ := Lib.hid hpq
            have HZ := Lib.hid (HZ0.out.mod h6.only (by omega))
            clear HS h6 hpq
            have HS := HS6
            clear HS6
            go_wp2_with fail
            refine hK.out _ _ HS.out.only (fun _ => ?_)
            clear hK K
            (try simp only [Act.put, List.getElem_toArray, List.getElem_cons_zero, List.getElem_cons_succ, List.setIfInBounds_toArray, List.set_cons_zero, List.set_cons_succ])
            have hny := HS.out.only
            refine headW_take 5 _ ?_ (fun _ _ d _ _ h => by cases d <;> exact h) (by kernel_rfl) rfl (by kernel_rfl) hny (by rfl) (fun W hSw => ?_) ?_
            rotate_left
            · (have hq := HSX.out W hSw); (try simp only [List.getElem_toArray, List.getElem_cons_zero, List.getElem_cons_succ]); go_simp; any_goals (with_reducible rfl)
            simp only [Act.put, List.getElem_toArray, List.getElem_cons_zero, List.getElem_cons_succ, List.setIfInBounds_toArray, List.set_cons_zero, List.set_cons_succ]
            clear hny
            have bz := HZ.out
            have z0 := bz.cell 0
            have z1 := bz.cell 1
            have z2 := bz.cell 2
            have z3 := bz.cell 3
            have z4 := bz.cell 4
            have z5 := bz.cell 5
            have z6 := bz.cell 6
            have z7 := bz.cell 7
            have zl := bz.lt
            have zfr := bz.frozen
            simp only [List.getElem?_toArray, List.getElem?_cons_zero, List.getElem?_cons_succ] at z0 z1 z2 z3 z4 z5 z6 z7
            have o9 := Only.cell8 w6 cb (.int .i64 kd) (.slice pa pn pc) (.int .i64 0) (.bool false) (.int .i64 0) (.string ⟨#[]⟩) (.slice none 0 0) (.slice none 0 0)
            refine headW_done (by kernel_rfl) ?_
            go_wp2_with fail
            go_meet
            case rel => exact ⟨cb, kd, ⟨pa, pn, pc⟩, rfl, hk1, hk2, Lib.hid (Blk.copy8 bz _ _ _ _ _ _ _ _), Lib.hid (HPQ.out.only' o9 bz.tb (by decide)), by omega, Lib.hid ((HS.out.mod o9 (fun i e => by omega)).more (by omega))⟩
        · have HB0 : Blk (wr.alloc (.cells #[.int .i64 0, .slice none 0 0, .int .i64 0, .bool false, .int .i64 0, .string ⟨#[]⟩, .slice none 0 0, .slice none 0 0] 57)) wr.heap.size 57 #[.int .i64 0, .slice none 0 0, .int .i64 0, .bool false, .int .i64 0, .string ⟨#[]⟩, .slice none 0 0, .slice none 0 0] := Blk.new _ _ _
          have HSa : Hid (SStep b wr (World.drew (wr.alloc (.cells #[.int .i64 0, .slice none 0 0, .int .i64 0, .bool false, .int .i64 0, .string ⟨#[]⟩, .slice none 0 0, .slice none 0 0] 57))) (k + 1 + 200 * j)) := Lib.hid (((SStep.refl HST.out.inv).alloc _).drew)
          have HZ0 : Hid (Blk (World.drew (wr.alloc (.cells #[.int .i64 0, .slice none 0 0, .int .i64 0, .bool false, .int .i64 0, .string ⟨#[]⟩, .slice none 0 0, .slice none 0 0] 57))) wr.heap.size 57 #[.int .i64 0, .slice none 0 0, .int .i64 0, .bool false, .int .i64 0, .string ⟨#[]⟩, .slice none 0 0, .slice none 0 0]) := Lib.hid (HB0.mod (Mod.drew (Mod.refl (fun _ => False) _)) (fun e => e))
          clear HB0
          (try simp only [List.getElem_toArray, List.getElem_cons_zero, List.getElem_cons_succ])
          go_simp
          refine hK.out _ _ HSa.out.only (fun _ => ?_)
          clear hK K HS
          have HS := HSa
          clear HSa
          (try simp only [Act.put, List.getElem_toArray, List.getElem_cons_zero, List.getElem_cons_succ, List.setIfInBounds_toArray, List.set_cons_zero, List.set_cons_succ])
          generalize World.drew (wr.alloc (.cells #[.int .i64 0, .slice none 0 0, .int .i64 0, .bool false, .int .i64 0, .string ⟨#[]⟩, .slice none 0 0, .slice none 0 0] 57)) = wa at *
          refine headW_ready [1] (by kernel_rfl) (by rfl) ?_
          refine eachW_step rfl rfl (fun K hK => ?_) eachW_nil
          have hrg := range_any b _ 1 3 wa HS.out.inv (by omega) (by omega) (by omega) (by omega)
          (try simp only [List.getElem_toArray, List.getElem_cons_zero, List.getElem_cons_succ])
          go_simp
          refine hrg.mono ?_
          clear hrg
          rintro e w5 ⟨kd, rfl, hk1, hk2, h5⟩
          have HS5 := Lib.hid (HS.out.trans h5)
          have HZ1 := Lib.hid (HZ0.out.mod h5.only (by omega))
          clear HS h5
          have HS := HS5
          clear HS5
          go_wp2_with fail
          refine hK.out _ _ HS.out.only (fun _ => ?_)
          clear hK K
          (try simp only [Act.put, List.getElem_toArray, List.getElem_cons_zero, List.getElem_cons_succ, List.setIfInBounds_toArray, List.set_cons_zero, List.set_cons_succ])
          refine headW_ready [4] (by kernel_rfl) (by rfl) ?_
          refine eachW_step rfl rfl (fun K hK => ?_) eachW_nil
          have hpt := stream_pathTo d b _ ⟨xk, xf, xn, xw, xla, xln, xlc, xma, xmn, xmc⟩ v w5 HS.out.inv (by omega) (HTR.out.stream HS.out HST.out.inv.tb).any HWD.out hW (by omega)
          (try simp only [List.getElem_toArray, List.getElem_cons_zero, List.getElem_cons_succ])
          go_simp
          refine hpt.mono ?_
          clear hpt
          rintro e w6 ⟨⟨pa, pn, pc⟩, rfl, hpq, h6⟩
          have HS6 := Lib.hid (HS.out.trans h6)
          have HPQ := Lib.hid hpq
          have HZ := Lib.hid (HZ1.out.mod h6.only (by omega))
          clear HS h6 hpq
          have HS := HS6
          clear HS6
          go_wp2_with fail
          refine hK.out _ _ HS.out.only (fun _ => ?_)
          clear hK K
          (try simp only [Act.put, List.getElem_toArray, List.getElem_cons_zero, List.getElem_cons_succ, List.setIfInBounds_toArray, List.set_cons_zero, List.set_cons_succ])
          have hny := HS.out.only
          refine headW_take 5 _ ?_ (fun _ _ d _ _ h => by cases d <;> exact h) (by kernel_rfl) rfl (by kernel_rfl) hny (by rfl) (fun W hSw => ?_) ?_
          rotate_left
          · (have hq := HSX.out W hSw); (try simp only [List.getElem_toArray, List.getElem_cons_zero, List.getElem_cons_succ]); go_simp; any_goals (with_reducible rfl)
          simp only [Act.put, List.getElem_toArray, List.getElem_cons_zero, List.getElem_cons_succ, List.setIfInBounds_toArray, List.set_cons_zero, List.set_cons_succ]
          clear hny
          have bz := HZ.out
          have z0 := bz.cell 0
          have z1 := bz.cell 1
          have z2 := bz.cell 2
          have z3 := bz.cell 3
          have z4 := bz.cell 4
          have z5 := bz.cell 5
          have z6 := bz.cell 6
          have z7 := bz.cell 7
          have zl := bz.lt
          have zfr := bz.frozen
          simp only [List.getElem?_toArray, List.getElem?_cons_zero, List.getElem?_cons_succ] at z0 z1 z2 z3 z4 z5 z6 z7
          have o9 := Only.cell8 w6 wr.heap.size (.int .i64 kd) (.slice pa pn pc) (.int .i64 0) (.bool false) (.int .i64 0) (.string ⟨#[]⟩) (.slice none 0 0) (.slice none 0 0)
          refine headW_done (by kernel_rfl) ?_
          go_wp2_with fail
          go_meet
          case rel => exact ⟨wr.heap.size, kd, ⟨pa, pn, pc⟩, rfl, hk1, hk2, Lib.hid (Blk.copy8 bz _ _ _ _ _ _ _ _), Lib.hid (HPQ.out.only' o9 bz.tb (by decide)), by omega, Lib.hid ((HS.out.mod o9 (fun i e => by omega)).more (by omega))⟩
      case rest =>
        rename World => wx
        obtain ⟨cb, kd, ⟨pa, pn, pc⟩, rfl, hk1, hk2, HC, HPQ, hcb, HSX2⟩ := hcut
        clear HSX
        simp only at HC
        have c0 := HC.out.cell 0
        have c1 := HC.out.cell 1
        have c2 := HC.out.cell 2
        have c3 := HC.out.cell 3
        have c4 := HC.out.cell 4
        have c5 := HC.out.cell 5
        have c6 := HC.out.cell 6
        have c7 := HC.out.cell 7
        have cl := HC.out.lt
        have cf := HC.out.frozen
        simp only [List.getElem?_toArray, List.getElem?_cons_zero, List.getElem?_cons_succ] at c0 c1 c2 c3 c4 c5 c6 c7
        go_upto_if 20 with (fail)
        go_cut [] (fun wy => ∃ y : VA, Hid (Blk wy cb 57 #[.int .i64 kd, .slice pa pn pc, .int .i64 y.kind, .bool y.flag, .int .i64 y.num, .string y.words, .slice y.la y.ln y.lc, .slice y.ma y.mn y.mc]) ∧ Hid (PthOk wy (d + 4) ⟨pa, pn, pc⟩) ∧ Hid (ValAt wy (fun _ => True) 70000 7 y) ∧ Hid (SStep b wr wy (k + 1 + 200 * j + 131)))
        case first =>
          by_cases h3 : kd = 3
          · have h3b : (kd != 3) = false := by simpa using h3
            clear h3
            go_wp2_with fail
            go_meet
            case rel => exact ⟨nilVA, HC, HPQ, Lib.hid (ValAt.nil _ _), Lib.hid (HSX2.out.more (by omega))⟩
          · have h3b : (kd != 3) = true := by simpa using h3
            clear h3
            have hrv := stream_rv 1 (by omega) b _ wx HSX2.out.inv (by have : rvK 1 = 90 := rfl; omega)
            clear c0 c1 c2 c3 c4 c5 c6 c7 cl cf
            go_wp2_with fail
            refine hrv.mono ?_
            clear hrv
            rintro e w6 ⟨⟨yk, yf, yn, yw, yla, yln, ylc, yma, ymn, ymc⟩, vy, rfl, hty, hwv, hwd, h6⟩
            have hva : ValAt w6 (fun _ => True) 70000 7 ⟨yk, yf, yn, yw, yla, yln, ylc, yma, ymn, ymc⟩ := ValAt.of hty.any (Nat.le_trans hwv (by decide)) (Wide.mono (by omega) _ _ hwd) (by omega)
            have HC6 := Lib.hid (HC.out.mod h6.only (by omega))
            have HP6 := Lib.hid (HPQ.out.stream h6 HSX2.out.inv.tb)
            have HS6 := Lib.hid (HSX2.out.trans h6)
            have hbc := HC6.out
            clear HC HPQ HSX2 hty hwv hwd h6
            have HC := HC6
            have c0 := HC.out.cell 0
            have c1 := HC.out.cell 1
            have c2 := HC.out.cell 2
            have c3 := HC.out.cell 3
            have c4 := HC.out.cell 4
            have c5 := HC.out.cell 5
            have c6 := HC.out.cell 6
            have c7 := HC.out.cell 7
            have cl := HC.out.lt
            have cf := HC.out.frozen
            simp only [List.getElem?_toArray, List.getElem?_cons_zero, List.getElem?_cons_succ] at c0 c1 c2 c3 c4 c5 c6 c7
            have o9 := Only.cellV w6 cb (.int .i64 yk) (.bool yf) (.int .i64 yn) (.string yw) (.slice yla yln ylc) (.slice yma ymn ymc)
            have HC9 := Lib.hid (Blk.copyV hbc (.int .i64 yk) (.bool yf) (.int .i64 yn) (.string yw) (.slice yla yln ylc) (.slice yma ymn ymc))
            have HP9 := Lib.hid (HP6.out.only' o9 hbc.tb (by decide))
            have HV9 := Lib.hid (hva.only' o9 hbc.tb (by decide) (by decide))
            have HS9 := Lib.hid (HS6.out.mod o9 (fun i e => by omega))
            have HK9 : Hid (rvK 1 = 90) := Lib.hid rfl
            clear hva hbc o9 HC6 HP6 HS6
            go_wp2_with fail
            go_meet
            case rel => exact ⟨⟨yk, yf, yn, yw, yla, yln, ylc, yma, ymn, ymc⟩, HC9, HP9, HV9, Lib.hid (HS9.out.more (by have := HK9.out; omega))⟩
        case rest =>
          rename World => wy
          clear HC HPQ HSX2
          obtain ⟨⟨yk, yf, yn, yw, yla, yln, ylc, yma, ymn, ymc⟩, HC, HPQ, HV, HSS⟩ := hcut
          simp only at HC
          by_cases h2 : kd = 2
          rotate_left
          · have h2b : (kd == 2) = false := by simpa using h2
            clear h2
            have c0 := HC.out.cell 0
            have c1 := HC.out.cell 1
            have c2 := HC.out.cell 2
            have c3 := HC.out.cell 3
            have c4 := HC.out.cell 4
            have c5 := HC.out.cell 5
            have c6 := HC.out.cell 6
            have c7 := HC.out.cell 7
            have cl := HC.out.lt
            have cf := HC.out.frozen
            simp only [List.getElem?_toArray, List.getElem?_cons_zero, List.getElem?_cons_succ] at c0 c1 c2 c3 c4 c5 c6 c7
            go_upto_region 9 with (fail)
            clear c0 c1 c2 c3 c4 c5 c6 c7 cl cf
            obtain ⟨cas, own0, hcas⟩ := HROW.out
            have hms : New wy (wy.alloc (.cells #[.int .i64 kd, .slice pa pn pc, .int .i64 yk, .bool yf, .int .i64 yn, .string yw, .slice yla yln ylc, .slice yma ymn ymc] 57)) := (Mod.refl _ _).alloc _
            have own9 := (own0.mod HSS.out.only (fun g e => by have := (own0.far' g e).1; omega)).new hms
            have HCAS := Lib.hid (fun y hy => ((hcas y hy).only HSS.out.only HST.out.inv.tb (by decide) (by decide) (by decide)).new hms)
            have HNEW : Hid (ChOk (wy.alloc (.cells #[.int .i64 kd, .slice pa pn pc, .int .i64 yk, .bool yf, .int .i64 yn, .string yw, .slice yla yln ylc, .slice yma ymn ymc] 57)) ⟨kd, pa, pn, pc, ⟨yk, yf, yn, yw, yla, yln, ylc, yma, ymn, ymc⟩⟩) := Lib.hid ⟨(HPQ.out.new hms).le (by omega), HV.out.new hms⟩
            have HSS9 := Lib.hid (HSS.out.new hms)
            have hbl : Blk (wy.alloc (.cells #[.int .i64 kd, .slice pa pn pc, .int .i64 yk, .bool yf, .int .i64 yn, .string yw, .slice yla yln ylc, .slice yma ymn ymc] 57)) wy.heap.size 57 (encL 8 CA.enc ⟨kd, pa, pn, pc, ⟨yk, yf, yn, yw, yla, yln, ylc, yma, ymn, ymc⟩⟩).toArray := Blk.new _ _ _
            clear own0 hcas hms
            have hszs := HSS9.out.only.size
            have c0 := HC.out.cell 0
            have c1 := HC.out.cell 1
            have c2 := HC.out.cell 2
            have c3 := HC.out.cell 3
            have c4 := HC.out.cell 4
            have c5 := HC.out.cell 5
            have c6 := HC.out.cell 6
            have c7 := HC.out.cell 7
            have cl := HC.out.lt
            have cf := HC.out.frozen
            simp only [List.getElem?_toArray, List.getElem?_cons_zero, List.getElem?_cons_succ] at c0 c1 c2 c3 c4 c5 c6 c7
            go_upto_region 10 with (at_builtin; refine wpList_push rfl _ _ _ rfl 120 Tryz.underlying31 einfo_change rfl own9 ⟨kd, pa, pn, pc, ⟨yk, yf, yn, yw, yla, yln, ylc, yma, ymn, ymc⟩⟩ wy.heap.size rfl hbl (fun j hj => CA.one _ j hj) (by omega) (by omega) (by omega) ?_; intro g1 cap w8 own8 hm8 hat8 hlt8)
            clear c0 c1 c2 c3 c4 c5 c6 c7 cl cf
            go_wp2_with fail
            go_roundw
            case rel =>
              have hfar := own9.far'
              refine ⟨j + 1, cap, some ⟨g1, 0, none⟩, by omega, by go_num, rfl, Lib.hid ⟨?_, ⟨cas ++ [⟨kd, pa, pn, pc, ⟨yk, yf, yn, yw, yla, yln, ylc, yma, ymn, ymc⟩⟩], own8, fun y hy => ?_⟩, ?_, ?_⟩⟩
              · exact (HX.out.mod HSS9.out.only (by omega)).mod hm8 (fun e => by have := (hfar _ e).1; omega)
              · have h0 : ChOk (wy.alloc (.cells #[.int .i64 kd, .slice pa pn pc, .int .i64 yk, .bool yf, .int .i64 yn, .string yw, .slice yla yln ylc, .slice yma ymn ymc] 57)) y := by
                  rcases List.mem_append.1 hy with h | h
                  · exact HCAS.out y h
                  · rw [List.mem_singleton.1 h]; exact HNEW.out
                exact h0.byType hm8 (fun g hg e => hg.ne (hfar g e).2.2 (by decide) rfl) (fun g hg e => hg.ne (hfar g e).2.2 (by decide) rfl) (fun g hg e => hg.ne (hfar g e).2.2 (by decide) rfl)
              · exact Tree.mod hm8 (fun g hg _ e => by have := (hfar g e).1; have : g < xb := hg; omega) _ _ _ (HTR.out.stream HSS9.out HST.out.inv.tb)
              · exact ((HST.out.trans HSS9.out).mod hm8 (fun i e => by have := (hfar i e).1; omega)).more (by omega)
            case measure => simp [intOf]; omega
          have h2b : (kd == 2) = true := by simpa using h2
          clear h2
          have hfl := flip_any b _ 2 wy HSS.out.inv (by omega) (by omega) (by omega)
          have c0 := HC.out.cell 0
          have c1 := HC.out.cell 1
          have c2 := HC.out.cell 2
          have c3 := HC.out.cell 3
          have c4 := HC.out.cell 4
          have c5 := HC.out.cell 5
          have c6 := HC.out.cell 6
          have c7 := HC.out.cell 7
          have cl := HC.out.lt
          have cf := HC.out.frozen
          simp only [List.getElem?_toArray, List.getElem?_cons_zero, List.getElem?_cons_succ] at c0 c1 c2 c3 c4 c5 c6 c7
          go_wp2_with fail
          clear c0 c1 c2 c3 c4 c5 c6 c7 cl cf
          refine hfl.mono ?_
          clear hfl
          rintro e w7 ⟨f, rfl, h7⟩
          have HC7 := Lib.hid (HC.out.mod h7.only (by omega))
          have HP7 := Lib.hid (HPQ.out.stream h7 HSS.out.inv.tb)
          have HV7 := Lib.hid (HV.out.only' h7.only HSS.out.inv.tb (by decide) (by decide))
          have HS7 := Lib.hid (HSS.out.trans h7)
          clear HC HPQ HV HSS h7
          have HC := HC7
          have HPQ := HP7
          have HV := HV7
          have HSS := HS7
          clear HC7 HP7 HV7 HS7
          cases f with
          | false =>
            go_upto_region 9 with (fail)
            obtain ⟨cas, own0, hcas⟩ := HROW.out
            have hms : New w7 (w7.alloc (.cells #[.int .i64 kd, .slice pa pn pc, .int .i64 yk, .bool yf, .int .i64 yn, .string yw, .slice yla yln ylc, .slice yma ymn ymc] 57)) := (Mod.refl _ _).alloc _
            have own9 := (own0.mod HSS.out.only (fun g e => by have := (own0.far' g e).1; omega)).new hms
            have HCAS := Lib.hid (fun y hy => ((hcas y hy).only HSS.out.only HST.out.inv.tb (by decide) (by decide) (by decide)).new hms)
            have HNEW : Hid (ChOk (w7.alloc (.cells #[.int .i64 kd, .slice pa pn pc, .int .i64 yk, .bool yf, .int .i64 yn, .string yw, .slice yla yln ylc, .slice yma ymn ymc] 57)) ⟨kd, pa, pn, pc, ⟨yk, yf, yn, yw, yla, yln, ylc, yma, ymn, ymc⟩⟩) := Lib.hid ⟨(HPQ.out.new hms).le (by omega), HV.out.new hms⟩
            have HSS9 := Lib.hid (HSS.out.new hms)
            have hbl : Blk (w7.alloc (.cells #[.int .i64 kd, .slice pa pn pc, .int .i64 yk, .bool yf, .int .i64 yn, .string yw, .slice yla yln ylc, .slice yma ymn ymc] 57)) w7.heap.size 57 (encL 8 CA.enc ⟨kd, pa, pn, pc, ⟨yk, yf, yn, yw, yla, yln, ylc, yma, ymn, ymc⟩⟩).toArray := Blk.new _ _ _
            clear own0 hcas hms
            have hszs := HSS9.out.only.size
            have c0 := HC.out.cell 0
            have c1 := HC.out.cell 1
            have c2 := HC.out.cell 2
            have c3 := HC.out.cell 3
            have c4 := HC.out.cell 4
            have c5 := HC.out.cell 5
            have c6 := HC.out.cell 6
            have c7 := HC.out.cell 7
            have cl := HC.out.lt
            have cf := HC.out.frozen
            simp only [List.getElem?_toArray, List.getElem?_cons_zero, List.getElem?_cons_succ] at c0 c1 c2 c3 c4 c5 c6 c7
            go_upto_region 10 with (at_builtin; refine wpList_push rfl _ _ _ rfl 120 Tryz.underlying31 einfo_change rfl own9 ⟨kd, pa, pn, pc, ⟨yk, yf, yn, yw, yla, yln, ylc, yma, ymn, ymc⟩⟩ w7.heap.size rfl hbl (fun j hj => CA.one _ j hj) (by omega) (by omega) (by omega) ?_; intro g1 cap w8 own8 hm8 hat8 hlt8)
            clear c0 c1 c2 c3 c4 c5 c6 c7 cl cf
            go_wp2_with fail
            go_roundw
            case rel =>
              have hfar := own9.far'
              refine ⟨j + 1, cap, some ⟨g1, 0, none⟩, by omega, by go_num, rfl, Lib.hid ⟨?_, ⟨cas ++ [⟨kd, pa, pn, pc, ⟨yk, yf, yn, yw, yla, yln, ylc, yma, ymn, ymc⟩⟩], own8, fun y hy => ?_⟩, ?_, ?_⟩⟩
              · exact (HX.out.mod HSS9.out.only (by omega)).mod hm8 (fun e => by have := (hfar _ e).1; omega)
              · have h0 : ChOk (w7.alloc (.cells #[.int .i64 kd, .slice pa pn pc, .int .i64 yk, .bool yf, .int .i64 yn, .string yw, .slice yla yln ylc, .slice yma ymn ymc] 57)) y := by
                  rcases List.mem_append.1 hy with h | h
                  · exact HCAS.out y h
                  · rw [List.mem_singleton.1 h]; exact HNEW.out
                exact h0.byType hm8 (fun g hg e => hg.ne (hfar g e).2.2 (by decide) rfl) (fun g hg e => hg.ne (hfar g e).2.2 (by decide) rfl) (fun g hg e => hg.ne (hfar g e).2.2 (by decide) rfl)
              · exact Tree.mod hm8 (fun g hg _ e => by have := (hfar g e).1; have : g < xb := hg; omega) _ _ _ (HTR.out.stream HSS9.out HST.out.inv.tb)
              · exact ((HST.out.trans HSS9.out).mod hm8 (fun i e => by have := (hfar i e).1; omega)).more (by omega)
            case measure => simp [intOf]; omega
          | true =>
            obtain ⟨ps, q1, q2, q3, q4, q5⟩ := HPQ.out
            simp only at q1 q2
            have hcl := cloneS ps pa pn pc w7 q1 (by omega)
            have HQ5 := Lib.hid q5
            clear q1 q3 q4 q5 HPQ
            have c0 := HC.out.cell 0
            have c1 := HC.out.cell 1
            have c2 := HC.out.cell 2
            have c3 := HC.out.cell 3
            have c4 := HC.out.cell 4
            have c5 := HC.out.cell 5
            have c6 := HC.out.cell 6
            have c7 := HC.out.cell 7
            have cl := HC.out.lt
            have cf := HC.out.frozen
            simp only [List.getElem?_toArray, List.getElem?_cons_zero, List.getElem?_cons_succ] at c0 c1 c2 c3 c4 c5 c6 c7
            go_wp2_with fail
            clear c0 c1 c2 c3 c4 c5 c6 c7 cl cf
            refine hcl.mono ?_
            clear hcl
            rintro e w8 ⟨A6, c6, rfl, own6, m6⟩
            have HC8 := Lib.hid (HC.out.mod m6 (fun e => e))
            have HV8 := Lib.hid (HV.out.new m6)
            have HS8 := Lib.hid (HSS.out.new m6)
            have hsz7 := HSS.out.only.size
            have hcb7 : cb < w7.heap.size := HC.out.lt
            have hsz8 := m6.size
            clear HC HV HSS m6
            have hnx := next_any b _ 3 w8 HS8.out.inv (by omega) (by omega) (by omega)
            go_wp2_with fail
            refine hnx.mono ?_
            clear hnx
            rintro e w9 ⟨a, rfl, ha1, ha2, h9⟩
            have HC9 := Lib.hid (HC8.out.mod h9.only (by omega))
            have HV9 := Lib.hid (HV8.out.only' h9.only HS8.out.inv.tb (by decide) (by decide))
            have HS9 := Lib.hid (HS8.out.trans h9)
            have own9 := own6.mod h9.only (fun g e => by have := (own6.far' g e).1; omega)
            have hsz9 := h9.only.size
            clear HC8 HV8 HS8 h9 own6
            have ma : New w9 (w9.alloc (.cells #[.bool false, .string ⟨#[]⟩, .int .i64 a] 60)) := (Mod.refl _ _).alloc _
            have blk9 : Blk (w9.alloc (.cells #[.bool false, .string ⟨#[]⟩, .int .i64 a] 60)) w9.heap.size 60 (encL 3 St.enc ⟨false, ⟨#[]⟩, a⟩).toArray := Blk.new _ _ _
            have HCa := Lib.hid (HC9.out.mod ma (fun e => e))
            have HVa := Lib.hid (HV9.out.new ma)
            have HSa := Lib.hid (HS9.out.new ma)
            have owna := own9.new ma
            have hsza := ma.size
            clear HC9 HV9 HS9 own9 ma
            go_upto_region 9 with (at_builtin; refine wpList_push rfl _ _ _ rfl 32 Tryz.underlying54 einfo_step rfl owna ⟨false, ⟨#[]⟩, a⟩ w9.heap.size rfl blk9 (fun j hj => St.one _ j hj) (by omega) (by omega) (by omega) ?_; intro g5 cap5 w5 own5 hm5 hat5 hlt5; have hc5 := HCa.out.mod hm5 (fun e => by have := (owna.far' _ e).1; omega); have c1 := hc5.cell 1; have cl := hc5.lt; have cf := hc5.frozen; simp only [List.getElem?_toArray, List.getElem?_cons_zero, List.getElem?_cons_succ] at c1)
            have hfa := owna.far'
            have HV5 := Lib.hid (HVa.out.byType hm5 (fun g hg e => hg.ne (hfa g e).2.2 (by decide) rfl) (fun g hg e => hg.ne (hfa g e).2.2 (by decide) rfl))
            have HS5 := Lib.hid (HSa.out.mod hm5 (fun i e => by have := (hfa i e).1; omega))
            have o5 := Only.set (Mod.refl (fun i => i = cb) w5) 1 (.slice (some ⟨g5, 0, none⟩) (pn + 1) cap5)
            have HC := Lib.hid (hc5.set 1 (.slice (some ⟨g5, 0, none⟩) (pn + 1) cap5))
            simp only [Array.setIfInBounds, List.size_toArray, List.length_cons, List.length_nil, Nat.reduceAdd, Nat.reduceLT, ↓reduceDIte, List.set_toArray, List.set_cons_zero, List.set_cons_succ] at HC
            have HV := Lib.hid (HV5.out.only' o5 hc5.tb (by decide) (by decide))
            have HSS : Hid (SStep b wr (w5.setCell ⟨cb, 1, none⟩ (.slice (some ⟨g5, 0, none⟩) (pn + 1) cap5)) (k + 1 + 200 * j + 133)) := Lib.hid ((HS5.out.mod o5 (fun i e => by omega)).more (by omega))
            have hp5 : PthOk w5 (d + 5) ⟨some ⟨g5, 0, none⟩, pn + 1, cap5⟩ := ⟨ps ++ [⟨false, ⟨#[]⟩, a⟩], own5.sl, by simp only; omega, own5.cap, own5.noneC, fun s hs => by
              rcases List.mem_append.1 hs with h | h
              · exact HQ5.out s h
              · rw [List.mem_singleton.1 h]; exact (by decide : (⟨#[]⟩ : ByteArray).size ≤ 100000)⟩
            have HPQ := Lib.hid (hp5.only' o5 hc5.tb (by decide))
            clear hp5 o5 HV5 HS5 hc5 own5 hm5 hat5 hlt5 c1 cl cf hfa owna HCa HVa HSa blk9
            generalize w5.setCell ⟨cb, 1, none⟩ (.slice (some ⟨g5, 0, none⟩) (pn + 1) cap5) = wq at *
            obtain ⟨cas, own0, hcas⟩ := HROW.out
            have hms : New wq (wq.alloc (.cells #[.int .i64 kd, .slice (some ⟨g5, 0, none⟩) (pn + 1) cap5, .int .i64 yk, .bool yf, .int .i64 yn, .string yw, .slice yla yln ylc, .slice yma ymn ymc] 57)) := (Mod.refl _ _).alloc _
            have own9 := (own0.mod HSS.out.only (fun g e => by have := (own0.far' g e).1; omega)).new hms
            have HCAS := Lib.hid (fun y hy => ((hcas y hy).only HSS.out.only HST.out.inv.tb (by decide) (by decide) (by decide)).new hms)
            have HNEW : Hid (ChOk (wq.alloc (.cells #[.int .i64 kd, .slice (some ⟨g5, 0, none⟩) (pn + 1) cap5, .int .i64 yk, .bool yf, .int .i64 yn, .string yw, .slice yla yln ylc, .slice yma ymn ymc] 57)) ⟨kd, (some ⟨g5, 0, none⟩), (pn + 1), cap5, ⟨yk, yf, yn, yw, yla, yln, ylc, yma, ymn, ymc⟩⟩) := Lib.hid ⟨(HPQ.out.new hms).le (by omega), HV.out.new hms⟩
            have HSS9 := Lib.hid (HSS.out.new hms)
            have hbl : Blk (wq.alloc (.cells #[.int .i64 kd, .slice (some ⟨g5, 0, none⟩) (pn + 1) cap5, .int .i64 yk, .bool yf, .int .i64 yn, .string yw, .slice yla yln ylc, .slice yma ymn ymc] 57)) wq.heap.size 57 (encL 8 CA.enc ⟨kd, (some ⟨g5, 0, none⟩), (pn + 1), cap5, ⟨yk, yf, yn, yw, yla, yln, ylc, yma, ymn, ymc⟩⟩).toArray := Blk.new _ _ _
            clear own0 hcas hms
            have hszs := HSS9.out.only.size
            have c0 := HC.out.cell 0
            have c1 := HC.out.cell 1
            have c2 := HC.out.cell 2
            have c3 := HC.out.cell 3
            have c4 := HC.out.cell 4
            have c5 := HC.out.cell 5
            have c6 := HC.out.cell 6
            have c7 := HC.out.cell 7
            have cl := HC.out.lt
            have cf := HC.out.frozen
            simp only [List.getElem?_toArray, List.getElem?_cons_zero, List.getElem?_cons_succ] at c0 c1 c2 c3 c4 c5 c6 c7
            go_upto_region 10 with (at_builtin; refine wpList_push rfl _ _ _ rfl 120 Tryz.underlying31 einfo_change rfl own9 ⟨kd, (some ⟨g5, 0, none⟩), (pn + 1), cap5, ⟨yk, yf, yn, yw, yla, yln, ylc, yma, ymn, ymc⟩⟩ wq.heap.size rfl hbl (fun j hj => CA.one _ j hj) (by omega) (by omega) (by omega) ?_; intro g1 cap w8 own8 hm8 hat8 hlt8)
            clear c0 c1 c2 c3 c4 c5 c6 c7 cl cf
            go_wp2_with fail
            go_roundw
            case rel =>
              have hfar := own9.far'
              refine ⟨j + 1, cap, some ⟨g1, 0, none⟩, by omega, by go_num, rfl, Lib.hid ⟨?_, ⟨cas ++ [⟨kd, (some ⟨g5, 0, none⟩), (pn + 1), cap5, ⟨yk, yf, yn, yw, yla, yln, ylc, yma, ymn, ymc⟩⟩], own8, fun y hy => ?_⟩, ?_, ?_⟩⟩
              · exact (HX.out.mod HSS9.out.only (by omega)).mod hm8 (fun e => by have := (hfar _ e).1; omega)
              · have h0 : ChOk (wq.alloc (.cells #[.int .i64 kd, .slice (some ⟨g5, 0, none⟩) (pn + 1) cap5, .int .i64 yk, .bool yf, .int .i64 yn, .string yw, .slice yla yln ylc, .slice yma ymn ymc] 57)) y := by
                  rcases List.mem_append.1 hy with h | h
                  · exact HCAS.out y h
                  · rw [List.mem_singleton.1 h]; exact HNEW.out
                exact h0.byType hm8 (fun g hg e => hg.ne (hfar g e).2.2 (by decide) rfl) (fun g hg e => hg.ne (hfar g e).2.2 (by decide) rfl) (fun g hg e => hg.ne (hfar g e).2.2 (by decide) rfl)
              · exact Tree.mod hm8 (fun g hg _ e => by have := (hfar g e).1; have : g < xb := hg; omega) _ _ _ (HTR.out.stream HSS9.out HST.out.inv.tb)
              · exact ((HST.out.trans HSS9.out).mod hm8 (fun i e => by have := (hfar i e).1; omega)).more (by omega)
            case measure => simp [intOf]; omega
    · obtain rfl : m = j := by omega
      have HST := Lib.hid HI.out.step
      obtain ⟨cas, own, hcas⟩ := HI.out.row
      clear HI
      rcases Nat.eq_zero_or_pos m with h0 | h0
      · subst h0
        go_wp2_with fail
        go_ret
        exact ⟨A, 0, c, cas, rfl, own.sl, hcas, by omega, HST.out.more (by omega)⟩
      · have h0b : (0 : Int) < m := by omega
        have HCAS := Lib.hid hcas
        have hfl := flip_any b _ 20 wr HST.out.inv (by omega) (by omega) (by omega)
        clear hcas
        go_wp2_with fail
        refine hfl.mono ?_
        clear hfl
        rintro e w3 ⟨f, rfl, h3⟩
        have own3 := own.mod h3.only (fun g e => by have := (own.far' g e).1; omega)
        have HC3 := Lib.hid (fun y hy => (HCAS.out y hy).only h3.only HST.out.inv.tb (by decide) (by decide) (by decide))
        have HS3 := Lib.hid (HST.out.trans h3)
        clear HST h3 HCAS own
        cases f with
        | false =>
          go_wp2_with fail
          go_ret
          exact ⟨A, m, c, cas, rfl, own3.sl, HC3.out, by omega, HS3.out.more (by omega)⟩
        | true =>
          obtain ⟨g, hA, hBg, htb, hnc, hcm⟩ := own3.form h0
          subst hA
          have hnx := next_any b _ (m : Int) w3 HS3.out.inv (by omega) (by omega) (by omega)
          go_wp2_with fail
          refine hnx.mono ?_
          clear hnx
          rintro e w4 ⟨i, rfl, hi1, hi2, h4⟩
          obtain ⟨i, rfl⟩ := Int.eq_ofNat_of_zero_le hi1
          have own4 := own3.mod h4.only (fun g e => by have := (own3.far' g e).1; omega)
          have HC4 := Lib.hid (fun y hy => (HC3.out y hy).only h4.only HS3.out.inv.tb (by decide) (by decide) (by decide))
          have HS4 := Lib.hid (HS3.out.trans h4)
          clear HS3 h4 HC3 own3 htb
          have hb2 : (0 : Int) ≤ i := by omega
          have hb3 : (i : Int) < m := by omega
          have hix : i < cas.length := by have := own4.1; omega
          have hod := odd_any2 b _ 1 3 w4 HS4.out.inv (by omega) (by omega) (by omega) (by omega)
          go_wp2_with fail
          refine hod.mono ?_
          clear hod
          rintro e w5 ⟨od, rfl, -, -, h5⟩
          have own5 := own4.mod h5.only (fun g e => by have := (own4.far' g e).1; omega)
          have HC5 := Lib.hid (fun y hy => (HC4.out y hy).only h5.only HS4.out.inv.tb (by decide) (by decide) (by decide))
          have HS5 := Lib.hid (HS4.out.trans h5)
          clear HS4 h5 HC4 own4
          have hvl := stream_val 1 (by omega) b _ w5 HS5.out.inv (by omega)
          go_wp2_with fail
          refine hvl.mono ?_
          clear hvl
          rintro e w6 ⟨⟨yk, yf, yn, yw, yla, yln, ylc, yma, ymn, ymc⟩, rfl, hva, h6⟩
          have own6 := own5.mod h6.only (fun g e => by have := (own5.far' g e).1; omega)
          have HC6 := Lib.hid (fun y hy => (HC5.out y hy).only h6.only HS5.out.inv.tb (by decide) (by decide) (by decide))
          have HS6 := Lib.hid (HS5.out.trans h6)
          have HV6 : Hid (ValAt w6 (fun _ => True) 70000 7 ⟨yk, yf, yn, yw, yla, yln, ylc, yma, ymn, ymc⟩) := Lib.hid (by
            obtain ⟨vv, a1, a2, a3⟩ := hva
            exact ⟨vv, a1.any, a2, a3⟩)
          clear HS5 h6 HC5 own5 hva
          have own7 := own6.set8kv hix od ⟨yk, yf, yn, yw, yla, yln, ylc, yma, ymn, ymc⟩
          simp only [VA.enc] at own7
          have o7 : Only g w6 (((((((w6.setCell ⟨g, i * 8, none⟩ (.int .i64 od)).setCell ⟨g, i * 8 + 2, none⟩ (.int .i64 yk)).setCell ⟨g, i * 8 + 3, none⟩ (.bool yf)).setCell ⟨g, i * 8 + 4, none⟩ (.int .i64 yn)).setCell ⟨g, i * 8 + 5, none⟩ (.string yw)).setCell ⟨g, i * 8 + 6, none⟩ (.slice yla yln ylc)).setCell ⟨g, i * 8 + 7, none⟩ (.slice yma ymn ymc)) := ((((((Only.set (Mod.refl _ _) _ _).set _ _).set _ _).set _ _).set _ _).set _ _).set _ _
          have htb6 := (own6.far' g rfl).2.2
          obtain ⟨g', o', hA, htb', hc0⟩ := own6.sl.2 (by omega)
          injection hA with hA
          injection hA with hA1 hA2
          subst hA1 hA2
          have hc := fun q (hq : q < 8) => hc0 i hix q hq
          have gf := own6.frozen
          have gl := htb6.lt
          have b0 := hc 0 (by omega)
          have b2 := hc 2 (by omega)
          have b3 := hc 3 (by omega)
          have b4 := hc 4 (by omega)
          have b5 := hc 5 (by omega)
          have b6 := hc 6 (by omega)
          have b7 := hc 7 (by omega)
          simp only [CA.enc, Nat.add_zero, Nat.zero_add] at b0 b2 b3 b4 b5 b6 b7
          have HO7 := Lib.hid own7
          have HM7 := Lib.hid o7
          have HTB := Lib.hid htb6
          have hnew : ChOk w6 ⟨od, cas[i].pa, cas[i].pn, cas[i].pc, ⟨yk, yf, yn, yw, yla, yln, ylc, yma, ymn, ymc⟩⟩ := ⟨(HC6.out _ (List.getElem_mem hix)).1, HV6.out⟩
          have HNEW := Lib.hid hnew
          clear hc hc0 htb' own7 o7 own6 htb6 hnew
          go_wp2_with fail
          go_ret
          exact ⟨some ⟨g, 0, none⟩, m, c, _, rfl, HO7.out.sl, fun y hy => ChOk.only (by
            rcases List.mem_or_eq_of_mem_set hy with h | h
            · exact HC6.out y h
            · rw [h]; exact HNEW.out) HM7.out HTB.out (by decide) (by decide) (by decide), by omega, (HS6.out.mod HM7.out (fun i e => by omega)).more (by omega)⟩

end Go.Proofs.YtahofcopedlenaaGreatDoor

namespace Go.Proofs.YtahofcopedlenaaGreatDoor
open Go.RowKit
set_option linter.unusedVariables false
set_option linter.unusedSimpArgs false

theorem same_nil (d : Nat) (x : VA) (v : VT) (G : Nat → Prop) (w : World) (ht : Tree w G (d + 1) x v) (hf : Fit (d + 1) v) :
    Calls Tryz.prog 11 #[x.val, nilVA.val] w fun e w' => e = .returned (.bool (nilB v)) ∧ New w w' := by
  have h := same_v (d + 1) x nilVA v nilV G w ht (nil_tree w G d) hf (nil_fit d)
  rwa [eqV_nil] at h
set_option maxRecDepth 100000 in
set_option maxHeartbeats 1500000 in
theorem changesFault_v (d : Nat) (A : Option Addr) (n c : Nat) (xs : List ChD) (w : World) (hr : ChRow w (d + 1) A n xs) (hn : n ≤ 200000) (hf : ∀ x ∈ xs, CFit (d + 1) x) (hU : Utf8T w) (hd : d + 1 ≤ 1000) :
    Calls Tryz.prog 8 #[.slice A n c] w fun e w' => e = .returned (.int .i64 (chgsF (d + 1) xs)) ∧ New w w' := by
  obtain ⟨cs, hs, hcx, ht⟩ := hr
  have hl := hs.1
  by_cases h50 : 5000 < n
  · have hF : chgsF (d + 1) xs = 2 := by unfold chgsF; rw [if_pos (by omega)]
    rw [hF]
    have h50' : (5000 : Int) < n := by omega
    go_enter Tryz.func8, Tryz.ntmps8
    go_wp2_with fail
    go_ret
    exact ⟨rfl, Mod.refl _ _⟩
  have hF : chgsF (d + 1) xs = fz (xs.map (chgF (d + 1))) := by unfold chgsF; rw [if_neg (by omega)]
  have h50' : ¬ (5000 : Int) < n := by omega
  generalize chgsF (d + 1) xs = F at *
  have HF := Lib.hid hF
  have HL := Lib.hid hl
  have HCX := Lib.hid hcx
  have HS := Lib.hid hs
  have HT := Lib.hid ht
  have HFI := Lib.hid hf
  have HU := Lib.hid hU
  clear hF hs hU hl ht hf hcx
  go_enter Tryz.func8, Tryz.ntmps8
  go_wp2_with fail
  go_loopw [13] (fun i wr => ∃ k : Nat, k ≤ n ∧ i = .int .i64 k ∧ Hid (fz ((xs.take k).map (chgF (d + 1))) = 0) ∧ Hid (New w wr)) (fun i _ => n - (intOf i).toNat)
  case atStart => exact ⟨0, Nat.zero_le _, rfl, Lib.hid rfl, Lib.hid (Mod.refl _ _)⟩
  case round =>
    rename World => wr
    obtain ⟨k, hk, rfl, H0, HM⟩ := hrel
    by_cases hlt : k < n
    · have hkl : k < cs.length := by have := HL.out; omega
      have hkx : k < xs.length := by have := HL.out; have := HCX.out; omega
      obtain ⟨g, o, hA, htb, hc0⟩ := (HS.out.new HM.out).2 (by omega)
      subst hA
      have hgl := htb.lt
      have hc := fun j h => hc0 k hkl j h
      clear hc0
      have HST : Hid (chgF (d + 1) xs[k] ≠ 0 → F = chgF (d + 1) xs[k]) := Lib.hid (fun h => by rw [HF.out, fz_map_stop _ hkx H0.out h])
      have HNX : Hid (chgF (d + 1) xs[k] = 0 → fz ((xs.take (k + 1)).map (chgF (d + 1))) = 0) := Lib.hid (fun h => by rw [fz_map_take _ hkx, H0.out, h]; rfl)
      have hct := HT.out k hkl hkx
      have hft := HFI.out _ (List.getElem_mem hkx)
      clear htb
      generalize cs[k] = y at *
      generalize hxe : xs[k] = x at *
      obtain ⟨xk, xp, xv⟩ := x
      have HFX : Hid (chgF (d + 1) ⟨xk, xp, xv⟩ = chgF (d + 1) ⟨xk, xp, xv⟩) := Lib.hid rfl
      obtain ⟨f, hf⟩ : ∃ f, f = chgF (d + 1) ⟨xk, xp, xv⟩ := ⟨_, rfl⟩
      rw [← hf] at HST HNX
      have HFC : Hid (f = chgF (d + 1) ⟨xk, xp, xv⟩) := Lib.hid hf
      clear hf HFX hxe
      obtain ⟨ck, pa, pn, pc, vk, vf, vn, vw, vla, vln, vlc, vma, vmn, vmc⟩ := y
      have b0 := hc 0 (by omega)
      have b1 := hc 1 (by omega)
      have b2 := hc 2 (by omega)
      have b3 := hc 3 (by omega)
      have b4 := hc 4 (by omega)
      have b5 := hc 5 (by omega)
      have b6 := hc 6 (by omega)
      have b7 := hc 7 (by omega)
      simp only [CA.enc, VA.enc, Nat.add_zero] at b0 b1 b2 b3 b4 b5 b6 b7
      clear hc
      have hb1 : (0 : Int) ≤ k := by omega
      have hb2 : (k : Int) < n := by omega
      have hm5 : New wr (wr.alloc (.cells #[.int .i64 ck, .slice pa pn pc, .int .i64 vk, .bool vf, .int .i64 vn, .string vw, .slice vla vln vlc, .slice vma vmn vmc] 57)) := (Mod.refl _ _).alloc _
      have hx := Blk.new wr 57 #[.int .i64 ck, .slice pa pn pc, .int .i64 vk, .bool vf, .int .i64 vn, .string vw, .slice vla vln vlc, .slice vma vmn vmc]
      go_upto_region 6 with (fail)
      have HP := Lib.hid (fun W (h : New wr W) => pathFault_v pa pn pc xp W ((hct.path.new HM.out).new h) (by have := hft.len; have := hct.path.1; simp only at *; omega) hft.ok ((HU.out.new HM.out).new h))
      have HV := Lib.hid (fun W (h : New wr W) => valueFault_v (d + 1) ⟨vk, vf, vn, vw, vla, vln, vlc, vma, vmn, vmc⟩ xv _ W ((hct.tree.new HM.out).new h) hft.fit hd ((HU.out.new HM.out).new h))
      have HQ := Lib.hid (fun W (h : New wr W) => same_nil d ⟨vk, vf, vn, vw, vla, vln, vlc, vma, vmn, vmc⟩ xv _ W ((hct.tree.new HM.out).new h) hft.fit)
      have HSP : Hid (Sl wr 60 3 St.enc pa pn xp) := Lib.hid (hct.path.new HM.out)
      have HPN : Hid (xp.length = pn) := Lib.hid hct.path.1
      have HLL : Hid (xp.length ≤ 200000) := Lib.hid hft.len
      have hkk := hct.kind
      simp only at hkk
      obtain rfl : xk = ck := hkk.symm
      clear hct hft hkk
      have HM5 := Lib.hid hm5
      have HMR := Lib.hid (HM.out.trans hm5)
      generalize wr.alloc (.cells #[.int .i64 xk, .slice pa pn pc, .int .i64 vk, .bool vf, .int .i64 vn, .string vw, .slice vla vln vlc, .slice vma vmn vmc] 57) = w5 at *
      clear b0 b1 b2 b3 b4 b5 b6 b7 hgl hm5
      generalize wr.heap.size = xb at *
      have b0 := hx.cell 0
      have b1 := hx.cell 1
      have b2 := hx.cell 2
      have b3 := hx.cell 3
      have b4 := hx.cell 4
      have b5 := hx.cell 5
      have b6 := hx.cell 6
      have b7 := hx.cell 7
      have bl := hx.lt
      simp only [List.getElem?_toArray, List.getElem?_cons_zero, List.getElem?_cons_succ] at b0 b1 b2 b3 b4 b5 b6 b7
      have HX := Lib.hid hx
      clear hx
      have hin := in_v xk 1 3 w5
      go_wp2_with fail
      refine hin.mono ?_
      clear hin
      rintro e w6 ⟨rfl, rfl⟩
      by_cases hk : xk < 1 ∨ 3 < xk
      · have hk1 : (decide (1 ≤ xk) && decide (xk ≤ 3)) = false := by simp; omega
        have HK := Lib.hid hk
        clear hk
        have HFF : Hid (F = 4) := Lib.hid (by
          have h := HFC.out
          unfold chgF at h; simp only at h; rw [if_pos HK.out] at h
          rw [HST.out (by rw [h]; decide), h])
        go_wp2_with fail
        go_ret
        exact ⟨ret_int HFF.out.symm, HMR.out⟩
      have hk1 : (decide (1 ≤ xk) && decide (xk ≤ 3)) = true := by simp; omega
      have HK := Lib.hid hk
      clear hk
      have hp2 := HP.out w5 HM5.out
      generalize hpf : pathF xp = P at *
      have HPF := Lib.hid hpf
      clear hpf
      go_wp2_with fail
      refine hp2.mono ?_
      clear hp2
      rintro e w6 ⟨rfl, m6⟩
      have HM6 := Lib.hid (HM5.out.trans m6)
      have HMR6 := Lib.hid (HMR.out.trans m6)
      have HX' := Lib.hid (HX.out.mod m6 (fun e => e))
      clear b0 b1 b2 b3 b4 b5 b6 b7 bl
      clear HX
      have HX := HX'
      clear HX'
      have hxx := HX.out
      have b0 := hxx.cell 0
      have b1 := hxx.cell 1
      have b2 := hxx.cell 2
      have b3 := hxx.cell 3
      have b4 := hxx.cell 4
      have b5 := hxx.cell 5
      have b6 := hxx.cell 6
      have b7 := hxx.cell 7
      have bl := hxx.lt
      simp only [List.getElem?_toArray, List.getElem?_cons_zero, List.getElem?_cons_succ] at b0 b1 b2 b3 b4 b5 b6 b7
      clear hxx
      clear m6 HM5 HMR
      by_cases hP : P = 0
      rotate_left
      · have hP1 : (P != 0) = true := by simpa using hP
        have HFF : Hid (F = P) := Lib.hid (by
          have h := HFC.out
          unfold chgF at h; simp only at h; rw [if_neg HK.out, HPF.out, if_pos hP] at h
          rw [HST.out (by rw [h]; exact hP), h])
        clear hP
        go_wp2_with fail
        go_ret
        exact ⟨ret_int HFF.out.symm, HMR6.out⟩
      subst hP
      clear hk1
      have HFD : Hid (f = if xk ≠ 1 ∧ xp.length = 0 then 8 else if xk = 2 ∧ lastNamed xp = true then 10 else if vCheck (d + 1) xv ≠ 0 then vCheck (d + 1) xv else if xk = 3 ∧ nilB xv = false then 3 else 0) := Lib.hid (by
        rw [HFC.out]; unfold chgF; simp only
        rw [if_neg HK.out, HPF.out, if_neg (by decide)])
      clear HFC HPF
      have HFC := HFD
      clear HFD
      have hxk : 1 ≤ xk ∧ xk ≤ 3 := by have := HK.out; omega
      rcases Nat.eq_zero_or_pos pn with hn0 | hn0
      · have hxl : xp.length = 0 := by have := HPN.out; omega
        have HXL := Lib.hid hxl
        subst hn0
        clear hxl
        by_cases hn1 : xk = 1
        · have HFV : Hid (f = if vCheck (d + 1) xv ≠ 0 then vCheck (d + 1) xv else if xk = 3 ∧ nilB xv = false then 3 else 0) := Lib.hid (by
            rw [HFC.out, if_neg (by omega), if_neg (by omega)])
          have k1 : (xk != 1) = false := by simp [hn1]
          have k2 : (xk == 2) = false := by simp [hn1]
          have k3 : (xk == 3) = false := by simp [hn1]
          have K3 : Hid (¬ xk = 3) := Lib.hid (by omega)
          clear hn1 hxk
          have hv := HV.out w6 HM6.out
          generalize vCheck (d + 1) xv = C at *
          go_wp2_with fail
          refine hv.mono ?_
          clear hv
          rintro e w7 ⟨rfl, m7⟩
          have HM7 := Lib.hid (HM6.out.trans m7)
          have HX' := Lib.hid (HX.out.mod m7 (fun e => e))
          clear b0 b1 b2 b3 b4 b5 b6 b7 bl
          clear HX
          have HX := HX'
          clear HX'
          have hxx := HX.out
          have b0 := hxx.cell 0
          have b1 := hxx.cell 1
          have b2 := hxx.cell 2
          have b3 := hxx.cell 3
          have b4 := hxx.cell 4
          have b5 := hxx.cell 5
          have b6 := hxx.cell 6
          have b7 := hxx.cell 7
          have bl := hxx.lt
          simp only [List.getElem?_toArray, List.getElem?_cons_zero, List.getElem?_cons_succ] at b0 b1 b2 b3 b4 b5 b6 b7
          clear hxx
          clear m7
          by_cases hC : C = 0
          rotate_left
          · have hC1 : (C != 0) = true := by simpa using hC
            have HFF : Hid (F = C) := Lib.hid (by
              have h := HFV.out
              rw [if_pos hC] at h
              rw [HST.out (by rw [h]; exact hC), h])
            clear hC
            go_wp2_with fail
            go_ret
            exact ⟨ret_int HFF.out.symm, (HM.out.trans HM7.out)⟩
          subst hC
          have HMZ := Lib.hid (HM.out.trans HM7.out)
          have HF0 : Hid (f = 0) := Lib.hid (by rw [HFV.out, if_neg (by decide), if_neg (fun q => K3.out q.1)])
          have HG : Hid (fz ((xs.take (k + 1)).map (chgF (d + 1))) = 0) := Lib.hid (HNX.out HF0.out)
          go_wp2_with fail
          go_roundw
          case rel => exact ⟨k + 1, by omega, by go_num, HG, HMZ⟩
          case measure => simp [intOf]; omega
        · have k1 : (xk != 1) = true := by simpa using hn1
          have HN1 := Lib.hid hn1
          clear hn1 hxk
          have HFF : Hid (F = 8) := Lib.hid (by
            have h := HFC.out
            rw [if_pos ⟨HN1.out, HXL.out⟩] at h
            rw [HST.out (by rw [h]; decide), h])
          go_wp2_with fail
          go_ret
          exact ⟨ret_int HFF.out.symm, HMR6.out⟩
      have hz0 : ((pn : Int) == 0) = false := by simp; omega
      have hxl : ¬ xp.length = 0 := by have := HPN.out; omega
      have HXL := Lib.hid hxl
      clear hxl
      by_cases hn2 : xk = 2
      · have k2 : (xk == 2) = true := by simpa using hn2
        have k3 : (xk == 3) = false := by simp [hn2]
        have HN2 := Lib.hid hn2
        have K3 : Hid (¬ xk = 3) := Lib.hid (by omega)
        obtain ⟨m, rfl⟩ : ∃ m, pn = m + 1 := ⟨pn - 1, by omega⟩
        obtain ⟨g, o, hA, htb, hc0⟩ := (HSP.out.new HM6.out).2 (by omega)
        subst hA
        have hgl := htb.lt
        have hmx : m < xp.length := by have := HPN.out; omega
        have hc := hc0 m hmx 0 (by omega)
        have hlast : lastNamed xp = xp[m].named := by
          unfold lastNamed
          rw [List.getLast?_eq_getElem?]
          have : xp.length - 1 = m := by have := HPN.out; omega
          rw [this, List.getElem?_eq_getElem hmx]
        have HLA := Lib.hid hlast
        clear hc0 htb hlast
        generalize xp[m] = y at *
        obtain ⟨ynm, ys, ya⟩ := y
        simp only [St.enc, Nat.add_zero] at hc HLA
        have hwr : IntKind.i64.wrap (m : Int) = (m : Int) := by
          have := HLL.out
          have := HPN.out
          simp [IntKind.wrap, IntKind.signed, IntKind.bits]; omega
        have hb5 : (0 : Int) ≤ m := by omega
        have hb6 : (m : Int) < (m : Int) + 1 := by omega
        cases ynm with
        | true =>
          clear hn2 hxk hn0
          have HFF : Hid (F = 10) := Lib.hid (by
            have h := HFC.out
            rw [if_neg (fun q => HXL.out q.2), if_pos ⟨HN2.out, HLA.out⟩] at h
            rw [HST.out (by rw [h]; decide), h])
          go_wp2_with fail
          go_ret
          exact ⟨ret_int HFF.out.symm, HMR6.out⟩
        | false =>
          have HFV : Hid (f = if vCheck (d + 1) xv ≠ 0 then vCheck (d + 1) xv else if xk = 3 ∧ nilB xv = false then 3 else 0) := Lib.hid (by
            rw [HFC.out, if_neg (fun q => HXL.out q.2), if_neg (by rw [HLA.out]; simp)])
          clear hn2 hxk hn0
          have hv := HV.out w6 HM6.out
          generalize vCheck (d + 1) xv = C at *
          go_wp2_with fail
          refine hv.mono ?_
          clear hv
          rintro e w7 ⟨rfl, m7⟩
          have HM7 := Lib.hid (HM6.out.trans m7)
          have HX' := Lib.hid (HX.out.mod m7 (fun e => e))
          clear b0 b1 b2 b3 b4 b5 b6 b7 bl
          clear HX
          have HX := HX'
          clear HX'
          have hxx := HX.out
          have b0 := hxx.cell 0
          have b1 := hxx.cell 1
          have b2 := hxx.cell 2
          have b3 := hxx.cell 3
          have b4 := hxx.cell 4
          have b5 := hxx.cell 5
          have b6 := hxx.cell 6
          have b7 := hxx.cell 7
          have bl := hxx.lt
          simp only [List.getElem?_toArray, List.getElem?_cons_zero, List.getElem?_cons_succ] at b0 b1 b2 b3 b4 b5 b6 b7
          clear hxx
          clear m7
          by_cases hC : C = 0
          rotate_left
          · have hC1 : (C != 0) = true := by simpa using hC
            have HFF : Hid (F = C) := Lib.hid (by
              have h := HFV.out
              rw [if_pos hC] at h
              rw [HST.out (by rw [h]; exact hC), h])
            clear hC
            go_wp2_with fail
            go_ret
            exact ⟨ret_int HFF.out.symm, (HM.out.trans HM7.out)⟩
          subst hC
          have HMZ := Lib.hid (HM.out.trans HM7.out)
          have HF0 : Hid (f = 0) := Lib.hid (by rw [HFV.out, if_neg (by decide), if_neg (fun q => K3.out q.1)])
          have HG : Hid (fz ((xs.take (k + 1)).map (chgF (d + 1))) = 0) := Lib.hid (HNX.out HF0.out)
          go_wp2_with fail
          go_roundw
          case rel => exact ⟨k + 1, by omega, by go_num, HG, HMZ⟩
          case measure => simp [intOf]; omega
      · have k2 : (xk == 2) = false := by simpa using hn2
        have HFV : Hid (f = if vCheck (d + 1) xv ≠ 0 then vCheck (d + 1) xv else if xk = 3 ∧ nilB xv = false then 3 else 0) := Lib.hid (by
          rw [HFC.out, if_neg (fun q => HXL.out q.2), if_neg (by omega)])
        by_cases hn3 : xk = 3
        · have k3 : (xk == 3) = true := by simpa using hn3
          have HK3 := Lib.hid hn3
          clear hn2 hxk hn3
          have hv := HV.out w6 HM6.out
          generalize vCheck (d + 1) xv = C at *
          go_wp2_with fail
          refine hv.mono ?_
          clear hv
          rintro e w7 ⟨rfl, m7⟩
          have HM7 := Lib.hid (HM6.out.trans m7)
          have HX' := Lib.hid (HX.out.mod m7 (fun e => e))
          clear b0 b1 b2 b3 b4 b5 b6 b7 bl
          clear HX
          have HX := HX'
          clear HX'
          have hxx := HX.out
          have b0 := hxx.cell 0
          have b1 := hxx.cell 1
          have b2 := hxx.cell 2
          have b3 := hxx.cell 3
          have b4 := hxx.cell 4
          have b5 := hxx.cell 5
          have b6 := hxx.cell 6
          have b7 := hxx.cell 7
          have bl := hxx.lt
          simp only [List.getElem?_toArray, List.getElem?_cons_zero, List.getElem?_cons_succ] at b0 b1 b2 b3 b4 b5 b6 b7
          clear hxx
          clear m7
          by_cases hC : C = 0
          rotate_left
          · have hC1 : (C != 0) = true := by simpa using hC
            have HFF : Hid (F = C) := Lib.hid (by
              have h := HFV.out
              rw [if_pos hC] at h
              rw [HST.out (by rw [h]; exact hC), h])
            clear hC
            go_wp2_with fail
            go_ret
            exact ⟨ret_int HFF.out.symm, (HM.out.trans HM7.out)⟩
          subst hC
          have HMZ := Lib.hid (HM.out.trans HM7.out)
          have hq := HQ.out w7 HM7.out
          generalize nilB xv = Z at *
          go_wp2_with fail
          refine hq.mono ?_
          clear hq
          rintro e w8 ⟨rfl, m8⟩
          have HM8 := Lib.hid (HMZ.out.trans m8)
          clear m8
          cases Z with
          | true =>
            have HF0 : Hid (f = 0) := Lib.hid (by rw [HFV.out, if_neg (by decide), if_neg (fun q => Bool.noConfusion q.2)])
            have HG : Hid (fz ((xs.take (k + 1)).map (chgF (d + 1))) = 0) := Lib.hid (HNX.out HF0.out)
            go_wp2_with fail
            go_roundw
            case rel => exact ⟨k + 1, by omega, by go_num, HG, HM8⟩
            case measure => simp [intOf]; omega
          | false =>
            have HFC := HFV
            have HFF : Hid (F = 3) := Lib.hid (by
              have h := HFC.out
              rw [if_neg (by decide), if_pos ⟨HK3.out, rfl⟩] at h
              rw [HST.out (by rw [h]; decide), h])
            go_wp2_with fail
            go_ret
            exact ⟨ret_int HFF.out.symm, HM8.out⟩
        · have k3 : (xk == 3) = false := by simpa using hn3
          have K3 := Lib.hid hn3
          clear hn2 hxk hn3
          have hv := HV.out w6 HM6.out
          generalize vCheck (d + 1) xv = C at *
          go_wp2_with fail
          refine hv.mono ?_
          clear hv
          rintro e w7 ⟨rfl, m7⟩
          have HM7 := Lib.hid (HM6.out.trans m7)
          have HX' := Lib.hid (HX.out.mod m7 (fun e => e))
          clear b0 b1 b2 b3 b4 b5 b6 b7 bl
          clear HX
          have HX := HX'
          clear HX'
          have hxx := HX.out
          have b0 := hxx.cell 0
          have b1 := hxx.cell 1
          have b2 := hxx.cell 2
          have b3 := hxx.cell 3
          have b4 := hxx.cell 4
          have b5 := hxx.cell 5
          have b6 := hxx.cell 6
          have b7 := hxx.cell 7
          have bl := hxx.lt
          simp only [List.getElem?_toArray, List.getElem?_cons_zero, List.getElem?_cons_succ] at b0 b1 b2 b3 b4 b5 b6 b7
          clear hxx
          clear m7
          by_cases hC : C = 0
          rotate_left
          · have hC1 : (C != 0) = true := by simpa using hC
            have HFF : Hid (F = C) := Lib.hid (by
              have h := HFV.out
              rw [if_pos hC] at h
              rw [HST.out (by rw [h]; exact hC), h])
            clear hC
            go_wp2_with fail
            go_ret
            exact ⟨ret_int HFF.out.symm, (HM.out.trans HM7.out)⟩
          subst hC
          have HMZ := Lib.hid (HM.out.trans HM7.out)
          have HF0 : Hid (f = 0) := Lib.hid (by rw [HFV.out, if_neg (by decide), if_neg (fun q => K3.out q.1)])
          have HG : Hid (fz ((xs.take (k + 1)).map (chgF (d + 1))) = 0) := Lib.hid (HNX.out HF0.out)
          go_wp2_with fail
          go_roundw
          case rel => exact ⟨k + 1, by omega, by go_num, HG, HMZ⟩
          case measure => simp [intOf]; omega
    · obtain rfl : k = n := by omega
      have HFF : Hid (F = 0) := Lib.hid (by rw [HF.out, ← H0.out, List.take_of_length_le (by have := HL.out; have := HCX.out; omega)])
      go_wp2_with fail
      go_ret
      exact ⟨ret_int HFF.out.symm, HM.out⟩

end Go.Proofs.YtahofcopedlenaaGreatDoor

namespace Go.Proofs.YtahofcopedlenaaGreatDoor
open Go.RowKit
set_option linter.unusedVariables false
set_option linter.unusedSimpArgs false

/-- a block of type T of two cells begins with a Builder -/
structure BuT (T : TypeId) : Prop where
  lies : liesAt Tryz.prog Tryz.prog.depth T (2 / Tryz.prog.cellsOf T) 0 83 1 = true
  ne : T ≠ 5
theorem buT_self : BuT 83 := ⟨by kernel_rfl, by decide⟩
theorem sizeBuilder : (Tryz.prog.info? 83).map (·.size) = some 2 := by kernel_rfl
theorem infoByte : (Tryz.prog.info? 5).map (fun i => (i.zero, i.size, i.bytes)) = some (some (.int .u8 0), 1, 1) := by kernel_rfl

/-- every block but b that is no plain row of bytes stays as it was -/
def Keep (b : Nat) (w w' : World) : Prop := ∀ k, k < w.heap.size → k ≠ b → (∀ cur, w.heap[k]? ≠ some (.cells cur 5 (0, 0))) → w'.heap[k]? = w.heap[k]?
theorem Keep.check {b : Nat} {w w1 : World} (h : w1 = w ∨ w1 = w.setCell ⟨b, 0, none⟩ (.pointer (some ⟨b, 0, none⟩))) (k : Nat) (hk : k ≠ b) : w1.heap[k]? = w.heap[k]? := by
  rcases h with rfl | rfl
  · rfl
  · simp only [World.setCell]
    rw [Array.getElem?_modify, if_neg (Ne.symm hk)]
section
variable {T : TypeId}
set_option maxHeartbeats 1000000 in
set_option maxRecDepth 100000 in
theorem bu_check_used (b : Nat) (w : World) (h0 : w.cell? ⟨b, 0, none⟩ = some (.pointer (some ⟨b, 0, none⟩))) :
    Calls Tryz.prog 68 #[.pointer (some ⟨b, 0, none⟩)] w fun e w' => e = .returned (.tuple #[]) ∧ w' = w := by
  obtain ⟨j, hj, _⟩ := Option.map_eq_some_iff.1 sizeBuilder
  go_enter Tryz.func68, Tryz.ntmps68
  go_wp2
  rw [Lib.run_neq_ptr_same w _ Tryz.underlying80 hj]
  go_wp2
  go_end0
  exact ⟨rfl, rfl⟩
set_option maxHeartbeats 1000000 in
set_option maxRecDepth 100000 in
theorem bu_check_fresh (hT : BuT T) (b : Nat) (w : World) (h0 : w.cell? ⟨b, 0, none⟩ = some (.pointer none)) (hsh : w.shape? b = some (T, 2)) (hfz : w.frozen? ⟨b, 0, none⟩ = false) :
    Calls Tryz.prog 68 #[.pointer (some ⟨b, 0, none⟩)] w fun e w' => e = .returned (.tuple #[]) ∧ w' = w.setCell ⟨b, 0, none⟩ (.pointer (some ⟨b, 0, none⟩)) := by
  obtain ⟨j, hj, hjs⟩ := Option.map_eq_some_iff.1 sizeBuilder
  go_enter Tryz.func68, Tryz.ntmps68
  go_wp2
  rw [Lib.run_to_unsafe w ⟨b, 0, none⟩ Tryz.underlying80 Tryz.underlying137 hj (by rw [hjs]; decide) hsh (Nat.zero_lt_succ 1)]
  simp only [Result.andThen]
  rw [Oper.upon_value]
  go_wp2
  rw [run_callFunc_extern Tryz.func87 (by kernel_rfl) (by kernel_rfl) (by kernel_rfl) (e := Extern.AbiNoEscape.same) (by kernel_rfl)]
  rw [Lib.run_noEscape]
  simp only [Result.andThen]
  rw [Oper.upon_value]
  go_wp2
  rw [Lib.run_from_unsafe w ⟨b, 0, none⟩ Tryz.underlying137 Tryz.underlying80 hj hsh hT.lies]
  simp only [Result.andThen]
  rw [Oper.upon_value]
  go_wp2
  go_end0
  exact ⟨rfl, rfl⟩
theorem bu_check (hT : BuT T) (B b : Nat) (bs : List Value) (w : World) (h : Lib.IsBuilder T 5 B b bs w) :
    Calls Tryz.prog 68 #[.pointer (some ⟨b, 0, none⟩)] w fun e w' => e = .returned (.tuple #[]) ∧ (Lib.BuilderAt T 5 B b (.pointer (some ⟨b, 0, none⟩)) bs w' ∧ Below B w w' ∧ (w' = w ∨ w' = w.setCell ⟨b, 0, none⟩ (.pointer (some ⟨b, 0, none⟩)))) := by
  rcases h with h | h
  · refine (bu_check_fresh hT b w h.cell0 h.shape h.frozen0).mono ?_
    rintro e w' ⟨rfl, rfl⟩
    exact ⟨rfl, h.used _, (Below.refl B w).setCell (p := ⟨b, 0, none⟩) h.1 _, .inr rfl⟩
  · refine (bu_check_used b w h.cell0).mono ?_
    rintro e w' ⟨rfl, rfl⟩
    exact ⟨rfl, h, Below.refl B _, .inl rfl⟩
set_option maxHeartbeats 1000000 in
set_option maxRecDepth 100000 in
theorem bu_len (B b : Nat) (bs : List Value) (w : World) (h : Lib.IsBuilder T 5 B b bs w) :
    Calls Tryz.prog 44 #[.pointer (some ⟨b, 0, none⟩)] w fun e w' => e = .returned (.int .i64 bs.length) ∧ w' = w := by
  obtain ⟨p, hB, v, hbk, hown, hne⟩ : ∃ p, Lib.BuilderAt T 5 B b p bs w := by
    rcases h with h | h
    · exact ⟨_, h⟩
    · exact ⟨_, h⟩
  obtain ⟨ao, cap, rfl⟩ : ∃ ao cap, v = .slice ao bs.length cap := by
    rcases hown.2 with ⟨hv, h0⟩ | ⟨g, cap, cur, hv, _⟩
    · exact ⟨none, 0, by rw [hv, h0]⟩
    · exact ⟨_, _, hv⟩
  have c1 : w.cell? ⟨b, 1, none⟩ = some (.slice ao bs.length cap) := by rw [Lib.cell_of_heap hbk]; rfl
  go_enter Tryz.func44, Tryz.ntmps44
  go_wp2
  go_ret
  exact ⟨rfl, rfl⟩
set_option maxHeartbeats 2000000 in
set_option maxRecDepth 100000 in
theorem bu_byte (hT : BuT T) (B b : Nat) (bs : List Value) (c : Int) (w : World) (h : Lib.IsBuilder T 5 B b bs w) (hlen : bs.length + 1 ≤ 140737488355328) (hBw : B ≤ w.heap.size) :
    Calls Tryz.prog 103 #[.pointer (some ⟨b, 0, none⟩), .int .u8 c] w fun e w' => e = .returned .nilIface ∧ (Lib.BuilderAt T 5 B b (.pointer (some ⟨b, 0, none⟩)) (bs ++ [.int .u8 c]) w' ∧ Below B w w' ∧ Keep b w w') := by
  obtain ⟨i0, hi, hz0, hz1, hz2⟩ := info_parts infoByte
  go_enter Tryz.func103, Tryz.ntmps103
  go_wp2_with fail
  refine (bu_check hT B b bs _ h).mono ?_
  rintro e w1 ⟨rfl, h1, hb1, hck⟩
  have HCK := Lib.hid hck
  clear hck
  obtain ⟨hB, v, hbk, hown, hne⟩ := h1
  have c0 : w1.cell? ⟨b, 0, none⟩ = some (.pointer (some ⟨b, 0, none⟩)) := by rw [Lib.cell_of_heap hbk]; rfl
  have c1 : w1.cell? ⟨b, 1, none⟩ = some v := by rw [Lib.cell_of_heap hbk]; rfl
  go_wp2_with (at_builtin; refine wpList_append_own _ rfl _ _ 81 rfl B 5 i0 (.int .u8 0) 1 1 Tryz.underlying81 hi hz0 hz1 hz2 rfl (by decide) _ _ _ rfl (hown.alloc _) ⟨w1.heap.size, 0, none⟩ 1 1 [.int .u8 c] rfl rfl ?c1 ?c2 ?c3 ?c4 ?c5 ?_)
  case c1 =>
    intro j u hj
    match j, hj with
    | 0, hj => simp at hj; subst hj; simp [Addr.add]
  case c2 => intro u hu; simp at hu; subst hu; rfl
  case c3 => unfold maxLen; omega
  case c4 => omega
  case c5 => have := hb1.size; simp; omega
  intro v' w2 hown' hgrow _
  have hlt : b < w1.heap.size := heap_lt hbk
  have hb2 : w2.heap[b]? = some (.cells #[.pointer (some ⟨b, 0, none⟩), v] T (0, 0)) := by
    rw [hgrow.block b (by simp; omega) (fun e => hne e.symm), Lib.alloc_old w1 _ b hlt]
    exact hbk
  have d0 : w2.cell? ⟨b, 0, none⟩ = some (.pointer (some ⟨b, 0, none⟩)) := by rw [Lib.cell_of_heap hb2]; rfl
  have d1 : w2.cell? ⟨b, 1, none⟩ = some v := by rw [Lib.cell_of_heap hb2]; rfl
  have f1 : w2.frozen? ⟨b, 1, none⟩ = false := Lib.frozen_of_heap hb2 1
  obtain ⟨g, cap, rfl⟩ : ∃ g cap, v' = .slice (some ⟨g, 0, none⟩) (bs.length + 1) cap := by
    rcases hown'.2 with ⟨_, h0⟩ | ⟨g, cap, cur, hv, _⟩
    · omega
    · exact ⟨g, cap, hv⟩
  go_wp2
  go_ret
  refine ⟨rfl, ?_, ?_, ?_⟩
  · exact Lib.BuilderAt.put (T := T) (e := 5) hB hb2 (bs' := bs ++ [.int .u8 c]) (by simpa using hown') hT.ne
  · exact ((hb1.alloc (by have := hb1.size; omega) _).grown hgrow (by have := hb1.size; simp; omega) (fun k hk => (hown.lt k hk).1)).setCell (p := ⟨b, 1, none⟩) hB _
  · intro k hk hkb hfr
    have h0 := Keep.check HCK.out k hkb
    have hk1 : k < w1.heap.size := by have := hb1.size; omega
    have hno : some k ≠ v.ownBlock := fun e => by
      rcases hown.2 with ⟨hv, _⟩ | ⟨g, cap, cur, hv, _, hg, _⟩
      · rw [hv] at e; simp [Value.ownBlock] at e
      · rw [hv] at e
        simp only [Value.ownBlock, Option.some.injEq] at e
        subst e
        exact hfr _ (h0.symm.trans hg)
    have h2 : w2.heap[k]? = w1.heap[k]? := (hgrow.block k (by simp; omega) hno).trans (Lib.alloc_old w1 _ k hk1)
    rw [← h0, ← h2]
    simp only [World.setCell]
    rw [Array.getElem?_modify, if_neg (Ne.symm hkb)]
set_option maxHeartbeats 2000000 in
set_option maxRecDepth 100000 in
theorem bu_string (hT : BuT T) (B b : Nat) (bs : List Value) (s : ByteArray) (w : World) (h : Lib.IsBuilder T 5 B b bs w) (hlen : bs.length + s.size ≤ 140737488355328) (hBw : B ≤ w.heap.size) :
    Calls Tryz.prog 43 #[.pointer (some ⟨b, 0, none⟩), .string s] w fun e w' => e = .returned (.tuple #[.int .i64 s.size, .nilIface]) ∧ (Lib.BuilderAt T 5 B b (.pointer (some ⟨b, 0, none⟩)) (bs ++ Lib.strCells s) w' ∧ Below B w w' ∧ Keep b w w') := by
  obtain ⟨i0, hi, hz0, hz1, hz2⟩ := info_parts infoByte
  go_enter Tryz.func43, Tryz.ntmps43
  go_wp2_with fail
  refine (bu_check hT B b bs _ h).mono ?_
  rintro e w1 ⟨rfl, h1, hb1, hck⟩
  have HCK := Lib.hid hck
  clear hck
  obtain ⟨hB, v, hbk, hown, hne⟩ := h1
  have c0 : w1.cell? ⟨b, 0, none⟩ = some (.pointer (some ⟨b, 0, none⟩)) := by rw [Lib.cell_of_heap hbk]; rfl
  have c1 : w1.cell? ⟨b, 1, none⟩ = some v := by rw [Lib.cell_of_heap hbk]; rfl
  go_wp2_with (at_builtin; refine Lib.wpList_append_own_string _ rfl _ _ 81 9 rfl B 5 i0 Tryz.underlying81 Tryz.underlying9 hi hz0 hz1 hz2 _ _ _ rfl hown s rfl ?c3 ?c4 ?c5 ?_)
  case c3 => unfold maxLen; omega
  case c4 => omega
  case c5 => have := hb1.size; omega
  intro v' w2 hown' hgrow _
  have hlt : b < w1.heap.size := heap_lt hbk
  have hb2 : w2.heap[b]? = some (.cells #[.pointer (some ⟨b, 0, none⟩), v] T (0, 0)) := by
    rw [hgrow.block b hlt (fun e => hne e.symm)]
    exact hbk
  have d0 : w2.cell? ⟨b, 0, none⟩ = some (.pointer (some ⟨b, 0, none⟩)) := by rw [Lib.cell_of_heap hb2]; rfl
  have d1 : w2.cell? ⟨b, 1, none⟩ = some v := by rw [Lib.cell_of_heap hb2]; rfl
  have f1 : w2.frozen? ⟨b, 1, none⟩ = false := Lib.frozen_of_heap hb2 1
  obtain ⟨ao, n', cap, rfl⟩ : ∃ ao n' cap, v' = .slice ao n' cap := by
    rcases hown'.2 with ⟨hv, _⟩ | ⟨g, cap, cur, hv, _⟩
    · exact ⟨_, _, _, hv⟩
    · exact ⟨_, _, _, hv⟩
  go_wp2
  go_ret2
  refine ⟨rfl, ?_, ?_, ?_⟩
  · exact Lib.BuilderAt.put (T := T) (e := 5) hB hb2 (bs' := bs ++ Lib.strCells s) (by simpa [Lib.strCells_length] using hown') hT.ne
  · exact (hb1.grown hgrow (by have := hb1.size; omega) (fun k hk => (hown.lt k hk).1)).setCell (p := ⟨b, 1, none⟩) hB _
  · intro k hk hkb hfr
    have h0 := Keep.check HCK.out k hkb
    have hk1 : k < w1.heap.size := by have := hb1.size; omega
    have hno : some k ≠ v.ownBlock := fun e => by
      rcases hown.2 with ⟨hv, _⟩ | ⟨g, cap, cur, hv, _, hg, _⟩
      · rw [hv] at e; simp [Value.ownBlock] at e
      · rw [hv] at e
        simp only [Value.ownBlock, Option.some.injEq] at e
        subst e
        exact hfr _ (h0.symm.trans hg)
    have h2 : w2.heap[k]? = w1.heap[k]? := hgrow.block k hk1 hno
    rw [← h0, ← h2]
    simp only [World.setCell]
    rw [Array.getElem?_modify, if_neg (Ne.symm hkb)]
set_option maxHeartbeats 2000000 in
set_option maxRecDepth 100000 in
/-- String() of a Builder that holds something -/
theorem bu_give (B b : Nat) (l : List UInt8) (w : World) (h : Lib.IsBuilder T 5 B b (Lib.byteCells l) w) (h0 : l ≠ []) :
    Calls Tryz.prog 45 #[.pointer (some ⟨b, 0, none⟩)] w fun e w' => e = .returned (.string ⟨l.toArray⟩) ∧ Below B w w' := by
  obtain ⟨p, hB, v, hbk, hown, hne⟩ : ∃ p, Lib.BuilderAt T 5 B b p (Lib.byteCells l) w := by
    rcases h with h | h
    · exact ⟨_, h⟩
    · exact ⟨_, h⟩
  have hl0 : l.length ≠ 0 := by simpa using h0
  rw [Lib.byteCells_length] at hown
  obtain ⟨g, cap, cur, rfl, hbg, hg, hnc, hcm, hcs, htake⟩ : ∃ g cap cur, v = .slice (some ⟨g, 0, none⟩) l.length cap ∧ B ≤ g ∧ w.heap[g]? = some (.cells cur 5 (0, 0)) ∧ l.length ≤ cap ∧ cap ≤ maxLen ∧ cur.size = cap * 1 ∧ cur.toList.take (l.length * 1) = Lib.byteCells l := by
    rcases hown.2 with ⟨_, hz⟩ | ⟨g, cap, cur, hv, r⟩
    · exact absurd hz hl0
    · exact ⟨g, cap, cur, hv, r⟩
  have c1 : w.drew.cell? ⟨b, 1, none⟩ = some (.slice (some ⟨g, 0, none⟩) l.length cap) := by
    have : w.drew.heap[b]? = some (.cells #[p, .slice (some ⟨g, 0, none⟩) l.length cap] T (0, 0)) := hbk
    rw [Lib.cell_of_heap this]; rfl
  have hSD : (Builtin.unsafeSliceData_ #[81] 116 #[.slice (some ⟨g, 0, none⟩) l.length cap]).run Tryz.prog w.drew = .ok (.pointer (some ⟨g, 0, none⟩)) w.drew :=
    Lib.run_unsafeSliceData_row _ _ _ _ _ _ (by omega)
  have hUS : (Builtin.unsafeString_ #[116, 3] 9 #[.pointer (some ⟨g, 0, none⟩), .int .i64 l.length]).run Tryz.prog w.drew = .ok (.string ⟨l.toArray⟩) (w.drew.freeze ⟨g, 0, none⟩ l.length) := by
    refine Lib.run_unsafeString_row w.drew 116 3 9 5 Tryz.underlying116 (by kernel_rfl) g cur.size (by have hg' : w.drew.heap[g]? = some (.cells cur 5 (0, 0)) := hg; simp [World.shape?, hg']) l h0 (by omega) (by unfold maxLen at hcm; omega) ?_
    intro j x hx
    have := hown.cells (g := g) rfl j (.int .u8 x.toNat) (by simp [Lib.byteCells, hx])
    exact this
  go_enter Tryz.func45, Tryz.ntmps45
  go_wp2
  go_region
  all_goals (go_wp2; go_ret; exact ⟨rfl, Lib.below_freeze (Below.drew (Below.refl B w)) (p := ⟨g, 0, none⟩) hbg _⟩)
end

end Go.Proofs.YtahofcopedlenaaGreatDoor

namespace Go.Proofs.YtahofcopedlenaaGreatDoor
open Go.RowKit
set_option linter.unusedVariables false
set_option linter.unusedSimpArgs false

/-- a Builder at the head of block b (of type T) that holds the bytes l, its buffer from B on -/
abbrev Bw (T : TypeId) (B b : Nat) (l : List UInt8) (w : World) : Prop := Lib.IsBuilder T 5 B b (Lib.byteCells l) w
theorem Mod.of_belowB {B : Nat} {w w' : World} (h : Below B w w') : Mod (fun k => B ≤ k) w w' :=
  ⟨h.os, h.tape, h.output, h.size, fun i hi hs => h.block i (by omega)⟩
theorem New.grownBy {w w' : World} (h : New w w') (row : Option Nat) : w.grownBy w' row :=
  ⟨h.os, h.tape, h.output, h.size, fun k hk _ => h.block k hk (fun e => e)⟩
/-- what turned from B on, where w ends, is new -/
theorem New.from {B : Nat} {w w1 w2 : World} (h : New w w1) (hm : Mod (fun k => B ≤ k) w1 w2) (hB : w.heap.size ≤ B) : New w w2 :=
  h.step hm (fun i hi e => by omega)
theorem Keep.refl (b : Nat) (w : World) : Keep b w w := fun _ _ _ _ => rfl
theorem Keep.new {b : Nat} {w w' : World} (h : New w w') : Keep b w w' := fun k hk _ _ => h.block k hk (fun e => e)
theorem Keep.trans {b : Nat} {w w1 w2 : World} (h : Keep b w w1) (h1 : Keep b w1 w2) (hs : w.heap.size ≤ w1.heap.size) : Keep b w w2 := fun k hk hb hf => by
  have e := h k hk hb hf
  exact (h1 k (by omega) hb (fun cur => by rw [e]; exact hf cur)).trans e
theorem Blk.keep {b k : Nat} {t : TypeId} {cs : Array Value} {w w' : World} (h : Blk w k t cs) (hkp : Keep b w w') (hk : k ≠ b) (ht : t ≠ 5) : Blk w' k t cs :=
  (hkp k (heap_lt h) hk (fun cur e => by
    rw [show w.heap[k]? = some (.cells cs t (0, 0)) from h] at e
    injection e with e
    injection e with _ e2
    exact ht e2)).trans h
theorem Mod.keep {b B : Nat} {w w' : World} (hm : Mod (fun k => B ≤ k) w w') (hkp : Keep b w w') : Mod (fun k => k = b ∨ TB w k 5) w w' :=
  ⟨hm.os, hm.tape, hm.output, hm.size, fun i hi hs => hkp i hi (fun e => hs (.inl e)) (fun cur e => hs (.inr ⟨cur, _, e⟩))⟩
section
variable {T : TypeId}
theorem Bw.fresh {w : World} {B b : Nat} (hb : Blk w b T #[.pointer none, .slice none 0 0]) (hB : B ≤ b) : Bw T B b [] w :=
  .inl ⟨hB, .slice none 0 0, hb, World.ownsRow_nil _ _ _ _, by simp [Value.ownBlock]⟩
theorem Bw.new {B b : Nat} {l : List UInt8} {w w' : World} (h : Bw T B b l w) (hm : New w w') : Bw T B b l w' := by
  have key : ∀ p, Lib.BuilderAt T 5 B b p (Lib.byteCells l) w → Lib.BuilderAt T 5 B b p (Lib.byteCells l) w' := fun p ⟨h1, v, h2, h3, h4⟩ =>
    ⟨h1, v, (hm.block b (heap_lt h2) (fun e => e)).trans h2, h3.kept (hm.grownBy none) (by cases v.ownBlock with | none => exact .inl rfl | some k => exact .inr (by simp)), h4⟩
  exact h.imp (key _) (key _)
theorem Bw.lt {B b : Nat} {l : List UInt8} {w : World} (h : Bw T B b l w) : B ≤ b ∧ b < w.heap.size := by
  rcases h with ⟨h1, v, h2, _⟩ | ⟨h1, v, h2, _⟩
  · exact ⟨h1, heap_lt h2⟩
  · exact ⟨h1, heap_lt h2⟩
theorem bw_string (hT : BuT T) (B b : Nat) (l : List UInt8) (s : ByteArray) (w : World) (h : Bw T B b l w) (hn : l.length + s.size ≤ 1000000) :
    Calls Tryz.prog 43 #[.pointer (some ⟨b, 0, none⟩), .string s] w fun e w' => e = .returned (.tuple #[.int .i64 s.size, .nilIface]) ∧ Bw T B b (l ++ s.data.toList) w' ∧ Mod (fun k => B ≤ k) w w' ∧ Keep b w w' := by
  have hlt := h.lt
  refine (bu_string hT B b (Lib.byteCells l) s w h (by rw [Lib.byteCells_length]; omega) (by omega)).mono ?_
  rintro e w' ⟨rfl, hb, hm, hkp⟩
  refine ⟨rfl, .inr ?_, Mod.of_belowB hm, hkp⟩
  rw [Lib.byteCells_append, ← Lib.strCells_eq]
  exact hb
theorem bw_byte (hT : BuT T) (B b : Nat) (l : List UInt8) (c : UInt8) (n : Int) (hc : n = c.toNat) (w : World) (h : Bw T B b l w) (hn : l.length + 1 ≤ 1000000) :
    Calls Tryz.prog 103 #[.pointer (some ⟨b, 0, none⟩), .int .u8 n] w fun e w' => e = .returned .nilIface ∧ Bw T B b (l ++ [c]) w' ∧ Mod (fun k => B ≤ k) w w' ∧ Keep b w w' := by
  subst hc
  have hlt := h.lt
  refine (bu_byte hT B b (Lib.byteCells l) c.toNat w h (by rw [Lib.byteCells_length]; omega) (by omega)).mono ?_
  rintro e w' ⟨rfl, hb, hm, hkp⟩
  refine ⟨rfl, .inr ?_, Mod.of_belowB hm, hkp⟩
  rw [Lib.byteCells_append]
  exact hb
theorem bw_len (B b : Nat) (l : List UInt8) (w : World) (h : Bw T B b l w) :
    Calls Tryz.prog 44 #[.pointer (some ⟨b, 0, none⟩)] w fun e w' => e = .returned (.int .i64 l.length) ∧ w' = w := by
  have := bu_len B b (Lib.byteCells l) w h
  rwa [Lib.byteCells_length] at this
theorem bw_give (B b : Nat) (l : List UInt8) (w : World) (h : Bw T B b l w) (h0 : l ≠ []) :
    Calls Tryz.prog 45 #[.pointer (some ⟨b, 0, none⟩)] w fun e w' => e = .returned (.string ⟨l.toArray⟩) ∧ Mod (fun k => B ≤ k) w w' := by
  refine (bu_give B b l w h h0).mono ?_
  rintro e w' ⟨rfl, hm⟩
  exact ⟨rfl, Mod.of_belowB hm⟩
end

abbrev hexB : ByteArray := ⟨#[48, 49, 50, 51, 52, 53, 54, 55, 56, 57, 97, 98, 99, 100, 101, 102]⟩
theorem hexD_at (m : Nat) (h : m < 16) : hexD m = hexB[m]'h := by
  match m, h with
  | 0, _ => rfl
  | 1, _ => rfl
  | 2, _ => rfl
  | 3, _ => rfl
  | 4, _ => rfl
  | 5, _ => rfl
  | 6, _ => rfl
  | 7, _ => rfl
  | 8, _ => rfl
  | 9, _ => rfl
  | 10, _ => rfl
  | 11, _ => rfl
  | 12, _ => rfl
  | 13, _ => rfl
  | 14, _ => rfl
  | 15, _ => rfl
  | n + 16, h => exact absurd h (by omega)

set_option maxRecDepth 100000 in
set_option maxHeartbeats 1500000 in
theorem quote_v (s : ByteArray) (w : World) (hs : s.size ≤ 100000) :
    Calls Tryz.prog 102 #[.string s] w fun e w' => e = .returned (.string ⟨(quoteL s.data.toList).toArray⟩) ∧ New w w' := by
  have hb0 := Blk.new w 83 #[.pointer none, .slice none 0 0]
  have hm0 : New w (w.alloc (.cells #[.pointer none, .slice none 0 0] 83)) := (Mod.refl _ _).alloc _
  go_enter Tryz.func102, Tryz.ntmps102
  go_upto_region 2 with (fail)
  generalize w.alloc (.cells #[.pointer none, .slice none 0 0] 83) = w1 at *
  generalize hbe : w.heap.size = B at *
  have HB := Lib.hid (Bw.fresh hb0 (Nat.le_refl _))
  have HM := Lib.hid hm0
  have HBE := Lib.hid hbe
  have HL : Hid (([] : List UInt8).length + 1 ≤ 1000000) := Lib.hid (by simp)
  clear hb0 hm0 hbe
  go_wp2_with fail
  refine (bw_byte buT_self B B _ 34 34 (by first | rfl | (exact HC.out.symm)) _ HB.out (by have hq := HL.out; first | omega | (simp; done) | (simp at hq ⊢; omega))).mono ?_
  rintro e wz ⟨rfl, hb1, hm1, -⟩
  have HM1 := Lib.hid (HM.out.from hm1 (Nat.le_of_eq HBE.out))
  clear HB HM hm1
  have HB := Lib.hid hb1
  have HM := HM1
  clear hb1 HM1
  clear HL
  go_wp2_with fail
  go_loopw [9] (fun i wr => ∃ k : Nat, k ≤ s.size ∧ i = .int .i64 k ∧ Hid (Bw 83 B B (34 :: (s.data.toList.take k).flatMap qc) wr) ∧ Hid (New w wr)) (fun i _ => s.size - (intOf i).toNat)
  case atStart => exact ⟨0, Nat.zero_le _, rfl, by simpa using HB, HM⟩
  case round =>
    clear HB HM
    rename World => wr
    obtain ⟨k, hk, rfl, HB, HM⟩ := hrel
    have HL : Hid ((34 :: (s.data.toList.take k).flatMap qc).length + 1 ≤ 700000) := Lib.hid (by
      have h1 := quoteL_length (s.data.toList.take k)
      simp only [quoteL, List.length_cons, List.length_append, List.length_nil, List.length_take] at h1 ⊢
      have h2 : s.data.toList.length = s.size := rfl
      omega)
    by_cases hlt : k < s.size
    · have hkl : k < s.data.toList.length := hlt
      have HTK : Hid ((34 :: (s.data.toList.take (k + 1)).flatMap qc) = (34 :: (s.data.toList.take k).flatMap qc) ++ qc s[k]) := Lib.hid (by
        rw [List.take_succ_eq_append_getElem hkl, List.flatMap_append]
        simp [ByteArray.getElem_eq_getElem_data])
      have hb1 : (0 : Int) ≤ k := by omega
      have hb2 : (k : Int) < s.size := by omega
      generalize 34 :: (s.data.toList.take k).flatMap qc = L at *
      go_upto_region 8 with (fail)
      generalize s[k] = c at *
      have hc8 := c.toNat_lt
      generalize hcn : (c.toNat : Int) = n at *
      have HC := Lib.hid hcn
      have hn0 : 0 ≤ n ∧ n < 256 := by omega
      obtain ⟨hn0, hn1⟩ := hn0
      clear hcn hc8
      have hcc : ∀ q : Nat, n = (q : Int) → q < 256 → c = UInt8.ofNat q := fun q h hq => by
        have h1 : c.toNat = q := by have := HC.out; omega
        rw [← h1]; simp
      have HCC := Lib.hid hcc
      clear hcc
      by_cases n34 : n = 34
      · subst n34
        have HQ : Hid (qc c = [92, c]) := Lib.hid (by rw [HCC.out 34 rfl (by omega)]; rfl)
        go_wp2_with fail
        refine (bw_byte buT_self B B _ 92 92 (by first | rfl | (exact HC.out.symm)) _ HB.out (by have hq := HL.out; first | omega | (simp; done) | (simp at hq ⊢; omega))).mono ?_
        rintro e wz ⟨rfl, hb1, hm1, -⟩
        have HM1 := Lib.hid (HM.out.from hm1 (Nat.le_of_eq HBE.out))
        clear HB HM hm1
        have HB := Lib.hid hb1
        have HM := HM1
        clear hb1 HM1
        go_wp2_with fail
        refine (bw_byte buT_self B B _ c 34 (by first | rfl | (exact HC.out.symm)) _ HB.out (by have hq := HL.out; first | omega | (simp; done) | (simp at hq ⊢; omega))).mono ?_
        rintro e wz ⟨rfl, hb1, hm1, -⟩
        have HM1 := Lib.hid (HM.out.from hm1 (Nat.le_of_eq HBE.out))
        clear HB HM hm1
        have HB := Lib.hid hb1
        have HM := HM1
        clear hb1 HM1
        go_wp2_with fail
        go_roundw
        case rel => exact ⟨k + 1, by omega, by go_num, Lib.hid (by rw [HTK.out, HQ.out]; simpa using HB.out), HM⟩
        case measure => simp [intOf]; omega
      have f34 : (n == 34) = false := by simpa using n34
      by_cases n92 : n = 92
      · subst n92
        have HQ : Hid (qc c = [92, c]) := Lib.hid (by rw [HCC.out 92 rfl (by omega)]; rfl)
        go_wp2_with fail
        refine (bw_byte buT_self B B _ 92 92 (by first | rfl | (exact HC.out.symm)) _ HB.out (by have hq := HL.out; first | omega | (simp; done) | (simp at hq ⊢; omega))).mono ?_
        rintro e wz ⟨rfl, hb1, hm1, -⟩
        have HM1 := Lib.hid (HM.out.from hm1 (Nat.le_of_eq HBE.out))
        clear HB HM hm1
        have HB := Lib.hid hb1
        have HM := HM1
        clear hb1 HM1
        go_wp2_with fail
        refine (bw_byte buT_self B B _ c 92 (by first | rfl | (exact HC.out.symm)) _ HB.out (by have hq := HL.out; first | omega | (simp; done) | (simp at hq ⊢; omega))).mono ?_
        rintro e wz ⟨rfl, hb1, hm1, -⟩
        have HM1 := Lib.hid (HM.out.from hm1 (Nat.le_of_eq HBE.out))
        clear HB HM hm1
        have HB := Lib.hid hb1
        have HM := HM1
        clear hb1 HM1
        go_wp2_with fail
        go_roundw
        case rel => exact ⟨k + 1, by omega, by go_num, Lib.hid (by rw [HTK.out, HQ.out]; simpa using HB.out), HM⟩
        case measure => simp [intOf]; omega
      have f92 : (n == 92) = false := by simpa using n92
      by_cases n10 : n = 10
      · subst n10
        have HQ : Hid (qc c = [92, 110]) := Lib.hid (by rw [HCC.out 10 rfl (by omega)]; rfl)
        go_wp2_with fail
        refine (bw_string buT_self B B _ (⟨#[92, 110]⟩ : ByteArray) _ HB.out (by have hq := HL.out; exact Nat.le_trans (Nat.add_le_add_left (show ByteArray.size (⟨#[92, 110]⟩ : ByteArray) ≤ 10 by decide) _) (by first | omega | (simp at hq ⊢; omega)))).mono ?_
        rintro e wz ⟨rfl, hb1, hm1, -⟩
        have HM1 := Lib.hid (HM.out.from hm1 (Nat.le_of_eq HBE.out))
        clear HB HM hm1
        have HB := Lib.hid hb1
        have HM := HM1
        clear hb1 HM1
        go_wp2_with fail
        go_roundw
        case rel => exact ⟨k + 1, by omega, by go_num, Lib.hid (by rw [HTK.out, HQ.out]; simpa using HB.out), HM⟩
        case measure => simp [intOf]; omega
      have f10 : (n == 10) = false := by simpa using n10
      by_cases n13 : n = 13
      · subst n13
        have HQ : Hid (qc c = [92, 114]) := Lib.hid (by rw [HCC.out 13 rfl (by omega)]; rfl)
        go_wp2_with fail
        refine (bw_string buT_self B B _ (⟨#[92, 114]⟩ : ByteArray) _ HB.out (by have hq := HL.out; exact Nat.le_trans (Nat.add_le_add_left (show ByteArray.size (⟨#[92, 114]⟩ : ByteArray) ≤ 10 by decide) _) (by first | omega | (simp at hq ⊢; omega)))).mono ?_
        rintro e wz ⟨rfl, hb1, hm1, -⟩
        have HM1 := Lib.hid (HM.out.from hm1 (Nat.le_of_eq HBE.out))
        clear HB HM hm1
        have HB := Lib.hid hb1
        have HM := HM1
        clear hb1 HM1
        go_wp2_with fail
        go_roundw
        case rel => exact ⟨k + 1, by omega, by go_num, Lib.hid (by rw [HTK.out, HQ.out]; simpa using HB.out), HM⟩
        case measure => simp [intOf]; omega
      have f13 : (n == 13) = false := by simpa using n13
      by_cases n9 : n = 9
      · subst n9
        have HQ : Hid (qc c = [92, 116]) := Lib.hid (by rw [HCC.out 9 rfl (by omega)]; rfl)
        go_wp2_with fail
        refine (bw_string buT_self B B _ (⟨#[92, 116]⟩ : ByteArray) _ HB.out (by have hq := HL.out; exact Nat.le_trans (Nat.add_le_add_left (show ByteArray.size (⟨#[92, 116]⟩ : ByteArray) ≤ 10 by decide) _) (by first | omega | (simp at hq ⊢; omega)))).mono ?_
        rintro e wz ⟨rfl, hb1, hm1, -⟩
        have HM1 := Lib.hid (HM.out.from hm1 (Nat.le_of_eq HBE.out))
        clear HB HM hm1
        have HB := Lib.hid hb1
        have HM := HM1
        clear hb1 HM1
        go_wp2_with fail
        go_roundw
        case rel => exact ⟨k + 1, by omega, by go_num, Lib.hid (by rw [HTK.out, HQ.out]; simpa using HB.out), HM⟩
        case measure => simp [intOf]; omega
      have f9 : (n == 9) = false := by simpa using n9
      by_cases nh : n < 32 ∨ n = 127
      · have q16 : (n / 16).toNat < 16 := by omega
        have r16 : (n % 16).toNat < 16 := by omega
        have HQ : Hid (qc c = [92, 117, 48, 48] ++ [hexB[(n / 16).toNat]'q16] ++ [hexB[(n % 16).toNat]'r16]) := Lib.hid (by
          have h0 := HC.out
          have k34 : c ≠ 34 := fun h => n34 (by rw [← h0, h]; rfl)
          have k92 : c ≠ 92 := fun h => n92 (by rw [← h0, h]; rfl)
          have k10 : c ≠ 10 := fun h => n10 (by rw [← h0, h]; rfl)
          have k13 : c ≠ 13 := fun h => n13 (by rw [← h0, h]; rfl)
          have k9 : c ≠ 9 := fun h => n9 (by rw [← h0, h]; rfl)
          have kq : (n / 16).toNat = c.toNat / 16 := by omega
          have kr : (n % 16).toNat = c.toNat % 16 := by omega
          have kh : c.toNat < 32 ∨ c = 127 := by
            rcases nh with h | h
            · exact .inl (by omega)
            · exact .inr (HCC.out 127 h (by omega))
          rw [← hexD_at _ q16, ← hexD_at _ r16, kq, kr]
          unfold qc
          rw [if_neg (by simp [k34, k92]), if_neg k10, if_neg k13, if_neg k9, if_pos kh]
          rfl)
        by_cases h32 : n < 32
        · clear nh
          go_wp2_with fail
          refine (bw_string buT_self B B _ (⟨#[92, 117, 48, 48]⟩ : ByteArray) _ HB.out (by have hq := HL.out; exact Nat.le_trans (Nat.add_le_add_left (show ByteArray.size (⟨#[92, 117, 48, 48]⟩ : ByteArray) ≤ 10 by decide) _) (by first | omega | (simp at hq ⊢; omega)))).mono ?_
          rintro e wz ⟨rfl, hb1, hm1, -⟩
          have HM1 := Lib.hid (HM.out.from hm1 (Nat.le_of_eq HBE.out))
          clear HB HM hm1
          have HB := Lib.hid hb1
          have HM := HM1
          clear hb1 HM1
          go_wp2_with fail
          refine (bw_byte buT_self B B _ _ _ (by first | rfl | (exact HC.out.symm)) _ HB.out (by have hq := HL.out; first | omega | (simp; done) | (simp at hq ⊢; omega))).mono ?_
          rintro e wz ⟨rfl, hb1, hm1, -⟩
          have HM1 := Lib.hid (HM.out.from hm1 (Nat.le_of_eq HBE.out))
          clear HB HM hm1
          have HB := Lib.hid hb1
          have HM := HM1
          clear hb1 HM1
          go_wp2_with fail
          refine (bw_byte buT_self B B _ _ _ (by first | rfl | (exact HC.out.symm)) _ HB.out (by have hq := HL.out; first | omega | (simp; done) | (simp at hq ⊢; omega))).mono ?_
          rintro e wz ⟨rfl, hb1, hm1, -⟩
          have HM1 := Lib.hid (HM.out.from hm1 (Nat.le_of_eq HBE.out))
          clear HB HM hm1
          have HB := Lib.hid hb1
          have HM := HM1
          clear hb1 HM1
          go_wp2_with fail
          go_roundw
          case rel => exact ⟨k + 1, by omega, by go_num, Lib.hid (by rw [HTK.out, HQ.out]; simpa using HB.out), HM⟩
          case measure => simp [intOf]; omega
        · have f32 : decide (n < 32) = false := by simpa using h32
          have f127 : (n == 127) = true := by simp; omega
          clear nh h32
          go_wp2_with fail
          refine (bw_string buT_self B B _ (⟨#[92, 117, 48, 48]⟩ : ByteArray) _ HB.out (by have hq := HL.out; exact Nat.le_trans (Nat.add_le_add_left (show ByteArray.size (⟨#[92, 117, 48, 48]⟩ : ByteArray) ≤ 10 by decide) _) (by first | omega | (simp at hq ⊢; omega)))).mono ?_
          rintro e wz ⟨rfl, hb1, hm1, -⟩
          have HM1 := Lib.hid (HM.out.from hm1 (Nat.le_of_eq HBE.out))
          clear HB HM hm1
          have HB := Lib.hid hb1
          have HM := HM1
          clear hb1 HM1
          go_wp2_with fail
          refine (bw_byte buT_self B B _ _ _ (by first | rfl | (exact HC.out.symm)) _ HB.out (by have hq := HL.out; first | omega | (simp; done) | (simp at hq ⊢; omega))).mono ?_
          rintro e wz ⟨rfl, hb1, hm1, -⟩
          have HM1 := Lib.hid (HM.out.from hm1 (Nat.le_of_eq HBE.out))
          clear HB HM hm1
          have HB := Lib.hid hb1
          have HM := HM1
          clear hb1 HM1
          go_wp2_with fail
          refine (bw_byte buT_self B B _ _ _ (by first | rfl | (exact HC.out.symm)) _ HB.out (by have hq := HL.out; first | omega | (simp; done) | (simp at hq ⊢; omega))).mono ?_
          rintro e wz ⟨rfl, hb1, hm1, -⟩
          have HM1 := Lib.hid (HM.out.from hm1 (Nat.le_of_eq HBE.out))
          clear HB HM hm1
          have HB := Lib.hid hb1
          have HM := HM1
          clear hb1 HM1
          go_wp2_with fail
          go_roundw
          case rel => exact ⟨k + 1, by omega, by go_num, Lib.hid (by rw [HTK.out, HQ.out]; simpa using HB.out), HM⟩
          case measure => simp [intOf]; omega
      · have f32 : decide (n < 32) = false := by simp; omega
        have f127 : (n == 127) = false := by simp; omega
        have HQ : Hid (qc c = [c]) := Lib.hid (by
          unfold qc
          have h0 := HC.out
          have k34 : c ≠ 34 := fun h => n34 (by rw [← h0, h]; rfl)
          have k92 : c ≠ 92 := fun h => n92 (by rw [← h0, h]; rfl)
          have k10 : c ≠ 10 := fun h => n10 (by rw [← h0, h]; rfl)
          have k13 : c ≠ 13 := fun h => n13 (by rw [← h0, h]; rfl)
          have k9 : c ≠ 9 := fun h => n9 (by rw [← h0, h]; rfl)
          have k32 : ¬ c.toNat < 32 := by omega
          have k127 : c ≠ 127 := fun h => nh (.inr (by rw [← h0, h]; rfl))
          simp [k34, k92, k10, k13, k9, k32, k127])
        clear nh
        go_wp2_with fail
        refine (bw_byte buT_self B B _ c n (by first | rfl | (exact HC.out.symm)) _ HB.out (by have hq := HL.out; first | omega | (simp; done) | (simp at hq ⊢; omega))).mono ?_
        rintro e wz ⟨rfl, hb1, hm1, -⟩
        have HM1 := Lib.hid (HM.out.from hm1 (Nat.le_of_eq HBE.out))
        clear HB HM hm1
        have HB := Lib.hid hb1
        have HM := HM1
        clear hb1 HM1
        go_wp2_with fail
        go_roundw
        case rel => exact ⟨k + 1, by omega, by go_num, Lib.hid (by rw [HTK.out, HQ.out]; simpa using HB.out), HM⟩
        case measure => simp [intOf]; omega
    · obtain rfl : k = s.size := by omega
      have HTE : Hid ((34 :: (s.data.toList.take s.size).flatMap qc) ++ [34] = quoteL s.data.toList) := Lib.hid (by
        rw [List.take_of_length_le (show s.data.toList.length ≤ s.size from Nat.le_refl _)]; rfl)
      generalize 34 :: (s.data.toList.take s.size).flatMap qc = L at *
      clear hlt hk
      go_wp2_with fail
      refine (bw_byte buT_self B B _ 34 34 (by first | rfl | (exact HC.out.symm)) _ HB.out (by have hq := HL.out; first | omega | (simp; done) | (simp at hq ⊢; omega))).mono ?_
      rintro e wz ⟨rfl, hb1, hm1, -⟩
      have HM1 := Lib.hid (HM.out.from hm1 (Nat.le_of_eq HBE.out))
      clear HB HM hm1
      have HB := Lib.hid hb1
      have HM := HM1
      clear hb1 HM1
      have hgv := bw_give B B _ _ HB.out (by simp)
      rw [HTE.out] at hgv
      go_wp2_with fail
      refine hgv.mono ?_
      clear hgv
      rintro e wy ⟨rfl, m5⟩
      have HM5 := Lib.hid (HM.out.from m5 (Nat.le_of_eq HBE.out))
      go_wp2_with fail
      go_ret
      exact ⟨rfl, HM5.out⟩

end Go.Proofs.YtahofcopedlenaaGreatDoor

namespace Go.Proofs.YtahofcopedlenaaGreatDoor
open Go.RowKit
set_option linter.unusedVariables false
set_option linter.unusedSimpArgs false

/-- strconv's table of powers of ten lies as its initialiser lays it -/
def Pow10 (w : World) : Prop := Lib.TabIs Tryz.prog w "internal/strconv.uint64pow10" .u64 Lib.pow10Tab
theorem Pow10.new {w w' : World} (h : Pow10 w) (hm : New w w') : Pow10 w' := by
  unfold Pow10 Lib.TabIs World.var? at *
  cases hg : Tryz.prog.globalNamed "internal/strconv.uint64pow10" with
  | none => rw [hg] at h; simp at h
  | some g =>
    rw [hg] at h
    simp only [Option.bind_some] at h ⊢
    have hlt : g < w.heap.size := by
      rcases Nat.lt_or_ge g w.heap.size with hlt | hge
      · exact hlt
      · rw [Array.getElem?_eq_none hge] at h; simp at h
    rw [hm.block g hlt (fun e => e)]
    exact h

theorem New.grow (w : World) (k : Nat) (os : Array Obj) : New w (Sort.grow (w.drewN k) os) :=
  ⟨rfl, rfl, rfl, by rw [Sort.size_grow]; exact Nat.le_add_right _ _, fun i hi _ => Sort.heap_grow_old (w.drewN k) os hi⟩

def itoaB (n : Int) : ByteArray := ⟨(Lib.itoa n).toArray⟩
theorem itoa_any (n : Int) (h : I64 n) (w : World) (ht : Pow10 w) : Calls Tryz.prog 101 #[.int .i64 n] w fun e w' => e = .returned (.string (itoaB n)) ∧ New w w' :=
  (Tryz.strconv_Itoa n h.1 h.2 w ht).mono (by rintro e w' ⟨rfl, k, os, rfl⟩; exact ⟨rfl, New.grow w k os⟩)

theorem itoaB_size {n : Int} (h : I64 n) : (itoaB n).size ≤ 21 := Lib.itoa_length_le n h.1 h.2

/-- what turns only behind w0's end leaves the table -/
theorem Pow10.mod {S : Nat → Prop} {w0 w w' : World} (h0 : Pow10 w0) (h : Pow10 w) (hm : Mod S w w') (hS : ∀ g, g < w0.heap.size → ¬ S g) : Pow10 w' := by
  unfold Pow10 Lib.TabIs World.var? at *
  cases hg : Tryz.prog.globalNamed "internal/strconv.uint64pow10" with
  | none => rw [hg] at h; simp at h
  | some g =>
    rw [hg] at h h0
    simp only [Option.bind_some] at h h0 ⊢
    have l0 : g < w0.heap.size := by
      rcases Nat.lt_or_ge g w0.heap.size with hlt | hge
      · exact hlt
      · rw [Array.getElem?_eq_none hge] at h0; simp at h0
    have l1 : g < w.heap.size := by
      rcases Nat.lt_or_ge g w.heap.size with hlt | hge
      · exact hlt
      · rw [Array.getElem?_eq_none hge] at h; simp at h
    rw [hm.block g l1 (hS g l0)]
    exact h

end Go.Proofs.YtahofcopedlenaaGreatDoor

namespace Go.Proofs.YtahofcopedlenaaGreatDoor
open Go.RowKit
set_option linter.unusedVariables false
set_option linter.unusedSimpArgs false

theorem orF_zero_iff {a b : Int} : orF a b = 0 ↔ a = 0 ∧ b = 0 := by
  unfold orF
  by_cases h : a = 0 <;> simp [h]
theorem fz_noughts : ∀ {l : List Int}, fz l = 0 → ∀ x ∈ l, x = 0
  | [], _, x, hx => by simp at hx
  | y :: l, h, x, hx => by
    unfold fz at h
    by_cases hy : y = 0
    · rw [if_neg (by simp [hy])] at h
      rcases List.mem_cons.1 hx with rfl | hx
      · exact hy
      · exact fz_noughts h x hx
    · rw [if_pos hy] at h
      exact absurd h hy
theorem right_parts {d : Nat} {v : VT} (h : vFault (d + 1) v = 0) : (0 ≤ v.kind ∧ v.kind ≤ 5) ∧ (-1000000000000000 ≤ v.num ∧ v.num ≤ 1000000000000000) ∧ (∀ k (h : k < v.list.length), vFault d v.list[k] = 0) ∧ (∀ k (h : k < v.mem.length), vFault d v.mem[k].2 = 0) := by
  have h1 : orF (orF (headF v) (namesF (v.mem.map (·.1)))) (orF (fz (v.list.map (vFault d))) (fz (v.mem.map fun p => vFault d p.2))) = 0 := h
  rw [orF_zero_iff, orF_zero_iff, orF_zero_iff] at h1
  obtain ⟨⟨hh, _⟩, hl, hm⟩ := h1
  unfold headF at hh
  split at hh
  · cases hh
  rename_i k1
  split at hh
  · cases hh
  split at hh
  · cases hh
  rename_i k2
  refine ⟨by omega, by omega, fun k hk => fz_noughts hl _ (List.mem_map.2 ⟨_, List.getElem_mem hk, rfl⟩), fun k hk => fz_noughts hm _ (List.mem_map.2 ⟨v.mem[k], List.getElem_mem hk, rfl⟩)⟩
theorem sum_map_mono {α : Type} (f g : α → Nat) : ∀ (l : List α), (∀ x ∈ l, f x ≤ g x) → (l.map f).sum ≤ (l.map g).sum
  | [], _ => by simp
  | x :: l, h => by
    have h1 := h x (by simp)
    have h2 := sum_map_mono f g l (fun y hy => h y (by simp [hy]))
    simp only [List.map_cons, List.sum_cons]
    omega
theorem vText_length (d : Nat) : ∀ v, vFault d v = 0 → (vText d v).length ≤ vW d v := by
  induction d with
  | zero => intro v _; simp [vText]
  | succ d ih =>
    intro v h
    obtain ⟨hk, hn, hl, hm⟩ := right_parts h
    have h1 : (v.list.map fun x => (vText d x).length + 1).sum ≤ (v.list.map fun x => vW d x + 1).sum := sum_map_mono _ _ _ (fun x hx => by
      obtain ⟨i, hi, rfl⟩ := List.mem_iff_getElem.1 hx
      have := ih _ (hl i hi); omega)
    have h2 : (v.mem.map fun p => (quoteL p.1.data.toList).length + 1 + (vText d p.2).length + 1).sum ≤ (v.mem.map fun p => vW d p.2 + (6 * p.1.size + 4)).sum := sum_map_mono _ _ _ (fun p hp => by
      obtain ⟨i, hi, rfl⟩ := List.mem_iff_getElem.1 hp
      have h3 := ih _ (hm i hi)
      have h4 := quoteL_length v.mem[i].1.data.toList
      have h5 : v.mem[i].1.data.toList.length = v.mem[i].1.size := rfl
      omega)
    have c1 := commas_length (v.list.map (vText d))
    have c2 := commas_length (v.mem.map fun p => quoteL p.1.data.toList ++ 58 :: vText d p.2)
    simp only [List.map_map] at c1 c2
    have e1 : ((fun x : List UInt8 => x.length + 1) ∘ vText d) = fun x => (vText d x).length + 1 := rfl
    have e2 : ((fun x : List UInt8 => x.length + 1) ∘ fun p : ByteArray × VT => quoteL p.1.data.toList ++ 58 :: vText d p.2) = fun p => (quoteL p.1.data.toList).length + 1 + (vText d p.2).length + 1 := by
      funext p; simp only [Function.comp, List.length_append, List.length_cons]; omega
    rw [e1] at c1
    rw [e2] at c2
    have q := quoteL_length v.words.data.toList
    have q5 : v.words.data.toList.length = v.words.size := rfl
    have i1 := Lib.itoa_length_le v.num (by omega) (by omega)
    have f1 : (Lib.formatBool v.flag).length ≤ 5 := by cases v.flag <;> decide
    simp only [vText, vW]
    split
    · omega
    split
    · omega
    split
    · omega
    split
    · simp only [List.length_cons, List.length_append, List.length_nil]; omega
    split
    · simp only [List.length_cons, List.length_append, List.length_nil]; omega
    · simp [nullL]; omega
theorem itoa_ne (n : Int) : Lib.itoa n ≠ [] := by
  intro h
  rcases Int.lt_or_le n 0 with h0 | h0
  · have e := Lib.itoa_neg n.natAbs (by omega)
    rw [show -(n.natAbs : Int) = n by omega, h] at e
    cases e
  · obtain ⟨u, rfl⟩ := Int.eq_ofNat_of_zero_le h0
    rw [Lib.itoa_nonneg] at h
    have := congrArg List.length h
    rw [Lib.decDigits_length] at this
    have h1 := Lib.nDigits_pos u
    simp only [List.length_nil] at this
    omega
theorem vText_ne (d : Nat) (v : VT) : vText (d + 1) v ≠ [] := by
  simp only [vText]
  split
  · cases v.flag <;> decide
  split
  · exact itoa_ne _
  split
  · simp [quoteL]
  split
  · simp
  split
  · simp
  · simp [nullL]

theorem buT_writer : BuT 129 := ⟨by kernel_rfl, by decide⟩
theorem full_v (B b : Nat) (l : List UInt8) (w : World) (h : Bw 129 B b l w) (hl : l.length ≤ 200000) :
    Calls Tryz.prog 79 #[.pointer (some ⟨b, 0, none⟩)] w fun e w' => e = .returned (.bool false) ∧ w' = w := by
  have hln := bw_len B b l w h
  have h2 : decide ((200000 : Int) < l.length) = false := by simp; omega
  have hbl := h.lt.2
  go_enter Tryz.func79, Tryz.ntmps79
  go_wp2_with fail
  refine hln.mono ?_
  clear hln
  rintro e w1 ⟨rfl, rfl⟩
  go_wp2_with fail
  go_ret
  exact ⟨rfl, rfl⟩

theorem list_room (d : Nat) (v : VT) {k : Nat} (hk : k < v.list.length) (hr : ∀ k (h : k < v.list.length), vFault d v.list[k] = 0) : 2 + (commas ((v.list.take k).map (vText d))).length + vW d v.list[k] ≤ vW (d + 1) v := by
  have c1 := commas_length ((v.list.take k).map (vText d))
  have h1 : ((v.list.take k).map fun x => (vText d x).length + 1).sum ≤ ((v.list.take k).map fun x => vW d x + 1).sum := sum_map_mono _ _ _ (fun x hx => by
    obtain ⟨i, hi, rfl⟩ := List.mem_iff_getElem.1 hx
    rw [List.getElem_take]
    have := vText_length d _ (hr i (by simp at hi; omega)); omega)
  have h2 := sum_map_one (fun x => vW d x + 1) hk
  simp only [List.map_map] at c1
  have e1 : ((fun x : List UInt8 => x.length + 1) ∘ vText d) = fun x => (vText d x).length + 1 := rfl
  rw [e1] at c1
  simp only [vW]
  omega
theorem mem_room (d : Nat) (v : VT) {k : Nat} (hk : k < v.mem.length) (hr : ∀ k (h : k < v.mem.length), vFault d v.mem[k].2 = 0) :
    2 + (commas ((v.mem.take k).map fun p => quoteL p.1.data.toList ++ 58 :: vText d p.2)).length + ((quoteL v.mem[k].1.data.toList).length + 1 + vW d v.mem[k].2) ≤ vW (d + 1) v := by
  have c1 := commas_length ((v.mem.take k).map fun p => quoteL p.1.data.toList ++ 58 :: vText d p.2)
  have h1 : ((v.mem.take k).map fun p => (quoteL p.1.data.toList).length + 1 + (vText d p.2).length + 1).sum ≤ ((v.mem.take k).map fun p => vW d p.2 + (6 * p.1.size + 4)).sum := sum_map_mono _ _ _ (fun p hp => by
    obtain ⟨i, hi, rfl⟩ := List.mem_iff_getElem.1 hp
    rw [List.getElem_take]
    have h3 := vText_length d _ (hr i (by simp at hi; omega))
    have h4 := quoteL_length (v.mem[i]'(by simp at hi; omega)).1.data.toList
    have h5 : (v.mem[i]'(by simp at hi; omega)).1.data.toList.length = (v.mem[i]'(by simp at hi; omega)).1.size := rfl
    omega)
  have h2 := sum_map_one (fun p : ByteArray × VT => vW d p.2 + (6 * p.1.size + 4)) hk
  have h4 := quoteL_length v.mem[k].1.data.toList
  have h5 : v.mem[k].1.data.toList.length = v.mem[k].1.size := rfl
  simp only [List.map_map] at c1
  have e2 : ((fun x : List UInt8 => x.length + 1) ∘ fun p : ByteArray × VT => quoteL p.1.data.toList ++ 58 :: vText d p.2) = fun p => (quoteL p.1.data.toList).length + 1 + (vText d p.2).length + 1 := by
    funext p; simp only [Function.comp, List.length_append, List.length_cons]; omega
  rw [e2] at c1
  simp only [vW]
  omega
theorem commas_next {α : Type} (f : α → List UInt8) {l : List α} {k : Nat} (h : k < l.length) : commas ((l.take (k + 1)).map f) = (if k = 0 then [] else commas ((l.take k).map f) ++ [44]) ++ f l[k] := by
  have := commas_take (l := l.map f) (k := k) (by simpa using h)
  rw [List.map_take, this, ← List.map_take]
  simp

/-- a step of the writer in block b: nothing else of the caller's turns but rows of bytes -/
def WStep (B b : Nat) (w w' : World) : Prop := Mod (fun k => B ≤ k) w w' ∧ Keep b w w'
theorem WStep.refl (B b : Nat) (w : World) : WStep B b w w := ⟨Mod.refl _ _, Keep.refl _ _⟩
theorem WStep.trans {B b : Nat} {w w1 w2 : World} (h : WStep B b w w1) (h1 : WStep B b w1 w2) : WStep B b w w2 := ⟨h.1.trans h1.1, h.2.trans h1.2 h.1.size⟩
theorem WStep.new {B b : Nat} {w w1 w2 : World} (h : WStep B b w w1) (h1 : New w1 w2) : WStep B b w w2 := h.trans ⟨h1.mono (fun _ _ e => e.elim), Keep.new h1⟩
theorem Bw.tb {T : TypeId} {B b : Nat} {l : List UInt8} {w : World} (h : Bw T B b l w) : TB w b T := by
  rcases h with ⟨h1, v, h2, _⟩ | ⟨h1, v, h2, _⟩
  · exact ⟨_, _, h2⟩
  · exact ⟨_, _, h2⟩
theorem Tree.step {w w' : World} {G : Nat → Prop} {d : Nat} {x : VA} {v : VT} {B b : Nat} (h : Tree w G d x v) (hs : WStep B b w w') (hb : TB w b 129) : Tree w' G d x v :=
  Tree.mod (hs.1.keep hs.2) (fun g _ ht e => by
    rcases e with rfl | e
    · rcases ht with ht | ht
      · exact ht.ne hb (by decide) rfl
      · exact ht.ne hb (by decide) rfl
    · rcases ht with ht | ht
      · exact ht.ne e (by decide) rfl
      · exact ht.ne e (by decide) rfl) d x v h

end Go.Proofs.YtahofcopedlenaaGreatDoor

namespace Go.Proofs.YtahofcopedlenaaGreatDoor
open Go.RowKit
set_option linter.unusedVariables false
set_option linter.unusedSimpArgs false


set_option maxRecDepth 100000 in
set_option maxHeartbeats 1500000 in
theorem writerValue_v (w0 : World) (hP0 : Pow10 w0) (B b : Nat) (hB0 : w0.heap.size ≤ B) (d : Nat) : ∀ (x : VA) (v : VT) (G : Nat → Prop) (l : List UInt8) (w : World), Tree w G d x v → Bw 129 B b l w → Fit d v → vFault d v = 0 → l.length + vW d v ≤ 200000 → Pow10 w →
    Calls Tryz.prog 78 #[.pointer (some ⟨b, 0, none⟩), x.val] w fun e w' => e = .returned (.tuple #[]) ∧ Bw 129 B b (l ++ vText d v) w' ∧ WStep B b w w' := by
  induction d with
  | zero => intro x v G l w ht; exact ht.elim
  | succ d ih =>
    intro x v G l w ht hb hf hr hlen hP
    obtain ⟨hk05, hn15, hrl, hrm⟩ := right_parts hr
    have hr0 := hr
    have hwp := hf.parts
    have hfl := ht.fields
    have HT := Lib.hid ht
    have HIH := Lib.hid ih
    have HF := Lib.hid hf
    have HRL := Lib.hid hrl
    have HRM := Lib.hid hrm
    have HW := Lib.hid hlen
    have hv : vText (d + 1) v = if v.kind = 1 then Lib.formatBool v.flag else if v.kind = 2 then Lib.itoa v.num else if v.kind = 3 then quoteL v.words.data.toList else
      if v.kind = 4 then 91 :: (commas (v.list.map (vText d)) ++ [93]) else
      if v.kind = 5 then 123 :: (commas (v.mem.map fun p => quoteL p.1.data.toList ++ 58 :: vText d p.2) ++ [125]) else nullL := rfl
    obtain ⟨g1, g2, g3, g4, g5, g6⟩ := hfl
    rw [g1, g2, g3, g4] at hv
    rw [g1] at hk05
    rw [g3] at hn15
    rw [g4, g5, g6] at hwp
    have HLN := Lib.hid g5
    have HWD := Lib.hid g4
    have HMN := Lib.hid g6
    have HV := Lib.hid hv
    obtain ⟨kind, flag, num, words, la, ln, lc, ma, mn, mc⟩ := x
    simp only at hk05 hn15 hwp HV HLN HMN HWD
    have hl2 : l.length + 40 ≤ 200000 := by simp only [vW] at hlen; omega
    have HL : Hid (l.length + 40 ≤ 200000) := Lib.hid hl2
    obtain ⟨hwp1, hwp2, hwp3⟩ := hwp
    clear g1 g2 g3 g4 g5 g6 hv hr hrl hrm ih ht hf hlen
    have hx := Blk.new w 29 #[.int .i64 kind, .bool flag, .int .i64 num, .string words, .slice la ln lc, .slice ma mn mc]
    have hm1 : New w (w.alloc (.cells #[.int .i64 kind, .bool flag, .int .i64 num, .string words, .slice la ln lc, .slice ma mn mc] 29)) := (Mod.refl _ _).alloc _
    have HS := Lib.hid ((WStep.refl B b w).new hm1)
    have HB := Lib.hid (hb.new hm1)
    have HTB := Lib.hid hb.tb
    have HP := Lib.hid (hP.new hm1)
    have HPX : Hid (∀ W, WStep B b w W → Pow10 W) := Lib.hid (fun W h => Pow10.mod hP0 hP h.1 (fun g hg e => by omega))
    have HR := Lib.hid hr0
    have hxne : w.heap.size ≠ b := by have := hb.lt; omega
    go_enter Tryz.func78, Tryz.ntmps78
    go_upto_region 1 with (fail)
    generalize w.alloc (.cells #[.int .i64 kind, .bool flag, .int .i64 num, .string words, .slice la ln lc, .slice ma mn mc] 29) = w1 at *
    generalize w.heap.size = xb at *
    have HXN := Lib.hid hxne
    have HX := Lib.hid hx
    clear hx hm1 hb hP hxne hr0
    have hfu := full_v B b l w1 HB.out (by omega)
    go_wp2_with fail
    refine hfu.mono ?_
    clear hfu
    rintro e w1 ⟨rfl, rfl⟩
    have hbl := HB.out.lt.2
    have e0 := HX.out.cell 0
    have el := HX.out.lt
    simp only [List.getElem?_toArray, List.getElem?_cons_zero] at e0
    obtain ⟨hk50, hk51⟩ := hk05
    obtain ⟨hn150, hn151⟩ := hn15
    have hkk : kind = 0 ∨ kind = 1 ∨ kind = 2 ∨ kind = 3 ∨ kind = 4 ∨ kind = 5 := by omega
    obtain rfl | rfl | rfl | rfl | rfl | rfl := hkk
    · have HVT : Hid (vText (d + 1) v = [110, 117, 108, 108]) := Lib.hid (by rw [HV.out]; rfl)
      go_wp2_with fail
      refine (bw_string buT_writer B b _ (⟨#[110, 117, 108, 108]⟩ : ByteArray) _ HB.out (by have hq := HL.out; exact Nat.le_trans (Nat.add_le_add_left (show ByteArray.size (⟨#[110, 117, 108, 108]⟩ : ByteArray) ≤ 10 by decide) _) (by first | omega | (simp at hq ⊢; omega)))).mono ?_
      rintro e wz ⟨rfl, hb1, hm1, hk1⟩
      have HTBM := Lib.hid HB.out.tb
      have HKW : Hid (WStep B b _ _) := Lib.hid ⟨hm1, hk1⟩
      have HS1 := Lib.hid (HS.out.trans ⟨hm1, hk1⟩)
      clear HB HS hm1 hk1
      have HB := Lib.hid hb1
      have HS := HS1
      clear hb1 HS1
      go_wp2_with fail
      go_end0
      exact ⟨rfl, by rw [HVT.out]; exact HB.out, HS.out⟩
    · have HVT : Hid (vText (d + 1) v = Lib.formatBool flag) := Lib.hid (by rw [HV.out]; rfl)
      have hfb := fun W => Tryz.strconv_FormatBool flag W
      have hfz : (⟨(Lib.formatBool flag).toArray⟩ : ByteArray).size ≤ 5 := by cases flag <;> decide
      have hfd : (⟨(Lib.formatBool flag).toArray⟩ : ByteArray).data.toList = Lib.formatBool flag := by simp
      have HFD := Lib.hid hfd
      generalize (⟨(Lib.formatBool flag).toArray⟩ : ByteArray) = ST at *
      have HCS : Hid (∀ W, New w1 W → W.cell? ⟨xb, 1, none⟩ = some (.bool flag) ∧ xb < W.heap.size ∧ b < W.heap.size) := Lib.hid (fun W hW => ⟨((HX.out.mod hW (fun e => e)).cell 1).trans rfl, (HX.out.mod hW (fun e => e)).lt, Nat.lt_of_lt_of_le HB.out.lt.2 hW.size⟩)
      go_upto_region 17 with (fail)
      refine wp_region_held_ord (fun W => W.cell? ⟨xb, 1, none⟩ = some (.bool flag) ∧ xb < W.heap.size ∧ b < W.heap.size) [5] [0, 1, 2, 3, 4, 5] (by kernel_rfl) (by kernel_rfl) (fun _ _ d _ _ h => by cases d <;> exact h) ?_ (fun hHeld => ?_)
      · exact HCS.out _ (Mod.refl _ _).drew
      simp only [List.length_cons, List.length_nil, List.drop_succ_cons, List.drop_zero]
      refine heldO_take ?_ (by rfl) (by rfl) (by rfl) (fun w hSw => ?_) ?_
      rotate_left
      · (try dsimp only at hSw); go_simp; any_goals (with_reducible rfl)
      simp only [Act.put, List.setIfInBounds_toArray, List.set_cons_zero, List.set_cons_succ]
      refine heldO_take ?_ (by rfl) (by rfl) (by rfl) (fun w hSw => ?_) ?_
      rotate_left
      · (try dsimp only at hSw); go_simp; any_goals (with_reducible rfl)
      simp only [Act.put, List.setIfInBounds_toArray, List.set_cons_zero, List.set_cons_succ]
      refine heldO_take ?_ (by rfl) (by rfl) (by rfl) (fun w hSw => ?_) ?_
      rotate_left
      · (try dsimp only at hSw); go_simp; any_goals (with_reducible rfl)
      simp only [Act.put, List.setIfInBounds_toArray, List.set_cons_zero, List.set_cons_succ]
      refine heldO_take ?_ (by rfl) (by rfl) (by rfl) (fun w hSw => ?_) ?_
      rotate_left
      · (try dsimp only at hSw); go_simp; any_goals (with_reducible rfl)
      simp only [Act.put, List.setIfInBounds_toArray, List.set_cons_zero, List.set_cons_succ]
      refine heldO_take ?_ (by rfl) (by rfl) (by rfl) (fun w hSw => ?_) ?_
      rotate_left
      · (try dsimp only at hSw); go_simp; any_goals (with_reducible rfl)
      simp only [Act.put, List.setIfInBounds_toArray, List.set_cons_zero, List.set_cons_succ]
      refine heldO_step (by rfl) (by rfl) (by rfl) (fun K hK => ?_)
      go_simp
      refine (hfb _).mono ?_
      rintro e w3 ⟨rfl, rfl⟩
      go_wp2_with fail
      refine hK.out _ _ (HCS.out _ (Mod.refl _ _).drew) (fun hHeld => ?_)
      clear hK K
      try simp only [Act.put, List.setIfInBounds_toArray, List.set_cons_zero, List.set_cons_succ]
      refine heldO_nil ?_
      have HB1 := Lib.hid (HB.out.new (Mod.refl _ w1).drew)
      have HS1 := Lib.hid (HS.out.new (Mod.refl _ w1).drew)
      clear HB HS
      have HB := HB1
      have HS := HS1
      clear HB1 HS1
      go_wp2_with fail
      refine (bw_string buT_writer B b _ ST _ HB.out (by have hq := HL.out; omega)).mono ?_
      rw [HFD.out]
      rintro e wz ⟨rfl, hb1, hm1, hk1⟩
      have HTBM := Lib.hid HB.out.tb
      have HKW : Hid (WStep B b _ _) := Lib.hid ⟨hm1, hk1⟩
      have HS1 := Lib.hid (HS.out.trans ⟨hm1, hk1⟩)
      clear HB HS hm1 hk1
      have HB := Lib.hid hb1
      have HS := HS1
      clear hb1 HS1
      go_wp2_with fail
      go_end0
      exact ⟨rfl, by rw [HVT.out]; exact HB.out, HS.out⟩
    · have HVT : Hid (vText (d + 1) v = Lib.itoa num) := Lib.hid (by rw [HV.out]; rfl)
      have hi64 : I64 num := ⟨by omega, by omega⟩
      have hit := fun W (hW : New w1 W) => itoa_any num hi64 W (HP.out.new hW)
      have hfz := itoaB_size hi64
      have HFD : Hid ((itoaB num).data.toList = Lib.itoa num) := Lib.hid (by simp [itoaB])
      generalize itoaB num = ST at *
      have HCS : Hid (∀ W, New w1 W → W.cell? ⟨xb, 2, none⟩ = some (.int .i64 num) ∧ xb < W.heap.size ∧ b < W.heap.size) := Lib.hid (fun W hW => ⟨((HX.out.mod hW (fun e => e)).cell 2).trans rfl, (HX.out.mod hW (fun e => e)).lt, Nat.lt_of_lt_of_le HB.out.lt.2 hW.size⟩)
      go_upto_region 19 with (fail)
      refine wp_region_held_ord (fun W => W.cell? ⟨xb, 2, none⟩ = some (.int .i64 num) ∧ xb < W.heap.size ∧ b < W.heap.size) [5] [0, 1, 2, 3, 4, 5] (by kernel_rfl) (by kernel_rfl) (fun _ _ d _ _ h => by cases d <;> exact h) ?_ (fun hHeld => ?_)
      · exact HCS.out _ (Mod.refl _ _).drew
      simp only [List.length_cons, List.length_nil, List.drop_succ_cons, List.drop_zero]
      refine heldO_take ?_ (by rfl) (by rfl) (by rfl) (fun w hSw => ?_) ?_
      rotate_left
      · (try dsimp only at hSw); go_simp; any_goals (with_reducible rfl)
      simp only [Act.put, List.setIfInBounds_toArray, List.set_cons_zero, List.set_cons_succ]
      refine heldO_take ?_ (by rfl) (by rfl) (by rfl) (fun w hSw => ?_) ?_
      rotate_left
      · (try dsimp only at hSw); go_simp; any_goals (with_reducible rfl)
      simp only [Act.put, List.setIfInBounds_toArray, List.set_cons_zero, List.set_cons_succ]
      refine heldO_take ?_ (by rfl) (by rfl) (by rfl) (fun w hSw => ?_) ?_
      rotate_left
      · (try dsimp only at hSw); go_simp; any_goals (with_reducible rfl)
      simp only [Act.put, List.setIfInBounds_toArray, List.set_cons_zero, List.set_cons_succ]
      refine heldO_take ?_ (by rfl) (by rfl) (by rfl) (fun w hSw => ?_) ?_
      rotate_left
      · (try dsimp only at hSw); go_simp; any_goals (with_reducible rfl)
      simp only [Act.put, List.setIfInBounds_toArray, List.set_cons_zero, List.set_cons_succ]
      refine heldO_take ?_ (by rfl) (by rfl) (by rfl) (fun w hSw => ?_) ?_
      rotate_left
      · (try dsimp only at hSw); go_simp; any_goals (with_reducible rfl)
      simp only [Act.put, List.setIfInBounds_toArray, List.set_cons_zero, List.set_cons_succ]
      refine heldO_step (by rfl) (by rfl) (by rfl) (fun K hK => ?_)
      go_simp
      refine (hit _ (Mod.refl _ w1).drew).mono ?_
      clear hit
      rintro e w3 ⟨rfl, hm3⟩
      have m3 : New w1 w3 := (Mod.refl (fun _ => False) w1).drew.trans hm3
      clear hm3
      go_wp2_with fail
      refine hK.out _ _ (HCS.out _ m3) (fun hHeld => ?_)
      clear hK K
      try simp only [Act.put, List.setIfInBounds_toArray, List.set_cons_zero, List.set_cons_succ]
      refine heldO_nil ?_
      have HB1 := Lib.hid (HB.out.new m3)
      have HS1 := Lib.hid (HS.out.new m3)
      have hbl3 := HB1.out.lt.2
      clear HB HS
      have HB := HB1
      have HS := HS1
      clear HB1 HS1
      go_wp2_with fail
      refine (bw_string buT_writer B b _ ST _ HB.out (by have hq := HL.out; omega)).mono ?_
      rw [HFD.out]
      rintro e wz ⟨rfl, hb1, hm1, hk1⟩
      have HTBM := Lib.hid HB.out.tb
      have HKW : Hid (WStep B b _ _) := Lib.hid ⟨hm1, hk1⟩
      have HS1 := Lib.hid (HS.out.trans ⟨hm1, hk1⟩)
      clear HB HS hm1 hk1
      have HB := Lib.hid hb1
      have HS := HS1
      clear hb1 HS1
      go_wp2_with fail
      go_end0
      exact ⟨rfl, by rw [HVT.out]; exact HB.out, HS.out⟩
    · have HVT : Hid (vText (d + 1) v = quoteL words.data.toList) := Lib.hid (by rw [HV.out]; rfl)
      have hit := fun W (hW : New w1 W) => quote_v words W hwp3
      have hfz : (quoteL words.data.toList).length ≤ vW (d + 1) v := by
        have h1 := quoteL_length words.data.toList
        have h2 : words.data.toList.length = words.size := rfl
        have h3 := HWD.out
        simp only [vW, h3]
        omega
      have hw := HW.out
      have HFD : Hid ((⟨(quoteL words.data.toList).toArray⟩ : ByteArray).data.toList = quoteL words.data.toList) := Lib.hid (by simp)
      have hfs : (⟨(quoteL words.data.toList).toArray⟩ : ByteArray).size = (quoteL words.data.toList).length := by simp [ByteArray.size]
      generalize (⟨(quoteL words.data.toList).toArray⟩ : ByteArray) = ST at *
      have HCS : Hid (∀ W, New w1 W → W.cell? ⟨xb, 3, none⟩ = some (.string words) ∧ xb < W.heap.size ∧ b < W.heap.size) := Lib.hid (fun W hW => ⟨((HX.out.mod hW (fun e => e)).cell 3).trans rfl, (HX.out.mod hW (fun e => e)).lt, Nat.lt_of_lt_of_le HB.out.lt.2 hW.size⟩)
      go_upto_region 21 with (fail)
      refine wp_region_held_ord (fun W => W.cell? ⟨xb, 3, none⟩ = some (.string words) ∧ xb < W.heap.size ∧ b < W.heap.size) [5] [0, 1, 2, 3, 4, 5] (by kernel_rfl) (by kernel_rfl) (fun _ _ d _ _ h => by cases d <;> exact h) ?_ (fun hHeld => ?_)
      · exact HCS.out _ (Mod.refl _ _).drew
      simp only [List.length_cons, List.length_nil, List.drop_succ_cons, List.drop_zero]
      refine heldO_take ?_ (by rfl) (by rfl) (by rfl) (fun w hSw => ?_) ?_
      rotate_left
      · (try dsimp only at hSw); go_simp; any_goals (with_reducible rfl)
      simp only [Act.put, List.setIfInBounds_toArray, List.set_cons_zero, List.set_cons_succ]
      refine heldO_take ?_ (by rfl) (by rfl) (by rfl) (fun w hSw => ?_) ?_
      rotate_left
      · (try dsimp only at hSw); go_simp; any_goals (with_reducible rfl)
      simp only [Act.put, List.setIfInBounds_toArray, List.set_cons_zero, List.set_cons_succ]
      refine heldO_take ?_ (by rfl) (by rfl) (by rfl) (fun w hSw => ?_) ?_
      rotate_left
      · (try dsimp only at hSw); go_simp; any_goals (with_reducible rfl)
      simp only [Act.put, List.setIfInBounds_toArray, List.set_cons_zero, List.set_cons_succ]
      refine heldO_take ?_ (by rfl) (by rfl) (by rfl) (fun w hSw => ?_) ?_
      rotate_left
      · (try dsimp only at hSw); go_simp; any_goals (with_reducible rfl)
      simp only [Act.put, List.setIfInBounds_toArray, List.set_cons_zero, List.set_cons_succ]
      refine heldO_take ?_ (by rfl) (by rfl) (by rfl) (fun w hSw => ?_) ?_
      rotate_left
      · (try dsimp only at hSw); go_simp; any_goals (with_reducible rfl)
      simp only [Act.put, List.setIfInBounds_toArray, List.set_cons_zero, List.set_cons_succ]
      refine heldO_step (by rfl) (by rfl) (by rfl) (fun K hK => ?_)
      go_simp
      refine (hit _ (Mod.refl _ w1).drew).mono ?_
      clear hit
      rintro e w3 ⟨rfl, hm3⟩
      have m3 : New w1 w3 := (Mod.refl (fun _ => False) w1).drew.trans hm3
      clear hm3
      go_wp2_with fail
      refine hK.out _ _ (HCS.out _ m3) (fun hHeld => ?_)
      clear hK K
      try simp only [Act.put, List.setIfInBounds_toArray, List.set_cons_zero, List.set_cons_succ]
      refine heldO_nil ?_
      have HB1 := Lib.hid (HB.out.new m3)
      have HS1 := Lib.hid (HS.out.new m3)
      have hbl3 := HB1.out.lt.2
      clear HB HS
      have HB := HB1
      have HS := HS1
      clear HB1 HS1
      go_wp2_with fail
      refine (bw_string buT_writer B b _ ST _ HB.out (by have hq := HL.out; omega)).mono ?_
      rw [HFD.out]
      rintro e wz ⟨rfl, hb1, hm1, hk1⟩
      have HTBM := Lib.hid HB.out.tb
      have HKW : Hid (WStep B b _ _) := Lib.hid ⟨hm1, hk1⟩
      have HS1 := Lib.hid (HS.out.trans ⟨hm1, hk1⟩)
      clear HB HS hm1 hk1
      have HB := Lib.hid hb1
      have HS := HS1
      clear hb1 HS1
      go_wp2_with fail
      go_end0
      exact ⟨rfl, by rw [HVT.out]; exact HB.out, HS.out⟩
    · have HVT : Hid (vText (d + 1) v = 91 :: (commas (v.list.map (vText d)) ++ [93])) := Lib.hid (by rw [HV.out]; rfl)
      have HS0 := HS
      clear HS
      have HS := Lib.hid (WStep.refl B b w1)
      go_wp2_with fail
      refine (bw_byte buT_writer B b _ 91 91 rfl _ HB.out (by have hq := HL.out; first | omega | (simp; done) | (simp at hq ⊢; omega))).mono ?_
      rintro e wz ⟨rfl, hb1, hm1, hk1⟩
      have HTBM := Lib.hid HB.out.tb
      have HKW : Hid (WStep B b _ _) := Lib.hid ⟨hm1, hk1⟩
      have HS1 := Lib.hid (HS.out.trans ⟨hm1, hk1⟩)
      clear HB HS hm1 hk1
      have HB := Lib.hid hb1
      have HS := HS1
      clear hb1 HS1
      have hxx := HX.out.keep HS.out.2 HXN.out (by decide)
      have e4 := hxx.cell 4
      have el := hxx.lt
      simp only [List.getElem?_toArray, List.getElem?_cons_zero, List.getElem?_cons_succ] at e4
      clear hxx
      go_wp2_with fail
      clear e4 el hbl
      go_loopw [92] (fun i wr => ∃ k : Nat, k ≤ ln ∧ i = .int .i64 k ∧ Hid (Bw 129 B b (l ++ 91 :: commas ((v.list.take k).map (vText d))) wr) ∧ Hid (WStep B b w1 wr)) (fun i _ => ln - (intOf i).toNat)
      case atStart => exact ⟨0, Nat.zero_le _, rfl, by simpa [commas] using HB, HS⟩
      case round =>
        clear HB HS
        rename World => wr
        obtain ⟨k, hk, rfl, HB, HS⟩ := hrel
        by_cases hlt : k < ln
        · have hkl : k < v.list.length := by have := HLN.out; omega
          have hT := HT.out.step (HS0.out.trans HS.out) HTB.out
          obtain ⟨g, o, y, hA, hgl, htb, -, hc, hty⟩ := hT.item hkl
          simp only at hA
          subst hA
          have hroom := list_room d v hkl HRL.out
          have hwl := HW.out
          have hlen3 : (l ++ 91 :: commas ((v.list.take k).map (vText d))).length + 1 + vW d v.list[k] ≤ 200000 := by simp only [List.length_append, List.length_cons]; omega
          have HTK := Lib.hid (commas_next (vText d) hkl)
          have HC0 : Hid (k = 0 → commas ((v.list.take k).map (vText d)) = []) := Lib.hid (fun h => by subst h; rfl)
          have hft := HF.out.item hkl
          have hfl := HRL.out k hkl
          obtain ⟨yk, yf, yn, yw, yla, yln, ylc, yma, ymn, ymc⟩ := y
          have c0 := hc 0 (by omega)
          have c1 := hc 1 (by omega)
          have c2 := hc 2 (by omega)
          have c3 := hc 3 (by omega)
          have c4 := hc 4 (by omega)
          have c5 := hc 5 (by omega)
          simp only [VA.enc, Nat.add_zero, Nat.zero_add] at c0 c1 c2 c3 c4 c5
          generalize commas ((v.list.take k).map (vText d)) = C at *
          have hb1 : (0 : Int) ≤ k := by omega
          have hb2 : (k : Int) < ln := by omega
          have hyx := Blk.new wr 29 #[.int .i64 yk, .bool yf, .int .i64 yn, .string yw, .slice yla yln ylc, .slice yma ymn ymc]
          have hma : New wr (wr.alloc (.cells #[.int .i64 yk, .bool yf, .int .i64 yn, .string yw, .slice yla yln ylc, .slice yma ymn ymc] 29)) := (Mod.refl _ _).alloc _
          have hyne : wr.heap.size ≠ b := by have := HB.out.lt; omega
          clear hc
          go_upto_region 27 with (fail)
          generalize wr.alloc (.cells #[.int .i64 yk, .bool yf, .int .i64 yn, .string yw, .slice yla yln ylc, .slice yma ymn ymc] 29) = wm at *
          generalize wr.heap.size = yb at *
          have HBm := Lib.hid (HB.out.new hma)
          have HSm := Lib.hid (HS.out.new hma)
          have HTY := Lib.hid (hty.new hma)
          have HYX := Lib.hid hyx
          have HYN := Lib.hid hyne
          have HFT := Lib.hid hft
          have HFL := Lib.hid hfl
          clear HB HS hT hty hma htb hgl c0 c1 c2 c3 c4 c5 hyx hyne hroom hwl hft hfl
          have HB := HBm
          have HS := HSm
          clear HBm HSm
          have hbl := HB.out.lt.2
          by_cases hk0 : k = 0
          · subst hk0
            have HCE := Lib.hid (HC0.out rfl)
            have e0 := HYX.out.cell 0
            have e1 := HYX.out.cell 1
            have e2 := HYX.out.cell 2
            have e3 := HYX.out.cell 3
            have e4 := HYX.out.cell 4
            have e5 := HYX.out.cell 5
            have el := HYX.out.lt
            simp only [List.getElem?_toArray, List.getElem?_cons_zero, List.getElem?_cons_succ] at e0 e1 e2 e3 e4 e5
            have hI := HIH.out ⟨yk, yf, yn, yw, yla, yln, ylc, yma, ymn, ymc⟩ _ G _ wm HTY.out HB.out HFT.out HFL.out (by omega) (HPX.out _ (HS0.out.trans HS.out))
            clear HC0
            go_wp2_with fail
            refine hI.mono ?_
            clear hI
            rintro e wz ⟨rfl, hb7, hs7⟩
            have HB7 := Lib.hid hb7
            have HS7 := Lib.hid (HS.out.trans hs7)
            clear hb7 hs7 HB HS
            go_wp2_with fail
            go_roundw
            case rel => exact ⟨0 + 1, by omega, by go_num, Lib.hid (by rw [HTK.out]; simpa [HCE.out] using HB7.out), HS7⟩
            case measure => simp [intOf]; omega
          · have hkp : (0 : Int) < k := by omega
            have HK0 := Lib.hid hk0
            have HL : Hid ((l ++ 91 :: C).length + 40 ≤ 200040) := Lib.hid (by omega)
            clear hk0 HC0
            go_wp2_with fail
            refine (bw_byte buT_writer B b _ 44 44 rfl _ HB.out (by have hq := HL.out; first | omega | (simp; done) | (simp at hq ⊢; omega))).mono ?_
            rintro e wz ⟨rfl, hb1, hm1, hk1⟩
            have HTBM := Lib.hid HB.out.tb
            have HKW : Hid (WStep B b _ _) := Lib.hid ⟨hm1, hk1⟩
            have HS1 := Lib.hid (HS.out.trans ⟨hm1, hk1⟩)
            clear HB HS hm1 hk1
            have HB := Lib.hid hb1
            have HS := HS1
            clear hb1 HS1
            have hbl7 := HB.out.lt.2
            have hyy := HYX.out
            have HYZ : Hid (Blk wz yb 29 #[.int .i64 yk, .bool yf, .int .i64 yn, .string yw, .slice yla yln ylc, .slice yma ymn ymc]) := Lib.hid (hyy.keep HKW.out.2 HYN.out (by decide))
            clear hyy
            have e0 := HYZ.out.cell 0
            have e1 := HYZ.out.cell 1
            have e2 := HYZ.out.cell 2
            have e3 := HYZ.out.cell 3
            have e4 := HYZ.out.cell 4
            have e5 := HYZ.out.cell 5
            have el := HYZ.out.lt
            simp only [List.getElem?_toArray, List.getElem?_cons_zero, List.getElem?_cons_succ] at e0 e1 e2 e3 e4 e5
            have hI := HIH.out ⟨yk, yf, yn, yw, yla, yln, ylc, yma, ymn, ymc⟩ _ G _ wz (HTY.out.step HKW.out (HTBM.out)) HB.out HFT.out HFL.out (by simp only [List.length_append, List.length_cons, List.length_nil] at hlen3 ⊢; omega) (HPX.out _ (HS0.out.trans HS.out))
            go_wp2_with fail
            refine hI.mono ?_
            clear hI
            rintro e wy ⟨rfl, hb7, hs7⟩
            have HB7 := Lib.hid hb7
            have HS7 := Lib.hid (HS.out.trans hs7)
            clear hb7 hs7 HB HS
            go_wp2_with fail
            go_roundw
            case rel => exact ⟨k + 1, by omega, by go_num, Lib.hid (by rw [HTK.out, if_neg HK0.out]; simpa using HB7.out), HS7⟩
            case measure => simp [intOf]; omega
        · obtain rfl : k = ln := by omega
          have hb := HB.out
          rw [List.take_of_length_le (by have := HLN.out; omega)] at hb
          have HB2 := Lib.hid hb
          have HTL : Hid ((l ++ 91 :: commas (v.list.map (vText d))) ++ [93] = l ++ vText (d + 1) v) := Lib.hid (by rw [HVT.out]; simp)
          have hvl := vText_length (d + 1) v HR.out
          have hwl := HW.out
          have HL : Hid ((l ++ 91 :: commas (v.list.map (vText d))).length + 40 ≤ 200040) := Lib.hid (by
            have := congrArg List.length HTL.out
            simp only [List.length_append, List.length_cons, List.length_nil] at this ⊢
            omega)
          generalize l ++ 91 :: commas (v.list.map (vText d)) = L at *
          clear HB hb hlt hk
          have HB := HB2
          clear HB2 hvl hwl
          have hbl := HB.out.lt.2
          go_wp2_with fail
          refine (bw_byte buT_writer B b _ 93 93 rfl _ HB.out (by have hq := HL.out; first | omega | (simp; done) | (simp at hq ⊢; omega))).mono ?_
          rintro e wz ⟨rfl, hb1, hm1, hk1⟩
          have HTBM := Lib.hid HB.out.tb
          have HKW : Hid (WStep B b _ _) := Lib.hid ⟨hm1, hk1⟩
          have HS1 := Lib.hid (HS.out.trans ⟨hm1, hk1⟩)
          clear HB HS hm1 hk1
          have HB := Lib.hid hb1
          have HS := HS1
          clear hb1 HS1
          go_wp2_with fail
          go_end0
          exact ⟨rfl, by rw [← HTL.out]; exact HB.out, HS0.out.trans HS.out⟩
    · have HVT : Hid (vText (d + 1) v = 123 :: (commas (v.mem.map fun p => quoteL p.1.data.toList ++ 58 :: vText d p.2) ++ [125])) := Lib.hid (by rw [HV.out]; rfl)
      have HS0 := HS
      clear HS
      have HS := Lib.hid (WStep.refl B b w1)
      go_wp2_with fail
      refine (bw_byte buT_writer B b _ 123 123 rfl _ HB.out (by have hq := HL.out; first | omega | (simp; done) | (simp at hq ⊢; omega))).mono ?_
      rintro e wz ⟨rfl, hb1, hm1, hk1⟩
      have HTBM := Lib.hid HB.out.tb
      have HKW : Hid (WStep B b _ _) := Lib.hid ⟨hm1, hk1⟩
      have HS1 := Lib.hid (HS.out.trans ⟨hm1, hk1⟩)
      clear HB HS hm1 hk1
      have HB := Lib.hid hb1
      have HS := HS1
      clear hb1 HS1
      have hxx := HX.out.keep HS.out.2 HXN.out (by decide)
      have e5 := hxx.cell 5
      have el := hxx.lt
      simp only [List.getElem?_toArray, List.getElem?_cons_zero, List.getElem?_cons_succ] at e5
      clear hxx
      go_wp2_with fail
      clear e5 el hbl
      go_loopw [19] (fun i wr => ∃ k : Nat, k ≤ mn ∧ i = .int .i64 k ∧ Hid (Bw 129 B b (l ++ 123 :: commas ((v.mem.take k).map fun p => quoteL p.1.data.toList ++ 58 :: vText d p.2)) wr) ∧ Hid (WStep B b w1 wr)) (fun i _ => mn - (intOf i).toNat)
      case atStart => exact ⟨0, Nat.zero_le _, rfl, by simpa [commas] using HB, HS⟩
      case round =>
        clear HB HS
        rename World => wr
        obtain ⟨k, hk, rfl, HB, HS⟩ := hrel
        by_cases hlt : k < mn
        · have hkl : k < v.mem.length := by have := HMN.out; omega
          have hT := HT.out.step (HS0.out.trans HS.out) HTB.out
          obtain ⟨g, o, y, hA, hgl, htb, -, hcn, hc, hty⟩ := hT.member hkl
          simp only at hA
          subst hA
          have hroom := mem_room d v hkl HRM.out
          have hwl := HW.out
          have hlen3 : (l ++ 123 :: commas ((v.mem.take k).map fun p => quoteL p.1.data.toList ++ 58 :: vText d p.2)).length + 1 + ((quoteL v.mem[k].1.data.toList).length + 1 + vW d v.mem[k].2) ≤ 200000 := by simp only [List.length_append, List.length_cons]; omega
          have HTK : Hid (commas ((v.mem.take (k + 1)).map fun p => quoteL p.1.data.toList ++ 58 :: vText d p.2) = (if k = 0 then [] else commas ((v.mem.take k).map fun p => quoteL p.1.data.toList ++ 58 :: vText d p.2) ++ [44]) ++ (quoteL v.mem[k].1.data.toList ++ 58 :: vText d v.mem[k].2)) := Lib.hid (commas_next (fun p : ByteArray × VT => quoteL p.1.data.toList ++ 58 :: vText d p.2) hkl)
          have HC0 : Hid (k = 0 → commas ((v.mem.take k).map fun p => quoteL p.1.data.toList ++ 58 :: vText d p.2) = []) := Lib.hid (fun h => by subst h; rfl)
          obtain ⟨hft, hnz⟩ := HF.out.member hkl
          have hfl := HRM.out k hkl
          obtain ⟨yk, yf, yn, yw, yla, yln, ylc, yma, ymn, ymc⟩ := y
          have c0 := hc 0 (by omega)
          have c1 := hc 1 (by omega)
          have c2 := hc 2 (by omega)
          have c3 := hc 3 (by omega)
          have c4 := hc 4 (by omega)
          have c5 := hc 5 (by omega)
          simp only [VA.enc, Nat.add_zero, Nat.zero_add] at c0 c1 c2 c3 c4 c5
          generalize commas ((v.mem.take k).map fun p => quoteL p.1.data.toList ++ 58 :: vText d p.2) = C at *
          generalize v.mem[k].1 = nm at *
          have hb1 : (0 : Int) ≤ k := by omega
          have hb2 : (k : Int) < mn := by omega
          have hyx := Blk.new wr 49 #[.string nm, .int .i64 yk, .bool yf, .int .i64 yn, .string yw, .slice yla yln ylc, .slice yma ymn ymc]
          have hma : New wr (wr.alloc (.cells #[.string nm, .int .i64 yk, .bool yf, .int .i64 yn, .string yw, .slice yla yln ylc, .slice yma ymn ymc] 49)) := (Mod.refl _ _).alloc _
          have hyne : wr.heap.size ≠ b := by have := HB.out.lt; omega
          clear hc
          go_upto_region 7 with (fail)
          generalize wr.alloc (.cells #[.string nm, .int .i64 yk, .bool yf, .int .i64 yn, .string yw, .slice yla yln ylc, .slice yma ymn ymc] 49) = wm at *
          generalize wr.heap.size = yb at *
          have HBm := Lib.hid (HB.out.new hma)
          have HSm := Lib.hid (HS.out.new hma)
          have HTY := Lib.hid (hty.new hma)
          have HYX := Lib.hid hyx
          have HYN := Lib.hid hyne
          have HFT := Lib.hid hft
          have HFL := Lib.hid hfl
          clear HB HS hT hty hma htb hgl c0 c1 c2 c3 c4 c5 hcn hyx hyne hroom hwl hft hfl
          have HB := HBm
          have HS := HSm
          clear HBm HSm
          have hbl := HB.out.lt.2
          by_cases hk0 : k = 0
          · subst hk0
            have HCE := Lib.hid (HC0.out rfl)
            have HTK2 : Hid (l ++ 123 :: commas ((v.mem.take (0 + 1)).map fun p => quoteL p.1.data.toList ++ 58 :: vText d p.2) = ((l ++ 123 :: C) ++ quoteL nm.data.toList ++ ([58] : List UInt8)) ++ vText d v.mem[0].2) := Lib.hid (by rw [HTK.out]; simp [HCE.out])
            have hlen4 : (l ++ 123 :: C).length + ((quoteL nm.data.toList).length + 1 + vW d v.mem[0].2) ≤ 200000 := by omega
            generalize l ++ 123 :: C = L at *
            clear HC0 hlen3 HTK HCE
            have HCS : Hid (∀ W, New wm W → W.cell? ⟨yb, 0, none⟩ = some (.string nm) ∧ yb < W.heap.size ∧ b < W.heap.size) := Lib.hid (fun W hW => ⟨((HYX.out.mod hW (fun e => e)).cell 0).trans rfl, (HYX.out.mod hW (fun e => e)).lt, Nat.lt_of_lt_of_le HB.out.lt.2 hW.size⟩)
            have HFD : Hid ((⟨(quoteL nm.data.toList).toArray⟩ : ByteArray).data.toList = quoteL nm.data.toList) := Lib.hid (by simp)
            have HFS : Hid ((⟨(quoteL nm.data.toList).toArray⟩ : ByteArray).size = (quoteL nm.data.toList).length) := Lib.hid (by simp [ByteArray.size])
            have hqt := fun W => quote_v nm W hnz
            generalize (⟨(quoteL nm.data.toList).toArray⟩ : ByteArray) = ST at *
            go_upto_region 9 with (fail)
            refine wp_region_held_ord (fun W => W.cell? ⟨yb, 0, none⟩ = some (.string nm) ∧ yb < W.heap.size ∧ b < W.heap.size) [5] [0, 1, 2, 3, 4, 5] (by kernel_rfl) (by kernel_rfl) (fun _ _ d _ _ h => by cases d <;> exact h) ?_ (fun hHeld => ?_)
            · exact HCS.out _ (Mod.refl _ _).drew
            simp only [List.length_cons, List.length_nil, List.drop_succ_cons, List.drop_zero]
            refine heldO_take ?_ (by rfl) (by rfl) (by rfl) (fun w hSw => ?_) ?_
            rotate_left
            · (try dsimp only at hSw); go_simp; any_goals (with_reducible rfl)
            simp only [Act.put, List.setIfInBounds_toArray, List.set_cons_zero, List.set_cons_succ]
            refine heldO_take ?_ (by rfl) (by rfl) (by rfl) (fun w hSw => ?_) ?_
            rotate_left
            · (try dsimp only at hSw); go_simp; any_goals (with_reducible rfl)
            simp only [Act.put, List.setIfInBounds_toArray, List.set_cons_zero, List.set_cons_succ]
            refine heldO_take ?_ (by rfl) (by rfl) (by rfl) (fun w hSw => ?_) ?_
            rotate_left
            · (try dsimp only at hSw); go_simp; any_goals (with_reducible rfl)
            simp only [Act.put, List.setIfInBounds_toArray, List.set_cons_zero, List.set_cons_succ]
            refine heldO_take ?_ (by rfl) (by rfl) (by rfl) (fun w hSw => ?_) ?_
            rotate_left
            · (try dsimp only at hSw); go_simp; any_goals (with_reducible rfl)
            simp only [Act.put, List.setIfInBounds_toArray, List.set_cons_zero, List.set_cons_succ]
            refine heldO_take ?_ (by rfl) (by rfl) (by rfl) (fun w hSw => ?_) ?_
            rotate_left
            · (try dsimp only at hSw); go_simp; any_goals (with_reducible rfl)
            simp only [Act.put, List.setIfInBounds_toArray, List.set_cons_zero, List.set_cons_succ]
            refine heldO_step (by rfl) (by rfl) (by rfl) (fun K hK => ?_)
            go_simp
            refine (hqt _).mono ?_
            clear hqt
            rintro e w3 ⟨rfl, hm3⟩
            have m3 : New wm w3 := (Mod.refl (fun _ => False) wm).drew.trans hm3
            clear hm3
            go_wp2_with fail
            refine hK.out _ _ (HCS.out _ m3) (fun hHeld => ?_)
            clear hK K
            try simp only [Act.put, List.setIfInBounds_toArray, List.set_cons_zero, List.set_cons_succ]
            refine heldO_nil ?_
            have HB1 := Lib.hid (HB.out.new m3)
            have HS1 := Lib.hid (HS.out.new m3)
            have HY1 := Lib.hid (HYX.out.mod m3 (fun e => e))
            have HT1 := Lib.hid (HTY.out.new m3)
            have hbl3 := HB1.out.lt.2
            clear HB HS HYX HTY HCS hbl m3 hHeld
            have HB := HB1
            have HS := HS1
            have HYX := HY1
            have HTY := HT1
            clear HB1 HS1 HY1 HT1
            go_wp2_with fail
            refine (bw_string buT_writer B b _ ST _ HB.out (by have hq := HFS.out; omega)).mono ?_
            rw [HFD.out]
            rintro e w4 ⟨rfl, hb1, hm1, hk1⟩
            have HY1 := Lib.hid (HYX.out.keep hk1 HYN.out (by decide))
            have HT1 := Lib.hid (HTY.out.step ⟨hm1, hk1⟩ HB.out.tb)
            have HS1 := Lib.hid (HS.out.trans ⟨hm1, hk1⟩)
            clear HB HS HYX HTY hm1 hk1 hbl3
            have HB := Lib.hid hb1
            have HS := HS1
            have HYX := HY1
            have HTY := HT1
            clear HS1 HY1 HT1 hb1
            have hbl4 := HB.out.lt.2
            go_wp2_with fail
            refine (bw_byte buT_writer B b _ 58 58 rfl _ HB.out (by simp only [List.length_append]; omega)).mono ?_
            rintro e w5 ⟨rfl, hb1, hm1, hk1⟩
            have HY1 := Lib.hid (HYX.out.keep hk1 HYN.out (by decide))
            have HT1 := Lib.hid (HTY.out.step ⟨hm1, hk1⟩ HB.out.tb)
            have HS1 := Lib.hid (HS.out.trans ⟨hm1, hk1⟩)
            clear HB HS HYX HTY hm1 hk1 hbl4
            have HB := Lib.hid hb1
            have HS := HS1
            have HYX := HY1
            have HTY := HT1
            clear HS1 HY1 HT1 hb1
            have hbl5 := HB.out.lt.2
            have e1 := HYX.out.cell 1
            have e2 := HYX.out.cell 2
            have e3 := HYX.out.cell 3
            have e4 := HYX.out.cell 4
            have e5 := HYX.out.cell 5
            have e6 := HYX.out.cell 6
            have el := HYX.out.lt
            simp only [List.getElem?_toArray, List.getElem?_cons_zero, List.getElem?_cons_succ] at e1 e2 e3 e4 e5 e6
            have hI := HIH.out ⟨yk, yf, yn, yw, yla, yln, ylc, yma, ymn, ymc⟩ _ G _ w5 HTY.out HB.out HFT.out HFL.out (by simp only [List.length_append, List.length_cons, List.length_nil]; omega) (HPX.out _ (HS0.out.trans HS.out))
            go_wp2_with fail
            refine hI.mono ?_
            clear hI
            rintro e wy ⟨rfl, hb7, hs7⟩
            have HB7 := Lib.hid hb7
            have HS7 := Lib.hid (HS.out.trans hs7)
            clear hb7 hs7 HB HS
            go_wp2_with fail
            go_roundw
            case rel => exact ⟨0 + 1, by omega, by go_num, Lib.hid (by rw [HTK2.out]; exact HB7.out), HS7⟩
            case measure => simp [intOf]; omega
          · have hkp : (0 : Int) < k := by omega
            have HTK2 : Hid (l ++ 123 :: commas ((v.mem.take (k + 1)).map fun p => quoteL p.1.data.toList ++ 58 :: vText d p.2) = (((l ++ 123 :: C) ++ ([44] : List UInt8)) ++ quoteL nm.data.toList ++ ([58] : List UInt8)) ++ vText d v.mem[k].2) := Lib.hid (by rw [HTK.out, if_neg hk0]; simp)
            have hlen4 : ((l ++ 123 :: C) ++ ([44] : List UInt8)).length + ((quoteL nm.data.toList).length + 1 + vW d v.mem[k].2) ≤ 200000 := by simp only [List.length_append, List.length_cons, List.length_nil] at hlen3 ⊢; omega
            have HL : Hid ((l ++ 123 :: C).length + 40 ≤ 200040) := Lib.hid (by omega)
            generalize l ++ 123 :: C = L at *
            clear hk0 HC0 hlen3 HTK
            go_wp2_with fail
            refine (bw_byte buT_writer B b _ 44 44 rfl _ HB.out (by have hq := HL.out; first | omega | (simp; done) | (simp at hq ⊢; omega))).mono ?_
            rintro e wz ⟨rfl, hb1, hm1, hk1⟩
            have HTBM := Lib.hid HB.out.tb
            have HKW : Hid (WStep B b _ _) := Lib.hid ⟨hm1, hk1⟩
            have HS1 := Lib.hid (HS.out.trans ⟨hm1, hk1⟩)
            clear HB HS hm1 hk1
            have HB := Lib.hid hb1
            have HS := HS1
            clear hb1 HS1
            have HYZ : Hid (Blk wz yb 49 #[.string nm, .int .i64 yk, .bool yf, .int .i64 yn, .string yw, .slice yla yln ylc, .slice yma ymn ymc]) := Lib.hid (HYX.out.keep HKW.out.2 HYN.out (by decide))
            have HTZ := Lib.hid (HTY.out.step HKW.out HTBM.out)
            clear HYX HTY HTBM HKW HL hbl
            have HYX := HYZ
            have HTY := HTZ
            clear HYZ HTZ
            have hbl := HB.out.lt.2
            generalize L ++ ([44] : List UInt8) = L4 at *
            have HCS : Hid (∀ W, New wz W → W.cell? ⟨yb, 0, none⟩ = some (.string nm) ∧ yb < W.heap.size ∧ b < W.heap.size) := Lib.hid (fun W hW => ⟨((HYX.out.mod hW (fun e => e)).cell 0).trans rfl, (HYX.out.mod hW (fun e => e)).lt, Nat.lt_of_lt_of_le HB.out.lt.2 hW.size⟩)
            have HFD : Hid ((⟨(quoteL nm.data.toList).toArray⟩ : ByteArray).data.toList = quoteL nm.data.toList) := Lib.hid (by simp)
            have HFS : Hid ((⟨(quoteL nm.data.toList).toArray⟩ : ByteArray).size = (quoteL nm.data.toList).length) := Lib.hid (by simp [ByteArray.size])
            have hqt := fun W => quote_v nm W hnz
            generalize (⟨(quoteL nm.data.toList).toArray⟩ : ByteArray) = ST at *
            go_upto_region 9 with (fail)
            refine wp_region_held_ord (fun W => W.cell? ⟨yb, 0, none⟩ = some (.string nm) ∧ yb < W.heap.size ∧ b < W.heap.size) [5] [0, 1, 2, 3, 4, 5] (by kernel_rfl) (by kernel_rfl) (fun _ _ d _ _ h => by cases d <;> exact h) ?_ (fun hHeld => ?_)
            · exact HCS.out _ (Mod.refl _ _).drew
            simp only [List.length_cons, List.length_nil, List.drop_succ_cons, List.drop_zero]
            refine heldO_take ?_ (by rfl) (by rfl) (by rfl) (fun w hSw => ?_) ?_
            rotate_left
            · (try dsimp only at hSw); go_simp; any_goals (with_reducible rfl)
            simp only [Act.put, List.setIfInBounds_toArray, List.set_cons_zero, List.set_cons_succ]
            refine heldO_take ?_ (by rfl) (by rfl) (by rfl) (fun w hSw => ?_) ?_
            rotate_left
            · (try dsimp only at hSw); go_simp; any_goals (with_reducible rfl)
            simp only [Act.put, List.setIfInBounds_toArray, List.set_cons_zero, List.set_cons_succ]
            refine heldO_take ?_ (by rfl) (by rfl) (by rfl) (fun w hSw => ?_) ?_
            rotate_left
            · (try dsimp only at hSw); go_simp; any_goals (with_reducible rfl)
            simp only [Act.put, List.setIfInBounds_toArray, List.set_cons_zero, List.set_cons_succ]
            refine heldO_take ?_ (by rfl) (by rfl) (by rfl) (fun w hSw => ?_) ?_
            rotate_left
            · (try dsimp only at hSw); go_simp; any_goals (with_reducible rfl)
            simp only [Act.put, List.setIfInBounds_toArray, List.set_cons_zero, List.set_cons_succ]
            refine heldO_take ?_ (by rfl) (by rfl) (by rfl) (fun w hSw => ?_) ?_
            rotate_left
            · (try dsimp only at hSw); go_simp; any_goals (with_reducible rfl)
            simp only [Act.put, List.setIfInBounds_toArray, List.set_cons_zero, List.set_cons_succ]
            refine heldO_step (by rfl) (by rfl) (by rfl) (fun K hK => ?_)
            go_simp
            refine (hqt _).mono ?_
            clear hqt
            rintro e w3 ⟨rfl, hm3⟩
            have m3 : New wz w3 := (Mod.refl (fun _ => False) wz).drew.trans hm3
            clear hm3
            go_wp2_with fail
            refine hK.out _ _ (HCS.out _ m3) (fun hHeld => ?_)
            clear hK K
            try simp only [Act.put, List.setIfInBounds_toArray, List.set_cons_zero, List.set_cons_succ]
            refine heldO_nil ?_
            have HB1 := Lib.hid (HB.out.new m3)
            have HS1 := Lib.hid (HS.out.new m3)
            have HY1 := Lib.hid (HYX.out.mod m3 (fun e => e))
            have HT1 := Lib.hid (HTY.out.new m3)
            have hbl3 := HB1.out.lt.2
            clear HB HS HYX HTY HCS hbl m3 hHeld
            have HB := HB1
            have HS := HS1
            have HYX := HY1
            have HTY := HT1
            clear HB1 HS1 HY1 HT1
            go_wp2_with fail
            refine (bw_string buT_writer B b _ ST _ HB.out (by have hq := HFS.out; omega)).mono ?_
            rw [HFD.out]
            rintro e w4 ⟨rfl, hb1, hm1, hk1⟩
            have HY1 := Lib.hid (HYX.out.keep hk1 HYN.out (by decide))
            have HT1 := Lib.hid (HTY.out.step ⟨hm1, hk1⟩ HB.out.tb)
            have HS1 := Lib.hid (HS.out.trans ⟨hm1, hk1⟩)
            clear HB HS HYX HTY hm1 hk1 hbl3
            have HB := Lib.hid hb1
            have HS := HS1
            have HYX := HY1
            have HTY := HT1
            clear HS1 HY1 HT1 hb1
            have hbl4 := HB.out.lt.2
            go_wp2_with fail
            refine (bw_byte buT_writer B b _ 58 58 rfl _ HB.out (by simp only [List.length_append]; omega)).mono ?_
            rintro e w5 ⟨rfl, hb1, hm1, hk1⟩
            have HY1 := Lib.hid (HYX.out.keep hk1 HYN.out (by decide))
            have HT1 := Lib.hid (HTY.out.step ⟨hm1, hk1⟩ HB.out.tb)
            have HS1 := Lib.hid (HS.out.trans ⟨hm1, hk1⟩)
            clear HB HS HYX HTY hm1 hk1 hbl4
            have HB := Lib.hid hb1
            have HS := HS1
            have HYX := HY1
            have HTY := HT1
            clear HS1 HY1 HT1 hb1
            have hbl5 := HB.out.lt.2
            have e1 := HYX.out.cell 1
            have e2 := HYX.out.cell 2
            have e3 := HYX.out.cell 3
            have e4 := HYX.out.cell 4
            have e5 := HYX.out.cell 5
            have e6 := HYX.out.cell 6
            have el := HYX.out.lt
            simp only [List.getElem?_toArray, List.getElem?_cons_zero, List.getElem?_cons_succ] at e1 e2 e3 e4 e5 e6
            have hI := HIH.out ⟨yk, yf, yn, yw, yla, yln, ylc, yma, ymn, ymc⟩ _ G _ w5 HTY.out HB.out HFT.out HFL.out (by simp only [List.length_append, List.length_cons, List.length_nil]; omega) (HPX.out _ (HS0.out.trans HS.out))
            go_wp2_with fail
            refine hI.mono ?_
            clear hI
            rintro e wy ⟨rfl, hb7, hs7⟩
            have HB7 := Lib.hid hb7
            have HS7 := Lib.hid (HS.out.trans hs7)
            clear hb7 hs7 HB HS
            go_wp2_with fail
            go_roundw
            case rel => exact ⟨k + 1, by omega, by go_num, Lib.hid (by rw [HTK2.out]; exact HB7.out), HS7⟩
            case measure => simp [intOf]; omega
        · obtain rfl : k = mn := by omega
          have hb := HB.out
          rw [List.take_of_length_le (by have := HMN.out; omega)] at hb
          have HB2 := Lib.hid hb
          have HTL : Hid ((l ++ 123 :: commas (v.mem.map fun p => quoteL p.1.data.toList ++ 58 :: vText d p.2)) ++ [125] = l ++ vText (d + 1) v) := Lib.hid (by rw [HVT.out]; simp)
          have hvl := vText_length (d + 1) v HR.out
          have hwl := HW.out
          have HL : Hid ((l ++ 123 :: commas (v.mem.map fun p => quoteL p.1.data.toList ++ 58 :: vText d p.2)).length + 40 ≤ 200040) := Lib.hid (by
            have := congrArg List.length HTL.out
            simp only [List.length_append, List.length_cons, List.length_nil] at this ⊢
            omega)
          generalize l ++ 123 :: commas (v.mem.map fun p => quoteL p.1.data.toList ++ 58 :: vText d p.2) = L at *
          clear HB hb hlt hk
          have HB := HB2
          clear HB2 hvl hwl
          have hbl := HB.out.lt.2
          go_wp2_with fail
          refine (bw_byte buT_writer B b _ 125 125 rfl _ HB.out (by have hq := HL.out; first | omega | (simp; done) | (simp at hq ⊢; omega))).mono ?_
          rintro e wz ⟨rfl, hb1, hm1, hk1⟩
          have HTBM := Lib.hid HB.out.tb
          have HKW : Hid (WStep B b _ _) := Lib.hid ⟨hm1, hk1⟩
          have HS1 := Lib.hid (HS.out.trans ⟨hm1, hk1⟩)
          clear HB HS hm1 hk1
          have HB := Lib.hid hb1
          have HS := HS1
          clear hb1 HS1
          go_wp2_with fail
          go_end0
          exact ⟨rfl, by rw [← HTL.out]; exact HB.out, HS0.out.trans HS.out⟩

end Go.Proofs.YtahofcopedlenaaGreatDoor

namespace Go.Proofs.YtahofcopedlenaaGreatDoor
open Go.RowKit
set_option linter.unusedVariables false
set_option linter.unusedSimpArgs false

set_option maxRecDepth 100000 in
set_option maxHeartbeats 1500000 in
theorem textOf_v (d : Nat) (x : VA) (v : VT) (G : Nat → Prop) (w : World) (ht : Tree w G (d + 1) x v) (hf : Fit (d + 1) v) (hr : vFault (d + 1) v = 0) (hw : vW (d + 1) v ≤ 200000) (hP : Pow10 w) :
    Calls Tryz.prog 58 #[x.val] w fun e w' => e = .returned (.tuple #[.string ⟨(vText (d + 1) v).toArray⟩, .bool true]) ∧ New w w' := by
  have hvl := vText_length (d + 1) v hr
  have hne := vText_ne d v
  have HWV := Lib.hid (fun W b (h : New w W) hb => writerValue_v w hP w.heap.size b (Nat.le_refl _) (d + 1) x v G [] W (ht.new h) hb hf hr (by simpa using hw) (hP.new h))
  generalize vText (d + 1) v = T at *
  obtain ⟨kind, flag, num, words, la, ln, lc, ma, mn, mc⟩ := x
  clear ht hf hr hP
  have hx := Blk.new w 29 #[.int .i64 kind, .bool flag, .int .i64 num, .string words, .slice la ln lc, .slice ma mn mc]
  have hm1 : New w (w.alloc (.cells #[.int .i64 kind, .bool flag, .int .i64 num, .string words, .slice la ln lc, .slice ma mn mc] 29)) := (Mod.refl _ _).alloc _
  go_enter Tryz.func58, Tryz.ntmps58
  go_upto_region 1 with (fail)
  have hsz : (w.alloc (.cells #[.int .i64 kind, .bool flag, .int .i64 num, .string words, .slice la ln lc, .slice ma mn mc] 29)).heap.size = w.heap.size + 1 := by simp
  generalize w.alloc (.cells #[.int .i64 kind, .bool flag, .int .i64 num, .string words, .slice la ln lc, .slice ma mn mc] 29) = w1 at *
  have hb := Blk.new w1 129 #[.pointer none, .slice none 0 0]
  have hm2 : New w1 (w1.alloc (.cells #[.pointer none, .slice none 0 0] 129)) := (Mod.refl _ _).alloc _
  go_upto_region 2 with (fail)
  generalize w1.alloc (.cells #[.pointer none, .slice none 0 0] 129) = w2 at *
  have HBB : Hid (w.heap.size ≤ w1.heap.size) := Lib.hid (by omega)
  have hne2 : w.heap.size ≠ w1.heap.size := by omega
  have hxx := hx.mod hm2 (fun e => e)
  have HBF := Lib.hid (Bw.fresh hb (show w.heap.size ≤ w1.heap.size by omega))
  rw [hsz] at hb hne2 HBF
  generalize w.heap.size + 1 = b at *
  clear hsz HBB
  have hwv := HWV.out w2 b (hm1.trans hm2) HBF.out
  have HM := Lib.hid (hm1.trans hm2)
  have hbl := hb.lt
  clear hx hm1 hm2 hb hne2
  have e0 := hxx.cell 0
  have e1 := hxx.cell 1
  have e2 := hxx.cell 2
  have e3 := hxx.cell 3
  have e4 := hxx.cell 4
  have e5 := hxx.cell 5
  have el := hxx.lt
  simp only [List.getElem?_toArray, List.getElem?_cons_zero, List.getElem?_cons_succ] at e0 e1 e2 e3 e4 e5
  clear hxx
  go_wp2_with fail
  refine hwv.mono ?_
  clear hwv
  rintro e w3 ⟨rfl, hb3, hs3⟩
  have HM3 : Hid (New w w3) := Lib.hid (New.from HM.out hs3.1 (Nat.le_refl _))
  have HB3 : Hid (Bw 129 w.heap.size b T w3) := Lib.hid (by simpa using hb3)
  clear hb3 hs3 e0 e1 e2 e3 e4 e5 el hbl
  have hfu := full_v w.heap.size b T w3 HB3.out (by omega)
  have hbl := HB3.out.lt.2
  go_wp2_with fail
  refine hfu.mono ?_
  clear hfu
  rintro e w3 ⟨rfl, rfl⟩
  have hgv := bw_give w.heap.size b T w3 HB3.out hne
  go_wp2_with fail
  refine hgv.mono ?_
  clear hgv
  rintro e w4 ⟨rfl, m4⟩
  go_wp2_with fail
  go_ret2
  exact ⟨rfl, New.from HM3.out m4 (Nat.le_refl _)⟩

set_option maxRecDepth 100000 in
set_option maxHeartbeats 1500000 in
theorem text_v (d : Nat) (x : VA) (v : VT) (G : Nat → Prop) (w : World) (ht : Tree w G (d + 1) x v) (hf : Fit (d + 1) v) (hw : vW (d + 1) v ≤ 200000) (hP : Pow10 w) (hU : Utf8T w) :
    Calls Tryz.prog 37 #[x.val] w fun e w' => e = .returned (.tuple #[.string (if vCheck (d + 1) v ≠ 0 then ⟨#[]⟩ else ⟨(vText (d + 1) v).toArray⟩), .int .i64 (vCheck (d + 1) v)]) ∧ New w w' := by
  have HCH := Lib.hid (fun W (h : New w W) => check_v (d + 1) x v G W (ht.new h) hf (hU.new h))
  have hcf : vCheck (d + 1) v = 0 → vFault (d + 1) v = 0 := fun h => by
    unfold vCheck at h
    split at h
    · cases h
    · exact h
  have HTX := Lib.hid (fun W (h : New w W) hr => textOf_v d x v G W (ht.new h) hf (hcf hr) hw (hP.new h))
  generalize vCheck (d + 1) v = c at *
  obtain ⟨R, hR⟩ : ∃ R : ByteArray, R = if c ≠ 0 then ⟨#[]⟩ else ⟨(vText (d + 1) v).toArray⟩ := ⟨_, rfl⟩
  rw [← hR]
  have HR := Lib.hid hR
  generalize vText (d + 1) v = T at *
  obtain ⟨kind, flag, num, words, la, ln, lc, ma, mn, mc⟩ := x
  clear ht hf hw hP hU hcf hR
  have hx := Blk.new w 29 #[.int .i64 kind, .bool flag, .int .i64 num, .string words, .slice la ln lc, .slice ma mn mc]
  have hm1 : New w (w.alloc (.cells #[.int .i64 kind, .bool flag, .int .i64 num, .string words, .slice la ln lc, .slice ma mn mc] 29)) := (Mod.refl _ _).alloc _
  go_enter Tryz.func37, Tryz.ntmps37
  go_upto_region 1 with (fail)
  generalize w.alloc (.cells #[.int .i64 kind, .bool flag, .int .i64 num, .string words, .slice la ln lc, .slice ma mn mc] 29) = w1 at *
  generalize w.heap.size = xb at *
  have hch := HCH.out _ hm1
  have HX := Lib.hid hx
  have HM1 := Lib.hid hm1
  have hxx := hx
  clear hx hm1
  have e0 := hxx.cell 0
  have e1 := hxx.cell 1
  have e2 := hxx.cell 2
  have e3 := hxx.cell 3
  have e4 := hxx.cell 4
  have e5 := hxx.cell 5
  have el := hxx.lt
  simp only [List.getElem?_toArray, List.getElem?_cons_zero, List.getElem?_cons_succ] at e0 e1 e2 e3 e4 e5
  clear hxx
  go_wp2_with fail
  refine hch.mono ?_
  clear hch
  rintro e w2 ⟨rfl, m2⟩
  have HM2 := Lib.hid (HM1.out.trans m2)
  have HX2 := Lib.hid (HX.out.mod m2 (fun e => e))
  clear e0 e1 e2 e3 e4 e5 el m2
  by_cases hz : c = 0
  · subst hz
    have HRET : Hid (Ending.returned (.tuple #[.string ⟨T.toArray⟩, .int .i64 0]) = Ending.returned (.tuple #[.string R, .int .i64 0])) := Lib.hid (by rw [HR.out]; simp)
    have hxx := HX2.out
    have e0 := hxx.cell 0
    have e1 := hxx.cell 1
    have e2 := hxx.cell 2
    have e3 := hxx.cell 3
    have e4 := hxx.cell 4
    have e5 := hxx.cell 5
    have el := hxx.lt
    simp only [List.getElem?_toArray, List.getElem?_cons_zero, List.getElem?_cons_succ] at e0 e1 e2 e3 e4 e5
    clear hxx
    have htx := HTX.out _ HM2.out rfl
    go_wp2_with fail
    refine htx.mono ?_
    clear htx
    rintro e w3 ⟨rfl, m3⟩
    go_wp2_with fail
    go_ret2
    exact ⟨Eq.trans rfl HRET.out, HM2.out.trans m3⟩
  · have hz1 : (c != 0) = true := by simpa using hz
    have HRET : Hid (Ending.returned (.tuple #[.string ⟨#[]⟩, .int .i64 c]) = Ending.returned (.tuple #[.string R, .int .i64 c])) := Lib.hid (by rw [HR.out, if_pos hz])
    clear hz
    go_wp2_with fail
    go_ret2
    exact ⟨Eq.trans rfl HRET.out, HM2.out⟩

end Go.Proofs.YtahofcopedlenaaGreatDoor

namespace Go.Proofs.YtahofcopedlenaaGreatDoor
open Go.RowKit
set_option linter.unusedVariables false
set_option linter.unusedSimpArgs false

def InInts (w : World) (A : Option Addr) (n : Nat) : Prop :=
  n ≤ maxLen ∧ (0 < n → ∃ g o, A = some ⟨g, o, none⟩ ∧ g < w.heap.size ∧ ∃ z : Nat → Int, ∀ i, i < n → w.cell? ⟨g, o + i, none⟩ = some (.int .i64 (z i)) ∧ I64 (z i))

theorem SInv.start {w : World} {A : Option Addr} {n c : Nat} (h : InInts w A n) : SInv w.heap.size (w.alloc (.cells #[.slice A n c, .int .i64 0] 25)) 0 := by
  rcases Nat.eq_zero_or_pos n with rfl | hn
  · exact ⟨A, 0, c, 0, fun _ => 0, Blk.new _ _ _, by omega, by unfold maxLen; omega, fun h => absurd h (by omega)⟩
  · obtain ⟨g, o, hA, hg, z, hz⟩ := h.2 hn
    refine ⟨A, n, c, 0, z, Blk.new _ _ _, by omega, h.1, fun _ => ⟨g, o, hA, hg, fun i hi => ⟨?_, (hz i hi).2⟩⟩⟩
    rw [← (hz i hi).1]
    exact World.cell?_alloc_lt w _ _ hg

/-- what the stream does is nothing to the caller's memory -/
theorem SStep.news {w w' : World} {o : Obj} {k : Nat} (h : SStep w.heap.size (w.alloc o) w' k) : New w w' :=
  ((Mod.refl (fun _ => False) w).alloc o).step h.only (fun i hi e => by omega)


def nullV : VT := .mk 4 false 0 ⟨#[]⟩ [.mk 0 false 0 ⟨#[]⟩ [] []] []
theorem nullV_check : vCheck 2 nullV = 0 := by kernel_rfl
theorem nullV_text : vText 2 nullV = [91, 110, 117, 108, 108, 93] := by kernel_rfl
theorem nullV_w : vW 2 nullV ≤ 1000 := by decide
theorem nullV_fit : Fit 2 nullV := by
  refine ⟨Nat.le_trans nullV_w (by omega), by show 1 ≤ 1000; omega, Nat.zero_le _, by show (⟨#[]⟩ : ByteArray).size ≤ 100000; decide, fun z hz => ?_, fun z hz => by simp [nullV, VT.mem] at hz⟩
  have : z = .mk 0 false 0 ⟨#[]⟩ [] [] := by simpa [nullV, VT.list] using hz
  subst this
  exact leaf_wide0 0 1000 0
set_option maxRecDepth 100000 in
set_option maxHeartbeats 1000000 in
theorem valued_v (w : World) (hP : Pow10 w) (hU : Utf8T w) : Calls Tryz.prog 12 #[] w fun e w' => e = .returned (.bool true) ∧ New w w' := by
  have m1 : New w (w.alloc (.cells #[.int .i64 0, .bool false, .int .i64 0, .string ⟨#[]⟩, .slice none 0 0, .slice none 0 0] 29)) := (Mod.refl _ _).alloc _
  have bk := Blk.new w 29 #[.int .i64 0, .bool false, .int .i64 0, .string ⟨#[]⟩, .slice none 0 0, .slice none 0 0]
  have hown : Own (w.alloc (.cells #[.int .i64 0, .bool false, .int .i64 0, .string ⟨#[]⟩, .slice none 0 0, .slice none 0 0] 29)) w.heap.size 29 6 VA.enc (some ⟨w.heap.size, 0, none⟩) 1 1 [(⟨0, false, 0, ⟨#[]⟩, none, 0, 0, none, 0, 0⟩ : VA)] := Own.of_blk (xs := [(⟨0, false, 0, ⟨#[]⟩, none, 0, 0, none, 0, 0⟩ : VA)]) bk (Nat.le_refl _) rfl (by omega)
  have hks : Kids (TrV 1) 29 6 VA.enc (w.alloc (.cells #[.int .i64 0, .bool false, .int .i64 0, .string ⟨#[]⟩, .slice none 0 0, .slice none 0 0] 29)) w.heap.size (fun _ => True) (some ⟨w.heap.size, 0, none⟩) 1 1 [(⟨0, false, 0, ⟨#[]⟩, none, 0, 0, none, 0, 0⟩ : VA)] [VT.mk 0 false 0 ⟨#[]⟩ [] []] := ⟨hown, rfl, fun i h h' => by
    simp only [List.length_cons, List.length_nil] at h
    obtain rfl : i = 0 := by omega
    exact leaf_tree _ _ 0 0 false 0 ⟨#[]⟩⟩
  have hty : Tree (w.alloc (.cells #[.int .i64 0, .bool false, .int .i64 0, .string ⟨#[]⟩, .slice none 0 0, .slice none 0 0] 29)) (fun _ => True) (1 + 1) ⟨4, false, 0, ⟨#[]⟩, some ⟨w.heap.size, 0, none⟩, 1, 1, none, 0, 0⟩ nullV := Tree.of_kids hks (B' := 0) (G2 := fun _ => True) Kids.nil (fun _ _ _ => trivial) (fun _ _ _ => trivial) (fun _ _ => trivial) (fun _ _ => trivial)
  have htx := text_v 1 ⟨4, false, 0, ⟨#[]⟩, some ⟨w.heap.size, 0, none⟩, 1, 1, none, 0, 0⟩ nullV (fun _ => True) _ hty nullV_fit (Nat.le_trans nullV_w (by omega)) (hP.new m1) (hU.new m1)
  have hc : vCheck (1 + 1) nullV = 0 := nullV_check
  have ht : vText (1 + 1) nullV = [91, 110, 117, 108, 108, 93] := nullV_text
  rw [hc, ht, if_neg (by simp)] at htx
  have HM1 := Lib.hid m1
  clear hty hks hown bk m1 hc ht
  go_enter Tryz.func12, Tryz.ntmps12
  go_wp2_with fail
  refine htx.mono ?_
  clear htx
  rintro e w2 ⟨rfl, m2⟩
  have hte : ((⟨[91, 110, 117, 108, 108, 93].toArray⟩ : ByteArray).toList == [91, 110, 117, 108, 108, 93]) = true := by
    rw [ByteArray.toList_eq]; rfl
  go_wp2_with fail
  go_ret
  exact ⟨rfl, HM1.out.trans m2⟩

/-- changes in memory as the law speaks of them -/
theorem ChOk.list {w : World} : ∀ cas : List CA, (∀ y ∈ cas, ChOk w y) → ∃ cs : List ChD, Al (fun y c => ChT w 60 y c ∧ y.pn ≤ y.pc ∧ CFit 60 c ∧ Deep 60 c.val ∧ Wide 7 60 c.val ∧ vW 60 c.val ≤ 90000000) cas cs
  | [], _ => ⟨[], trivial⟩
  | y :: cas, h => by
    obtain ⟨cs, hcs⟩ := ChOk.list cas (fun z hz => h z (List.mem_cons_of_mem _ hz))
    obtain ⟨⟨ps, q1, q2, q3, -, q5⟩, ⟨v, a1, a2, a3⟩⟩ := h y (by simp)
    refine ⟨⟨y.kind, ps, v⟩ :: cs, ⟨⟨rfl, q1, a1⟩, q3, ⟨fun s hs => by have := q5 s hs; omega, by have := q1.1; simp only at q2 this ⊢; omega, ⟨Nat.le_trans a2 (by omega), Wide.mono (by omega) _ _ a3⟩⟩, a1.deep, a3, Nat.le_trans a2 (by omega)⟩, hcs⟩
theorem Al.rows {w : World} {A : Option Addr} {n : Nat} {cas : List CA} {cs : List ChD} (hs : Sl w 57 8 CA.enc A n cas) (ha : Al (fun y c => ChT w 60 y c ∧ y.pn ≤ y.pc ∧ CFit 60 c ∧ Deep 60 c.val ∧ Wide 7 60 c.val ∧ vW 60 c.val ≤ 90000000) cas cs) :
    ChRowC w 60 A n cs ∧ (∀ c ∈ cs, CFit 60 c ∧ Deep 60 c.val ∧ Wide 7 60 c.val ∧ vW 60 c.val ≤ 90000000) := by
  refine ⟨⟨cas, hs, ha.len, fun i h h' => ⟨(ha.get i h h').1, (ha.get i h h').2.1⟩⟩, fun c hc => ?_⟩
  obtain ⟨i, hi, rfl⟩ := List.getElem_of_mem hc
  exact (ha.get i (by rw [ha.len]; exact hi) hi).2.2

end Go.Proofs.YtahofcopedlenaaGreatDoor

namespace Go.Proofs.YtahofcopedlenaaGreatDoor
open Go.RowKit
set_option linter.unusedVariables false
set_option linter.unusedSimpArgs false

theorem eqV_self (v : VT) : eqV v v = true := (eqV_iff v v).2 rfl
theorem Fit.upto {d d' : Nat} (hd : d ≤ d') {v : VT} (h : Deep d v) (hf : Fit d v) : Fit d' v := ⟨by rw [vW_deep hd h]; exact hf.1, Wide.deep hd h hf.2⟩
set_option maxRecDepth 100000 in
set_option maxHeartbeats 2000000 in
theorem changes_walk (A : Option Addr) (n c : Nat) (w : World) (h : InInts w A n) (hT0 : Pow10 w) (hU0 : Utf8T w) :
    Calls Tryz.prog 3 #[.slice A n c] w fun e w' => e = .returned (.bool true) ∧ New w w' := by
  have hs := SInv.start (c := c) h
  have hA : New w (w.alloc (.cells #[.slice A n c, .int .i64 0] 25)) := (Mod.refl _ _).alloc _
  have HTA := Lib.hid (hT0.new hA)
  have HUA := Lib.hid (hU0.new hA)
  have HT0 := Lib.hid hT0
  have HU0 := Lib.hid hU0
  have hv3 := stream_val 3 (by omega) w.heap.size 0 _ hs (by omega)
  go_enter Tryz.func3, Tryz.ntmps3
  go_wp2_with fail
  refine hv3.mono ?_
  clear hv3
  rintro e w1 ⟨x, rfl, hax, h1⟩
  have HP1 := Lib.hid (HT0.out.mod HTA.out h1.only (fun g hg e => by omega))
  have HU1 := Lib.hid (HU0.out.mod HUA.out h1.only (fun g hg e => by omega))
  generalize hW0 : w.alloc (.cells #[.slice A n c, .int .i64 0] 25) = W0 at *
  have hnews : ∀ w' k, SStep w.heap.size W0 w' k → New w w' := fun w' k hh => by rw [← hW0] at hh; exact hh.news
  have HN := Lib.hid hnews
  have hzW : W0.heap.size = w.heap.size + 1 := by rw [← hW0]; simp
  have hz1 : W0.heap.size ≤ w1.heap.size := h1.only.size
  generalize hsb : w.heap.size = sb at *
  obtain ⟨va, a1, a2, a3⟩ := hax
  clear hnews hW0 hs hA h hT0 hU0 HTA HUA
  obtain ⟨xk, xf, xn, xw, xla, xln, xlc, xma, xmn, xmc⟩ := x
  have bA := Blk.new w1 29 #[.int .i64 xk, .bool xf, .int .i64 xn, .string xw, .slice xla xln xlc, .slice xma xmn xmc]
  have mA : New w1 (w1.alloc (.cells #[.int .i64 xk, .bool xf, .int .i64 xn, .string xw, .slice xla xln xlc, .slice xma xmn xmc] 29)) := (Mod.refl _ _).alloc _
  go_upto_region 4 with (fail)
  have HA := Lib.hid bA
  have HT := Lib.hid (h1.new mA)
  have HP := Lib.hid (HP1.out.new mA)
  have HU := Lib.hid (HU1.out.new mA)
  have HYA := Lib.hid (a1.any.new mA)
  generalize w1.alloc (.cells #[.int .i64 xk, .bool xf, .int .i64 xn, .string xw, .slice xla xln xlc, .slice xma xmn xmc] 29) = w2 at *
  generalize w1.heap.size = ab at *
  have HFA : Hid (Fit 60 va) := Lib.hid ⟨Nat.le_trans a2 (by omega), Wide.mono (by omega) _ _ a3⟩
  have HLW := Lib.hid a2
  have HWD := Lib.hid a3
  clear bA mA h1 HP1 HU1 a1 a2 a3
  have hvf := fun W (h1 : Tree W (fun _ => True) 60 ⟨xk, xf, xn, xw, xla, xln, xlc, xma, xmn, xmc⟩ va) (hu : Utf8T W) => valueFault_v 60 _ va _ W h1 HFA.out (by omega) hu
  have HVF := Lib.hid hvf
  clear hvf
  have hxx := HA.out
  have e0 := hxx.cell 0
  have e1 := hxx.cell 1
  have e2 := hxx.cell 2
  have e3 := hxx.cell 3
  have e4 := hxx.cell 4
  have e5 := hxx.cell 5
  have el := hxx.lt
  simp only [List.getElem?_toArray, List.getElem?_cons_zero, List.getElem?_cons_succ] at e0 e1 e2 e3 e4 e5
  clear hxx
  have q1 := HVF.out w2 HYA.out HU.out
  go_wp2_with fail
  refine q1.mono ?_
  clear q1
  rintro e w3 ⟨rfl, m3⟩
  clear e0 e1 e2 e3 e4 e5 el
  have HA1 := Lib.hid (HA.out.mod m3 (fun e => e))
  have HY1 := Lib.hid (HYA.out.new m3)
  have HT1 := Lib.hid (HT.out.new m3)
  have HP1 := Lib.hid (HP.out.new m3)
  have HU1 := Lib.hid (HU.out.new m3)
  clear HA HYA HT HP HU m3
  have HA := HA1
  have HYA := HY1
  have HT := HT1
  have HP := HP1
  have HU := HU1
  clear HA1 HY1 HT1 HP1 HU1
  generalize hFA : vCheck 60 va = FA at *
  have HFAE := Lib.hid hFA
  clear hFA
  go_upto_if 20 with (fail)
  go_cut [5] (fun s5 wx => ∃ (An : Option Addr) (cn cc : Nat) (cas : List CA), s5 = .slice An cn cc ∧ Hid (Sl wx 57 8 CA.enc An cn cas) ∧ Hid (∀ y ∈ cas, ChOk wx y) ∧ cn ≤ 3 ∧ Hid (Blk wx ab 29 #[.int .i64 xk, .bool xf, .int .i64 xn, .string xw, .slice xla xln xlc, .slice xma xmn xmc]) ∧
    Hid (Tree wx (fun _ => True) 60 ⟨xk, xf, xn, xw, xla, xln, xlc, xma, xmn, xmc⟩ va) ∧ Hid (Pow10 wx) ∧ Hid (Utf8T wx) ∧ Hid (SStep sb W0 wx 100000))
  case first =>
    by_cases h0 : FA = 0
    · have h0b : (FA == 0) = true := by simpa using h0
      have hch := stream_changes 60 sb _ ⟨xk, xf, xn, xw, xla, xln, xlc, xma, xmn, xmc⟩ va w3 HT.out.inv (by omega) HYA.out (Wide.mono (by omega) _ _ HWD.out) HLW.out (by omega)
      clear h0
      have hxx := HA.out
      have e0 := hxx.cell 0
      have e1 := hxx.cell 1
      have e2 := hxx.cell 2
      have e3 := hxx.cell 3
      have e4 := hxx.cell 4
      have e5 := hxx.cell 5
      have el := hxx.lt
      simp only [List.getElem?_toArray, List.getElem?_cons_zero, List.getElem?_cons_succ] at e0 e1 e2 e3 e4 e5
      clear hxx
      go_wp2_with fail
      refine hch.mono ?_
      clear hch
      rintro e w4 ⟨An, cn, cc, cas, rfl, hsl, hok, hcn, h4⟩
      clear e0 e1 e2 e3 e4 e5 el
      have HA4 := Lib.hid (HA.out.mod h4.only (by omega))
      have HY4 := Lib.hid (HYA.out.stream h4 HT.out.inv.tb)
      have HT4 := Lib.hid ((HT.out.trans h4).more (show _ ≤ 100000 by omega))
      have HP4 := Lib.hid (HT0.out.mod HP.out h4.only (fun g hg e => by omega))
      have HU4 := Lib.hid (HU0.out.mod HU.out h4.only (fun g hg e => by omega))
      have HS4 := Lib.hid hsl
      have HO4 := Lib.hid hok
      clear h4 hsl hok
      go_wp2_with fail
      go_meet
      case rel => exact ⟨An, cn, cc, cas, rfl, HS4, HO4, hcn, HA4, HY4, HP4, HU4, HT4⟩
    · have h0b : (FA == 0) = false := by simpa using h0
      clear h0
      go_wp2_with fail
      go_meet
      case rel => exact ⟨none, 0, 0, [], rfl, Lib.hid Sl.nil, Lib.hid (by simp), by omega, HA, HYA, HP, HU, Lib.hid (HT.out.more (by omega))⟩
  case rest =>
    rename World => wx
    clear HA HYA HP HU HT
    obtain ⟨An, cn, cc, cas, rfl, HSL, HOK, hcn, HA, HYA, HP, HU, HT⟩ := hcut
    obtain ⟨cs, hal⟩ := ChOk.list cas HOK.out
    obtain ⟨hrow, hcf⟩ := Al.rows HSL.out hal
    have HROW := Lib.hid hrow
    have HCF := Lib.hid hcf
    clear HSL HOK hal hrow hcf cas
    have hap := apply_v 59 59 7 ⟨xk, xf, xn, xw, xla, xln, xlc, xma, xmn, xmc⟩ va An cn cc cs wx HYA.out HWD.out (Nat.le_trans HLW.out (by omega)) HROW.out (by omega) (by omega) (by omega) (fun c hc => (HCF.out c hc).1) (fun c hc => (HCF.out c hc).2) HU.out
    simp only [Nat.reduceAdd] at hap
    obtain ⟨R, hR⟩ : ∃ R, applyF 60 60 va cs = R := ⟨_, rfl⟩
    rw [hR] at hap
    have HRR : Hid (R = if FA ≠ 0 then (0, FA, nilV) else if chgsF 60 cs ≠ 0 then (0, chgsF 60 cs, nilV) else runF progC 60 60 va 0 cs) := Lib.hid (by rw [← hR, ← HFAE.out]; rfl)
    have HFD : Hid (Deep 60 va) := Lib.hid HYA.out.deep
    clear hR
    obtain ⟨ri, re, rv⟩ := R
    have hxx := HA.out
    have e0 := hxx.cell 0
    have e1 := hxx.cell 1
    have e2 := hxx.cell 2
    have e3 := hxx.cell 3
    have e4 := hxx.cell 4
    have e5 := hxx.cell 5
    have el := hxx.lt
    simp only [List.getElem?_toArray, List.getElem?_cons_zero, List.getElem?_cons_succ] at e0 e1 e2 e3 e4 e5
    clear hxx
    go_wp2_with fail
    refine hap.mono ?_
    clear hap
    rintro e w7 ⟨⟨yk, yf, yn, yw, yla, yln, ylc, yma, ymn, ymc⟩, dy, rfl, hty, hfy, hdy, m7⟩
    simp only at hty hfy
    clear e0 e1 e2 e3 e4 e5 el
    have HA1 := Lib.hid (HA.out.mod m7 (fun e => e))
    have HY1 := Lib.hid (HYA.out.new m7)
    have HT1 := Lib.hid (HT.out.new m7)
    have HP1 := Lib.hid (HP.out.new m7)
    have HU1 := Lib.hid (HU.out.new m7)
    have HR1 := Lib.hid (HROW.out.new m7)
    clear HA HYA HT HP HU HROW
    have HA := HA1
    have HYA := HY1
    have HT := HT1
    have HP := HP1
    have HU := HU1
    have HROW := HR1
    clear HA1 HY1 HT1 HP1 HU1 HR1
    clear m7
    have bB := Blk.new w7 29 #[.int .i64 yk, .bool yf, .int .i64 yn, .string yw, .slice yla yln ylc, .slice yma ymn ymc]
    have mB : New w7 (w7.alloc (.cells #[.int .i64 yk, .bool yf, .int .i64 yn, .string yw, .slice yla yln ylc, .slice yma ymn ymc] 29)) := (Mod.refl _ _).alloc _
    go_upto_region 7 with (fail)
    have HBB := Lib.hid bB
    have HYB := Lib.hid (hty.new mB)
    have HFB := Lib.hid hfy
    have HA1 := Lib.hid (HA.out.mod mB (fun e => e))
    have HY1 := Lib.hid (HYA.out.new mB)
    have HT1 := Lib.hid (HT.out.new mB)
    have HP1 := Lib.hid (HP.out.new mB)
    have HU1 := Lib.hid (HU.out.new mB)
    have HR1 := Lib.hid (HROW.out.new mB)
    clear HA HYA HT HP HU HROW
    have HA := HA1
    have HYA := HY1
    have HT := HT1
    have HP := HP1
    have HU := HU1
    have HROW := HR1
    clear HA1 HY1 HT1 HP1 HU1 HR1
    generalize w7.alloc (.cells #[.int .i64 yk, .bool yf, .int .i64 yn, .string yw, .slice yla yln ylc, .slice yma ymn ymc] 29) = w8 at *
    generalize w7.heap.size = bb at *
    clear bB mB hty hfy
    have q3 := changesFault_v 59 An cn cc cs w8 HROW.out.row (by omega) (fun c hc => (HCF.out c hc).1) HU.out (by omega)
    simp only [Nat.reduceAdd] at q3
    go_wp2_with fail
    refine q3.mono ?_
    clear q3
    rintro e w9 ⟨rfl, m9⟩
    have HA1 := Lib.hid (HA.out.mod m9 (fun e => e))
    have HY1 := Lib.hid (HYA.out.new m9)
    have HT1 := Lib.hid (HT.out.new m9)
    have HP1 := Lib.hid (HP.out.new m9)
    have HU1 := Lib.hid (HU.out.new m9)
    have HR1 := Lib.hid (HROW.out.new m9)
    clear HA HYA HT HP HU HROW
    have HA := HA1
    have HYA := HY1
    have HT := HT1
    have HP := HP1
    have HU := HU1
    have HROW := HR1
    clear HA1 HY1 HT1 HP1 HU1 HR1
    have HB1 := Lib.hid (HBB.out.mod m9 (fun e => e))
    have HZ1 := Lib.hid (HYB.out.new m9)
    clear HBB HYB
    have HBB := HB1
    have HYB := HZ1
    clear HB1 HZ1
    clear m9
    have q4 := checkChanges_v 59 An cn cc cs w9 HROW.out.row (by omega) (fun c hc => (HCF.out c hc).1) HU.out
    simp only [Nat.reduceAdd] at q4
    go_wp2_with fail
    refine q4.mono ?_
    clear q4
    rintro e w10 ⟨rfl, m10⟩
    have HA1 := Lib.hid (HA.out.mod m10 (fun e => e))
    have HY1 := Lib.hid (HYA.out.new m10)
    have HT1 := Lib.hid (HT.out.new m10)
    have HP1 := Lib.hid (HP.out.new m10)
    have HU1 := Lib.hid (HU.out.new m10)
    have HR1 := Lib.hid (HROW.out.new m10)
    clear HA HYA HT HP HU HROW
    have HA := HA1
    have HYA := HY1
    have HT := HT1
    have HP := HP1
    have HU := HU1
    have HROW := HR1
    clear HA1 HY1 HT1 HP1 HU1 HR1
    have HB1 := Lib.hid (HBB.out.mod m10 (fun e => e))
    have HZ1 := Lib.hid (HYB.out.new m10)
    clear HBB HYB
    have HBB := HB1
    have HYB := HZ1
    clear HB1 HZ1
    clear m10
    have q5 := HVF.out w10 HYA.out HU.out
    generalize hFC : chgsF 60 cs = FC at *
    have HFC := Lib.hid hFC
    clear hFC
    have hxx := HA.out
    have e0 := hxx.cell 0
    have e1 := hxx.cell 1
    have e2 := hxx.cell 2
    have e3 := hxx.cell 3
    have e4 := hxx.cell 4
    have e5 := hxx.cell 5
    have el := hxx.lt
    simp only [List.getElem?_toArray, List.getElem?_cons_zero, List.getElem?_cons_succ] at e0 e1 e2 e3 e4 e5
    clear hxx
    go_wp2_with fail
    refine q5.mono ?_
    clear q5
    rintro e w11 ⟨rfl, m11⟩
    clear e0 e1 e2 e3 e4 e5 el
    have HA1 := Lib.hid (HA.out.mod m11 (fun e => e))
    have HY1 := Lib.hid (HYA.out.new m11)
    have HT1 := Lib.hid (HT.out.new m11)
    have HP1 := Lib.hid (HP.out.new m11)
    have HU1 := Lib.hid (HU.out.new m11)
    have HR1 := Lib.hid (HROW.out.new m11)
    clear HA HYA HT HP HU HROW
    have HA := HA1
    have HYA := HY1
    have HT := HT1
    have HP := HP1
    have HU := HU1
    have HROW := HR1
    clear HA1 HY1 HT1 HP1 HU1 HR1
    have HB1 := Lib.hid (HBB.out.mod m11 (fun e => e))
    have HZ1 := Lib.hid (HYB.out.new m11)
    clear HBB HYB
    have HBB := HB1
    have HYB := HZ1
    clear HB1 HZ1
    clear m11
    have m12 : New w11 (w11.alloc (.cells #[.int .i64 FA, .int .i64 FC] 32)) := (Mod.refl _ _).alloc _
    have b12 := Blk.new w11 32 #[.int .i64 FA, .int .i64 FC]
    have q6 := or_two FA FC w11.heap.size _ b12
    have HA1 := Lib.hid (HA.out.mod m12 (fun e => e))
    have HY1 := Lib.hid (HYA.out.new m12)
    have HT1 := Lib.hid (HT.out.new m12)
    have HP1 := Lib.hid (HP.out.new m12)
    have HU1 := Lib.hid (HU.out.new m12)
    have HR1 := Lib.hid (HROW.out.new m12)
    clear HA HYA HT HP HU HROW
    have HA := HA1
    have HYA := HY1
    have HT := HT1
    have HP := HP1
    have HU := HU1
    have HROW := HR1
    clear HA1 HY1 HT1 HP1 HU1 HR1
    have HB1 := Lib.hid (HBB.out.mod m12 (fun e => e))
    have HZ1 := Lib.hid (HYB.out.new m12)
    clear HBB HYB
    have HBB := HB1
    have HYB := HZ1
    clear HB1 HZ1
    go_wp2_with fail
    refine q6.mono ?_
    clear q6 m12 b12
    rintro e w12 ⟨rfl, rfl⟩
    generalize w11.alloc (.cells #[.int .i64 FA, .int .i64 FC] 32) = w12 at *
    by_cases h0 : orF FA FC = 0
    · obtain ⟨ha0, hc0⟩ := orF_eq_zero h0
      have hob : (orF FA FC != 0) = false := by simpa using h0
      have HVV : Hid (vFault 60 va = 0) := Lib.hid (vCheck_fault (HFAE.out.trans ha0))
      have HCO := Lib.hid (chgs_ok (D := 60) (m := 7) (HFC.out.trans hc0) (fun c hc => (HCF.out c hc).2))
      have HRQ : Hid (runF refC 60 60 va 0 cs = (ri, re, rv)) := Lib.hid (by
        rw [HRR.out, if_neg (by simp [ha0]), if_neg (by simp [hc0])]
        exact run_eq 60 cs 7 60 va 0 HFD.out HWD.out HVV.out (fun c hc => ⟨(HCO.out c hc).ok, (HCO.out c hc).wide⟩))
      generalize orF FA FC = OR at *
      clear h0 ha0 hc0
      have hap := applyOf_v 59 59 7 ⟨xk, xf, xn, xw, xla, xln, xlc, xma, xmn, xmc⟩ va An cn cc cs w12 HYA.out HWD.out (Nat.le_trans HLW.out (by omega)) HVV.out HROW.out (by omega) (by omega) (by omega) HCO.out HU.out
      simp only [Nat.reduceAdd] at hap
      rw [HRQ.out] at hap
      have hxx := HA.out
      have e0 := hxx.cell 0
      have e1 := hxx.cell 1
      have e2 := hxx.cell 2
      have e3 := hxx.cell 3
      have e4 := hxx.cell 4
      have e5 := hxx.cell 5
      have el := hxx.lt
      simp only [List.getElem?_toArray, List.getElem?_cons_zero, List.getElem?_cons_succ] at e0 e1 e2 e3 e4 e5
      clear hxx
      go_wp2_with fail
      refine hap.mono ?_
      clear hap
      rintro e w13 ⟨⟨zk, zf, zn, zw, zla, zln, zlc, zma, zmn, zmc⟩, dz, rfl, htz, hfz, hdz, m13⟩
      simp only at htz hfz
      clear e0 e1 e2 e3 e4 e5 el
      have HA1 := Lib.hid (HA.out.mod m13 (fun e => e))
      have HY1 := Lib.hid (HYA.out.new m13)
      have HT1 := Lib.hid (HT.out.new m13)
      have HP1 := Lib.hid (HP.out.new m13)
      have HU1 := Lib.hid (HU.out.new m13)
      have HR1 := Lib.hid (HROW.out.new m13)
      clear HA HYA HT HP HU HROW
      have HA := HA1
      have HYA := HY1
      have HT := HT1
      have HP := HP1
      have HU := HU1
      have HROW := HR1
      clear HA1 HY1 HT1 HP1 HU1 HR1
      have HB1 := Lib.hid (HBB.out.mod m13 (fun e => e))
      have HZ1 := Lib.hid (HYB.out.new m13)
      clear HBB HYB
      have HBB := HB1
      have HYB := HZ1
      clear HB1 HZ1
      clear m13
      have bZ := Blk.new w13 29 #[.int .i64 zk, .bool zf, .int .i64 zn, .string zw, .slice zla zln zlc, .slice zma zmn zmc]
      have mZ : New w13 (w13.alloc (.cells #[.int .i64 zk, .bool zf, .int .i64 zn, .string zw, .slice zla zln zlc, .slice zma zmn zmc] 29)) := (Mod.refl _ _).alloc _
      go_upto_region 14 with (fail)
      have HA1 := Lib.hid (HA.out.mod mZ (fun e => e))
      have HY1 := Lib.hid (HYA.out.new mZ)
      have HT1 := Lib.hid (HT.out.new mZ)
      have HP1 := Lib.hid (HP.out.new mZ)
      have HU1 := Lib.hid (HU.out.new mZ)
      have HR1 := Lib.hid (HROW.out.new mZ)
      clear HA HYA HT HP HU HROW
      have HA := HA1
      have HYA := HY1
      have HT := HT1
      have HP := HP1
      have HU := HU1
      have HROW := HR1
      clear HA1 HY1 HT1 HP1 HU1 HR1
      have HB1 := Lib.hid (HBB.out.mod mZ (fun e => e))
      have HZ1 := Lib.hid (HYB.out.new mZ)
      clear HBB HYB
      have HBB := HB1
      have HYB := HZ1
      clear HB1 HZ1
      have HYZ := Lib.hid (htz.new mZ)
      have HBZ := Lib.hid bZ
      have HFZ := Lib.hid hfz
      generalize w13.alloc (.cells #[.int .i64 zk, .bool zf, .int .i64 zn, .string zw, .slice zla zln zlc, .slice zma zmn zmc] 29) = w14 at *
      generalize w13.heap.size = zb at *
      clear bZ mZ htz hfz
      have q7 := same_v 900 ⟨yk, yf, yn, yw, yla, yln, ylc, yma, ymn, ymc⟩ ⟨zk, zf, zn, zw, zla, zln, zlc, zma, zmn, zmc⟩ rv rv (fun _ => True) w14 (Tree.upto hdy HYB.out) (Tree.upto hdz HYZ.out) (Fit.upto hdy HYB.out.deep HFB.out) (Fit.upto hdz HYZ.out.deep HFZ.out)
      rw [eqV_self] at q7
      have hyy := HBB.out
      have f0 := hyy.cell 0
      have f1 := hyy.cell 1
      have f2 := hyy.cell 2
      have f3 := hyy.cell 3
      have f4 := hyy.cell 4
      have f5 := hyy.cell 5
      have fl := hyy.lt
      simp only [List.getElem?_toArray, List.getElem?_cons_zero, List.getElem?_cons_succ] at f0 f1 f2 f3 f4 f5
      clear hyy
      have g0 := HBZ.out.cell 0
      have g1 := HBZ.out.cell 1
      have g2 := HBZ.out.cell 2
      have g3 := HBZ.out.cell 3
      have g4 := HBZ.out.cell 4
      have g5 := HBZ.out.cell 5
      have gl := HBZ.out.lt
      simp only [List.getElem?_toArray, List.getElem?_cons_zero, List.getElem?_cons_succ] at g0 g1 g2 g3 g4 g5
      go_wp2_with fail
      refine q7.mono ?_
      clear q7
      rintro e w15 ⟨rfl, m15⟩
      clear f0 f1 f2 f3 f4 f5 fl
      clear g0 g1 g2 g3 g4 g5 gl
      have HA1 := Lib.hid (HA.out.mod m15 (fun e => e))
      have HY1 := Lib.hid (HYA.out.new m15)
      have HT1 := Lib.hid (HT.out.new m15)
      have HP1 := Lib.hid (HP.out.new m15)
      have HU1 := Lib.hid (HU.out.new m15)
      have HR1 := Lib.hid (HROW.out.new m15)
      clear HA HYA HT HP HU HROW
      have HA := HA1
      have HYA := HY1
      have HT := HT1
      have HP := HP1
      have HU := HU1
      have HROW := HR1
      clear HA1 HY1 HT1 HP1 HU1 HR1
      clear m15
      have q8 := valued_v w15 HP.out HU.out
      go_wp2_with fail
      refine q8.mono ?_
      clear q8
      rintro e w16 ⟨rfl, m16⟩
      go_wp2_with fail
      go_ret
      exact ⟨rfl, HN.out _ _ (HT.out.new m16)⟩
    · have hob : (orF FA FC != 0) = true := by simpa using h0
      have hrr : ri = 0 ∧ re = orF FA FC ∧ rv = nilV := by
        have h := HRR.out
        by_cases hfa : FA = 0
        · rw [if_neg (by simp [hfa])] at h
          have hor : orF FA FC = FC := by unfold orF; rw [if_neg (by simp [hfa])]
          rw [hor] at h0
          rw [if_pos h0] at h
          injection h with h1 h2
          injection h2 with h2 h3
          exact ⟨h1, by rw [hor]; exact h2, h3⟩
        · rw [if_pos hfa] at h
          have hor : orF FA FC = FA := by unfold orF; rw [if_pos hfa]
          injection h with h1 h2
          injection h2 with h2 h3
          exact ⟨h1, by rw [hor]; exact h2, h3⟩
      obtain ⟨rfl, hre, rfl⟩ := hrr
      generalize orF FA FC = OR at *
      subst hre
      clear h0
      have q7 := same_v (dy + 1) ⟨yk, yf, yn, yw, yla, yln, ylc, yma, ymn, ymc⟩ nilVA nilV nilV (fun _ => True) w12 HYB.out (nil_tree _ _ _) HFB.out (nil_fit _)
      rw [eqV_self] at q7
      have hyy := HBB.out
      have f0 := hyy.cell 0
      have f1 := hyy.cell 1
      have f2 := hyy.cell 2
      have f3 := hyy.cell 3
      have f4 := hyy.cell 4
      have f5 := hyy.cell 5
      have fl := hyy.lt
      simp only [List.getElem?_toArray, List.getElem?_cons_zero, List.getElem?_cons_succ] at f0 f1 f2 f3 f4 f5
      clear hyy
      go_wp2_with fail
      refine q7.mono ?_
      clear q7
      rintro e w15 ⟨rfl, m15⟩
      clear f0 f1 f2 f3 f4 f5 fl
      have HA1 := Lib.hid (HA.out.mod m15 (fun e => e))
      have HY1 := Lib.hid (HYA.out.new m15)
      have HT1 := Lib.hid (HT.out.new m15)
      have HP1 := Lib.hid (HP.out.new m15)
      have HU1 := Lib.hid (HU.out.new m15)
      have HR1 := Lib.hid (HROW.out.new m15)
      clear HA HYA HT HP HU HROW
      have HA := HA1
      have HYA := HY1
      have HT := HT1
      have HP := HP1
      have HU := HU1
      have HROW := HR1
      clear HA1 HY1 HT1 HP1 HU1 HR1
      clear m15
      have q8 := valued_v w15 HP.out HU.out
      go_wp2_with fail
      refine q8.mono ?_
      clear q8
      rintro e w16 ⟨rfl, m16⟩
      go_wp2_with fail
      go_ret
      exact ⟨rfl, HN.out _ _ (HT.out.new m16)⟩

end Go.Proofs.YtahofcopedlenaaGreatDoor
