/- value.Apply: changes, one after another. Conditions: at most 5 changes; values and paths that the walks can carry; the library's tables lie as they should. -/
import Derived.Test.YtahofcopedlenaaGreatDoorChd
import Derived.Test.YtahofcopedlenaaGreatDoorChk2
import Derived.Test.YtahofcopedlenaaGreatDoorClone
import Derived.Test.YtahofcopedlenaaGreatDoorChgRun
namespace Go.Proofs.YtahofcopedlenaaGreatDoor
open Go.RowKit
set_option linter.unusedVariables false
set_option linter.unusedSimpArgs false

/-- changes that stand in a row, their paths within their rows -/
def ChRowC (w : World) (D : Nat) (A : Option Addr) (n : Nat) (xs : List ChD) : Prop := ∃ cs : List CA, Sl w 57 8 CA.enc A n cs ∧ cs.length = xs.length ∧ ∀ i (h : i < cs.length) (h' : i < xs.length), ChT w D cs[i] xs[i] ∧ cs[i].pn ≤ cs[i].pc
theorem ChRowC.row {w : World} {D n : Nat} {A : Option Addr} {xs : List ChD} (h : ChRowC w D A n xs) : ChRow w D A n xs := by
  obtain ⟨cs, h1, h2, h3⟩ := h
  exact ⟨cs, h1, h2, fun i a b => (h3 i a b).1⟩
theorem ChRowC.new {w w' : World} {D n : Nat} {A : Option Addr} {xs : List ChD} (h : ChRowC w D A n xs) (hm : New w w') : ChRowC w' D A n xs := by
  obtain ⟨cs, h1, h2, h3⟩ := h
  exact ⟨cs, h1.new hm, h2, fun i a b => ⟨(h3 i a b).1.new hm, (h3 i a b).2⟩⟩
/-- what the loop keeps: the value behind k changes -/
structure AppInv (f : ChD → VT → VT × Int) (w : World) (xb D d m : Nat) (v : VT) (cs : List ChD) (k : Nat) (y : VA) (vk : VT) (wr : World) : Prop where
  box : Blk wr xb 29 y.cells
  res : Blk wr (xb + 1) 29 #[.int .i64 0, .bool false, .int .i64 0, .string ⟨#[]⟩, .slice none 0 0, .slice none 0 0]
  tree : Tree wr (fun g => g < xb ∨ xb + 1 < g) (d + 1 + (D + 1) * k) y vk
  rs : RS (m + k) k (d + 1 + (D + 1) * k) vk
  run : runF f (D + 1) (d + 1) v 0 cs = runF f (D + 1) (d + 1 + (D + 1) * k) vk k (cs.drop k)
  new : New w wr
theorem COk.up {D m m' : Nat} {c : ChD} (h : COk D m c) (hm : m ≤ m') : COk D m' c := ⟨h.ok, h.at_, Wide.mono hm _ _ h.wide, h.low⟩
set_option maxRecDepth 100000 in
set_option maxHeartbeats 2000000 in
theorem apply_v (D d m : Nat) (x : VA) (v : VT) (A : Option Addr) (n c : Nat) (cs : List ChD) (w : World) (ht : Tree w (fun _ => True) (d + 1) x v) (hw : Wide m (d + 1) v) (hl : vW (d + 1) v ≤ 100000000) (hr : ChRowC w (D + 1) A n cs) (hn : n ≤ 5) (hm : m + n ≤ 800) (hd : d + 1 + (D + 1) * n ≤ 800)
    (hf : ∀ c ∈ cs, CFit (D + 1) c) (hc : ∀ c ∈ cs, Deep (D + 1) c.val ∧ Wide m (D + 1) c.val ∧ vW (D + 1) c.val ≤ 90000000) (hU : Utf8T w) :
    Calls Tryz.prog 7 #[x.val, .slice A n c] w (RApp w (applyF (D + 1) (d + 1) v cs)) := by
  have hfit : Fit (d + 1) v := ⟨Nat.le_trans hl (by omega), Wide.mono (by omega) _ _ hw⟩
  have hck := fun W (h : New w W) => check_v (d + 1) x v (fun _ => True) W (ht.new h) hfit (hU.new h)
  have hcc := fun W (h : New w W) => checkChanges_v D A n c cs W (hr.new h).row (by omega) hf (hU.new h)
  obtain ⟨RR, hRR⟩ : ∃ R, R = applyF (D + 1) (d + 1) v cs := ⟨_, rfl⟩
  rw [← hRR]
  have HRR : Hid (RR = if vCheck (d + 1) v ≠ 0 then (0, vCheck (d + 1) v, nilV) else if chgsF (D + 1) cs ≠ 0 then (0, chgsF (D + 1) cs, nilV) else runF progC (D + 1) (d + 1) v 0 cs) := Lib.hid hRR
  have HCK := Lib.hid hck
  have HCC := Lib.hid hcc
  have HT := Lib.hid ht.oldG
  have HWD := Lib.hid hw
  have HLW := Lib.hid hl
  have HC := Lib.hid hc
  have HU := Lib.hid hU
  obtain ⟨ca, hs, hcl, hct⟩ := hr
  have HS := Lib.hid hs
  have HCL := Lib.hid hcl
  have HCT := Lib.hid hct
  have HN := Lib.hid hs.1
  obtain ⟨xk, xf, xn, xw, xla, xln, xlc, xma, xmn, xmc⟩ := x
  clear ht hw hl hf hc hU hRR hck hcc hs hcl hct hfit
  have hx := Blk.new w 29 #[.int .i64 xk, .bool xf, .int .i64 xn, .string xw, .slice xla xln xlc, .slice xma xmn xmc]
  have m1 : New w (w.alloc (.cells #[.int .i64 xk, .bool xf, .int .i64 xn, .string xw, .slice xla xln xlc, .slice xma xmn xmc] 29)) := (Mod.refl _ _).alloc _
  have z1 : (w.alloc (.cells #[.int .i64 xk, .bool xf, .int .i64 xn, .string xw, .slice xla xln xlc, .slice xma xmn xmc] 29)).heap.size = w.heap.size + 1 := by simp
  go_enter Tryz.func7, Tryz.ntmps7
  go_upto_region 1 with (fail)
  generalize w.alloc (.cells #[.int .i64 xk, .bool xf, .int .i64 xn, .string xw, .slice xla xln xlc, .slice xma xmn xmc] 29) = w1 at *
  have hz := Blk.new w1 29 #[.int .i64 0, .bool false, .int .i64 0, .string ⟨#[]⟩, .slice none 0 0, .slice none 0 0]
  have m2 : New w1 (w1.alloc (.cells #[.int .i64 0, .bool false, .int .i64 0, .string ⟨#[]⟩, .slice none 0 0, .slice none 0 0] 29)) := (Mod.refl _ _).alloc _
  generalize w1.alloc (.cells #[.int .i64 0, .bool false, .int .i64 0, .string ⟨#[]⟩, .slice none 0 0, .slice none 0 0] 29) = w2 at *
  rw [z1] at hz
  have HX := Lib.hid (hx.mod m2 (fun e => e))
  have HR := Lib.hid hz
  have HM := Lib.hid (m1.trans m2)
  have z2 : w.heap.size + 1 < w2.heap.size := hz.lt
  clear hx hz m1 m2 z1
  generalize hxb : w.heap.size = xb at *
  have hwb : w.heap.size ≤ xb := by omega
  have q1 := HCK.out w2 HM.out
  have e0 := HX.out.cell 0
  have e1 := HX.out.cell 1
  have e2 := HX.out.cell 2
  have e3 := HX.out.cell 3
  have e4 := HX.out.cell 4
  have e5 := HX.out.cell 5
  have el := HX.out.lt
  have ef := HX.out.frozen
  simp only [List.getElem?_toArray, List.getElem?_cons_zero, List.getElem?_cons_succ] at e0 e1 e2 e3 e4 e5
  go_wp2_with fail
  refine q1.mono ?_
  clear q1
  rintro e w3 ⟨rfl, m3⟩
  clear e0 e1 e2 e3 e4 e5 el ef
  have HX1 := Lib.hid (HX.out.mod m3 (fun e => e))
  have HR1 := Lib.hid (HR.out.mod m3 (fun e => e))
  have HM1 := Lib.hid (HM.out.trans m3)
  clear HX HR HM
  have HX := HX1
  have HR := HR1
  have HM := HM1
  clear HX1 HR1 HM1
  clear m3
  have r0 := HR.out.cell 0
  have r1 := HR.out.cell 1
  have r2 := HR.out.cell 2
  have r3 := HR.out.cell 3
  have r4 := HR.out.cell 4
  have r5 := HR.out.cell 5
  have rl := HR.out.lt
  have rf := HR.out.frozen
  simp only [List.getElem?_toArray, List.getElem?_cons_zero, List.getElem?_cons_succ] at r0 r1 r2 r3 r4 r5
  by_cases h1 : vCheck (d + 1) v = 0
  rotate_left
  · have HEQ : Hid (RR = (0, vCheck (d + 1) v, nilV)) := Lib.hid (by rw [HRR.out, if_pos h1])
    generalize vCheck (d + 1) v = F at *
    have h1b : (F != 0) = true := by simpa using h1
    go_wp2_with fail
    refine bodyPost_ret (v := .tuple #[nilVA.val, .int .i64 0, .int .i64 F]) (by simp [results, Tryz.results7, go_sem, r0, r1, r2, r3, r4, r5, rf]) rfl ⟨nilVA, 0, by rw [HEQ.out] <;> rfl, by rw [HEQ.out]; exact nil_tree _ _ _, by rw [HEQ.out]; exact nil_fit _, by omega, ?_⟩
    repeat (with_reducible (first | exact HM.out | (refine Mod.setCell ?_ (.inr (by first | omega | (dsimp only; omega) | skip)) _)))
  have h1b : (vCheck (d + 1) v != 0) = false := by simpa using h1
  have HV0 := Lib.hid (vCheck_fault h1)
  have HRR2 : Hid (RR = if chgsF (D + 1) cs ≠ 0 then (0, chgsF (D + 1) cs, nilV) else runF progC (D + 1) (d + 1) v 0 cs) := Lib.hid (by rw [HRR.out, if_neg (by simp [h1])])
  generalize vCheck (d + 1) v = F1 at *
  have q2 := HCC.out w3 HM.out
  go_wp2_with fail
  refine q2.mono ?_
  clear q2
  rintro e w4 ⟨rfl, m4⟩
  have HX1 := Lib.hid (HX.out.mod m4 (fun e => e))
  have HR1 := Lib.hid (HR.out.mod m4 (fun e => e))
  have HM1 := Lib.hid (HM.out.trans m4)
  clear HX HR HM
  have HX := HX1
  have HR := HR1
  have HM := HM1
  clear HX1 HR1 HM1
  clear m4 r0 r1 r2 r3 r4 r5 rl rf
  have r0 := HR.out.cell 0
  have r1 := HR.out.cell 1
  have r2 := HR.out.cell 2
  have r3 := HR.out.cell 3
  have r4 := HR.out.cell 4
  have r5 := HR.out.cell 5
  have rl := HR.out.lt
  have rf := HR.out.frozen
  simp only [List.getElem?_toArray, List.getElem?_cons_zero, List.getElem?_cons_succ] at r0 r1 r2 r3 r4 r5
  by_cases h2 : chgsF (D + 1) cs = 0
  rotate_left
  · have HEQ : Hid (RR = (0, chgsF (D + 1) cs, nilV)) := Lib.hid (by rw [HRR2.out, if_pos h2])
    generalize chgsF (D + 1) cs = F at *
    have h2b : (F != 0) = true := by simpa using h2
    go_wp2_with fail
    refine bodyPost_ret (v := .tuple #[nilVA.val, .int .i64 0, .int .i64 F]) (by simp [results, Tryz.results7, go_sem, r0, r1, r2, r3, r4, r5, rf]) rfl ⟨nilVA, 0, by rw [HEQ.out] <;> rfl, by rw [HEQ.out]; exact nil_tree _ _ _, by rw [HEQ.out]; exact nil_fit _, by omega, ?_⟩
    repeat (with_reducible (first | exact HM.out | (refine Mod.setCell ?_ (.inr (by first | omega | (dsimp only; omega) | skip)) _)))
  have h2b : (chgsF (D + 1) cs != 0) = false := by simpa using h2
  have HEQ : Hid (RR = runF progC (D + 1) (d + 1) v 0 cs) := Lib.hid (by rw [HRR2.out, if_neg (by simp [h2])])
  have HOK := Lib.hid (chgs_ok h2 HC.out)
  generalize chgsF (D + 1) cs = F2 at *
  clear h1 h2 r0 r1 r2 r3 r4 r5 rl rf h1b HCK HCC HRR HRR2
  have HTI : Hid (AppInv progC w xb D d m v cs 0 ⟨xk, xf, xn, xw, xla, xln, xlc, xma, xmn, xmc⟩ v w4) := Lib.hid ⟨HX.out, HR.out, Tree.imp (fun g hg _ => .inl hg.2) _ _ _ (HT.out.new HM.out), ⟨HT.out.deep, HWD.out, HV0.out, by have := HLW.out; omega⟩, rfl, HM.out⟩
  clear HX HR HM HT HWD HV0 HLW
  go_wp2_with fail
  go_loopw [27] (fun i wr => ∃ (k : Nat) (y : VA) (vk : VT), k ≤ n ∧ i = .int .i64 k ∧ Hid (AppInv progC w xb D d m v cs k y vk wr)) (fun i _ => n - (intOf i).toNat)
  case atStart => exact ⟨0, _, _, Nat.zero_le _, rfl, HTI⟩
  clear HTI
  case round =>
    rename World => wr
    obtain ⟨k, y, vk, hk, rfl, HI⟩ := hrel
    obtain ⟨yk, yf, yn, yw, yla, yln, ylc, yma, ymn, ymc⟩ := y
    have HX : Hid (Blk wr xb 29 #[.int .i64 yk, .bool yf, .int .i64 yn, .string yw, .slice yla yln ylc, .slice yma ymn ymc]) := Lib.hid HI.out.box
    have HR := Lib.hid HI.out.res
    have HM := Lib.hid HI.out.new
    obtain ⟨dk, hdk⟩ : ∃ dk, d + (D + 1) * k = dk := ⟨_, rfl⟩
    have hdk1 : d + 1 + (D + 1) * k = dk + 1 := by omega
    have hdn : (D + 1) * k ≤ (D + 1) * n := Nat.mul_le_mul_left _ hk
    have HTY : Hid (Tree wr (fun g => g < xb ∨ xb + 1 < g) (dk + 1) ⟨yk, yf, yn, yw, yla, yln, ylc, yma, ymn, ymc⟩ vk) := Lib.hid (by rw [← hdk1]; exact HI.out.tree)
    have HRS : Hid (RS (m + k) k (dk + 1) vk) := Lib.hid (by rw [← hdk1]; exact HI.out.rs)
    have HRUN : Hid (RR = runF progC (D + 1) (dk + 1) vk k (cs.drop k)) := Lib.hid (by rw [HEQ.out, ← hdk1]; exact HI.out.run)
    clear HI
    by_cases hlt : k < n
    · have hkc : k < ca.length := by have := HN.out; omega
      have hkx : k < cs.length := by have := HCL.out; omega
      obtain ⟨g, o, hA, htb, hc0⟩ := (HS.out.new HM.out).2 (by omega)
      subst hA
      have hgl := htb.lt
      have hc := fun j h => hc0 k hkc j h
      clear hc0 htb
      have hct := HCT.out k hkc hkx
      have HKD := Lib.hid hct.1.kind
      have HPA := Lib.hid hct.1.path
      have HTC := Lib.hid hct.1.tree.oldG
      have hpc := hct.2
      have HOKC := Lib.hid ((HOK.out _ (List.getElem_mem hkx)).up (show m ≤ m + k by omega))
      have HDROP := Lib.hid (List.drop_eq_getElem_cons hkx)
      clear hct
      generalize cs[k] = xc at *
      generalize ca[k] = cc at *
      obtain ⟨ck, pa, pn, pc, tk, tf, tn, tw, tla, tln, tlc, tma, tmn, tmc⟩ := cc
      have b0 := hc 0 (by omega)
      have b1 := hc 1 (by omega)
      have b2 := hc 2 (by omega)
      have b3 := hc 3 (by omega)
      have b4 := hc 4 (by omega)
      have b5 := hc 5 (by omega)
      have b6 := hc 6 (by omega)
      have b7 := hc 7 (by omega)
      simp only [CA.enc, VA.enc, Nat.add_zero] at b0 b1 b2 b3 b4 b5 b6 b7
      clear hc
      simp only at HKD HPA HTC hpc
      obtain ⟨kk, hkk⟩ : ∃ q, xc.kind = q := ⟨_, rfl⟩
      have hck : ck = kk := by rw [← hkk]; exact HKD.out
      subst hck
      have HKK := Lib.hid hkk
      clear HKD hkk
      have hb1 : (0 : Int) ≤ k := by omega
      have hb2 : (k : Int) < n := by omega
      have m5 : New wr (wr.alloc (.cells #[.int .i64 ck, .slice pa pn pc, .int .i64 tk, .bool tf, .int .i64 tn, .string tw, .slice tla tln tlc, .slice tma tmn tmc] 57)) := (Mod.refl _ _).alloc _
      have hx5 := Blk.new wr 57 #[.int .i64 ck, .slice pa pn pc, .int .i64 tk, .bool tf, .int .i64 tn, .string tw, .slice tla tln tlc, .slice tma tmn tmc]
      go_upto_region 10 with (fail)
      generalize wr.alloc (.cells #[.int .i64 ck, .slice pa pn pc, .int .i64 tk, .bool tf, .int .i64 tn, .string tw, .slice tla tln tlc, .slice tma tmn tmc] 57) = w5 at *
      clear b0 b1 b2 b3 b4 b5 b6 b7 hgl
      have hsz := HR.out.lt
      generalize wr.heap.size = cb at *
      have HTY5 := Lib.hid (HTY.out.new m5)
      have HTC5 : Hid (Tree w5 (fun g => g < xb ∨ xb + 1 < g) (D + 1) ⟨tk, tf, tn, tw, tla, tln, tlc, tma, tmn, tmc⟩ xc.val) := Lib.hid (Tree.imp (fun g hg _ => .inl (by have := hg.2; omega)) _ _ _ (HTC.out.new (HM.out.trans m5)))
      have HPA5 := Lib.hid (HPA.out.new (HM.out.trans m5))
      have HX1 := Lib.hid (HX.out.mod m5 (fun e => e))
      have HR1 := Lib.hid (HR.out.mod m5 (fun e => e))
      have HM1 := Lib.hid (HM.out.trans m5)
      clear HX HR HM
      have HX := HX1
      have HR := HR1
      have HM := HM1
      clear HX1 HR1 HM1
      clear m5
      have hpl := HPA.out.1
      have hp5 := HOKC.out.ok.2.2.2.2.1
      have HRN := Lib.hid (RS.prog HRS.out HOKC.out)
      have hsz5 : xb + 1 < w5.heap.size := HR.out.lt
      have hch := changed_v (D + 1) ⟨ck, pa, pn, pc, ⟨tk, tf, tn, tw, tla, tln, tlc, tma, tmn, tmc⟩⟩ xc.val xc.path HOKC.out.at_ (fun g => g < xb ∨ xb + 1 < g) (dk + 1) ⟨yk, yf, yn, yw, yla, yln, ylc, yma, ymn, ymc⟩ vk pa pn pc w5 HTY5.out HRS.out.good (Wide.mono (by omega) _ _ HRS.out.wide) HTC5.out HPA5.out hpc (by omega)
      have HPR : Hid (chg ck xc.val xc.path vk = progC xc vk) := Lib.hid (by rw [← HKK.out]; rfl)
      simp only [HPR.out] at hch
      generalize hr : progC xc vk = r at *
      obtain ⟨rv, re⟩ := r
      have HPC := Lib.hid hr
      clear hr HPR
      simp only at HRN
      have b0 := hx5.cell 0
      have b1 := hx5.cell 1
      have b2 := hx5.cell 2
      have b3 := hx5.cell 3
      have b4 := hx5.cell 4
      have b5 := hx5.cell 5
      have b6 := hx5.cell 6
      have b7 := hx5.cell 7
      have bl := hx5.lt
      simp only [List.getElem?_toArray, List.getElem?_cons_zero, List.getElem?_cons_succ] at b0 b1 b2 b3 b4 b5 b6 b7
      have e0 := HX.out.cell 0
      have e1 := HX.out.cell 1
      have e2 := HX.out.cell 2
      have e3 := HX.out.cell 3
      have e4 := HX.out.cell 4
      have e5 := HX.out.cell 5
      have el := HX.out.lt
      have ef := HX.out.frozen
      simp only [List.getElem?_toArray, List.getElem?_cons_zero, List.getElem?_cons_succ] at e0 e1 e2 e3 e4 e5
      clear hx5
      go_wp2_with fail
      refine hch.mono ?_
      clear hch
      rintro e w6 ⟨⟨zk, zf, zn, zw, zla, zln, zlc, zma, zmn, zmc⟩, rfl, htz, m6⟩
      have hx7 := Blk.new w6 29 #[.int .i64 zk, .bool zf, .int .i64 zn, .string zw, .slice zla zln zlc, .slice zma zmn zmc]
      have m7 : New w6 (w6.alloc (.cells #[.int .i64 zk, .bool zf, .int .i64 zn, .string zw, .slice zla zln zlc, .slice zma zmn zmc] 29)) := (Mod.refl _ _).alloc _
      have HTZ0 : Hid (Tree w6 (fun g => g < xb ∨ xb + 1 < g) (dk + 1 + (D + 1)) ⟨zk, zf, zn, zw, zla, zln, zlc, zma, zmn, zmc⟩ rv) := Lib.hid (Tree.imp (fun g hg _ => by rcases hg with h | h; exact h; exact .inr (by omega)) _ _ _ htz)
      have hsz6 : xb + 1 < w6.heap.size := Nat.lt_of_lt_of_le hsz5 m6.size
      clear htz
      clear e0 e1 e2 e3 e4 e5 el ef
      clear b0 b1 b2 b3 b4 b5 b6 b7 bl
      go_upto_region 11 with (fail)
      generalize w6.alloc (.cells #[.int .i64 zk, .bool zf, .int .i64 zn, .string zw, .slice zla zln zlc, .slice zma zmn zmc] 29) = w7 at *
      generalize w6.heap.size = yb at *
      have HTZ := Lib.hid (HTZ0.out.new m7)
      have HYB := Lib.hid hx7
      have HX1 := Lib.hid (HX.out.mod (m6.trans m7) (fun e => e))
      have HR1 := Lib.hid (HR.out.mod (m6.trans m7) (fun e => e))
      have HM1 := Lib.hid (HM.out.trans (m6.trans m7))
      clear HX HR HM
      have HX := HX1
      have HR := HR1
      have HM := HM1
      clear HX1 HR1 HM1
      clear m6 m7 hx7 HTZ0
      by_cases he : re = 0
      · have hfz := HRN.out.fit (by omega) (by omega)
        have q3 := check_v (dk + 1 + (D + 1)) ⟨zk, zf, zn, zw, zla, zln, zlc, zma, zmn, zmc⟩ rv _ w7 HTZ.out hfz (HU.out.new HM.out)
        subst he
        have d0 := HYB.out.cell 0
        have d1 := HYB.out.cell 1
        have d2 := HYB.out.cell 2
        have d3 := HYB.out.cell 3
        have d4 := HYB.out.cell 4
        have d5 := HYB.out.cell 5
        have dl := HYB.out.lt
        simp only [List.getElem?_toArray, List.getElem?_cons_zero, List.getElem?_cons_succ] at d0 d1 d2 d3 d4 d5
        go_wp2_with fail
        refine q3.mono ?_
        clear q3 hfz
        rintro e w8 ⟨rfl, m8⟩
        clear d0 d1 d2 d3 d4 d5 dl
        have HY8 := Lib.hid (HYB.out.mod m8 (fun e => e))
        have HT8 := Lib.hid (HTZ.out.new m8)
        have HX1 := Lib.hid (HX.out.mod m8 (fun e => e))
        have HR1 := Lib.hid (HR.out.mod m8 (fun e => e))
        have HM1 := Lib.hid (HM.out.trans m8)
        clear HX HR HM
        have HX := HX1
        have HR := HR1
        have HM := HM1
        clear HX1 HR1 HM1
        clear HYB HTZ m8
        have HYB := HY8
        have HTZ := HT8
        by_cases hv : vCheck (dk + 1 + (D + 1)) rv = 0
        · have hvb : (vCheck (dk + 1 + (D + 1)) rv != 0) = false := by simpa using hv
          have HRSN := Lib.hid (HRN.out.rs hv)
          have HRUNN : Hid (RR = runF progC (D + 1) (dk + 1 + (D + 1)) rv (k + 1) (cs.drop (k + 1))) := Lib.hid (by
            rw [HRUN.out, HDROP.out, runF_step (by rw [HPC.out]; unfold orF; rw [if_neg (by simp)]; exact hv), HPC.out])
          generalize vCheck (dk + 1 + (D + 1)) rv = FV at *
          clear hv
          have hbx := HX.out
          have HX9 := Lib.hid (Blk.copy6 HX.out (.int .i64 zk) (.bool zf) (.int .i64 zn) (.string zw) (.slice zla zln zlc) (.slice zma zmn zmc))
          have o9 := Only.cell6 w8 xb (.int .i64 zk) (.bool zf) (.int .i64 zn) (.string zw) (.slice zla zln zlc) (.slice zma zmn zmc)
          have HR9 := Lib.hid (HR.out.mod o9 (by omega))
          have HTZ9 := Lib.hid (Tree.mod o9 (fun g hg _ e => by omega) _ _ _ HTZ.out)
          have HM9 := Lib.hid (HM.out.step o9 (fun i hi e => by omega))
          clear hbx o9
          have e0 := HX.out.cell 0
          have e1 := HX.out.cell 1
          have e2 := HX.out.cell 2
          have e3 := HX.out.cell 3
          have e4 := HX.out.cell 4
          have e5 := HX.out.cell 5
          have el := HX.out.lt
          have ef := HX.out.frozen
          simp only [List.getElem?_toArray, List.getElem?_cons_zero, List.getElem?_cons_succ] at e0 e1 e2 e3 e4 e5
          have d0 := HYB.out.cell 0
          have d1 := HYB.out.cell 1
          have d2 := HYB.out.cell 2
          have d3 := HYB.out.cell 3
          have d4 := HYB.out.cell 4
          have d5 := HYB.out.cell 5
          have dl := HYB.out.lt
          simp only [List.getElem?_toArray, List.getElem?_cons_zero, List.getElem?_cons_succ] at d0 d1 d2 d3 d4 d5
          go_wp2_with fail
          go_roundw
          case rel =>
            have ek : d + 1 + (D + 1) * (k + 1) = dk + 1 + (D + 1) := by rw [Nat.mul_succ]; omega
            refine ⟨k + 1, ⟨zk, zf, zn, zw, zla, zln, zlc, zma, zmn, zmc⟩, rv, by omega, by go_num, Lib.hid ⟨HX9.out, HR9.out, ?_, ?_, ?_, HM9.out⟩⟩
            · rw [ek]; exact HTZ9.out
            · rw [ek]; exact HRSN.out
            · rw [ek, ← HRUNN.out]; exact HEQ.out.symm
          case measure => simp [intOf]; omega
        · have HST : Hid (RR = (k, vCheck (dk + 1 + (D + 1)) rv, nilV)) := Lib.hid (by
            rw [HRUN.out, HDROP.out]
            exact runF_stop (by rw [HPC.out]; unfold orF; rw [if_neg (by simp)]) hv)
          generalize vCheck (dk + 1 + (D + 1)) rv = FV at *
          have hvb : (FV != 0) = true := by simpa using hv
          clear hv
          have r0 := HR.out.cell 0
          have r1 := HR.out.cell 1
          have r2 := HR.out.cell 2
          have r3 := HR.out.cell 3
          have r4 := HR.out.cell 4
          have r5 := HR.out.cell 5
          have rl := HR.out.lt
          have rf := HR.out.frozen
          simp only [List.getElem?_toArray, List.getElem?_cons_zero, List.getElem?_cons_succ] at r0 r1 r2 r3 r4 r5
          go_wp2_with fail
          refine bodyPost_ret (v := .tuple #[nilVA.val, .int .i64 k, .int .i64 FV]) (by simp [results, Tryz.results7, go_sem, r0, r1, r2, r3, r4, r5, rf]) rfl ⟨nilVA, 0, by rw [HST.out] <;> rfl, by rw [HST.out]; exact nil_tree _ _ _, by rw [HST.out]; exact nil_fit _, by omega, ?_⟩
          repeat (with_reducible (first | exact HM.out | (refine Mod.setCell ?_ (.inr (by first | omega | (dsimp only; omega) | skip)) _)))
      · have HST : Hid (RR = (k, re, nilV)) := Lib.hid (by
          rw [HRUN.out, HDROP.out]
          exact runF_stop (by rw [HPC.out]; unfold orF; rw [if_pos he]) he)
        have heb : (re == 0) = false := by simpa using he
        have hec : (re != 0) = true := by simpa using he
        clear he
        have r0 := HR.out.cell 0
        have r1 := HR.out.cell 1
        have r2 := HR.out.cell 2
        have r3 := HR.out.cell 3
        have r4 := HR.out.cell 4
        have r5 := HR.out.cell 5
        have rl := HR.out.lt
        have rf := HR.out.frozen
        simp only [List.getElem?_toArray, List.getElem?_cons_zero, List.getElem?_cons_succ] at r0 r1 r2 r3 r4 r5
        go_wp2_with fail
        refine bodyPost_ret (v := .tuple #[nilVA.val, .int .i64 k, .int .i64 re]) (by simp [results, Tryz.results7, go_sem, r0, r1, r2, r3, r4, r5, rf]) rfl ⟨nilVA, 0, by rw [HST.out] <;> rfl, by rw [HST.out]; exact nil_tree _ _ _, by rw [HST.out]; exact nil_fit _, by omega, ?_⟩
        repeat (with_reducible (first | exact HM.out | (refine Mod.setCell ?_ (.inr (by first | omega | (dsimp only; omega) | skip)) _)))
    · obtain rfl : n = k := by omega
      have HEND : Hid (RR = (0, 0, vk)) := Lib.hid (by rw [HRUN.out, List.drop_of_length_le (by have := HN.out; have := HCL.out; omega)]; rfl)
      have hfit := HRS.out.rn.fit (by omega) (by omega)
      have hcl := clone_v (dk + 1) ⟨yk, yf, yn, yw, yla, yln, ylc, yma, ymn, ymc⟩ vk wr HTY.out.any hfit.2
      have HFIT := Lib.hid hfit
      have e0 := HX.out.cell 0
      have e1 := HX.out.cell 1
      have e2 := HX.out.cell 2
      have e3 := HX.out.cell 3
      have e4 := HX.out.cell 4
      have e5 := HX.out.cell 5
      have el := HX.out.lt
      have ef := HX.out.frozen
      simp only [List.getElem?_toArray, List.getElem?_cons_zero, List.getElem?_cons_succ] at e0 e1 e2 e3 e4 e5
      go_wp2_with fail
      refine hcl.mono ?_
      clear hcl hfit
      rintro e w5 ⟨⟨zk, zf, zn, zw, zla, zln, zlc, zma, zmn, zmc⟩, rfl, htz, m5⟩
      have HTZ := Lib.hid htz
      have hsz := HR.out.lt
      clear e0 e1 e2 e3 e4 e5 el ef
      have HX1 := Lib.hid (HX.out.mod m5 (fun e => e))
      have HR1 := Lib.hid (HR.out.mod m5 (fun e => e))
      have HM1 := Lib.hid (HM.out.trans m5)
      clear HX HR HM
      have HX := HX1
      have HR := HR1
      have HM := HM1
      clear HX1 HR1 HM1
      clear m5 htz
      have r0 := HR.out.cell 0
      have r1 := HR.out.cell 1
      have r2 := HR.out.cell 2
      have r3 := HR.out.cell 3
      have r4 := HR.out.cell 4
      have r5 := HR.out.cell 5
      have rl := HR.out.lt
      have rf := HR.out.frozen
      simp only [List.getElem?_toArray, List.getElem?_cons_zero, List.getElem?_cons_succ] at r0 r1 r2 r3 r4 r5
      go_wp2_with fail
      refine bodyPost_ret (v := .tuple #[VA.val ⟨zk, zf, zn, zw, zla, zln, zlc, zma, zmn, zmc⟩, .int .i64 0, .int .i64 0]) (by simp [results, Tryz.results7, go_sem, r0, r1, r2, r3, r4, r5, rf]) rfl ⟨⟨zk, zf, zn, zw, zla, zln, zlc, zma, zmn, zmc⟩, dk, by rw [HEND.out]; rfl, by
        rw [HEND.out]
        refine Tree.any (Tree.mod (S := fun k => k = xb + 1) (G := fun g => wr.heap.size ≤ g) ?_ (fun g hg _ q => by omega) _ _ _ HTZ.out)
        repeat (with_reducible (first | exact Mod.refl _ _ | (refine Mod.setCell ?_ (.inl (by first | rfl | omega | (dsimp only; omega) | skip)) _)))
        , by rw [HEND.out]; exact HFIT.out, by omega, ?_⟩
      repeat (with_reducible (first | exact HM.out | (refine Mod.setCell ?_ (.inr (by first | omega | (dsimp only; omega) | skip)) _)))

end Go.Proofs.YtahofcopedlenaaGreatDoor
