/- The reference: one change at a path, changed. Conditions: a value that is right, rows of at most 11; a path that is right; a change of one of the three kinds. -/
import Derived.Test.YtahofcopedlenaaGreatDoorRWith
import Derived.Test.YtahofcopedlenaaGreatDoorInsV
import Derived.Test.YtahofcopedlenaaGreatDoorDelV
namespace Go.Proofs.YtahofcopedlenaaGreatDoor
open Go.RowKit
set_option linter.unusedVariables false
set_option linter.unusedSimpArgs false

set_option maxRecDepth 100000 in
set_option maxHeartbeats 1000000 in
theorem rlast_named (G : Nat → Prop) (D : Nat) (x : VA) (v : VT) (c : CA) (u : VT) (sn : ByteArray) (k : Nat) (A : Option Addr) (pc : Nat) (w : World) (ht : Tree w G (D + 1) x v) (hu : Tree w G D c.v u) (hsrt : Srt v.mem) (hw : Wide 11 (D + 1) v)
    (hs : Sl w 60 3 St.enc A 1 [⟨true, sn, (k : Int)⟩]) (hk5 : k ≤ 5000) (hk : 1 ≤ c.kind ∧ c.kind ≤ 3) (h2k : c.kind ≠ 2) :
    Calls Tryz.prog 38 #[x.val, .slice A 1 pc, c.val] w (RChg G (D + 1) w (lastR c.kind u ⟨true, sn, (k : Int)⟩ v)) := by
  replace ht := ht.oldG
  replace hu := hu.oldG
  obtain ⟨xs, ms, h1, h2, h3, h4⟩ := ht.als
  obtain ⟨f1, -, -, -, f5, f6⟩ := ht.fields
  have hlm := hw.1
  have hmm := hw.2.1
  have hxl := h2.len
  have hml := h4.len
  have HT := Lib.hid ht
  have HU := Lib.hid hu
  have HL2 := Lib.hid h2
  have HL4 := Lib.hid h4
  have HS := Lib.hid hs
  have HWD := Lib.hid hw
  have HSR := Lib.hid hsrt
  have HCLV := Lib.hid (fun W (h : New w W) => cloneVA xs x.la x.ln x.lc W (h1.sl.new h) (by omega))
  have HCLM := Lib.hid (fun W (h : New w W) => cloneMA ms x.ma x.mn x.mc W (h3.sl.new h) (by omega))
  obtain ⟨R, hR⟩ : ∃ R, R = lastR c.kind u ⟨true, sn, (k : Int)⟩ v := ⟨_, rfl⟩
  rw [← hR]
  have HRR := Lib.hid hR
  obtain ⟨xk, xf, xn, xw, xla, xln, xlc, xma, xmn, xmc⟩ := x
  obtain ⟨ck, ca, cn, cc, cv⟩ := c
  obtain ⟨yk, yf, yn, yw, yla, yln, ylc, yma, ymn, ymc⟩ := cv
  simp only at f1 f5 f6 HCLV HCLM HRR hk h2k HU
  have HVK : Hid (v.kind = xk) := Lib.hid f1
  have hln : xln ≤ 11 := by omega
  have hmn : xmn ≤ 11 := by omega
  have HXL : Hid (xs.length = xln) := Lib.hid (by omega)
  have HML : Hid (ms.length = xmn) := Lib.hid (by omega)
  have HVL : Hid (v.list.length = xln) := Lib.hid (by omega)
  clear ht hu h1 h2 h3 h4 hw hs hsrt f1 f5 f6 hlm hmm hxl hml hR
  go_enter Tryz.func38, Tryz.ntmps38
  have hx := Blk.new w 29 #[.int .i64 xk, .bool xf, .int .i64 xn, .string xw, .slice xla xln xlc, .slice xma xmn xmc]
  have m1 : New w (w.alloc (.cells #[.int .i64 xk, .bool xf, .int .i64 xn, .string xw, .slice xla xln xlc, .slice xma xmn xmc] 29)) := (Mod.refl _ _).alloc _
  have z1 : (w.alloc (.cells #[.int .i64 xk, .bool xf, .int .i64 xn, .string xw, .slice xla xln xlc, .slice xma xmn xmc] 29)).heap.size = w.heap.size + 1 := by simp
  go_upto_region 1 with (fail)
  generalize w.alloc (.cells #[.int .i64 xk, .bool xf, .int .i64 xn, .string xw, .slice xla xln xlc, .slice xma xmn xmc] 29) = w1 at *
  have hy := Blk.new w1 57 #[.int .i64 ck, .slice ca cn cc, .int .i64 yk, .bool yf, .int .i64 yn, .string yw, .slice yla yln ylc, .slice yma ymn ymc]
  have m2 : New w1 (w1.alloc (.cells #[.int .i64 ck, .slice ca cn cc, .int .i64 yk, .bool yf, .int .i64 yn, .string yw, .slice yla yln ylc, .slice yma ymn ymc] 57)) := (Mod.refl _ _).alloc _
  have z2 : (w1.alloc (.cells #[.int .i64 ck, .slice ca cn cc, .int .i64 yk, .bool yf, .int .i64 yn, .string yw, .slice yla yln ylc, .slice yma ymn ymc] 57)).heap.size = w1.heap.size + 1 := by simp
  generalize w1.alloc (.cells #[.int .i64 ck, .slice ca cn cc, .int .i64 yk, .bool yf, .int .i64 yn, .string yw, .slice yla yln ylc, .slice yma ymn ymc] 57) = w2 at *
  have hz := Blk.new w2 29 #[.int .i64 0, .bool false, .int .i64 0, .string ⟨#[]⟩, .slice none 0 0, .slice none 0 0]
  have m3 : New w2 (w2.alloc (.cells #[.int .i64 0, .bool false, .int .i64 0, .string ⟨#[]⟩, .slice none 0 0, .slice none 0 0] 29)) := (Mod.refl _ _).alloc _
  generalize w2.alloc (.cells #[.int .i64 0, .bool false, .int .i64 0, .string ⟨#[]⟩, .slice none 0 0, .slice none 0 0] 29) = w3 at *
  rw [z1] at hy z2
  rw [z2] at hz
  have HX := Lib.hid ((hx.mod m2 (fun e => e)).mod m3 (fun e => e))
  have HC := Lib.hid (hy.mod m3 (fun e => e))
  have HR := Lib.hid hz
  have HM := Lib.hid ((m1.trans m2).trans m3)
  clear hx hy hz m1 m2 m3 z1 z2
  generalize hxb : w.heap.size = xb at *
  have hwb : w.heap.size ≤ xb := by omega
  obtain ⟨g, o, hA, htb, hc0⟩ := (HS.out.new HM.out).2 (by omega)
  have hc := fun j (hj : j < 3) => hc0 0 (by simp) j hj
  have hgl := htb.lt
  simp only [List.getElem_cons_zero, Nat.zero_mul, Nat.add_zero] at hc
  have HSO : Hid (Sl w3 60 3 St.enc (some ⟨g, o, none⟩) 1 [⟨true, sn, (k : Int)⟩]) := Lib.hid (by rw [← hA]; exact HS.out.new HM.out)
  subst hA
  have s0 := hc 0 (by omega)
  have s1 := hc 1 (by omega)
  have s2 := hc 2 (by omega)
  simp only [Nat.add_zero] at s0
  simp only [St.enc] at s0 s1 s2
  clear hc hc0 htb
  have hb2 : (0 : Int) < 1 := by omega
  have hsb := Blk.new w3 60 #[.bool true, .string sn, .int .i64 k]
  have m4 : New w3 (w3.alloc (.cells #[.bool true, .string sn, .int .i64 k] 60)) := (Mod.refl _ _).alloc _
  have hsz3 : xb + 1 + 1 < w3.heap.size := HR.out.lt
  go_upto_region 4 with (fail)
  clear s0 s1 s2 hgl
  generalize w3.alloc (.cells #[.bool true, .string sn, .int .i64 k] 60) = w4 at *
  have HSB := Lib.hid hsb
  generalize w3.heap.size = sb at *
  have HX1 := Lib.hid (HX.out.mod m4 (fun e => e))
  have HC1 := Lib.hid (HC.out.mod m4 (fun e => e))
  have HR1 := Lib.hid (HR.out.mod m4 (fun e => e))
  have HM1 := Lib.hid (HM.out.trans m4)
  have HSO4 := Lib.hid (HSO.out.new m4)
  clear HX HC HR HM hsb m4 HSO
  have HX := HX1
  have HC := HC1
  have HR := HR1
  have HM := HM1
  clear HX1 HC1 HR1 HM1
  have e0 := HX.out.cell 0
  have e1 := HX.out.cell 1
  have e2 := HX.out.cell 2
  have e3 := HX.out.cell 3
  have e4 := HX.out.cell 4
  have e5 := HX.out.cell 5
  have el := HX.out.lt
  have ef := HX.out.frozen
  have c0 := HC.out.cell 0
  have c1 := HC.out.cell 1
  have c2 := HC.out.cell 2
  have c3 := HC.out.cell 3
  have c4 := HC.out.cell 4
  have c5 := HC.out.cell 5
  have c6 := HC.out.cell 6
  have c7 := HC.out.cell 7
  have cl := HC.out.lt
  have r0 := HR.out.cell 0
  have r1 := HR.out.cell 1
  have r2 := HR.out.cell 2
  have r3 := HR.out.cell 3
  have r4 := HR.out.cell 4
  have r5 := HR.out.cell 5
  have rl := HR.out.lt
  have rf := HR.out.frozen
  simp only [List.getElem?_toArray, List.getElem?_cons_zero, List.getElem?_cons_succ] at e0 e1 e2 e3 e4 e5 c0 c1 c2 c3 c4 c5 c6 c7 r0 r1 r2 r3 r4 r5
  have t0 := HSB.out.cell 0
  have t1 := HSB.out.cell 1
  have t2 := HSB.out.cell 2
  have tl := HSB.out.lt
  simp only [List.getElem?_toArray, List.getElem?_cons_zero, List.getElem?_cons_succ] at t0 t1 t2
  by_cases h5 : xk = 5
  rotate_left
  · have HEQ : Hid (R = (v, 10)) := Lib.hid (by rw [HRR.out]; unfold lastR; rw [if_pos (.inl ⟨rfl, by rw [HVK.out]; exact h5⟩)])
    have h5b : (xk != 5) = true := by simpa using h5
    clear h5
    go_wp2_with fail
    refine bodyPost_ret (v := .tuple #[VA.val ⟨xk, xf, xn, xw, xla, xln, xlc, xma, xmn, xmc⟩, .int .i64 10]) (by simp [results, Tryz.results38, go_sem, e0, e1, e2, e3, e4, e5, ef, r0, r1, r2, r3, r4, r5, rf]) rfl (RChg.of HEQ.out (y := ⟨xk, xf, xn, xw, xla, xln, xlc, xma, xmn, xmc⟩) (Tree.imp (fun g hg _ => hg.1) _ _ _ HT.out) ?_)
    repeat (with_reducible (first | exact HM.out | (refine Mod.setCell ?_ (.inr (by first | omega | (dsimp only; omega) | skip)) _)))
  have h5b : (xk != 5) = false := by simpa using h5
  have HV5 : Hid (v.kind = 5) := Lib.hid (by rw [HVK.out]; exact h5)
  clear h5
  have hget := getAt_v (fun g => G g ∧ g < xb) D ⟨xk, xf, xn, xw, xla, xln, xlc, xma, xmn, xmc⟩ v ⟨true, sn, (k : Int)⟩ (some ⟨g, o, none⟩) pc w4 (HT.out.new HM.out) HSO4.out (Wide.mono (by omega) _ _ HWD.out) ⟨by simp only; omega, by simp only; omega⟩
  go_wp2_with fail
  refine hget.mono ?_
  clear hget
  rintro e w5 (⟨hno, rfl, m5⟩ | ⟨uu, yy, hso, rfl, -, m5⟩)
  · have HNO := Lib.hid hno
    clear hno
    have m6 : New w5 (w5.alloc (.cells #[.int .i64 0, .bool false, .int .i64 0, .string ⟨#[]⟩, .slice none 0 0, .slice none 0 0] 29)) := (Mod.refl _ _).alloc _
    go_upto_region 13 with (fail)
    generalize w5.alloc (.cells #[.int .i64 0, .bool false, .int .i64 0, .string ⟨#[]⟩, .slice none 0 0, .slice none 0 0] 29) = wb at *
    have HX1 := Lib.hid (HX.out.mod (m5.trans m6) (fun e => e))
    have HC1 := Lib.hid (HC.out.mod (m5.trans m6) (fun e => e))
    have HR1 := Lib.hid (HR.out.mod (m5.trans m6) (fun e => e))
    have HS1 := Lib.hid (HSB.out.mod (m5.trans m6) (fun e => e))
    have HM1 := Lib.hid (HM.out.trans (m5.trans m6))
    clear e0 e1 e2 e3 e4 e5 el ef c0 c1 c2 c3 c4 c5 c6 c7 cl r0 r1 r2 r3 r4 r5 rl rf
    clear t0 t1 t2 tl
    clear HX HC HR HSB HM
    have HX := HX1
    have HC := HC1
    have HR := HR1
    have HSB := HS1
    have HM := HM1
    clear HX1 HC1 HR1 HS1 HM1
    clear m5 m6
    have e0 := HX.out.cell 0
    have e1 := HX.out.cell 1
    have e2 := HX.out.cell 2
    have e3 := HX.out.cell 3
    have e4 := HX.out.cell 4
    have e5 := HX.out.cell 5
    have el := HX.out.lt
    have ef := HX.out.frozen
    have c0 := HC.out.cell 0
    have c1 := HC.out.cell 1
    have c2 := HC.out.cell 2
    have c3 := HC.out.cell 3
    have c4 := HC.out.cell 4
    have c5 := HC.out.cell 5
    have c6 := HC.out.cell 6
    have c7 := HC.out.cell 7
    have cl := HC.out.lt
    have r0 := HR.out.cell 0
    have r1 := HR.out.cell 1
    have r2 := HR.out.cell 2
    have r3 := HR.out.cell 3
    have r4 := HR.out.cell 4
    have r5 := HR.out.cell 5
    have rl := HR.out.lt
    have rf := HR.out.frozen
    simp only [List.getElem?_toArray, List.getElem?_cons_zero, List.getElem?_cons_succ] at e0 e1 e2 e3 e4 e5 c0 c1 c2 c3 c4 c5 c6 c7 r0 r1 r2 r3 r4 r5
    have t0 := HSB.out.cell 0
    have t1 := HSB.out.cell 1
    have t2 := HSB.out.cell 2
    have tl := HSB.out.lt
    simp only [List.getElem?_toArray, List.getElem?_cons_zero, List.getElem?_cons_succ] at t0 t1 t2
    have hB4 : xb + 1 + 1 < wb.heap.size := rl
    have hsbw : sb < wb.heap.size := tl
    by_cases h3 : ck = 3
    · have HEQ : Hid (R = (v, 8)) := Lib.hid (by rw [HRR.out, lastR5 rfl HV5.out, if_pos ⟨h3, HNO.out⟩])
      have h3b : (ck == 3) = true := by simpa using h3
      clear h3
      go_wp2_with fail
      refine bodyPost_ret (v := .tuple #[VA.val ⟨xk, xf, xn, xw, xla, xln, xlc, xma, xmn, xmc⟩, .int .i64 8]) (by simp [results, Tryz.results38, go_sem, e0, e1, e2, e3, e4, e5, ef, r0, r1, r2, r3, r4, r5, rf]) rfl (RChg.of HEQ.out (y := ⟨xk, xf, xn, xw, xla, xln, xlc, xma, xmn, xmc⟩) (Tree.imp (fun g hg _ => hg.1) _ _ _ HT.out) ?_)
      repeat (with_reducible (first | exact HM.out | (refine Mod.setCell ?_ (.inr (by first | omega | (dsimp only; omega) | skip)) _)))
    · have h3b : (ck == 3) = false := by simpa using h3
      have h2b : (ck == 2) = false := by simpa using h2k
      have HEQ : Hid (R = (withR v ⟨true, sn, (k : Int)⟩ u, 0)) := Lib.hid (by rw [HRR.out, lastR5 rfl HV5.out, if_neg (fun e => h3 e.1), if_neg h3, if_neg h2k])
      clear h3 h2k
      have hwith := with_v (fun g => G g ∧ g < xb) D ⟨xk, xf, xn, xw, xla, xln, xlc, xma, xmn, xmc⟩ ⟨yk, yf, yn, yw, yla, yln, ylc, yma, ymn, ymc⟩ v u ⟨true, sn, (k : Int)⟩ wb (HT.out.new HM.out) (HU.out.new HM.out) HSR.out HWD.out.2.1 (by have := HWD.out.1; omega) (by simp only; omega) (fun e => by simp at e)
      go_wp2_with fail
      refine hwith.mono ?_
      clear hwith
      rintro e w7 ⟨⟨zk, zf, zn, zw, zla, zln, zlc, zma, zmn, zmc⟩, rfl, htz, m7⟩
      have HTZ := Lib.hid htz
      have HX1 := Lib.hid (HX.out.mod m7 (fun e => e))
      have HC1 := Lib.hid (HC.out.mod m7 (fun e => e))
      have HR1 := Lib.hid (HR.out.mod m7 (fun e => e))
      have HS1 := Lib.hid (HSB.out.mod m7 (fun e => e))
      have HM1 := Lib.hid (HM.out.trans m7)
      clear e0 e1 e2 e3 e4 e5 el ef c0 c1 c2 c3 c4 c5 c6 c7 cl r0 r1 r2 r3 r4 r5 rl rf
      clear t0 t1 t2 tl
      clear HX HC HR HSB HM
      have HX := HX1
      have HC := HC1
      have HR := HR1
      have HSB := HS1
      have HM := HM1
      clear HX1 HC1 HR1 HS1 HM1
      have e0 := HX.out.cell 0
      have e1 := HX.out.cell 1
      have e2 := HX.out.cell 2
      have e3 := HX.out.cell 3
      have e4 := HX.out.cell 4
      have e5 := HX.out.cell 5
      have el := HX.out.lt
      have ef := HX.out.frozen
      have c0 := HC.out.cell 0
      have c1 := HC.out.cell 1
      have c2 := HC.out.cell 2
      have c3 := HC.out.cell 3
      have c4 := HC.out.cell 4
      have c5 := HC.out.cell 5
      have c6 := HC.out.cell 6
      have c7 := HC.out.cell 7
      have cl := HC.out.lt
      have r0 := HR.out.cell 0
      have r1 := HR.out.cell 1
      have r2 := HR.out.cell 2
      have r3 := HR.out.cell 3
      have r4 := HR.out.cell 4
      have r5 := HR.out.cell 5
      have rl := HR.out.lt
      have rf := HR.out.frozen
      simp only [List.getElem?_toArray, List.getElem?_cons_zero, List.getElem?_cons_succ] at e0 e1 e2 e3 e4 e5 c0 c1 c2 c3 c4 c5 c6 c7 r0 r1 r2 r3 r4 r5
      have t0 := HSB.out.cell 0
      have t1 := HSB.out.cell 1
      have t2 := HSB.out.cell 2
      have tl := HSB.out.lt
      simp only [List.getElem?_toArray, List.getElem?_cons_zero, List.getElem?_cons_succ] at t0 t1 t2
      clear htz m7
      go_wp2_with fail
      refine bodyPost_ret (v := .tuple #[VA.val ⟨zk, zf, zn, zw, zla, zln, zlc, zma, zmn, zmc⟩, .int .i64 0]) (by simp [results, Tryz.results38, go_sem, e0, e1, e2, e3, e4, e5, ef, r0, r1, r2, r3, r4, r5, rf]) rfl (RChg.to HEQ.out (y := ⟨zk, zf, zn, zw, zla, zln, zlc, zma, zmn, zmc⟩) (Tree.imp (G := fun g => (G g ∧ g < xb) ∨ wb.heap.size ≤ g) (fun g hg _ => by rcases hg with h | h; exact .inl h.1; exact .inr (by omega)) _ _ _ (Tree.mod (S := fun k => k = xb + 1 + 1) ?_ (fun g hg _ q => by rcases hg with h | h <;> omega) _ _ _ HTZ.out)) ?_)
      · repeat (with_reducible (first | exact Mod.refl _ _ | (refine Mod.setCell ?_ (.inl (by first | rfl | omega | (dsimp only; omega) | skip)) _)))
      · repeat (with_reducible (first | exact HM.out | (refine Mod.setCell ?_ (.inr (by first | omega | (dsimp only; omega) | skip)) _)))
  · obtain ⟨y2k, y2f, y2n, y2w, y2la, y2ln, y2lc, y2ma, y2mn, y2mc⟩ := yy
    have HSO2 := Lib.hid hso
    clear hso
    have m6 : New w5 (w5.alloc (.cells #[.int .i64 y2k, .bool y2f, .int .i64 y2n, .string y2w, .slice y2la y2ln y2lc, .slice y2ma y2mn y2mc] 29)) := (Mod.refl _ _).alloc _
    go_upto_region 13 with (fail)
    generalize w5.alloc (.cells #[.int .i64 y2k, .bool y2f, .int .i64 y2n, .string y2w, .slice y2la y2ln y2lc, .slice y2ma y2mn y2mc] 29) = wb at *
    have HX1 := Lib.hid (HX.out.mod (m5.trans m6) (fun e => e))
    have HC1 := Lib.hid (HC.out.mod (m5.trans m6) (fun e => e))
    have HR1 := Lib.hid (HR.out.mod (m5.trans m6) (fun e => e))
    have HS1 := Lib.hid (HSB.out.mod (m5.trans m6) (fun e => e))
    have HM1 := Lib.hid (HM.out.trans (m5.trans m6))
    clear e0 e1 e2 e3 e4 e5 el ef c0 c1 c2 c3 c4 c5 c6 c7 cl r0 r1 r2 r3 r4 r5 rl rf
    clear t0 t1 t2 tl
    clear HX HC HR HSB HM
    have HX := HX1
    have HC := HC1
    have HR := HR1
    have HSB := HS1
    have HM := HM1
    clear HX1 HC1 HR1 HS1 HM1
    clear m5 m6
    have e0 := HX.out.cell 0
    have e1 := HX.out.cell 1
    have e2 := HX.out.cell 2
    have e3 := HX.out.cell 3
    have e4 := HX.out.cell 4
    have e5 := HX.out.cell 5
    have el := HX.out.lt
    have ef := HX.out.frozen
    have c0 := HC.out.cell 0
    have c1 := HC.out.cell 1
    have c2 := HC.out.cell 2
    have c3 := HC.out.cell 3
    have c4 := HC.out.cell 4
    have c5 := HC.out.cell 5
    have c6 := HC.out.cell 6
    have c7 := HC.out.cell 7
    have cl := HC.out.lt
    have r0 := HR.out.cell 0
    have r1 := HR.out.cell 1
    have r2 := HR.out.cell 2
    have r3 := HR.out.cell 3
    have r4 := HR.out.cell 4
    have r5 := HR.out.cell 5
    have rl := HR.out.lt
    have rf := HR.out.frozen
    simp only [List.getElem?_toArray, List.getElem?_cons_zero, List.getElem?_cons_succ] at e0 e1 e2 e3 e4 e5 c0 c1 c2 c3 c4 c5 c6 c7 r0 r1 r2 r3 r4 r5
    have t0 := HSB.out.cell 0
    have t1 := HSB.out.cell 1
    have t2 := HSB.out.cell 2
    have tl := HSB.out.lt
    simp only [List.getElem?_toArray, List.getElem?_cons_zero, List.getElem?_cons_succ] at t0 t1 t2
    have hB4 : xb + 1 + 1 < wb.heap.size := rl
    have hsbw : sb < wb.heap.size := tl
    by_cases h3 : ck = 3
    · have HEQ : Hid (R = (v.setM (v.mem.filter fun p => !decide (p.1 = sn)), 0)) := Lib.hid (by rw [HRR.out, lastR5 rfl HV5.out, if_neg (by rw [HSO2.out]; simp), if_pos h3])
      have h3b : (ck == 3) = true := by simpa using h3
      clear h3
      have HAL : Hid (Al (TM w (fun g => G g ∧ g < xb) D) (ms.filter fun m => !isN sn m) (v.mem.filter fun p => !decide (p.1 = sn))) := Lib.hid (HL4.out.filter (p := fun m => !isN sn m) (q := fun p => !decide (p.1 = sn)) (fun m p h => by simp only [isN, h.1]))
      have HMB := HM
      have hcl := HCLM.out wb HM.out
      go_wp2_with fail
      refine hcl.mono ?_
      clear hcl
      rintro e w6 ⟨A, cA, rfl, own6, m6⟩
      have HMW := Lib.hid m6
      have HX1 := Lib.hid (HX.out.mod m6 (fun e => e))
      have HC1 := Lib.hid (HC.out.mod m6 (fun e => e))
      have HR1 := Lib.hid (HR.out.mod m6 (fun e => e))
      have HS1 := Lib.hid (HSB.out.mod m6 (fun e => e))
      have HM1 := Lib.hid (HM.out.trans m6)
      clear e0 e1 e2 e3 e4 e5 el ef c0 c1 c2 c3 c4 c5 c6 c7 cl r0 r1 r2 r3 r4 r5 rl rf
      clear t0 t1 t2 tl
      clear HX HC HR HSB HM
      have HX := HX1
      have HC := HC1
      have HR := HR1
      have HSB := HS1
      have HM := HM1
      clear HX1 HC1 HR1 HS1 HM1
      clear m6
      have hfar := own6.far'
      have hsb := HSB.out.lt
      have hsbB : sb < wb.heap.size := hsbw
      have hdel := deleteFunc_ma 62 (.pointer (some ⟨sb, 0, none⟩)) enters_changed1 w6 wb.heap.size A xmn cA ms sn own6 (changed1_np w6 A sb true sn k HSB.out (fun e => by have := (hfar _ e).1; omega)) (by omega)
      go_wp2_with fail
      refine hdel.mono ?_
      clear hdel
      rintro e w7 ⟨rfl, own7, m7⟩
      have HX7 := Lib.hid (HX.out.mod m7 (fun e => by have := (hfar _ e).1; omega))
      have HR7 := Lib.hid (HR.out.mod m7 (fun e => by have := (hfar _ e).1; omega))
      have HM7 : Hid (Mod (fun i => i = xb) wb w7) := Lib.hid ((HMW.out.mono (fun _ _ e => e.elim)).step m7 (fun i hi e => by have := (hfar i e).1; omega))
      clear HX HR HC HM m7 own6
      generalize ms.filter (fun m => !isN sn m) = MF at *
      have HXY := Lib.hid (HX7.out.set 5 (.slice A MF.length cA))
      simp only [Array.setIfInBounds, List.size_toArray, List.length_cons, List.length_nil, Nat.reduceAdd, Nat.reduceLT, ↓reduceDIte, List.set_toArray, List.set_cons_zero, List.set_cons_succ] at HXY
      have HOY := Lib.hid (own7.mod (Only.set (Mod.refl (fun i => i = xb) w7) 5 (.slice A MF.length cA)) (fun i e q => by have := (own7.far' i e).1; omega))
      have HRY := Lib.hid (HR7.out.mod (Only.set (Mod.refl (fun i => i = xb) w7) 5 (.slice A MF.length cA)) (by omega))
      have HMY := Lib.hid (HM7.out.trans (Only.set (Mod.refl (fun i => i = xb) w7) 5 (.slice A MF.length cA)))
      have e0 := HX7.out.cell 0
      have e1 := HX7.out.cell 1
      have e2 := HX7.out.cell 2
      have e3 := HX7.out.cell 3
      have e4 := HX7.out.cell 4
      have e5 := HX7.out.cell 5
      have el := HX7.out.lt
      have ef := HX7.out.frozen
      simp only [List.getElem?_toArray, List.getElem?_cons_zero, List.getElem?_cons_succ] at e0 e1 e2 e3 e4 e5
      go_upto_region 18 with (fail)
      clear e0 e1 e2 e3 e4 e5 el ef
      clear own7 HX7 HR7 HM7
      generalize w7.setCell ⟨xb, 5, none⟩ (.slice A MF.length cA) = wy at *
      have HTW : Hid (Tree wy (fun g => G g ∧ g < xb) (D + 1) ⟨xk, xf, xn, xw, xla, xln, xlc, xma, xmn, xmc⟩ v) := Lib.hid (Tree.mod HMY.out (fun g hg _ e => by have := hg.2; omega) _ _ _ (HT.out.new HMB.out))
      have HTYP := Tree.toM' (G := fun g => (G g ∧ g < xb) ∨ wb.heap.size ≤ g) (Tree.imp (fun g hg _ => .inl hg) _ _ _ HTW.out) HOY.out (HAL.out.imp (fun _ _ q => ⟨q.1, Tree.imp (fun g hg _ => .inl hg) _ _ _ (Tree.mod HMY.out (fun g hg _ e => by have := hg.2; omega) _ _ _ (q.2.new HMB.out))⟩)) (fun g h => .inr h)
      have HTY : Hid (Tree wy (fun g => (G g ∧ g < xb) ∨ wb.heap.size ≤ g) (D + 1) ⟨xk, xf, xn, xw, xla, xln, xlc, A, MF.length, cA⟩ (v.setM (v.mem.filter fun p => !decide (p.1 = sn)))) := Lib.hid HTYP
      have HM : Hid (New w wy) := Lib.hid (HMB.out.step HMY.out (fun i hi e => by have := HMB.out.size; omega))
      have HX := HXY
      have HR := HRY
      have e0 := HXY.out.cell 0
      have e1 := HXY.out.cell 1
      have e2 := HXY.out.cell 2
      have e3 := HXY.out.cell 3
      have e4 := HXY.out.cell 4
      have e5 := HXY.out.cell 5
      have el := HXY.out.lt
      have ef := HXY.out.frozen
      simp only [List.getElem?_toArray, List.getElem?_cons_zero, List.getElem?_cons_succ] at e0 e1 e2 e3 e4 e5
      have r0 := HRY.out.cell 0
      have r1 := HRY.out.cell 1
      have r2 := HRY.out.cell 2
      have r3 := HRY.out.cell 3
      have r4 := HRY.out.cell 4
      have r5 := HRY.out.cell 5
      have rl := HRY.out.lt
      have rf := HRY.out.frozen
      simp only [List.getElem?_toArray, List.getElem?_cons_zero, List.getElem?_cons_succ] at r0 r1 r2 r3 r4 r5
      go_wp2_with fail
      refine bodyPost_ret (v := .tuple #[VA.val ⟨xk, xf, xn, xw, xla, xln, xlc, A, MF.length, cA⟩, .int .i64 0]) (by simp [results, Tryz.results38, go_sem, e0, e1, e2, e3, e4, e5, ef, r0, r1, r2, r3, r4, r5, rf]) rfl (RChg.to HEQ.out (y := ⟨xk, xf, xn, xw, xla, xln, xlc, A, MF.length, cA⟩) (Tree.imp (G := fun g => (G g ∧ g < xb) ∨ wb.heap.size ≤ g) (fun g hg _ => by rcases hg with h | h; exact .inl h.1; exact .inr (by omega)) _ _ _ (Tree.mod (S := fun k => k = xb + 1 + 1) ?_ (fun g hg _ q => by rcases hg with h | h <;> omega) _ _ _ HTY.out)) ?_)
      · repeat (with_reducible (first | exact Mod.refl _ _ | (refine Mod.setCell ?_ (.inl (by first | rfl | omega | (dsimp only; omega) | skip)) _)))
      · repeat (with_reducible (first | exact HM.out | (refine Mod.setCell ?_ (.inr (by first | omega | (dsimp only; omega) | skip)) _)))
    · have h3b : (ck == 3) = false := by simpa using h3
      have h2b : (ck == 2) = false := by simpa using h2k
      have HEQ : Hid (R = (withR v ⟨true, sn, (k : Int)⟩ u, 0)) := Lib.hid (by rw [HRR.out, lastR5 rfl HV5.out, if_neg (fun e => h3 e.1), if_neg h3, if_neg h2k])
      clear h3 h2k
      have hwith := with_v (fun g => G g ∧ g < xb) D ⟨xk, xf, xn, xw, xla, xln, xlc, xma, xmn, xmc⟩ ⟨yk, yf, yn, yw, yla, yln, ylc, yma, ymn, ymc⟩ v u ⟨true, sn, (k : Int)⟩ wb (HT.out.new HM.out) (HU.out.new HM.out) HSR.out HWD.out.2.1 (by have := HWD.out.1; omega) (by simp only; omega) (fun e => by simp at e)
      go_wp2_with fail
      refine hwith.mono ?_
      clear hwith
      rintro e w7 ⟨⟨zk, zf, zn, zw, zla, zln, zlc, zma, zmn, zmc⟩, rfl, htz, m7⟩
      have HTZ := Lib.hid htz
      have HX1 := Lib.hid (HX.out.mod m7 (fun e => e))
      have HC1 := Lib.hid (HC.out.mod m7 (fun e => e))
      have HR1 := Lib.hid (HR.out.mod m7 (fun e => e))
      have HS1 := Lib.hid (HSB.out.mod m7 (fun e => e))
      have HM1 := Lib.hid (HM.out.trans m7)
      clear e0 e1 e2 e3 e4 e5 el ef c0 c1 c2 c3 c4 c5 c6 c7 cl r0 r1 r2 r3 r4 r5 rl rf
      clear t0 t1 t2 tl
      clear HX HC HR HSB HM
      have HX := HX1
      have HC := HC1
      have HR := HR1
      have HSB := HS1
      have HM := HM1
      clear HX1 HC1 HR1 HS1 HM1
      have e0 := HX.out.cell 0
      have e1 := HX.out.cell 1
      have e2 := HX.out.cell 2
      have e3 := HX.out.cell 3
      have e4 := HX.out.cell 4
      have e5 := HX.out.cell 5
      have el := HX.out.lt
      have ef := HX.out.frozen
      have c0 := HC.out.cell 0
      have c1 := HC.out.cell 1
      have c2 := HC.out.cell 2
      have c3 := HC.out.cell 3
      have c4 := HC.out.cell 4
      have c5 := HC.out.cell 5
      have c6 := HC.out.cell 6
      have c7 := HC.out.cell 7
      have cl := HC.out.lt
      have r0 := HR.out.cell 0
      have r1 := HR.out.cell 1
      have r2 := HR.out.cell 2
      have r3 := HR.out.cell 3
      have r4 := HR.out.cell 4
      have r5 := HR.out.cell 5
      have rl := HR.out.lt
      have rf := HR.out.frozen
      simp only [List.getElem?_toArray, List.getElem?_cons_zero, List.getElem?_cons_succ] at e0 e1 e2 e3 e4 e5 c0 c1 c2 c3 c4 c5 c6 c7 r0 r1 r2 r3 r4 r5
      have t0 := HSB.out.cell 0
      have t1 := HSB.out.cell 1
      have t2 := HSB.out.cell 2
      have tl := HSB.out.lt
      simp only [List.getElem?_toArray, List.getElem?_cons_zero, List.getElem?_cons_succ] at t0 t1 t2
      clear htz m7
      go_wp2_with fail
      refine bodyPost_ret (v := .tuple #[VA.val ⟨zk, zf, zn, zw, zla, zln, zlc, zma, zmn, zmc⟩, .int .i64 0]) (by simp [results, Tryz.results38, go_sem, e0, e1, e2, e3, e4, e5, ef, r0, r1, r2, r3, r4, r5, rf]) rfl (RChg.to HEQ.out (y := ⟨zk, zf, zn, zw, zla, zln, zlc, zma, zmn, zmc⟩) (Tree.imp (G := fun g => (G g ∧ g < xb) ∨ wb.heap.size ≤ g) (fun g hg _ => by rcases hg with h | h; exact .inl h.1; exact .inr (by omega)) _ _ _ (Tree.mod (S := fun k => k = xb + 1 + 1) ?_ (fun g hg _ q => by rcases hg with h | h <;> omega) _ _ _ HTZ.out)) ?_)
      · repeat (with_reducible (first | exact Mod.refl _ _ | (refine Mod.setCell ?_ (.inl (by first | rfl | omega | (dsimp only; omega) | skip)) _)))
      · repeat (with_reducible (first | exact HM.out | (refine Mod.setCell ?_ (.inr (by first | omega | (dsimp only; omega) | skip)) _)))

set_option maxRecDepth 100000 in
set_option maxHeartbeats 3000000 in
theorem rlast_at (G : Nat → Prop) (D : Nat) (x : VA) (v : VT) (c : CA) (u : VT) (sn : ByteArray) (k : Nat) (A : Option Addr) (pc : Nat) (w : World) (ht : Tree w G (D + 1) x v) (hu : Tree w G D c.v u) (hsrt : Srt v.mem) (hw : Wide 11 (D + 1) v)
    (hs : Sl w 60 3 St.enc A 1 [⟨false, sn, (k : Int)⟩]) (hk5 : k ≤ 5000) (hk : 1 ≤ c.kind ∧ c.kind ≤ 3) :
    Calls Tryz.prog 38 #[x.val, .slice A 1 pc, c.val] w (RChg G (D + 1) w (lastR c.kind u ⟨false, sn, (k : Int)⟩ v)) := by
  have h2k := trivial
  replace ht := ht.oldG
  replace hu := hu.oldG
  obtain ⟨xs, ms, h1, h2, h3, h4⟩ := ht.als
  obtain ⟨f1, -, -, -, f5, f6⟩ := ht.fields
  have hlm := hw.1
  have hmm := hw.2.1
  have hxl := h2.len
  have hml := h4.len
  have HT := Lib.hid ht
  have HU := Lib.hid hu
  have HL2 := Lib.hid h2
  have HL4 := Lib.hid h4
  have HS := Lib.hid hs
  have HWD := Lib.hid hw
  have HSR := Lib.hid hsrt
  have HCLV := Lib.hid (fun W (h : New w W) => cloneVA xs x.la x.ln x.lc W (h1.sl.new h) (by omega))
  have HCLM := Lib.hid (fun W (h : New w W) => cloneMA ms x.ma x.mn x.mc W (h3.sl.new h) (by omega))
  obtain ⟨R, hR⟩ : ∃ R, R = lastR c.kind u ⟨false, sn, (k : Int)⟩ v := ⟨_, rfl⟩
  rw [← hR]
  have HRR := Lib.hid hR
  obtain ⟨xk, xf, xn, xw, xla, xln, xlc, xma, xmn, xmc⟩ := x
  obtain ⟨ck, ca, cn, cc, cv⟩ := c
  obtain ⟨yk, yf, yn, yw, yla, yln, ylc, yma, ymn, ymc⟩ := cv
  simp only at f1 f5 f6 HCLV HCLM HRR hk h2k HU
  have HVK : Hid (v.kind = xk) := Lib.hid f1
  have hln : xln ≤ 11 := by omega
  have hmn : xmn ≤ 11 := by omega
  have HXL : Hid (xs.length = xln) := Lib.hid (by omega)
  have HML : Hid (ms.length = xmn) := Lib.hid (by omega)
  have HVL : Hid (v.list.length = xln) := Lib.hid (by omega)
  clear ht hu h1 h2 h3 h4 hw hs hsrt f1 f5 f6 hlm hmm hxl hml hR
  go_enter Tryz.func38, Tryz.ntmps38
  have hx := Blk.new w 29 #[.int .i64 xk, .bool xf, .int .i64 xn, .string xw, .slice xla xln xlc, .slice xma xmn xmc]
  have m1 : New w (w.alloc (.cells #[.int .i64 xk, .bool xf, .int .i64 xn, .string xw, .slice xla xln xlc, .slice xma xmn xmc] 29)) := (Mod.refl _ _).alloc _
  have z1 : (w.alloc (.cells #[.int .i64 xk, .bool xf, .int .i64 xn, .string xw, .slice xla xln xlc, .slice xma xmn xmc] 29)).heap.size = w.heap.size + 1 := by simp
  go_upto_region 1 with (fail)
  generalize w.alloc (.cells #[.int .i64 xk, .bool xf, .int .i64 xn, .string xw, .slice xla xln xlc, .slice xma xmn xmc] 29) = w1 at *
  have hy := Blk.new w1 57 #[.int .i64 ck, .slice ca cn cc, .int .i64 yk, .bool yf, .int .i64 yn, .string yw, .slice yla yln ylc, .slice yma ymn ymc]
  have m2 : New w1 (w1.alloc (.cells #[.int .i64 ck, .slice ca cn cc, .int .i64 yk, .bool yf, .int .i64 yn, .string yw, .slice yla yln ylc, .slice yma ymn ymc] 57)) := (Mod.refl _ _).alloc _
  have z2 : (w1.alloc (.cells #[.int .i64 ck, .slice ca cn cc, .int .i64 yk, .bool yf, .int .i64 yn, .string yw, .slice yla yln ylc, .slice yma ymn ymc] 57)).heap.size = w1.heap.size + 1 := by simp
  generalize w1.alloc (.cells #[.int .i64 ck, .slice ca cn cc, .int .i64 yk, .bool yf, .int .i64 yn, .string yw, .slice yla yln ylc, .slice yma ymn ymc] 57) = w2 at *
  have hz := Blk.new w2 29 #[.int .i64 0, .bool false, .int .i64 0, .string ⟨#[]⟩, .slice none 0 0, .slice none 0 0]
  have m3 : New w2 (w2.alloc (.cells #[.int .i64 0, .bool false, .int .i64 0, .string ⟨#[]⟩, .slice none 0 0, .slice none 0 0] 29)) := (Mod.refl _ _).alloc _
  generalize w2.alloc (.cells #[.int .i64 0, .bool false, .int .i64 0, .string ⟨#[]⟩, .slice none 0 0, .slice none 0 0] 29) = w3 at *
  rw [z1] at hy z2
  rw [z2] at hz
  have HX := Lib.hid ((hx.mod m2 (fun e => e)).mod m3 (fun e => e))
  have HC := Lib.hid (hy.mod m3 (fun e => e))
  have HR := Lib.hid hz
  have HM := Lib.hid ((m1.trans m2).trans m3)
  clear hx hy hz m1 m2 m3 z1 z2
  generalize hxb : w.heap.size = xb at *
  have hwb : w.heap.size ≤ xb := by omega
  obtain ⟨g, o, hA, htb, hc0⟩ := (HS.out.new HM.out).2 (by omega)
  have hc := fun j (hj : j < 3) => hc0 0 (by simp) j hj
  have hgl := htb.lt
  simp only [List.getElem_cons_zero, Nat.zero_mul, Nat.add_zero] at hc
  have HSO : Hid (Sl w3 60 3 St.enc (some ⟨g, o, none⟩) 1 [⟨false, sn, (k : Int)⟩]) := Lib.hid (by rw [← hA]; exact HS.out.new HM.out)
  subst hA
  have s0 := hc 0 (by omega)
  have s1 := hc 1 (by omega)
  have s2 := hc 2 (by omega)
  simp only [Nat.add_zero] at s0
  simp only [St.enc] at s0 s1 s2
  clear hc hc0 htb
  have hb2 : (0 : Int) < 1 := by omega
  have hsb := Blk.new w3 60 #[.bool false, .string sn, .int .i64 k]
  have m4 : New w3 (w3.alloc (.cells #[.bool false, .string sn, .int .i64 k] 60)) := (Mod.refl _ _).alloc _
  have hsz3 : xb + 1 + 1 < w3.heap.size := HR.out.lt
  go_upto_region 4 with (fail)
  clear s0 s1 s2 hgl
  generalize w3.alloc (.cells #[.bool false, .string sn, .int .i64 k] 60) = w4 at *
  have HSB := Lib.hid hsb
  generalize w3.heap.size = sb at *
  have HX1 := Lib.hid (HX.out.mod m4 (fun e => e))
  have HC1 := Lib.hid (HC.out.mod m4 (fun e => e))
  have HR1 := Lib.hid (HR.out.mod m4 (fun e => e))
  have HM1 := Lib.hid (HM.out.trans m4)
  have HSO4 := Lib.hid (HSO.out.new m4)
  clear HX HC HR HM hsb m4 HSO
  have HX := HX1
  have HC := HC1
  have HR := HR1
  have HM := HM1
  clear HX1 HC1 HR1 HM1
  have e0 := HX.out.cell 0
  have e1 := HX.out.cell 1
  have e2 := HX.out.cell 2
  have e3 := HX.out.cell 3
  have e4 := HX.out.cell 4
  have e5 := HX.out.cell 5
  have el := HX.out.lt
  have ef := HX.out.frozen
  have c0 := HC.out.cell 0
  have c1 := HC.out.cell 1
  have c2 := HC.out.cell 2
  have c3 := HC.out.cell 3
  have c4 := HC.out.cell 4
  have c5 := HC.out.cell 5
  have c6 := HC.out.cell 6
  have c7 := HC.out.cell 7
  have cl := HC.out.lt
  have r0 := HR.out.cell 0
  have r1 := HR.out.cell 1
  have r2 := HR.out.cell 2
  have r3 := HR.out.cell 3
  have r4 := HR.out.cell 4
  have r5 := HR.out.cell 5
  have rl := HR.out.lt
  have rf := HR.out.frozen
  simp only [List.getElem?_toArray, List.getElem?_cons_zero, List.getElem?_cons_succ] at e0 e1 e2 e3 e4 e5 c0 c1 c2 c3 c4 c5 c6 c7 r0 r1 r2 r3 r4 r5
  have t0 := HSB.out.cell 0
  have t1 := HSB.out.cell 1
  have t2 := HSB.out.cell 2
  have tl := HSB.out.lt
  simp only [List.getElem?_toArray, List.getElem?_cons_zero, List.getElem?_cons_succ] at t0 t1 t2
  by_cases h5 : xk = 4
  rotate_left
  · have HEQ : Hid (R = (v, 10)) := Lib.hid (by rw [HRR.out]; unfold lastR; rw [if_pos (.inr ⟨rfl, by rw [HVK.out]; exact h5⟩)])
    have h5b : (xk != 4) = true := by simpa using h5
    clear h5
    go_wp2_with fail
    refine bodyPost_ret (v := .tuple #[VA.val ⟨xk, xf, xn, xw, xla, xln, xlc, xma, xmn, xmc⟩, .int .i64 10]) (by simp [results, Tryz.results38, go_sem, e0, e1, e2, e3, e4, e5, ef, r0, r1, r2, r3, r4, r5, rf]) rfl (RChg.of HEQ.out (y := ⟨xk, xf, xn, xw, xla, xln, xlc, xma, xmn, xmc⟩) (Tree.imp (fun g hg _ => hg.1) _ _ _ HT.out) ?_)
    repeat (with_reducible (first | exact HM.out | (refine Mod.setCell ?_ (.inr (by first | omega | (dsimp only; omega) | skip)) _)))
  have h5b : (xk != 4) = false := by simpa using h5
  have HV4 : Hid (v.kind = 4) := Lib.hid (by rw [HVK.out]; exact h5)
  clear h5
  have HG4 : Hid (getR v ⟨false, sn, (k : Int)⟩ = v.list[k]?) := Lib.hid (getR4 rfl)
  have HLR : Hid (R = if (ck = 3 ∧ getR v ⟨false, sn, (k : Int)⟩ = none) ∨ v.list.length < k then (v, 8) else
    if ck = 3 then (v.setL (v.list.take k ++ v.list.drop (k + 1)), 0) else
    if ck = 2 then (v.setL (v.list.take k ++ u :: v.list.drop k), 0) else (withR v ⟨false, sn, (k : Int)⟩ u, 0)) := Lib.hid (by rw [HRR.out]; exact lastR4 rfl HV4.out ck u)
  have hget := getAt_v (fun g => G g ∧ g < xb) D ⟨xk, xf, xn, xw, xla, xln, xlc, xma, xmn, xmc⟩ v ⟨false, sn, (k : Int)⟩ (some ⟨g, o, none⟩) pc w4 (HT.out.new HM.out) HSO4.out (Wide.mono (by omega) _ _ HWD.out) ⟨by simp only; omega, by simp only; omega⟩
  go_wp2_with fail
  refine hget.mono ?_
  clear hget
  rintro e w5 (⟨hno, rfl, m5⟩ | ⟨uu, yy, hso, rfl, -, m5⟩)
  · have hge : xln ≤ k := by
      rw [HG4.out, List.getElem?_eq_none_iff, HVL.out] at hno
      exact hno
    have HNO := Lib.hid hno
    clear hno
    have m6 : New w5 (w5.alloc (.cells #[.int .i64 0, .bool false, .int .i64 0, .string ⟨#[]⟩, .slice none 0 0, .slice none 0 0] 29)) := (Mod.refl _ _).alloc _
    go_upto_region 13 with (fail)
    generalize w5.alloc (.cells #[.int .i64 0, .bool false, .int .i64 0, .string ⟨#[]⟩, .slice none 0 0, .slice none 0 0] 29) = wb at *
    have HX1 := Lib.hid (HX.out.mod (m5.trans m6) (fun e => e))
    have HC1 := Lib.hid (HC.out.mod (m5.trans m6) (fun e => e))
    have HR1 := Lib.hid (HR.out.mod (m5.trans m6) (fun e => e))
    have HS1 := Lib.hid (HSB.out.mod (m5.trans m6) (fun e => e))
    have HM1 := Lib.hid (HM.out.trans (m5.trans m6))
    clear e0 e1 e2 e3 e4 e5 el ef c0 c1 c2 c3 c4 c5 c6 c7 cl r0 r1 r2 r3 r4 r5 rl rf
    clear t0 t1 t2 tl
    clear HX HC HR HSB HM
    have HX := HX1
    have HC := HC1
    have HR := HR1
    have HSB := HS1
    have HM := HM1
    clear HX1 HC1 HR1 HS1 HM1
    clear m5 m6
    have e0 := HX.out.cell 0
    have e1 := HX.out.cell 1
    have e2 := HX.out.cell 2
    have e3 := HX.out.cell 3
    have e4 := HX.out.cell 4
    have e5 := HX.out.cell 5
    have el := HX.out.lt
    have ef := HX.out.frozen
    have c0 := HC.out.cell 0
    have c1 := HC.out.cell 1
    have c2 := HC.out.cell 2
    have c3 := HC.out.cell 3
    have c4 := HC.out.cell 4
    have c5 := HC.out.cell 5
    have c6 := HC.out.cell 6
    have c7 := HC.out.cell 7
    have cl := HC.out.lt
    have r0 := HR.out.cell 0
    have r1 := HR.out.cell 1
    have r2 := HR.out.cell 2
    have r3 := HR.out.cell 3
    have r4 := HR.out.cell 4
    have r5 := HR.out.cell 5
    have rl := HR.out.lt
    have rf := HR.out.frozen
    simp only [List.getElem?_toArray, List.getElem?_cons_zero, List.getElem?_cons_succ] at e0 e1 e2 e3 e4 e5 c0 c1 c2 c3 c4 c5 c6 c7 r0 r1 r2 r3 r4 r5
    have t0 := HSB.out.cell 0
    have t1 := HSB.out.cell 1
    have t2 := HSB.out.cell 2
    have tl := HSB.out.lt
    simp only [List.getElem?_toArray, List.getElem?_cons_zero, List.getElem?_cons_succ] at t0 t1 t2
    have hB4 : xb + 1 + 1 < wb.heap.size := rl
    have hsbw : sb < wb.heap.size := tl
    by_cases h3 : ck = 3
    · have HEQ : Hid (R = (v, 8)) := Lib.hid (by rw [HLR.out, if_pos (.inl ⟨h3, HNO.out⟩)])
      have h3b : (ck == 3) = true := by simpa using h3
      clear h3
      go_wp2_with fail
      refine bodyPost_ret (v := .tuple #[VA.val ⟨xk, xf, xn, xw, xla, xln, xlc, xma, xmn, xmc⟩, .int .i64 8]) (by simp [results, Tryz.results38, go_sem, e0, e1, e2, e3, e4, e5, ef, r0, r1, r2, r3, r4, r5, rf]) rfl (RChg.of HEQ.out (y := ⟨xk, xf, xn, xw, xla, xln, xlc, xma, xmn, xmc⟩) (Tree.imp (fun g hg _ => hg.1) _ _ _ HT.out) ?_)
      repeat (with_reducible (first | exact HM.out | (refine Mod.setCell ?_ (.inr (by first | omega | (dsimp only; omega) | skip)) _)))
    have h3b : (ck == 3) = false := by simpa using h3
    by_cases hgt : xln < k
    · have HEQ : Hid (R = (v, 8)) := Lib.hid (by rw [HLR.out, if_pos (.inr (by rw [HVL.out]; exact hgt))])
      have hgt1 : (xln : Int) < k := by omega
      clear h3
      go_wp2_with fail
      refine bodyPost_ret (v := .tuple #[VA.val ⟨xk, xf, xn, xw, xla, xln, xlc, xma, xmn, xmc⟩, .int .i64 8]) (by simp [results, Tryz.results38, go_sem, e0, e1, e2, e3, e4, e5, ef, r0, r1, r2, r3, r4, r5, rf]) rfl (RChg.of HEQ.out (y := ⟨xk, xf, xn, xw, xla, xln, xlc, xma, xmn, xmc⟩) (Tree.imp (fun g hg _ => hg.1) _ _ _ HT.out) ?_)
      repeat (with_reducible (first | exact HM.out | (refine Mod.setCell ?_ (.inr (by first | omega | (dsimp only; omega) | skip)) _)))
    have hgt1 : ¬ (xln : Int) < k := by omega
    have hkl : k ≤ xln := by omega
    have HLR2 : Hid (R = if ck = 2 then (v.setL (v.list.take k ++ u :: v.list.drop k), 0) else (withR v ⟨false, sn, (k : Int)⟩ u, 0)) := Lib.hid (by rw [HLR.out, if_neg (by rw [HVL.out]; omega), if_neg h3])
    clear h3 hgt
    by_cases h2 : ck = 2
    · have HEQ : Hid (R = (v.setL (v.list.take k ++ u :: v.list.drop k), 0)) := Lib.hid (by rw [HLR2.out, if_pos h2])
      have h2b : (ck == 2) = true := by simpa using h2
      clear h2
      have HAL0 : Hid (Al (TV w (fun g => G g ∧ g < xb) D) (xs.take k ++ ⟨yk, yf, yn, yw, yla, yln, ylc, yma, ymn, ymc⟩ :: xs.drop k) (v.list.take k ++ u :: v.list.drop k)) := Lib.hid (HL2.out.ins k HU.out)
      obtain ⟨VR, hVR⟩ : ∃ r, (xs.take k ++ (⟨yk, yf, yn, yw, yla, yln, ylc, yma, ymn, ymc⟩ : VA) :: xs.drop k) = r := ⟨_, rfl⟩
      have HVR := Lib.hid hVR
      have HAL : Hid (Al (TV w (fun g => G g ∧ g < xb) D) VR (v.list.take k ++ u :: v.list.drop k)) := Lib.hid (by rw [← hVR]; exact HAL0.out)
      clear hVR HAL0
      go_upto_region 23 with (fail)
      have HSR2 : Hid (∀ W, New wb W → (
        W.cell? ⟨xb, 0, none⟩ = some (.int .i64 xk) ∧ W.cell? ⟨xb, 1, none⟩ = some (.bool xf) ∧ W.cell? ⟨xb, 2, none⟩ = some (.int .i64 xn) ∧ W.cell? ⟨xb, 3, none⟩ = some (.string xw) ∧ W.cell? ⟨xb, 4, none⟩ = some (.slice xla xln xlc) ∧ W.cell? ⟨xb, 5, none⟩ = some (.slice xma xmn xmc) ∧
        W.cell? ⟨xb + 1, 0, none⟩ = some (.int .i64 ck) ∧ W.cell? ⟨xb + 1, 1, none⟩ = some (.slice ca cn cc) ∧ W.cell? ⟨xb + 1, 2, none⟩ = some (.int .i64 yk) ∧ W.cell? ⟨xb + 1, 3, none⟩ = some (.bool yf) ∧ W.cell? ⟨xb + 1, 4, none⟩ = some (.int .i64 yn) ∧ W.cell? ⟨xb + 1, 5, none⟩ = some (.string yw) ∧ W.cell? ⟨xb + 1, 6, none⟩ = some (.slice yla yln ylc) ∧ W.cell? ⟨xb + 1, 7, none⟩ = some (.slice yma ymn ymc) ∧
        W.cell? ⟨sb, 0, none⟩ = some (.bool false) ∧ W.cell? ⟨sb, 1, none⟩ = some (.string sn) ∧ W.cell? ⟨sb, 2, none⟩ = some (.int .i64 k) ∧ sb < W.heap.size ∧ xb < W.heap.size ∧ xb + 1 < W.heap.size
        )) := Lib.hid (fun W hW => by
        have h1 := HX.out.mod hW (fun e => e)
        have h2 := HC.out.mod hW (fun e => e)
        have h3 := HSB.out.mod hW (fun e => e)
        exact ⟨(h1.cell 0).trans rfl, (h1.cell 1).trans rfl, (h1.cell 2).trans rfl, (h1.cell 3).trans rfl, (h1.cell 4).trans rfl, (h1.cell 5).trans rfl, (h2.cell 0).trans rfl, (h2.cell 1).trans rfl, (h2.cell 2).trans rfl, (h2.cell 3).trans rfl, (h2.cell 4).trans rfl, (h2.cell 5).trans rfl, (h2.cell 6).trans rfl, (h2.cell 7).trans rfl, (h3.cell 0).trans rfl, (h3.cell 1).trans rfl, (h3.cell 2).trans rfl, h3.lt, h1.lt, h2.lt⟩)
      clear e0 e1 e2 e3 e4 e5 el ef c0 c1 c2 c3 c4 c5 c6 c7 cl r0 r1 r2 r3 r4 r5 rl rf
      clear t0 t1 t2 tl
      go_cut [] (fun wx => ∃ (A7 : Option Addr) (cap7 : Nat), Hid (Blk wx xb 29 #[.int .i64 xk, .bool xf, .int .i64 xn, .string xw, .slice A7 (VR).length cap7, .slice xma xmn xmc]) ∧ Hid (Own wx wb.heap.size 29 6 VA.enc A7 (VR).length cap7 (VR)) ∧ Hid (Mod (fun k => k = xb) wb wx))
      case first =>
        refine wp_region_held_tree (New wb) 9 (by kernel_rfl) (by kernel_rfl) ?_
        have hn0 : New wb wb.drew := (Mod.refl _ _).drew
        refine headW_take 0 _ ?_ (fun _ _ d _ _ h => by cases d <;> exact h) (by kernel_rfl) rfl (by kernel_rfl) hn0 (by rfl) (fun W hSw => ?_) ?_
        rotate_left
        · (have hq := HSR2.out W hSw); (try simp only [List.getElem_toArray, List.getElem_cons_zero, List.getElem_cons_succ]); go_simp; any_goals (with_reducible rfl)
        simp only [Act.put, List.getElem_toArray, List.getElem_cons_zero, List.getElem_cons_succ, List.setIfInBounds_toArray, List.set_cons_zero, List.set_cons_succ]
        refine headW_take 1 _ ?_ (fun _ _ d _ _ h => by cases d <;> exact h) (by kernel_rfl) rfl (by kernel_rfl) hn0 (by rfl) (fun W hSw => ?_) ?_
        rotate_left
        · (have hq := HSR2.out W hSw); (try simp only [List.getElem_toArray, List.getElem_cons_zero, List.getElem_cons_succ]); go_simp; any_goals (with_reducible rfl)
        simp only [Act.put, List.getElem_toArray, List.getElem_cons_zero, List.getElem_cons_succ, List.setIfInBounds_toArray, List.set_cons_zero, List.set_cons_succ]
        refine headW_take 3 _ ?_ (fun _ _ d _ _ h => by cases d <;> exact h) (by kernel_rfl) rfl (by kernel_rfl) hn0 (by rfl) (fun W hSw => ?_) ?_
        rotate_left
        · (have hq := HSR2.out W hSw); (try simp only [List.getElem_toArray, List.getElem_cons_zero, List.getElem_cons_succ]); go_simp; any_goals (with_reducible rfl)
        simp only [Act.put, List.getElem_toArray, List.getElem_cons_zero, List.getElem_cons_succ, List.setIfInBounds_toArray, List.set_cons_zero, List.set_cons_succ]
        refine headW_take 4 _ ?_ (fun _ _ d _ _ h => by cases d <;> exact h) (by kernel_rfl) rfl (by kernel_rfl) hn0 (by rfl) (fun W hSw => ?_) ?_
        rotate_left
        · (have hq := HSR2.out W hSw); (try simp only [List.getElem_toArray, List.getElem_cons_zero, List.getElem_cons_succ]); go_simp; any_goals (with_reducible rfl)
        simp only [Act.put, List.getElem_toArray, List.getElem_cons_zero, List.getElem_cons_succ, List.setIfInBounds_toArray, List.set_cons_zero, List.set_cons_succ]
        refine headW_take 5 _ ?_ (fun _ _ d _ _ h => by cases d <;> exact h) (by kernel_rfl) rfl (by kernel_rfl) hn0 (by rfl) (fun W hSw => ?_) ?_
        rotate_left
        · (have hq := HSR2.out W hSw); (try simp only [List.getElem_toArray, List.getElem_cons_zero, List.getElem_cons_succ]); go_simp; any_goals (with_reducible rfl)
        simp only [Act.put, List.getElem_toArray, List.getElem_cons_zero, List.getElem_cons_succ, List.setIfInBounds_toArray, List.set_cons_zero, List.set_cons_succ]
        refine headW_take 6 _ ?_ (fun _ _ d _ _ h => by cases d <;> exact h) (by kernel_rfl) rfl (by kernel_rfl) hn0 (by rfl) (fun W hSw => ?_) ?_
        rotate_left
        · (have hq := HSR2.out W hSw); (try simp only [List.getElem_toArray, List.getElem_cons_zero, List.getElem_cons_succ]); go_simp; any_goals (with_reducible rfl)
        simp only [Act.put, List.getElem_toArray, List.getElem_cons_zero, List.getElem_cons_succ, List.setIfInBounds_toArray, List.set_cons_zero, List.set_cons_succ]
        refine headW_ready [2, 7] (by kernel_rfl) (by rfl) ?_
        refine eachW_step rfl rfl (fun K hK => ?_) (eachW_step rfl rfl (fun K hK => ?_) eachW_nil)
        · (try simp only [List.getElem_toArray, List.getElem_cons_zero, List.getElem_cons_succ])
          go_simp
          refine (HCLV.out _ (HM.out.trans hn0)).mono ?_
          rintro e w6 ⟨A6, cA, rfl, own6, m6⟩
          have HN := Lib.hid (Mod.trans hn0 m6)
          have HOW : Hid (Own w6 wb.heap.size 29 6 VA.enc A6 xln cA xs) := Lib.hid (own6.less (Mod.size hn0))
          clear own6 m6
          go_wp2_with fail
          refine hK.out _ _ HN.out (fun _ => ?_)
          clear hK K
          (try simp only [Act.put, List.getElem_toArray, List.getElem_cons_zero, List.getElem_cons_succ, List.setIfInBounds_toArray, List.set_cons_zero, List.set_cons_succ])
          refine headW_ready [7] (by kernel_rfl) (by rfl) ?_
          refine eachW_step rfl rfl (fun K hK => ?_) eachW_nil
          have HBL : Hid (Blk (w6.alloc (.cells #[.int .i64 yk, .bool yf, .int .i64 yn, .string yw, .slice yla yln ylc, .slice yma ymn ymc] 29)) w6.heap.size 29 (encL 6 VA.enc ⟨yk, yf, yn, yw, yla, yln, ylc, yma, ymn, ymc⟩).toArray) := Lib.hid (Blk.new _ _ _)
          have HMA : Hid (New w6 (w6.alloc (.cells #[.int .i64 yk, .bool yf, .int .i64 yn, .string yw, .slice yla yln ylc, .slice yma ymn ymc] 29))) := Lib.hid ((Mod.refl _ _).alloc _)
          (try simp only [List.getElem_toArray, List.getElem_cons_zero, List.getElem_cons_succ])
          go_simp
          have HNE : Hid (¬ blkOf A6 = some w6.heap.size) := Lib.hid (fun e => by have := (HOW.out.far' _ e).2.1; omega)
          have HOWa := Lib.hid (HOW.out.new HMA.out)
          have HNa := Lib.hid (HN.out.trans HMA.out)
          refine hK.out _ _ HNa.out (fun _ => ?_)
          clear hK K HOW HN HMA
          have HOW := HOWa
          have HN := HNa
          clear HOWa HNa
          (try simp only [Act.put, List.getElem_toArray, List.getElem_cons_zero, List.getElem_cons_succ, List.setIfInBounds_toArray, List.set_cons_zero, List.set_cons_succ])
          generalize w6.alloc (.cells #[.int .i64 yk, .bool yf, .int .i64 yn, .string yw, .slice yla yln ylc, .slice yma ymn ymc] 29) = wa at *
          generalize w6.heap.size = bi at *
          refine headW_ready [8] (by kernel_rfl) (by rfl) ?_
          refine eachW_step rfl rfl (fun K hK => ?_) eachW_nil
          have hins := insert_va _ wb.heap.size A6 xln cA k xs ⟨yk, yf, yn, yw, yla, yln, ylc, yma, ymn, ymc⟩ bi HOW.out HBL.out HNE.out HN.out.size (by omega) (by omega)
          rw [HVR.out] at hins
          (try simp only [List.getElem_toArray, List.getElem_cons_zero, List.getElem_cons_succ])
          go_simp
          refine hins.mono ?_
          clear hins
          rintro e w9 ⟨g9, cap9, rfl, own9, m9, -⟩
          have HN9 := Lib.hid (HN.out.step m9 (fun i hi e => by have := (HOW.out.far' i e).1; omega))
          clear m9
          go_wp2_with fail
          refine hK.out _ _ HN9.out (fun _ => ?_)
          clear hK K
          (try simp only [Act.put, List.getElem_toArray, List.getElem_cons_zero, List.getElem_cons_succ, List.setIfInBounds_toArray, List.set_cons_zero, List.set_cons_succ])
          refine headW_done (by kernel_rfl) ?_
          have HX9 := Lib.hid (HX.out.mod HN9.out (fun e => e))
          have e4 := HX9.out.cell 4
          have e5 := HX9.out.cell 5
          have el := HX9.out.lt
          have ef := HX9.out.frozen
          simp only [List.getElem?_toArray, List.getElem?_cons_zero, List.getElem?_cons_succ] at e4 e5
          have HO9 := Lib.hid (own9.mod (Only.set (Mod.refl (fun k => k = xb) w9) 4 (.slice (some ⟨g9, 0, none⟩) VR.length cap9)) (fun i e q => by have := (own9.far' i e).1; omega))
          have HXX := Lib.hid (HX9.out.set 4 (.slice (some ⟨g9, 0, none⟩) VR.length cap9))
          simp only [Array.setIfInBounds, List.size_toArray, List.length_cons, List.length_nil, Nat.reduceAdd, Nat.reduceLT, ↓reduceDIte, List.set_toArray, List.set_cons_zero, List.set_cons_succ] at HXX
          have HMX := Lib.hid ((HN9.out.mono (fun _ _ e => e.elim)).trans (Only.set (Mod.refl (fun k => k = xb) w9) 4 (.slice (some ⟨g9, 0, none⟩) VR.length cap9)))
          clear own9
          go_wp2_with fail
          go_meet
          case rel => exact ⟨(some ⟨g9, 0, none⟩), cap9, HXX, HO9, HMX⟩
        · have HB0 : Blk (wb.alloc (.cells #[.int .i64 yk, .bool yf, .int .i64 yn, .string yw, .slice yla yln ylc, .slice yma ymn ymc] 29)) wb.heap.size 29 (encL 6 VA.enc ⟨yk, yf, yn, yw, yla, yln, ylc, yma, ymn, ymc⟩).toArray := Blk.new _ _ _
          have HNa : Hid (New wb (World.drew (wb.alloc (.cells #[.int .i64 yk, .bool yf, .int .i64 yn, .string yw, .slice yla yln ylc, .slice yma ymn ymc] 29)))) := Lib.hid (((Mod.refl _ _).alloc _).drew)
          have HBL : Hid (Blk (World.drew (wb.alloc (.cells #[.int .i64 yk, .bool yf, .int .i64 yn, .string yw, .slice yla yln ylc, .slice yma ymn ymc] 29))) wb.heap.size 29 (encL 6 VA.enc ⟨yk, yf, yn, yw, yla, yln, ylc, yma, ymn, ymc⟩).toArray) := Lib.hid (HB0.mod (Mod.drew (Mod.refl (fun _ => False) _)) (fun e => e))
          clear HB0
          have hbi : wb.heap.size < (World.drew (wb.alloc (.cells #[.int .i64 yk, .bool yf, .int .i64 yn, .string yw, .slice yla yln ylc, .slice yma ymn ymc] 29))).heap.size := HBL.out.lt
          (try simp only [List.getElem_toArray, List.getElem_cons_zero, List.getElem_cons_succ])
          go_simp
          refine hK.out _ _ HNa.out (fun _ => ?_)
          clear hK K
          (try simp only [Act.put, List.getElem_toArray, List.getElem_cons_zero, List.getElem_cons_succ, List.setIfInBounds_toArray, List.set_cons_zero, List.set_cons_succ])
          generalize World.drew (wb.alloc (.cells #[.int .i64 yk, .bool yf, .int .i64 yn, .string yw, .slice yla yln ylc, .slice yma ymn ymc] 29)) = wa at *
          refine headW_ready [2] (by kernel_rfl) (by rfl) ?_
          refine eachW_step rfl rfl (fun K hK => ?_) eachW_nil
          (try simp only [List.getElem_toArray, List.getElem_cons_zero, List.getElem_cons_succ])
          go_simp
          refine (HCLV.out _ (HM.out.trans HNa.out)).mono ?_
          rintro e w6 ⟨A6, cA, rfl, own6, m6⟩
          have HN := Lib.hid (Mod.trans HNa.out m6)
          have HOW : Hid (Own w6 wb.heap.size 29 6 VA.enc A6 xln cA xs) := Lib.hid (own6.less (Mod.size HNa.out))
          have HNE : Hid (¬ blkOf A6 = some wb.heap.size) := Lib.hid (fun e => by have := (own6.far' _ e).1; omega)
          have HBL6 := Lib.hid (HBL.out.mod m6 (fun e => e))
          clear own6 m6 HBL
          have HBL := HBL6
          go_wp2_with fail
          refine hK.out _ _ HN.out (fun _ => ?_)
          clear hK K
          (try simp only [Act.put, List.getElem_toArray, List.getElem_cons_zero, List.getElem_cons_succ, List.setIfInBounds_toArray, List.set_cons_zero, List.set_cons_succ])
          refine headW_ready [8] (by kernel_rfl) (by rfl) ?_
          refine eachW_step rfl rfl (fun K hK => ?_) eachW_nil
          have hins := insert_va _ wb.heap.size A6 xln cA k xs ⟨yk, yf, yn, yw, yla, yln, ylc, yma, ymn, ymc⟩ wb.heap.size HOW.out HBL.out HNE.out HN.out.size (by omega) (by omega)
          rw [HVR.out] at hins
          (try simp only [List.getElem_toArray, List.getElem_cons_zero, List.getElem_cons_succ])
          go_simp
          refine hins.mono ?_
          clear hins
          rintro e w9 ⟨g9, cap9, rfl, own9, m9, -⟩
          have HN9 := Lib.hid (HN.out.step m9 (fun i hi e => by have := (HOW.out.far' i e).1; omega))
          clear m9
          go_wp2_with fail
          refine hK.out _ _ HN9.out (fun _ => ?_)
          clear hK K
          (try simp only [Act.put, List.getElem_toArray, List.getElem_cons_zero, List.getElem_cons_succ, List.setIfInBounds_toArray, List.set_cons_zero, List.set_cons_succ])
          refine headW_done (by kernel_rfl) ?_
          have HX9 := Lib.hid (HX.out.mod HN9.out (fun e => e))
          have e4 := HX9.out.cell 4
          have e5 := HX9.out.cell 5
          have el := HX9.out.lt
          have ef := HX9.out.frozen
          simp only [List.getElem?_toArray, List.getElem?_cons_zero, List.getElem?_cons_succ] at e4 e5
          have HO9 := Lib.hid (own9.mod (Only.set (Mod.refl (fun k => k = xb) w9) 4 (.slice (some ⟨g9, 0, none⟩) VR.length cap9)) (fun i e q => by have := (own9.far' i e).1; omega))
          have HXX := Lib.hid (HX9.out.set 4 (.slice (some ⟨g9, 0, none⟩) VR.length cap9))
          simp only [Array.setIfInBounds, List.size_toArray, List.length_cons, List.length_nil, Nat.reduceAdd, Nat.reduceLT, ↓reduceDIte, List.set_toArray, List.set_cons_zero, List.set_cons_succ] at HXX
          have HMX := Lib.hid ((HN9.out.mono (fun _ _ e => e.elim)).trans (Only.set (Mod.refl (fun k => k = xb) w9) 4 (.slice (some ⟨g9, 0, none⟩) VR.length cap9)))
          clear own9
          go_wp2_with fail
          go_meet
          case rel => exact ⟨(some ⟨g9, 0, none⟩), cap9, HXX, HO9, HMX⟩
      case rest =>
        rename World => wy
        obtain ⟨A7, cap7, HXY, HOY, HMY⟩ := hcut
        have HMB := HM
        have HRY := Lib.hid (HR.out.mod HMY.out (by omega))
        clear HX HR HC HM HSB
        have HTW : Hid (Tree wy (fun g => G g ∧ g < xb) (D + 1) ⟨xk, xf, xn, xw, xla, xln, xlc, xma, xmn, xmc⟩ v) := Lib.hid (Tree.mod HMY.out (fun g hg _ e => by have := hg.2; omega) _ _ _ (HT.out.new HMB.out))
        have HTYP := Tree.toL' (G := fun g => (G g ∧ g < xb) ∨ wb.heap.size ≤ g) (Tree.imp (fun g hg _ => .inl hg) _ _ _ HTW.out) HOY.out (HAL.out.imp (fun _ _ q => Tree.imp (fun g hg _ => .inl hg) _ _ _ (Tree.mod HMY.out (fun g hg _ e => by have := hg.2; omega) _ _ _ (q.new HMB.out)))) (fun g h => .inr h)
        have HTY : Hid (Tree wy (fun g => (G g ∧ g < xb) ∨ wb.heap.size ≤ g) (D + 1) ⟨xk, xf, xn, xw, A7, VR.length, cap7, xma, xmn, xmc⟩ (v.setL (v.list.take k ++ u :: v.list.drop k))) := Lib.hid HTYP
        have HM : Hid (New w wy) := Lib.hid (HMB.out.step HMY.out (fun i hi e => by have := HMB.out.size; omega))
        have HX := HXY
        have HR := HRY
        have e0 := HXY.out.cell 0
        have e1 := HXY.out.cell 1
        have e2 := HXY.out.cell 2
        have e3 := HXY.out.cell 3
        have e4 := HXY.out.cell 4
        have e5 := HXY.out.cell 5
        have el := HXY.out.lt
        have ef := HXY.out.frozen
        simp only [List.getElem?_toArray, List.getElem?_cons_zero, List.getElem?_cons_succ] at e0 e1 e2 e3 e4 e5
        have r0 := HRY.out.cell 0
        have r1 := HRY.out.cell 1
        have r2 := HRY.out.cell 2
        have r3 := HRY.out.cell 3
        have r4 := HRY.out.cell 4
        have r5 := HRY.out.cell 5
        have rl := HRY.out.lt
        have rf := HRY.out.frozen
        simp only [List.getElem?_toArray, List.getElem?_cons_zero, List.getElem?_cons_succ] at r0 r1 r2 r3 r4 r5
        go_wp2_with fail
        refine bodyPost_ret (v := .tuple #[VA.val ⟨xk, xf, xn, xw, A7, VR.length, cap7, xma, xmn, xmc⟩, .int .i64 0]) (by simp [results, Tryz.results38, go_sem, e0, e1, e2, e3, e4, e5, ef, r0, r1, r2, r3, r4, r5, rf]) rfl (RChg.to HEQ.out (y := ⟨xk, xf, xn, xw, A7, VR.length, cap7, xma, xmn, xmc⟩) (Tree.imp (G := fun g => (G g ∧ g < xb) ∨ wb.heap.size ≤ g) (fun g hg _ => by rcases hg with h | h; exact .inl h.1; exact .inr (by omega)) _ _ _ (Tree.mod (S := fun k => k = xb + 1 + 1) ?_ (fun g hg _ q => by rcases hg with h | h <;> omega) _ _ _ HTY.out)) ?_)
        · repeat (with_reducible (first | exact Mod.refl _ _ | (refine Mod.setCell ?_ (.inl (by first | rfl | omega | (dsimp only; omega) | skip)) _)))
        · repeat (with_reducible (first | exact HM.out | (refine Mod.setCell ?_ (.inr (by first | omega | (dsimp only; omega) | skip)) _)))
    · have HEQ : Hid (R = (withR v ⟨false, sn, (k : Int)⟩ u, 0)) := Lib.hid (by rw [HLR2.out, if_neg h2])
      have h2b : (ck == 2) = false := by simpa using h2
      clear h2
      have hwith := with_v (fun g => G g ∧ g < xb) D ⟨xk, xf, xn, xw, xla, xln, xlc, xma, xmn, xmc⟩ ⟨yk, yf, yn, yw, yla, yln, ylc, yma, ymn, ymc⟩ v u ⟨false, sn, (k : Int)⟩ wb (HT.out.new HM.out) (HU.out.new HM.out) HSR.out HWD.out.2.1 (by have := HWD.out.1; omega) (by simp only; omega) (fun _ => by show k ≤ v.list.length; have := HVL.out; omega)
      go_wp2_with fail
      refine hwith.mono ?_
      clear hwith
      rintro e w7 ⟨⟨zk, zf, zn, zw, zla, zln, zlc, zma, zmn, zmc⟩, rfl, htz, m7⟩
      have HTZ := Lib.hid htz
      have HX1 := Lib.hid (HX.out.mod m7 (fun e => e))
      have HC1 := Lib.hid (HC.out.mod m7 (fun e => e))
      have HR1 := Lib.hid (HR.out.mod m7 (fun e => e))
      have HS1 := Lib.hid (HSB.out.mod m7 (fun e => e))
      have HM1 := Lib.hid (HM.out.trans m7)
      clear e0 e1 e2 e3 e4 e5 el ef c0 c1 c2 c3 c4 c5 c6 c7 cl r0 r1 r2 r3 r4 r5 rl rf
      clear t0 t1 t2 tl
      clear HX HC HR HSB HM
      have HX := HX1
      have HC := HC1
      have HR := HR1
      have HSB := HS1
      have HM := HM1
      clear HX1 HC1 HR1 HS1 HM1
      have e0 := HX.out.cell 0
      have e1 := HX.out.cell 1
      have e2 := HX.out.cell 2
      have e3 := HX.out.cell 3
      have e4 := HX.out.cell 4
      have e5 := HX.out.cell 5
      have el := HX.out.lt
      have ef := HX.out.frozen
      have c0 := HC.out.cell 0
      have c1 := HC.out.cell 1
      have c2 := HC.out.cell 2
      have c3 := HC.out.cell 3
      have c4 := HC.out.cell 4
      have c5 := HC.out.cell 5
      have c6 := HC.out.cell 6
      have c7 := HC.out.cell 7
      have cl := HC.out.lt
      have r0 := HR.out.cell 0
      have r1 := HR.out.cell 1
      have r2 := HR.out.cell 2
      have r3 := HR.out.cell 3
      have r4 := HR.out.cell 4
      have r5 := HR.out.cell 5
      have rl := HR.out.lt
      have rf := HR.out.frozen
      simp only [List.getElem?_toArray, List.getElem?_cons_zero, List.getElem?_cons_succ] at e0 e1 e2 e3 e4 e5 c0 c1 c2 c3 c4 c5 c6 c7 r0 r1 r2 r3 r4 r5
      have t0 := HSB.out.cell 0
      have t1 := HSB.out.cell 1
      have t2 := HSB.out.cell 2
      have tl := HSB.out.lt
      simp only [List.getElem?_toArray, List.getElem?_cons_zero, List.getElem?_cons_succ] at t0 t1 t2
      clear htz m7
      go_wp2_with fail
      refine bodyPost_ret (v := .tuple #[VA.val ⟨zk, zf, zn, zw, zla, zln, zlc, zma, zmn, zmc⟩, .int .i64 0]) (by simp [results, Tryz.results38, go_sem, e0, e1, e2, e3, e4, e5, ef, r0, r1, r2, r3, r4, r5, rf]) rfl (RChg.to HEQ.out (y := ⟨zk, zf, zn, zw, zla, zln, zlc, zma, zmn, zmc⟩) (Tree.imp (G := fun g => (G g ∧ g < xb) ∨ wb.heap.size ≤ g) (fun g hg _ => by rcases hg with h | h; exact .inl h.1; exact .inr (by omega)) _ _ _ (Tree.mod (S := fun k => k = xb + 1 + 1) ?_ (fun g hg _ q => by rcases hg with h | h <;> omega) _ _ _ HTZ.out)) ?_)
      · repeat (with_reducible (first | exact Mod.refl _ _ | (refine Mod.setCell ?_ (.inl (by first | rfl | omega | (dsimp only; omega) | skip)) _)))
      · repeat (with_reducible (first | exact HM.out | (refine Mod.setCell ?_ (.inr (by first | omega | (dsimp only; omega) | skip)) _)))
  · have hlt : k < xln := by
      rw [HG4.out] at hso
      obtain ⟨h, -⟩ := List.getElem?_eq_some_iff.1 hso
      rw [HVL.out] at h
      exact h
    clear hso
    obtain ⟨y2k, y2f, y2n, y2w, y2la, y2ln, y2lc, y2ma, y2mn, y2mc⟩ := yy
    have m6 : New w5 (w5.alloc (.cells #[.int .i64 y2k, .bool y2f, .int .i64 y2n, .string y2w, .slice y2la y2ln y2lc, .slice y2ma y2mn y2mc] 29)) := (Mod.refl _ _).alloc _
    go_upto_region 13 with (fail)
    generalize w5.alloc (.cells #[.int .i64 y2k, .bool y2f, .int .i64 y2n, .string y2w, .slice y2la y2ln y2lc, .slice y2ma y2mn y2mc] 29) = wb at *
    have HX1 := Lib.hid (HX.out.mod (m5.trans m6) (fun e => e))
    have HC1 := Lib.hid (HC.out.mod (m5.trans m6) (fun e => e))
    have HR1 := Lib.hid (HR.out.mod (m5.trans m6) (fun e => e))
    have HS1 := Lib.hid (HSB.out.mod (m5.trans m6) (fun e => e))
    have HM1 := Lib.hid (HM.out.trans (m5.trans m6))
    clear e0 e1 e2 e3 e4 e5 el ef c0 c1 c2 c3 c4 c5 c6 c7 cl r0 r1 r2 r3 r4 r5 rl rf
    clear t0 t1 t2 tl
    clear HX HC HR HSB HM
    have HX := HX1
    have HC := HC1
    have HR := HR1
    have HSB := HS1
    have HM := HM1
    clear HX1 HC1 HR1 HS1 HM1
    clear m5 m6
    have e0 := HX.out.cell 0
    have e1 := HX.out.cell 1
    have e2 := HX.out.cell 2
    have e3 := HX.out.cell 3
    have e4 := HX.out.cell 4
    have e5 := HX.out.cell 5
    have el := HX.out.lt
    have ef := HX.out.frozen
    have c0 := HC.out.cell 0
    have c1 := HC.out.cell 1
    have c2 := HC.out.cell 2
    have c3 := HC.out.cell 3
    have c4 := HC.out.cell 4
    have c5 := HC.out.cell 5
    have c6 := HC.out.cell 6
    have c7 := HC.out.cell 7
    have cl := HC.out.lt
    have r0 := HR.out.cell 0
    have r1 := HR.out.cell 1
    have r2 := HR.out.cell 2
    have r3 := HR.out.cell 3
    have r4 := HR.out.cell 4
    have r5 := HR.out.cell 5
    have rl := HR.out.lt
    have rf := HR.out.frozen
    simp only [List.getElem?_toArray, List.getElem?_cons_zero, List.getElem?_cons_succ] at e0 e1 e2 e3 e4 e5 c0 c1 c2 c3 c4 c5 c6 c7 r0 r1 r2 r3 r4 r5
    have t0 := HSB.out.cell 0
    have t1 := HSB.out.cell 1
    have t2 := HSB.out.cell 2
    have tl := HSB.out.lt
    simp only [List.getElem?_toArray, List.getElem?_cons_zero, List.getElem?_cons_succ] at t0 t1 t2
    have hB4 : xb + 1 + 1 < wb.heap.size := rl
    have hsbw : sb < wb.heap.size := tl
    have hgt1 : ¬ (xln : Int) < k := by omega
    have hkl : k ≤ xln := by omega
    by_cases h3 : ck = 3
    · have HEQ : Hid (R = (v.setL (v.list.take k ++ v.list.drop (k + 1)), 0)) := Lib.hid (by
        have hv := HVL.out
        rw [HLR.out, if_neg (by
          rintro (⟨-, hn⟩ | hn)
          · rw [HG4.out, List.getElem?_eq_none_iff] at hn; omega
          · omega), if_pos h3])
      have h3b : (ck == 3) = true := by simpa using h3
      clear h3
      have HAL0 : Hid (Al (TV w (fun g => G g ∧ g < xb) D) (xs.eraseIdx k) (v.list.take k ++ v.list.drop (k + 1))) := Lib.hid (HL2.out.cut k)
      obtain ⟨VR, hVR⟩ : ∃ r, xs.eraseIdx k = r := ⟨_, rfl⟩
      have HVR := Lib.hid hVR
      have HAL : Hid (Al (TV w (fun g => G g ∧ g < xb) D) VR (v.list.take k ++ v.list.drop (k + 1))) := Lib.hid (by rw [← hVR]; exact HAL0.out)
      clear hVR HAL0
      have hb1 : (k : Int) + 1 ≤ 6000 := by omega
      go_upto_region 20 with (fail)
      have HSR2 : Hid (∀ W, New wb W → (
        W.cell? ⟨xb, 0, none⟩ = some (.int .i64 xk) ∧ W.cell? ⟨xb, 1, none⟩ = some (.bool xf) ∧ W.cell? ⟨xb, 2, none⟩ = some (.int .i64 xn) ∧ W.cell? ⟨xb, 3, none⟩ = some (.string xw) ∧ W.cell? ⟨xb, 4, none⟩ = some (.slice xla xln xlc) ∧ W.cell? ⟨xb, 5, none⟩ = some (.slice xma xmn xmc) ∧
        W.cell? ⟨xb + 1, 0, none⟩ = some (.int .i64 ck) ∧ W.cell? ⟨xb + 1, 1, none⟩ = some (.slice ca cn cc) ∧ W.cell? ⟨xb + 1, 2, none⟩ = some (.int .i64 yk) ∧ W.cell? ⟨xb + 1, 3, none⟩ = some (.bool yf) ∧ W.cell? ⟨xb + 1, 4, none⟩ = some (.int .i64 yn) ∧ W.cell? ⟨xb + 1, 5, none⟩ = some (.string yw) ∧ W.cell? ⟨xb + 1, 6, none⟩ = some (.slice yla yln ylc) ∧ W.cell? ⟨xb + 1, 7, none⟩ = some (.slice yma ymn ymc) ∧
        W.cell? ⟨sb, 0, none⟩ = some (.bool false) ∧ W.cell? ⟨sb, 1, none⟩ = some (.string sn) ∧ W.cell? ⟨sb, 2, none⟩ = some (.int .i64 k) ∧ sb < W.heap.size ∧ xb < W.heap.size ∧ xb + 1 < W.heap.size
        )) := Lib.hid (fun W hW => by
        have h1 := HX.out.mod hW (fun e => e)
        have h2 := HC.out.mod hW (fun e => e)
        have h3 := HSB.out.mod hW (fun e => e)
        exact ⟨(h1.cell 0).trans rfl, (h1.cell 1).trans rfl, (h1.cell 2).trans rfl, (h1.cell 3).trans rfl, (h1.cell 4).trans rfl, (h1.cell 5).trans rfl, (h2.cell 0).trans rfl, (h2.cell 1).trans rfl, (h2.cell 2).trans rfl, (h2.cell 3).trans rfl, (h2.cell 4).trans rfl, (h2.cell 5).trans rfl, (h2.cell 6).trans rfl, (h2.cell 7).trans rfl, (h3.cell 0).trans rfl, (h3.cell 1).trans rfl, (h3.cell 2).trans rfl, h3.lt, h1.lt, h2.lt⟩)
      clear e0 e1 e2 e3 e4 e5 el ef c0 c1 c2 c3 c4 c5 c6 c7 cl r0 r1 r2 r3 r4 r5 rl rf
      clear t0 t1 t2 tl
      go_cut [] (fun wx => ∃ (A7 : Option Addr) (cap7 : Nat), Hid (Blk wx xb 29 #[.int .i64 xk, .bool xf, .int .i64 xn, .string xw, .slice A7 (VR).length cap7, .slice xma xmn xmc]) ∧ Hid (Own wx wb.heap.size 29 6 VA.enc A7 (VR).length cap7 (VR)) ∧ Hid (Mod (fun k => k = xb) wb wx))
      case first =>
        refine wp_region_held_tree (New wb) 9 (by kernel_rfl) (by kernel_rfl) ?_
        have hn0 : New wb wb.drew := (Mod.refl _ _).drew
        refine headW_take 0 _ ?_ (fun _ _ d _ _ h => by cases d <;> exact h) (by kernel_rfl) rfl (by kernel_rfl) hn0 (by rfl) (fun W hSw => ?_) ?_
        rotate_left
        · (have hq := HSR2.out W hSw); (try simp only [List.getElem_toArray, List.getElem_cons_zero, List.getElem_cons_succ]); go_simp; any_goals (with_reducible rfl)
        simp only [Act.put, List.getElem_toArray, List.getElem_cons_zero, List.getElem_cons_succ, List.setIfInBounds_toArray, List.set_cons_zero, List.set_cons_succ]
        refine headW_take 1 _ ?_ (fun _ _ d _ _ h => by cases d <;> exact h) (by kernel_rfl) rfl (by kernel_rfl) hn0 (by rfl) (fun W hSw => ?_) ?_
        rotate_left
        · (have hq := HSR2.out W hSw); (try simp only [List.getElem_toArray, List.getElem_cons_zero, List.getElem_cons_succ]); go_simp; any_goals (with_reducible rfl)
        simp only [Act.put, List.getElem_toArray, List.getElem_cons_zero, List.getElem_cons_succ, List.setIfInBounds_toArray, List.set_cons_zero, List.set_cons_succ]
        refine headW_take 3 _ ?_ (fun _ _ d _ _ h => by cases d <;> exact h) (by kernel_rfl) rfl (by kernel_rfl) hn0 (by rfl) (fun W hSw => ?_) ?_
        rotate_left
        · (have hq := HSR2.out W hSw); (try simp only [List.getElem_toArray, List.getElem_cons_zero, List.getElem_cons_succ]); go_simp; any_goals (with_reducible rfl)
        simp only [Act.put, List.getElem_toArray, List.getElem_cons_zero, List.getElem_cons_succ, List.setIfInBounds_toArray, List.set_cons_zero, List.set_cons_succ]
        refine headW_take 4 _ ?_ (fun _ _ d _ _ h => by cases d <;> exact h) (by kernel_rfl) rfl (by kernel_rfl) hn0 (by rfl) (fun W hSw => ?_) ?_
        rotate_left
        · (have hq := HSR2.out W hSw); (try simp only [List.getElem_toArray, List.getElem_cons_zero, List.getElem_cons_succ]); go_simp; any_goals (with_reducible rfl)
        simp only [Act.put, List.getElem_toArray, List.getElem_cons_zero, List.getElem_cons_succ, List.setIfInBounds_toArray, List.set_cons_zero, List.set_cons_succ]
        refine headW_take 5 _ ?_ (fun _ _ d _ _ h => by cases d <;> exact h) (by kernel_rfl) rfl (by kernel_rfl) hn0 (by rfl) (fun W hSw => ?_) ?_
        rotate_left
        · (have hq := HSR2.out W hSw); (try simp only [List.getElem_toArray, List.getElem_cons_zero, List.getElem_cons_succ]); go_simp; any_goals (with_reducible rfl)
        simp only [Act.put, List.getElem_toArray, List.getElem_cons_zero, List.getElem_cons_succ, List.setIfInBounds_toArray, List.set_cons_zero, List.set_cons_succ]
        refine headW_take 6 _ ?_ (fun _ _ d _ _ h => by cases d <;> exact h) (by kernel_rfl) rfl (by kernel_rfl) hn0 (by rfl) (fun W hSw => ?_) ?_
        rotate_left
        · (have hq := HSR2.out W hSw); (try simp only [List.getElem_toArray, List.getElem_cons_zero, List.getElem_cons_succ]); go_simp; any_goals (with_reducible rfl)
        simp only [Act.put, List.getElem_toArray, List.getElem_cons_zero, List.getElem_cons_succ, List.setIfInBounds_toArray, List.set_cons_zero, List.set_cons_succ]
        refine headW_take 7 _ ?_ (fun _ _ d _ _ h => by cases d <;> exact h) (by kernel_rfl) rfl (by kernel_rfl) hn0 (by rfl) (fun W hSw => ?_) ?_
        rotate_left
        · (have hq := HSR2.out W hSw); (try simp only [List.getElem_toArray, List.getElem_cons_zero, List.getElem_cons_succ]); go_simp; any_goals (with_reducible rfl)
        simp only [Act.put, List.getElem_toArray, List.getElem_cons_zero, List.getElem_cons_succ, List.setIfInBounds_toArray, List.set_cons_zero, List.set_cons_succ]
        refine headW_ready [2] (by kernel_rfl) (by rfl) ?_
        refine eachW_step rfl rfl (fun K hK => ?_) eachW_nil
        (try simp only [List.getElem_toArray, List.getElem_cons_zero, List.getElem_cons_succ])
        go_simp
        refine (HCLV.out _ (HM.out.trans hn0)).mono ?_
        rintro e w6 ⟨A6, cA, rfl, own6, m6⟩
        have HN := Lib.hid (Mod.trans hn0 m6)
        have HOW : Hid (Own w6 wb.heap.size 29 6 VA.enc A6 xln cA xs) := Lib.hid (own6.less (Mod.size hn0))
        clear own6 m6
        go_wp2_with fail
        refine hK.out _ _ HN.out (fun _ => ?_)
        clear hK K
        (try simp only [Act.put, List.getElem_toArray, List.getElem_cons_zero, List.getElem_cons_succ, List.setIfInBounds_toArray, List.set_cons_zero, List.set_cons_succ])
        refine headW_ready [8] (by kernel_rfl) (by rfl) ?_
        refine eachW_step rfl rfl (fun K hK => ?_) eachW_nil
        obtain ⟨g6, hA6, hBg6, -, -, -⟩ := HOW.out.form (by omega)
        subst hA6
        have hdel := delete_va w6 wb.heap.size g6 xln cA k xs HOW.out hlt (by omega)
        rw [HVR.out] at hdel
        (try simp only [List.getElem_toArray, List.getElem_cons_zero, List.getElem_cons_succ])
        go_simp
        rw [show IntKind.i64.wrap ((k : Int) + 1) = (k : Int) + 1 by rw [IntKind.wrap_i64]; omega]
        refine hdel.mono ?_
        clear hdel
        rintro e w9 ⟨rfl, own9, o9⟩
        have HN9 := Lib.hid (HN.out.step o9 (fun i hi e => by omega))
        clear o9
        go_wp2_with fail
        refine hK.out _ _ HN9.out (fun _ => ?_)
        clear hK K
        (try simp only [Act.put, List.getElem_toArray, List.getElem_cons_zero, List.getElem_cons_succ, List.setIfInBounds_toArray, List.set_cons_zero, List.set_cons_succ])
        refine headW_done (by kernel_rfl) ?_
        have HX9 := Lib.hid (HX.out.mod HN9.out (fun e => e))
        have e4 := HX9.out.cell 4
        have e5 := HX9.out.cell 5
        have el := HX9.out.lt
        have ef := HX9.out.frozen
        simp only [List.getElem?_toArray, List.getElem?_cons_zero, List.getElem?_cons_succ] at e4 e5
        have HO9 := Lib.hid (own9.mod (Only.set (Mod.refl (fun k => k = xb) w9) 4 (.slice (some ⟨g6, 0, none⟩) VR.length cA)) (fun i e q => by have := (own9.far' i e).1; omega))
        have HXX := Lib.hid (HX9.out.set 4 (.slice (some ⟨g6, 0, none⟩) VR.length cA))
        simp only [Array.setIfInBounds, List.size_toArray, List.length_cons, List.length_nil, Nat.reduceAdd, Nat.reduceLT, ↓reduceDIte, List.set_toArray, List.set_cons_zero, List.set_cons_succ] at HXX
        have HMX := Lib.hid ((HN9.out.mono (fun _ _ e => e.elim)).trans (Only.set (Mod.refl (fun k => k = xb) w9) 4 (.slice (some ⟨g6, 0, none⟩) VR.length cA)))
        clear own9
        go_wp2_with fail
        go_meet
        case rel => exact ⟨(some ⟨g6, 0, none⟩), cA, HXX, HO9, HMX⟩
      case rest =>
        rename World => wy
        obtain ⟨A7, cap7, HXY, HOY, HMY⟩ := hcut
        have HMB := HM
        have HRY := Lib.hid (HR.out.mod HMY.out (by omega))
        clear HX HR HC HM HSB
        have HTW : Hid (Tree wy (fun g => G g ∧ g < xb) (D + 1) ⟨xk, xf, xn, xw, xla, xln, xlc, xma, xmn, xmc⟩ v) := Lib.hid (Tree.mod HMY.out (fun g hg _ e => by have := hg.2; omega) _ _ _ (HT.out.new HMB.out))
        have HTYP := Tree.toL' (G := fun g => (G g ∧ g < xb) ∨ wb.heap.size ≤ g) (Tree.imp (fun g hg _ => .inl hg) _ _ _ HTW.out) HOY.out (HAL.out.imp (fun _ _ q => Tree.imp (fun g hg _ => .inl hg) _ _ _ (Tree.mod HMY.out (fun g hg _ e => by have := hg.2; omega) _ _ _ (q.new HMB.out)))) (fun g h => .inr h)
        have HTY : Hid (Tree wy (fun g => (G g ∧ g < xb) ∨ wb.heap.size ≤ g) (D + 1) ⟨xk, xf, xn, xw, A7, VR.length, cap7, xma, xmn, xmc⟩ (v.setL (v.list.take k ++ v.list.drop (k + 1)))) := Lib.hid HTYP
        have HM : Hid (New w wy) := Lib.hid (HMB.out.step HMY.out (fun i hi e => by have := HMB.out.size; omega))
        have HX := HXY
        have HR := HRY
        have e0 := HXY.out.cell 0
        have e1 := HXY.out.cell 1
        have e2 := HXY.out.cell 2
        have e3 := HXY.out.cell 3
        have e4 := HXY.out.cell 4
        have e5 := HXY.out.cell 5
        have el := HXY.out.lt
        have ef := HXY.out.frozen
        simp only [List.getElem?_toArray, List.getElem?_cons_zero, List.getElem?_cons_succ] at e0 e1 e2 e3 e4 e5
        have r0 := HRY.out.cell 0
        have r1 := HRY.out.cell 1
        have r2 := HRY.out.cell 2
        have r3 := HRY.out.cell 3
        have r4 := HRY.out.cell 4
        have r5 := HRY.out.cell 5
        have rl := HRY.out.lt
        have rf := HRY.out.frozen
        simp only [List.getElem?_toArray, List.getElem?_cons_zero, List.getElem?_cons_succ] at r0 r1 r2 r3 r4 r5
        go_wp2_with fail
        refine bodyPost_ret (v := .tuple #[VA.val ⟨xk, xf, xn, xw, A7, VR.length, cap7, xma, xmn, xmc⟩, .int .i64 0]) (by simp [results, Tryz.results38, go_sem, e0, e1, e2, e3, e4, e5, ef, r0, r1, r2, r3, r4, r5, rf]) rfl (RChg.to HEQ.out (y := ⟨xk, xf, xn, xw, A7, VR.length, cap7, xma, xmn, xmc⟩) (Tree.imp (G := fun g => (G g ∧ g < xb) ∨ wb.heap.size ≤ g) (fun g hg _ => by rcases hg with h | h; exact .inl h.1; exact .inr (by omega)) _ _ _ (Tree.mod (S := fun k => k = xb + 1 + 1) ?_ (fun g hg _ q => by rcases hg with h | h <;> omega) _ _ _ HTY.out)) ?_)
        · repeat (with_reducible (first | exact Mod.refl _ _ | (refine Mod.setCell ?_ (.inl (by first | rfl | omega | (dsimp only; omega) | skip)) _)))
        · repeat (with_reducible (first | exact HM.out | (refine Mod.setCell ?_ (.inr (by first | omega | (dsimp only; omega) | skip)) _)))
    · have h3b : (ck == 3) = false := by simpa using h3
      have HLR2 : Hid (R = if ck = 2 then (v.setL (v.list.take k ++ u :: v.list.drop k), 0) else (withR v ⟨false, sn, (k : Int)⟩ u, 0)) := Lib.hid (by rw [HLR.out, if_neg (by rw [HVL.out]; omega), if_neg h3])
      clear h3
      by_cases h2 : ck = 2
      · have HEQ : Hid (R = (v.setL (v.list.take k ++ u :: v.list.drop k), 0)) := Lib.hid (by rw [HLR2.out, if_pos h2])
        have h2b : (ck == 2) = true := by simpa using h2
        clear h2
        have HAL0 : Hid (Al (TV w (fun g => G g ∧ g < xb) D) (xs.take k ++ ⟨yk, yf, yn, yw, yla, yln, ylc, yma, ymn, ymc⟩ :: xs.drop k) (v.list.take k ++ u :: v.list.drop k)) := Lib.hid (HL2.out.ins k HU.out)
        obtain ⟨VR, hVR⟩ : ∃ r, (xs.take k ++ (⟨yk, yf, yn, yw, yla, yln, ylc, yma, ymn, ymc⟩ : VA) :: xs.drop k) = r := ⟨_, rfl⟩
        have HVR := Lib.hid hVR
        have HAL : Hid (Al (TV w (fun g => G g ∧ g < xb) D) VR (v.list.take k ++ u :: v.list.drop k)) := Lib.hid (by rw [← hVR]; exact HAL0.out)
        clear hVR HAL0
        go_upto_region 23 with (fail)
        have HSR2 : Hid (∀ W, New wb W → (
          W.cell? ⟨xb, 0, none⟩ = some (.int .i64 xk) ∧ W.cell? ⟨xb, 1, none⟩ = some (.bool xf) ∧ W.cell? ⟨xb, 2, none⟩ = some (.int .i64 xn) ∧ W.cell? ⟨xb, 3, none⟩ = some (.string xw) ∧ W.cell? ⟨xb, 4, none⟩ = some (.slice xla xln xlc) ∧ W.cell? ⟨xb, 5, none⟩ = some (.slice xma xmn xmc) ∧
          W.cell? ⟨xb + 1, 0, none⟩ = some (.int .i64 ck) ∧ W.cell? ⟨xb + 1, 1, none⟩ = some (.slice ca cn cc) ∧ W.cell? ⟨xb + 1, 2, none⟩ = some (.int .i64 yk) ∧ W.cell? ⟨xb + 1, 3, none⟩ = some (.bool yf) ∧ W.cell? ⟨xb + 1, 4, none⟩ = some (.int .i64 yn) ∧ W.cell? ⟨xb + 1, 5, none⟩ = some (.string yw) ∧ W.cell? ⟨xb + 1, 6, none⟩ = some (.slice yla yln ylc) ∧ W.cell? ⟨xb + 1, 7, none⟩ = some (.slice yma ymn ymc) ∧
          W.cell? ⟨sb, 0, none⟩ = some (.bool false) ∧ W.cell? ⟨sb, 1, none⟩ = some (.string sn) ∧ W.cell? ⟨sb, 2, none⟩ = some (.int .i64 k) ∧ sb < W.heap.size ∧ xb < W.heap.size ∧ xb + 1 < W.heap.size
          )) := Lib.hid (fun W hW => by
          have h1 := HX.out.mod hW (fun e => e)
          have h2 := HC.out.mod hW (fun e => e)
          have h3 := HSB.out.mod hW (fun e => e)
          exact ⟨(h1.cell 0).trans rfl, (h1.cell 1).trans rfl, (h1.cell 2).trans rfl, (h1.cell 3).trans rfl, (h1.cell 4).trans rfl, (h1.cell 5).trans rfl, (h2.cell 0).trans rfl, (h2.cell 1).trans rfl, (h2.cell 2).trans rfl, (h2.cell 3).trans rfl, (h2.cell 4).trans rfl, (h2.cell 5).trans rfl, (h2.cell 6).trans rfl, (h2.cell 7).trans rfl, (h3.cell 0).trans rfl, (h3.cell 1).trans rfl, (h3.cell 2).trans rfl, h3.lt, h1.lt, h2.lt⟩)
        clear e0 e1 e2 e3 e4 e5 el ef c0 c1 c2 c3 c4 c5 c6 c7 cl r0 r1 r2 r3 r4 r5 rl rf
        clear t0 t1 t2 tl
        go_cut [] (fun wx => ∃ (A7 : Option Addr) (cap7 : Nat), Hid (Blk wx xb 29 #[.int .i64 xk, .bool xf, .int .i64 xn, .string xw, .slice A7 (VR).length cap7, .slice xma xmn xmc]) ∧ Hid (Own wx wb.heap.size 29 6 VA.enc A7 (VR).length cap7 (VR)) ∧ Hid (Mod (fun k => k = xb) wb wx))
        case first =>
          refine wp_region_held_tree (New wb) 9 (by kernel_rfl) (by kernel_rfl) ?_
          have hn0 : New wb wb.drew := (Mod.refl _ _).drew
          refine headW_take 0 _ ?_ (fun _ _ d _ _ h => by cases d <;> exact h) (by kernel_rfl) rfl (by kernel_rfl) hn0 (by rfl) (fun W hSw => ?_) ?_
          rotate_left
          · (have hq := HSR2.out W hSw); (try simp only [List.getElem_toArray, List.getElem_cons_zero, List.getElem_cons_succ]); go_simp; any_goals (with_reducible rfl)
          simp only [Act.put, List.getElem_toArray, List.getElem_cons_zero, List.getElem_cons_succ, List.setIfInBounds_toArray, List.set_cons_zero, List.set_cons_succ]
          refine headW_take 1 _ ?_ (fun _ _ d _ _ h => by cases d <;> exact h) (by kernel_rfl) rfl (by kernel_rfl) hn0 (by rfl) (fun W hSw => ?_) ?_
          rotate_left
          · (have hq := HSR2.out W hSw); (try simp only [List.getElem_toArray, List.getElem_cons_zero, List.getElem_cons_succ]); go_simp; any_goals (with_reducible rfl)
          simp only [Act.put, List.getElem_toArray, List.getElem_cons_zero, List.getElem_cons_succ, List.setIfInBounds_toArray, List.set_cons_zero, List.set_cons_succ]
          refine headW_take 3 _ ?_ (fun _ _ d _ _ h => by cases d <;> exact h) (by kernel_rfl) rfl (by kernel_rfl) hn0 (by rfl) (fun W hSw => ?_) ?_
          rotate_left
          · (have hq := HSR2.out W hSw); (try simp only [List.getElem_toArray, List.getElem_cons_zero, List.getElem_cons_succ]); go_simp; any_goals (with_reducible rfl)
          simp only [Act.put, List.getElem_toArray, List.getElem_cons_zero, List.getElem_cons_succ, List.setIfInBounds_toArray, List.set_cons_zero, List.set_cons_succ]
          refine headW_take 4 _ ?_ (fun _ _ d _ _ h => by cases d <;> exact h) (by kernel_rfl) rfl (by kernel_rfl) hn0 (by rfl) (fun W hSw => ?_) ?_
          rotate_left
          · (have hq := HSR2.out W hSw); (try simp only [List.getElem_toArray, List.getElem_cons_zero, List.getElem_cons_succ]); go_simp; any_goals (with_reducible rfl)
          simp only [Act.put, List.getElem_toArray, List.getElem_cons_zero, List.getElem_cons_succ, List.setIfInBounds_toArray, List.set_cons_zero, List.set_cons_succ]
          refine headW_take 5 _ ?_ (fun _ _ d _ _ h => by cases d <;> exact h) (by kernel_rfl) rfl (by kernel_rfl) hn0 (by rfl) (fun W hSw => ?_) ?_
          rotate_left
          · (have hq := HSR2.out W hSw); (try simp only [List.getElem_toArray, List.getElem_cons_zero, List.getElem_cons_succ]); go_simp; any_goals (with_reducible rfl)
          simp only [Act.put, List.getElem_toArray, List.getElem_cons_zero, List.getElem_cons_succ, List.setIfInBounds_toArray, List.set_cons_zero, List.set_cons_succ]
          refine headW_take 6 _ ?_ (fun _ _ d _ _ h => by cases d <;> exact h) (by kernel_rfl) rfl (by kernel_rfl) hn0 (by rfl) (fun W hSw => ?_) ?_
          rotate_left
          · (have hq := HSR2.out W hSw); (try simp only [List.getElem_toArray, List.getElem_cons_zero, List.getElem_cons_succ]); go_simp; any_goals (with_reducible rfl)
          simp only [Act.put, List.getElem_toArray, List.getElem_cons_zero, List.getElem_cons_succ, List.setIfInBounds_toArray, List.set_cons_zero, List.set_cons_succ]
          refine headW_ready [2, 7] (by kernel_rfl) (by rfl) ?_
          refine eachW_step rfl rfl (fun K hK => ?_) (eachW_step rfl rfl (fun K hK => ?_) eachW_nil)
          · (try simp only [List.getElem_toArray, List.getElem_cons_zero, List.getElem_cons_succ])
            go_simp
            refine (HCLV.out _ (HM.out.trans hn0)).mono ?_
            rintro e w6 ⟨A6, cA, rfl, own6, m6⟩
            have HN := Lib.hid (Mod.trans hn0 m6)
            have HOW : Hid (Own w6 wb.heap.size 29 6 VA.enc A6 xln cA xs) := Lib.hid (own6.less (Mod.size hn0))
            clear own6 m6
            go_wp2_with fail
            refine hK.out _ _ HN.out (fun _ => ?_)
            clear hK K
            (try simp only [Act.put, List.getElem_toArray, List.getElem_cons_zero, List.getElem_cons_succ, List.setIfInBounds_toArray, List.set_cons_zero, List.set_cons_succ])
            refine headW_ready [7] (by kernel_rfl) (by rfl) ?_
            refine eachW_step rfl rfl (fun K hK => ?_) eachW_nil
            have HBL : Hid (Blk (w6.alloc (.cells #[.int .i64 yk, .bool yf, .int .i64 yn, .string yw, .slice yla yln ylc, .slice yma ymn ymc] 29)) w6.heap.size 29 (encL 6 VA.enc ⟨yk, yf, yn, yw, yla, yln, ylc, yma, ymn, ymc⟩).toArray) := Lib.hid (Blk.new _ _ _)
            have HMA : Hid (New w6 (w6.alloc (.cells #[.int .i64 yk, .bool yf, .int .i64 yn, .string yw, .slice yla yln ylc, .slice yma ymn ymc] 29))) := Lib.hid ((Mod.refl _ _).alloc _)
            (try simp only [List.getElem_toArray, List.getElem_cons_zero, List.getElem_cons_succ])
            go_simp
            have HNE : Hid (¬ blkOf A6 = some w6.heap.size) := Lib.hid (fun e => by have := (HOW.out.far' _ e).2.1; omega)
            have HOWa := Lib.hid (HOW.out.new HMA.out)
            have HNa := Lib.hid (HN.out.trans HMA.out)
            refine hK.out _ _ HNa.out (fun _ => ?_)
            clear hK K HOW HN HMA
            have HOW := HOWa
            have HN := HNa
            clear HOWa HNa
            (try simp only [Act.put, List.getElem_toArray, List.getElem_cons_zero, List.getElem_cons_succ, List.setIfInBounds_toArray, List.set_cons_zero, List.set_cons_succ])
            generalize w6.alloc (.cells #[.int .i64 yk, .bool yf, .int .i64 yn, .string yw, .slice yla yln ylc, .slice yma ymn ymc] 29) = wa at *
            generalize w6.heap.size = bi at *
            refine headW_ready [8] (by kernel_rfl) (by rfl) ?_
            refine eachW_step rfl rfl (fun K hK => ?_) eachW_nil
            have hins := insert_va _ wb.heap.size A6 xln cA k xs ⟨yk, yf, yn, yw, yla, yln, ylc, yma, ymn, ymc⟩ bi HOW.out HBL.out HNE.out HN.out.size (by omega) (by omega)
            rw [HVR.out] at hins
            (try simp only [List.getElem_toArray, List.getElem_cons_zero, List.getElem_cons_succ])
            go_simp
            refine hins.mono ?_
            clear hins
            rintro e w9 ⟨g9, cap9, rfl, own9, m9, -⟩
            have HN9 := Lib.hid (HN.out.step m9 (fun i hi e => by have := (HOW.out.far' i e).1; omega))
            clear m9
            go_wp2_with fail
            refine hK.out _ _ HN9.out (fun _ => ?_)
            clear hK K
            (try simp only [Act.put, List.getElem_toArray, List.getElem_cons_zero, List.getElem_cons_succ, List.setIfInBounds_toArray, List.set_cons_zero, List.set_cons_succ])
            refine headW_done (by kernel_rfl) ?_
            have HX9 := Lib.hid (HX.out.mod HN9.out (fun e => e))
            have e4 := HX9.out.cell 4
            have e5 := HX9.out.cell 5
            have el := HX9.out.lt
            have ef := HX9.out.frozen
            simp only [List.getElem?_toArray, List.getElem?_cons_zero, List.getElem?_cons_succ] at e4 e5
            have HO9 := Lib.hid (own9.mod (Only.set (Mod.refl (fun k => k = xb) w9) 4 (.slice (some ⟨g9, 0, none⟩) VR.length cap9)) (fun i e q => by have := (own9.far' i e).1; omega))
            have HXX := Lib.hid (HX9.out.set 4 (.slice (some ⟨g9, 0, none⟩) VR.length cap9))
            simp only [Array.setIfInBounds, List.size_toArray, List.length_cons, List.length_nil, Nat.reduceAdd, Nat.reduceLT, ↓reduceDIte, List.set_toArray, List.set_cons_zero, List.set_cons_succ] at HXX
            have HMX := Lib.hid ((HN9.out.mono (fun _ _ e => e.elim)).trans (Only.set (Mod.refl (fun k => k = xb) w9) 4 (.slice (some ⟨g9, 0, none⟩) VR.length cap9)))
            clear own9
            go_wp2_with fail
            go_meet
            case rel => exact ⟨(some ⟨g9, 0, none⟩), cap9, HXX, HO9, HMX⟩
          · have HB0 : Blk (wb.alloc (.cells #[.int .i64 yk, .bool yf, .int .i64 yn, .string yw, .slice yla yln ylc, .slice yma ymn ymc] 29)) wb.heap.size 29 (encL 6 VA.enc ⟨yk, yf, yn, yw, yla, yln, ylc, yma, ymn, ymc⟩).toArray := Blk.new _ _ _
            have HNa : Hid (New wb (World.drew (wb.alloc (.cells #[.int .i64 yk, .bool yf, .int .i64 yn, .string yw, .slice yla yln ylc, .slice yma ymn ymc] 29)))) := Lib.hid (((Mod.refl _ _).alloc _).drew)
            have HBL : Hid (Blk (World.drew (wb.alloc (.cells #[.int .i64 yk, .bool yf, .int .i64 yn, .string yw, .slice yla yln ylc, .slice yma ymn ymc] 29))) wb.heap.size 29 (encL 6 VA.enc ⟨yk, yf, yn, yw, yla, yln, ylc, yma, ymn, ymc⟩).toArray) := Lib.hid (HB0.mod (Mod.drew (Mod.refl (fun _ => False) _)) (fun e => e))
            clear HB0
            have hbi : wb.heap.size < (World.drew (wb.alloc (.cells #[.int .i64 yk, .bool yf, .int .i64 yn, .string yw, .slice yla yln ylc, .slice yma ymn ymc] 29))).heap.size := HBL.out.lt
            (try simp only [List.getElem_toArray, List.getElem_cons_zero, List.getElem_cons_succ])
            go_simp
            refine hK.out _ _ HNa.out (fun _ => ?_)
            clear hK K
            (try simp only [Act.put, List.getElem_toArray, List.getElem_cons_zero, List.getElem_cons_succ, List.setIfInBounds_toArray, List.set_cons_zero, List.set_cons_succ])
            generalize World.drew (wb.alloc (.cells #[.int .i64 yk, .bool yf, .int .i64 yn, .string yw, .slice yla yln ylc, .slice yma ymn ymc] 29)) = wa at *
            refine headW_ready [2] (by kernel_rfl) (by rfl) ?_
            refine eachW_step rfl rfl (fun K hK => ?_) eachW_nil
            (try simp only [List.getElem_toArray, List.getElem_cons_zero, List.getElem_cons_succ])
            go_simp
            refine (HCLV.out _ (HM.out.trans HNa.out)).mono ?_
            rintro e w6 ⟨A6, cA, rfl, own6, m6⟩
            have HN := Lib.hid (Mod.trans HNa.out m6)
            have HOW : Hid (Own w6 wb.heap.size 29 6 VA.enc A6 xln cA xs) := Lib.hid (own6.less (Mod.size HNa.out))
            have HNE : Hid (¬ blkOf A6 = some wb.heap.size) := Lib.hid (fun e => by have := (own6.far' _ e).1; omega)
            have HBL6 := Lib.hid (HBL.out.mod m6 (fun e => e))
            clear own6 m6 HBL
            have HBL := HBL6
            go_wp2_with fail
            refine hK.out _ _ HN.out (fun _ => ?_)
            clear hK K
            (try simp only [Act.put, List.getElem_toArray, List.getElem_cons_zero, List.getElem_cons_succ, List.setIfInBounds_toArray, List.set_cons_zero, List.set_cons_succ])
            refine headW_ready [8] (by kernel_rfl) (by rfl) ?_
            refine eachW_step rfl rfl (fun K hK => ?_) eachW_nil
            have hins := insert_va _ wb.heap.size A6 xln cA k xs ⟨yk, yf, yn, yw, yla, yln, ylc, yma, ymn, ymc⟩ wb.heap.size HOW.out HBL.out HNE.out HN.out.size (by omega) (by omega)
            rw [HVR.out] at hins
            (try simp only [List.getElem_toArray, List.getElem_cons_zero, List.getElem_cons_succ])
            go_simp
            refine hins.mono ?_
            clear hins
            rintro e w9 ⟨g9, cap9, rfl, own9, m9, -⟩
            have HN9 := Lib.hid (HN.out.step m9 (fun i hi e => by have := (HOW.out.far' i e).1; omega))
            clear m9
            go_wp2_with fail
            refine hK.out _ _ HN9.out (fun _ => ?_)
            clear hK K
            (try simp only [Act.put, List.getElem_toArray, List.getElem_cons_zero, List.getElem_cons_succ, List.setIfInBounds_toArray, List.set_cons_zero, List.set_cons_succ])
            refine headW_done (by kernel_rfl) ?_
            have HX9 := Lib.hid (HX.out.mod HN9.out (fun e => e))
            have e4 := HX9.out.cell 4
            have e5 := HX9.out.cell 5
            have el := HX9.out.lt
            have ef := HX9.out.frozen
            simp only [List.getElem?_toArray, List.getElem?_cons_zero, List.getElem?_cons_succ] at e4 e5
            have HO9 := Lib.hid (own9.mod (Only.set (Mod.refl (fun k => k = xb) w9) 4 (.slice (some ⟨g9, 0, none⟩) VR.length cap9)) (fun i e q => by have := (own9.far' i e).1; omega))
            have HXX := Lib.hid (HX9.out.set 4 (.slice (some ⟨g9, 0, none⟩) VR.length cap9))
            simp only [Array.setIfInBounds, List.size_toArray, List.length_cons, List.length_nil, Nat.reduceAdd, Nat.reduceLT, ↓reduceDIte, List.set_toArray, List.set_cons_zero, List.set_cons_succ] at HXX
            have HMX := Lib.hid ((HN9.out.mono (fun _ _ e => e.elim)).trans (Only.set (Mod.refl (fun k => k = xb) w9) 4 (.slice (some ⟨g9, 0, none⟩) VR.length cap9)))
            clear own9
            go_wp2_with fail
            go_meet
            case rel => exact ⟨(some ⟨g9, 0, none⟩), cap9, HXX, HO9, HMX⟩
        case rest =>
          rename World => wy
          obtain ⟨A7, cap7, HXY, HOY, HMY⟩ := hcut
          have HMB := HM
          have HRY := Lib.hid (HR.out.mod HMY.out (by omega))
          clear HX HR HC HM HSB
          have HTW : Hid (Tree wy (fun g => G g ∧ g < xb) (D + 1) ⟨xk, xf, xn, xw, xla, xln, xlc, xma, xmn, xmc⟩ v) := Lib.hid (Tree.mod HMY.out (fun g hg _ e => by have := hg.2; omega) _ _ _ (HT.out.new HMB.out))
          have HTYP := Tree.toL' (G := fun g => (G g ∧ g < xb) ∨ wb.heap.size ≤ g) (Tree.imp (fun g hg _ => .inl hg) _ _ _ HTW.out) HOY.out (HAL.out.imp (fun _ _ q => Tree.imp (fun g hg _ => .inl hg) _ _ _ (Tree.mod HMY.out (fun g hg _ e => by have := hg.2; omega) _ _ _ (q.new HMB.out)))) (fun g h => .inr h)
          have HTY : Hid (Tree wy (fun g => (G g ∧ g < xb) ∨ wb.heap.size ≤ g) (D + 1) ⟨xk, xf, xn, xw, A7, VR.length, cap7, xma, xmn, xmc⟩ (v.setL (v.list.take k ++ u :: v.list.drop k))) := Lib.hid HTYP
          have HM : Hid (New w wy) := Lib.hid (HMB.out.step HMY.out (fun i hi e => by have := HMB.out.size; omega))
          have HX := HXY
          have HR := HRY
          have e0 := HXY.out.cell 0
          have e1 := HXY.out.cell 1
          have e2 := HXY.out.cell 2
          have e3 := HXY.out.cell 3
          have e4 := HXY.out.cell 4
          have e5 := HXY.out.cell 5
          have el := HXY.out.lt
          have ef := HXY.out.frozen
          simp only [List.getElem?_toArray, List.getElem?_cons_zero, List.getElem?_cons_succ] at e0 e1 e2 e3 e4 e5
          have r0 := HRY.out.cell 0
          have r1 := HRY.out.cell 1
          have r2 := HRY.out.cell 2
          have r3 := HRY.out.cell 3
          have r4 := HRY.out.cell 4
          have r5 := HRY.out.cell 5
          have rl := HRY.out.lt
          have rf := HRY.out.frozen
          simp only [List.getElem?_toArray, List.getElem?_cons_zero, List.getElem?_cons_succ] at r0 r1 r2 r3 r4 r5
          go_wp2_with fail
          refine bodyPost_ret (v := .tuple #[VA.val ⟨xk, xf, xn, xw, A7, VR.length, cap7, xma, xmn, xmc⟩, .int .i64 0]) (by simp [results, Tryz.results38, go_sem, e0, e1, e2, e3, e4, e5, ef, r0, r1, r2, r3, r4, r5, rf]) rfl (RChg.to HEQ.out (y := ⟨xk, xf, xn, xw, A7, VR.length, cap7, xma, xmn, xmc⟩) (Tree.imp (G := fun g => (G g ∧ g < xb) ∨ wb.heap.size ≤ g) (fun g hg _ => by rcases hg with h | h; exact .inl h.1; exact .inr (by omega)) _ _ _ (Tree.mod (S := fun k => k = xb + 1 + 1) ?_ (fun g hg _ q => by rcases hg with h | h <;> omega) _ _ _ HTY.out)) ?_)
          · repeat (with_reducible (first | exact Mod.refl _ _ | (refine Mod.setCell ?_ (.inl (by first | rfl | omega | (dsimp only; omega) | skip)) _)))
          · repeat (with_reducible (first | exact HM.out | (refine Mod.setCell ?_ (.inr (by first | omega | (dsimp only; omega) | skip)) _)))
      · have HEQ : Hid (R = (withR v ⟨false, sn, (k : Int)⟩ u, 0)) := Lib.hid (by rw [HLR2.out, if_neg h2])
        have h2b : (ck == 2) = false := by simpa using h2
        clear h2
        have hwith := with_v (fun g => G g ∧ g < xb) D ⟨xk, xf, xn, xw, xla, xln, xlc, xma, xmn, xmc⟩ ⟨yk, yf, yn, yw, yla, yln, ylc, yma, ymn, ymc⟩ v u ⟨false, sn, (k : Int)⟩ wb (HT.out.new HM.out) (HU.out.new HM.out) HSR.out HWD.out.2.1 (by have := HWD.out.1; omega) (by simp only; omega) (fun _ => by show k ≤ v.list.length; have := HVL.out; omega)
        go_wp2_with fail
        refine hwith.mono ?_
        clear hwith
        rintro e w7 ⟨⟨zk, zf, zn, zw, zla, zln, zlc, zma, zmn, zmc⟩, rfl, htz, m7⟩
        have HTZ := Lib.hid htz
        have HX1 := Lib.hid (HX.out.mod m7 (fun e => e))
        have HC1 := Lib.hid (HC.out.mod m7 (fun e => e))
        have HR1 := Lib.hid (HR.out.mod m7 (fun e => e))
        have HS1 := Lib.hid (HSB.out.mod m7 (fun e => e))
        have HM1 := Lib.hid (HM.out.trans m7)
        clear e0 e1 e2 e3 e4 e5 el ef c0 c1 c2 c3 c4 c5 c6 c7 cl r0 r1 r2 r3 r4 r5 rl rf
        clear t0 t1 t2 tl
        clear HX HC HR HSB HM
        have HX := HX1
        have HC := HC1
        have HR := HR1
        have HSB := HS1
        have HM := HM1
        clear HX1 HC1 HR1 HS1 HM1
        have e0 := HX.out.cell 0
        have e1 := HX.out.cell 1
        have e2 := HX.out.cell 2
        have e3 := HX.out.cell 3
        have e4 := HX.out.cell 4
        have e5 := HX.out.cell 5
        have el := HX.out.lt
        have ef := HX.out.frozen
        have c0 := HC.out.cell 0
        have c1 := HC.out.cell 1
        have c2 := HC.out.cell 2
        have c3 := HC.out.cell 3
        have c4 := HC.out.cell 4
        have c5 := HC.out.cell 5
        have c6 := HC.out.cell 6
        have c7 := HC.out.cell 7
        have cl := HC.out.lt
        have r0 := HR.out.cell 0
        have r1 := HR.out.cell 1
        have r2 := HR.out.cell 2
        have r3 := HR.out.cell 3
        have r4 := HR.out.cell 4
        have r5 := HR.out.cell 5
        have rl := HR.out.lt
        have rf := HR.out.frozen
        simp only [List.getElem?_toArray, List.getElem?_cons_zero, List.getElem?_cons_succ] at e0 e1 e2 e3 e4 e5 c0 c1 c2 c3 c4 c5 c6 c7 r0 r1 r2 r3 r4 r5
        have t0 := HSB.out.cell 0
        have t1 := HSB.out.cell 1
        have t2 := HSB.out.cell 2
        have tl := HSB.out.lt
        simp only [List.getElem?_toArray, List.getElem?_cons_zero, List.getElem?_cons_succ] at t0 t1 t2
        clear htz m7
        go_wp2_with fail
        refine bodyPost_ret (v := .tuple #[VA.val ⟨zk, zf, zn, zw, zla, zln, zlc, zma, zmn, zmc⟩, .int .i64 0]) (by simp [results, Tryz.results38, go_sem, e0, e1, e2, e3, e4, e5, ef, r0, r1, r2, r3, r4, r5, rf]) rfl (RChg.to HEQ.out (y := ⟨zk, zf, zn, zw, zla, zln, zlc, zma, zmn, zmc⟩) (Tree.imp (G := fun g => (G g ∧ g < xb) ∨ wb.heap.size ≤ g) (fun g hg _ => by rcases hg with h | h; exact .inl h.1; exact .inr (by omega)) _ _ _ (Tree.mod (S := fun k => k = xb + 1 + 1) ?_ (fun g hg _ q => by rcases hg with h | h <;> omega) _ _ _ HTZ.out)) ?_)
        · repeat (with_reducible (first | exact Mod.refl _ _ | (refine Mod.setCell ?_ (.inl (by first | rfl | omega | (dsimp only; omega) | skip)) _)))
        · repeat (with_reducible (first | exact HM.out | (refine Mod.setCell ?_ (.inr (by first | omega | (dsimp only; omega) | skip)) _)))

end Go.Proofs.YtahofcopedlenaaGreatDoor
