/- One change: of members, of a list (the program). Conditions: rows of at most 1000. -/
import Derived.Test.YtahofcopedlenaaGreatDoorBin
import Derived.Test.YtahofcopedlenaaGreatDoorInsV
import Derived.Test.YtahofcopedlenaaGreatDoorDelV
namespace Go.Proofs.YtahofcopedlenaaGreatDoor
open Go.RowKit
set_option linter.unusedVariables false
set_option linter.unusedSimpArgs false

/-- what a change answers -/
def RChg (G : Nat → Prop) (d : Nat) (w : World) (r : VT × Int) (e : Ending) (w' : World) : Prop := ∃ y : VA, e = .returned (.tuple #[y.val, .int .i64 r.2]) ∧ Tree w' (fun g => G g ∨ w.heap.size ≤ g) d y r.1 ∧ New w w'
theorem Tree.oldG {w : World} {G : Nat → Prop} {d : Nat} {x : VA} {v : VT} (h : Tree w G d x v) : Tree w (fun g => G g ∧ g < w.heap.size) d x v := Tree.imp (fun g hg hl => ⟨hg, hl⟩) _ _ _ h
theorem RChg.of {G : Nat → Prop} {d : Nat} {w w' : World} {r : VT × Int} {y : VA} {u : VT} {k : Int} (h : r = (u, k)) (ht : Tree w G d y u) (hm : New w w') : RChg G d w r (.returned (.tuple #[y.val, .int .i64 k])) w' := ⟨y, by rw [h], by rw [h]; exact Tree.imp (fun g hg _ => .inl hg) _ _ _ (ht.new hm), hm⟩
theorem RChg.to {G : Nat → Prop} {d : Nat} {w w' : World} {r : VT × Int} {y : VA} {u : VT} {k : Int} (h : r = (u, k)) (ht : Tree w' (fun g => G g ∨ w.heap.size ≤ g) d y u) (hm : New w w') : RChg G d w r (.returned (.tuple #[y.val, .int .i64 k])) w' := ⟨y, by rw [h], by rw [h]; exact ht, hm⟩



set_option maxRecDepth 100000 in
set_option maxHeartbeats 1000000 in
theorem changedMembers_v (G : Nat → Prop) (d : Nat) (x : VA) (v : VT) (c : CA) (u : VT) (s : ByteArray) (w : World) (ht : Tree w G (d + 1) x v) (hu : Tree w G d c.v u) (hsrt : Srt v.mem) (hm : v.mem.length ≤ 1000) :
    Calls Tryz.prog 51 #[x.val, c.val, .string s] w (RChg G (d + 1) w (chM v c.kind s u)) := by
  obtain ⟨xs, ms, h1, h2, h3, h4⟩ := ht.als
  obtain ⟨f1, -, -, -, f5, f6⟩ := ht.fields
  have HMA := Lib.hid (fun W (h : New w W) => memberAt_v x.ma x.mn x.mc ms v.mem s W (h3.sl.new h) f6 (fun i a b => (h4.get i a b).1) hsrt (by omega))
  have HCL := Lib.hid (fun W (h : New w W) => cloneMA ms x.ma x.mn x.mc W (h3.sl.new h) (by omega))
  have HL4 := Lib.hid (h4.imp (fun _ _ q => (⟨q.1, q.2.oldG⟩ : TM w (fun g => G g ∧ g < w.heap.size) d _ _)))
  have HT := Lib.hid ht
  have HT0 := Lib.hid ht.oldG
  have HU := Lib.hid hu.oldG
  have HF3 := Lib.hid h3.1
  obtain ⟨R, hR⟩ : ∃ R, R = chM v c.kind s u := ⟨_, rfl⟩
  rw [← hR]
  obtain ⟨xk, xf, xn, xw, xla, xln, xlc, xma, xmn, xmc⟩ := x
  obtain ⟨ck, ca, cn, cc, cv⟩ := c
  obtain ⟨yk, yf, yn, yw, yla, yln, ylc, yma, ymn, ymc⟩ := cv
  simp only at f1 f5 f6 HMA HCL HT HT0 HU HF3 hR
  have hmn : xmn ≤ 1000 := by omega
  have HRR : Hid (R = chM v ck s u) := Lib.hid hR
  have HF1 := Lib.hid f1
  have HF6 := Lib.hid f6
  clear ht hu h1 h2 h3 h4 hsrt hm f1 f5 f6 hR
  go_enter Tryz.func51, Tryz.ntmps51
  have hx := Blk.new w 29 #[.int .i64 xk, .bool xf, .int .i64 xn, .string xw, .slice xla xln xlc, .slice xma xmn xmc]
  have m1 : New w (w.alloc (.cells #[.int .i64 xk, .bool xf, .int .i64 xn, .string xw, .slice xla xln xlc, .slice xma xmn xmc] 29)) := (Mod.refl _ _).alloc _
  have z1 : (w.alloc (.cells #[.int .i64 xk, .bool xf, .int .i64 xn, .string xw, .slice xla xln xlc, .slice xma xmn xmc] 29)).heap.size = w.heap.size + 1 := by simp
  go_upto_region 1 with (fail)
  generalize w.alloc (.cells #[.int .i64 xk, .bool xf, .int .i64 xn, .string xw, .slice xla xln xlc, .slice xma xmn xmc] 29) = w1 at *
  have hy := Blk.new w1 57 #[.int .i64 ck, .slice ca cn cc, .int .i64 yk, .bool yf, .int .i64 yn, .string yw, .slice yla yln ylc, .slice yma ymn ymc]
  have m2 : New w1 (w1.alloc (.cells #[.int .i64 ck, .slice ca cn cc, .int .i64 yk, .bool yf, .int .i64 yn, .string yw, .slice yla yln ylc, .slice yma ymn ymc] 57)) := (Mod.refl _ _).alloc _
  have z2 : (w1.alloc (.cells #[.int .i64 ck, .slice ca cn cc, .int .i64 yk, .bool yf, .int .i64 yn, .string yw, .slice yla yln ylc, .slice yma ymn ymc] 57)).heap.size = w1.heap.size + 1 := by simp
  generalize w1.alloc (.cells #[.int .i64 ck, .slice ca cn cc, .int .i64 yk, .bool yf, .int .i64 yn, .string yw, .slice yla yln ylc, .slice yma ymn ymc] 57) = w2 at *
  have hz := Blk.new w2 29 #[.int .i64 0, .bool false, .int .i64 0, .string ⟨#[]⟩, .slice none 0 0, .slice none 0 0]
  have m3 : New w2 (w2.alloc (.cells #[.int .i64 0, .bool false, .int .i64 0, .string ⟨#[]⟩, .slice none 0 0, .slice none 0 0] 29)) := (Mod.refl _ _).alloc _
  generalize w2.alloc (.cells #[.int .i64 0, .bool false, .int .i64 0, .string ⟨#[]⟩, .slice none 0 0, .slice none 0 0] 29) = w3 at *
  rw [z1] at hy z2
  rw [z2] at hz
  have HX := Lib.hid ((hx.mod m2 (fun e => e)).mod m3 (fun e => e))
  have HC := Lib.hid (hy.mod m3 (fun e => e))
  have HR := Lib.hid hz
  have HM := Lib.hid ((m1.trans m2).trans m3)
  clear hx hy hz m1 m2 m3 z1 z2
  generalize hxb : w.heap.size = xb at *
  have e0 := HX.out.cell 0
  have e1 := HX.out.cell 1
  have e2 := HX.out.cell 2
  have e3 := HX.out.cell 3
  have e4 := HX.out.cell 4
  have e5 := HX.out.cell 5
  have el := HX.out.lt
  have ef := HX.out.frozen
  have c0 := HC.out.cell 0
  have c1 := HC.out.cell 1
  have c2 := HC.out.cell 2
  have c3 := HC.out.cell 3
  have c4 := HC.out.cell 4
  have c5 := HC.out.cell 5
  have c6 := HC.out.cell 6
  have c7 := HC.out.cell 7
  have cl := HC.out.lt
  have r0 := HR.out.cell 0
  have r1 := HR.out.cell 1
  have r2 := HR.out.cell 2
  have r3 := HR.out.cell 3
  have r4 := HR.out.cell 4
  have r5 := HR.out.cell 5
  have rl := HR.out.lt
  have rf := HR.out.frozen
  simp only [List.getElem?_toArray, List.getElem?_cons_zero, List.getElem?_cons_succ] at e0 e1 e2 e3 e4 e5 c0 c1 c2 c3 c4 c5 c6 c7 r0 r1 r2 r3 r4 r5
  by_cases hk5 : xk = 5
  rotate_left
  · have HEQ : Hid (R = (v, 10)) := Lib.hid (by
      have h1 := HF1.out
      rw [HRR.out]; unfold chM
      rw [if_pos (fun q => hk5 (by rw [← h1]; exact q))])
    have hk6 : (xk != 5) = true := by simpa using hk5
    clear hk5
    go_wp2_with fail
    refine bodyPost_ret (v := .tuple #[VA.val ⟨xk, xf, xn, xw, xla, xln, xlc, xma, xmn, xmc⟩, .int .i64 10]) (by simp [results, Tryz.results51, go_sem, e0, e1, e2, e3, e4, e5, r0, r1, r2, r3, r4, r5, rf]) rfl (RChg.of HEQ.out HT.out ?_)
    repeat (with_reducible (first | exact HM.out | (refine Mod.setCell ?_ (.inr (by first | omega | (dsimp only; omega) | skip)) _)))
  have hk6 : (xk != 5) = false := by simpa using hk5
  have HK5 : Hid (v.kind = 5) := Lib.hid (by rw [HF1.out, hk5])
  clear hk5
  have hma := HMA.out w3 HM.out
  go_wp2_with fail
  refine hma.mono ?_
  clear hma
  rintro e w4 ⟨rfl, m4⟩
  have HX1 := Lib.hid (HX.out.mod m4 (fun e => e))
  have HC1 := Lib.hid (HC.out.mod m4 (fun e => e))
  have HR1 := Lib.hid (HR.out.mod m4 (fun e => e))
  have HM1 := Lib.hid (HM.out.trans m4)
  clear e0 e1 e2 e3 e4 e5 el ef c0 c1 c2 c3 c4 c5 c6 c7 cl r0 r1 r2 r3 r4 r5 rl rf
  clear HX HC HR HM
  have HX := HX1
  have HC := HC1
  have HR := HR1
  have HM := HM1
  clear HX1 HC1 HR1 HM1
  have e0 := HX.out.cell 0
  have e1 := HX.out.cell 1
  have e2 := HX.out.cell 2
  have e3 := HX.out.cell 3
  have e4 := HX.out.cell 4
  have e5 := HX.out.cell 5
  have el := HX.out.lt
  have ef := HX.out.frozen
  have c0 := HC.out.cell 0
  have c1 := HC.out.cell 1
  have c2 := HC.out.cell 2
  have c3 := HC.out.cell 3
  have c4 := HC.out.cell 4
  have c5 := HC.out.cell 5
  have c6 := HC.out.cell 6
  have c7 := HC.out.cell 7
  have cl := HC.out.lt
  have r0 := HR.out.cell 0
  have r1 := HR.out.cell 1
  have r2 := HR.out.cell 2
  have r3 := HR.out.cell 3
  have r4 := HR.out.cell 4
  have r5 := HR.out.cell 5
  have rl := HR.out.lt
  have rf := HR.out.frozen
  simp only [List.getElem?_toArray, List.getElem?_cons_zero, List.getElem?_cons_succ] at e0 e1 e2 e3 e4 e5 c0 c1 c2 c3 c4 c5 c6 c7 r0 r1 r2 r3 r4 r5
  clear m4
  have hcl := HCL.out w4 HM.out
  go_wp2_with fail
  refine hcl.mono ?_
  clear hcl
  rintro e w5 ⟨A, cA, rfl, own5, m5⟩
  have hB : xb + 1 + 1 < w4.heap.size := rl
  have hB5 : w4.heap.size ≤ w5.heap.size := m5.size
  have HX1 := Lib.hid (HX.out.mod m5 (fun e => e))
  have HC1 := Lib.hid (HC.out.mod m5 (fun e => e))
  have HR1 := Lib.hid (HR.out.mod m5 (fun e => e))
  have HM1 := Lib.hid (HM.out.trans m5)
  clear e0 e1 e2 e3 e4 e5 el ef c0 c1 c2 c3 c4 c5 c6 c7 cl r0 r1 r2 r3 r4 r5 rl rf
  clear HX HC HR HM
  have HX := HX1
  have HC := HC1
  have HR := HR1
  have HM := HM1
  clear HX1 HC1 HR1 HM1
  have e0 := HX.out.cell 0
  have e1 := HX.out.cell 1
  have e2 := HX.out.cell 2
  have e3 := HX.out.cell 3
  have e4 := HX.out.cell 4
  have e5 := HX.out.cell 5
  have el := HX.out.lt
  have ef := HX.out.frozen
  have c0 := HC.out.cell 0
  have c1 := HC.out.cell 1
  have c2 := HC.out.cell 2
  have c3 := HC.out.cell 3
  have c4 := HC.out.cell 4
  have c5 := HC.out.cell 5
  have c6 := HC.out.cell 6
  have c7 := HC.out.cell 7
  have cl := HC.out.lt
  have r0 := HR.out.cell 0
  have r1 := HR.out.cell 1
  have r2 := HR.out.cell 2
  have r3 := HR.out.cell 3
  have r4 := HR.out.cell 4
  have r5 := HR.out.cell 5
  have rl := HR.out.lt
  have rf := HR.out.frozen
  simp only [List.getElem?_toArray, List.getElem?_cons_zero, List.getElem?_cons_succ] at e0 e1 e2 e3 e4 e5 c0 c1 c2 c3 c4 c5 c6 c7 r0 r1 r2 r3 r4 r5
  generalize w4.heap.size = B at *
  have HOWN := Lib.hid own5
  clear own5 m5
  have HC5 := Lib.hid (chM5 HK5.out ck s u)
  by_cases hk3 : ck = 3
  · have hk4 : (ck == 3) = true := by simpa using hk3
    have HK3 := Lib.hid hk3
    clear hk3
    cases hh : hasAt v.mem s with
    | false =>
      have HEQ : Hid (R = (v, 8)) := Lib.hid (by rw [HRR.out, HC5.out, if_pos HK3.out, if_neg (by rw [hh]; exact Bool.false_ne_true)])
      go_wp2_with fail
      refine bodyPost_ret (v := .tuple #[VA.val ⟨xk, xf, xn, xw, xla, xln, xlc, xma, xmn, xmc⟩, .int .i64 8]) (by simp [results, Tryz.results51, go_sem, e0, e1, e2, e3, e4, e5, r0, r1, r2, r3, r4, r5, rf]) rfl (RChg.of HEQ.out HT.out ?_)
      repeat (with_reducible (first | exact HM.out | (refine Mod.setCell ?_ (.inr (by first | omega | (dsimp only; omega) | skip)) _)))
    | true =>
      have HEQ : Hid (R = (v.setM (v.mem.take (place v.mem s) ++ v.mem.drop (place v.mem s + 1)), 0)) := Lib.hid (by rw [HRR.out, HC5.out, if_pos HK3.out, if_pos hh])
      obtain ⟨hq, hn⟩ := hasAt_lt hh
      have hpl : place v.mem s < xmn := by have := HF6.out; omega
      have HAL1 := Lib.hid (HL4.out.cut (place v.mem s))
      clear hq hn hh
      generalize place v.mem s = pl at *
      obtain ⟨g, hA, hBg, htb, hnc, hcm⟩ := HOWN.out.form (by omega)
      subst hA
      have hdel := delete_ma w5 B g xmn cA pl ms HOWN.out hpl (by omega)
      have hb1 : (pl : Int) + 1 ≤ 2000 := by omega
      go_wp2_with fail
      refine hdel.mono ?_
      clear hdel
      rintro e w6 ⟨rfl, own6, o6⟩
      generalize ms.eraseIdx pl = ys at *
      generalize ys.length = n6 at *
      have HX1 := Lib.hid (HX.out.mod o6 (fun e => by omega))
      have HC1 := Lib.hid (HC.out.mod o6 (fun e => by omega))
      have HR1 := Lib.hid (HR.out.mod o6 (fun e => by omega))
      have HM1 := Lib.hid (HM.out.step o6 (fun i hi e => by omega))
      clear e0 e1 e2 e3 e4 e5 el ef c0 c1 c2 c3 c4 c5 c6 c7 cl r0 r1 r2 r3 r4 r5 rl rf
      clear HX HC HR HM
      have HX := HX1
      have HC := HC1
      have HR := HR1
      have HM := HM1
      clear HX1 HC1 HR1 HM1
      have e0 := HX.out.cell 0
      have e1 := HX.out.cell 1
      have e2 := HX.out.cell 2
      have e3 := HX.out.cell 3
      have e4 := HX.out.cell 4
      have e5 := HX.out.cell 5
      have el := HX.out.lt
      have ef := HX.out.frozen
      have c0 := HC.out.cell 0
      have c1 := HC.out.cell 1
      have c2 := HC.out.cell 2
      have c3 := HC.out.cell 3
      have c4 := HC.out.cell 4
      have c5 := HC.out.cell 5
      have c6 := HC.out.cell 6
      have c7 := HC.out.cell 7
      have cl := HC.out.lt
      have r0 := HR.out.cell 0
      have r1 := HR.out.cell 1
      have r2 := HR.out.cell 2
      have r3 := HR.out.cell 3
      have r4 := HR.out.cell 4
      have r5 := HR.out.cell 5
      have rl := HR.out.lt
      have rf := HR.out.frozen
      simp only [List.getElem?_toArray, List.getElem?_cons_zero, List.getElem?_cons_succ] at e0 e1 e2 e3 e4 e5 c0 c1 c2 c3 c4 c5 c6 c7 r0 r1 r2 r3 r4 r5
      have HOW := Lib.hid own6
      have HAL := Lib.hid HAL1.out
      have HTY : Hid (Tree w6 (fun g => (G g ∧ g < xb) ∨ B ≤ g) (d + 1) ⟨xk, xf, xn, xw, xla, xln, xlc, (some ⟨g, 0, none⟩), n6, cA⟩ (v.setM (v.mem.take pl ++ v.mem.drop (pl + 1)))) := Lib.hid (Tree.toM' (Tree.imp (fun g hg _ => .inl hg) _ _ _ (HT0.out.new HM.out)) HOW.out (HAL.out.imp (fun _ _ q => ⟨q.1, Tree.imp (fun g hg _ => .inl hg) _ _ _ (q.2.new HM.out)⟩)) (fun g h => .inr h))
      go_wp2_with fail
      refine bodyPost_ret (v := .tuple #[VA.val ⟨xk, xf, xn, xw, xla, xln, xlc, (some ⟨g, 0, none⟩), n6, cA⟩, .int .i64 0]) (by simp [results, Tryz.results51, go_sem, e0, e1, e2, e3, e4, e5, ef, r0, r1, r2, r3, r4, r5, rf]) rfl (RChg.to HEQ.out (y := ⟨xk, xf, xn, xw, xla, xln, xlc, (some ⟨g, 0, none⟩), n6, cA⟩) (Tree.imp (G := fun g => (G g ∧ g < xb) ∨ B ≤ g) (fun g hg _ => by rcases hg with h | h; exact .inl h.1; exact .inr (by omega)) _ _ _ (Tree.mod (S := fun k => xb ≤ k ∧ k < B) ?_ (fun g hg _ q => by rcases hg with h | h <;> omega) _ _ _ HTY.out)) ?_)
      · repeat (with_reducible (first | exact Mod.refl _ _ | (refine Mod.setCell ?_ (.inl ⟨by first | omega | (dsimp only; omega) | skip, by first | omega | (dsimp only; omega) | skip⟩) _)))
      · repeat (with_reducible (first | exact HM.out | (refine Mod.setCell ?_ (.inr (by first | omega | (dsimp only; omega) | skip)) _)))
  · have hk4 : (ck == 3) = false := by simpa using hk3
    have HK3 := Lib.hid hk3
    clear hk3
    cases hh : hasAt v.mem s with
    | true =>
      have HEQ : Hid (R = (v.setM (v.mem.set (place v.mem s) (s, u)), 0)) := Lib.hid (by rw [HRR.out, HC5.out, if_neg HK3.out, if_pos hh])
      obtain ⟨hq, hn⟩ := hasAt_lt hh
      have hpl : place v.mem s < xmn := by have := HF6.out; omega
      have hpm : place v.mem s < ms.length := by have := HF3.out; omega
      have hnm : ms[place v.mem s].name = s := by rw [(HL4.out.get _ hpm hq).1, hn]
      have HAL1 := Lib.hid (HL4.out.set (place v.mem s) (x := ⟨ms[place v.mem s].name, ⟨yk, yf, yn, yw, yla, yln, ylc, yma, ymn, ymc⟩⟩) (y := (s, u)) ⟨hnm, HU.out⟩)
      clear hq hn hh hnm
      generalize place v.mem s = pl at *
      obtain ⟨g, hA, hBg, htb, hnc, hcm⟩ := HOWN.out.form (by omega)
      subst hA
      have own6 := HOWN.out.set7v hpm ⟨yk, yf, yn, yw, yla, yln, ylc, yma, ymn, ymc⟩
      obtain ⟨g', o', hA, htb', hc0⟩ := HOWN.out.sl.2 (by omega)
      injection hA with hA
      injection hA with hA1 hA2
      subst hA1 hA2
      have hc := fun j (hj : j < 7) => hc0 pl hpm j hj
      have gf := HOWN.out.frozen
      have gl := htb.lt
      have hb1 : (0 : Int) ≤ (pl : Nat) := by omega
      have hb2 : ((pl : Nat) : Int) < xmn := by omega
      have o6 : Only g w5 ((((((w5.setCell ⟨g, pl * 7 + 1, none⟩ (.int .i64 yk)).setCell ⟨g, pl * 7 + 2, none⟩ (.bool yf)).setCell ⟨g, pl * 7 + 3, none⟩ (.int .i64 yn)).setCell ⟨g, pl * 7 + 4, none⟩ (.string yw)).setCell ⟨g, pl * 7 + 5, none⟩ (.slice yla yln ylc)).setCell ⟨g, pl * 7 + 6, none⟩ (.slice yma ymn ymc)) := (((((Only.set (Mod.refl _ _) _ _).set _ _).set _ _).set _ _).set _ _).set _ _
      simp only [VA.enc] at own6
      have b1 := hc 1 (by omega)
      have b2 := hc 2 (by omega)
      have b3 := hc 3 (by omega)
      have b4 := hc 4 (by omega)
      have b5 := hc 5 (by omega)
      have b6 := hc 6 (by omega)
      simp only [MA.enc, VA.enc, Nat.add_zero, Nat.zero_add] at b1 b2 b3 b4 b5 b6
      clear hc hc0 htb htb'
      go_upto_region 12 with (fail)
      generalize (((((w5.setCell ⟨g, pl * 7 + 1, none⟩ (.int .i64 yk)).setCell ⟨g, pl * 7 + 2, none⟩ (.bool yf)).setCell ⟨g, pl * 7 + 3, none⟩ (.int .i64 yn)).setCell ⟨g, pl * 7 + 4, none⟩ (.string yw)).setCell ⟨g, pl * 7 + 5, none⟩ (.slice yla yln ylc)).setCell ⟨g, pl * 7 + 6, none⟩ (.slice yma ymn ymc) = w6 at *
      clear b1 b2 b3 b4 b5 b6 gf gl
      have HX1 := Lib.hid (HX.out.mod o6 (fun e => by omega))
      have HC1 := Lib.hid (HC.out.mod o6 (fun e => by omega))
      have HR1 := Lib.hid (HR.out.mod o6 (fun e => by omega))
      have HM1 := Lib.hid (HM.out.step o6 (fun i hi e => by omega))
      clear e0 e1 e2 e3 e4 e5 el ef c0 c1 c2 c3 c4 c5 c6 c7 cl r0 r1 r2 r3 r4 r5 rl rf
      clear HX HC HR HM
      have HX := HX1
      have HC := HC1
      have HR := HR1
      have HM := HM1
      clear HX1 HC1 HR1 HM1
      have e0 := HX.out.cell 0
      have e1 := HX.out.cell 1
      have e2 := HX.out.cell 2
      have e3 := HX.out.cell 3
      have e4 := HX.out.cell 4
      have e5 := HX.out.cell 5
      have el := HX.out.lt
      have ef := HX.out.frozen
      have c0 := HC.out.cell 0
      have c1 := HC.out.cell 1
      have c2 := HC.out.cell 2
      have c3 := HC.out.cell 3
      have c4 := HC.out.cell 4
      have c5 := HC.out.cell 5
      have c6 := HC.out.cell 6
      have c7 := HC.out.cell 7
      have cl := HC.out.lt
      have r0 := HR.out.cell 0
      have r1 := HR.out.cell 1
      have r2 := HR.out.cell 2
      have r3 := HR.out.cell 3
      have r4 := HR.out.cell 4
      have r5 := HR.out.cell 5
      have rl := HR.out.lt
      have rf := HR.out.frozen
      simp only [List.getElem?_toArray, List.getElem?_cons_zero, List.getElem?_cons_succ] at e0 e1 e2 e3 e4 e5 c0 c1 c2 c3 c4 c5 c6 c7 r0 r1 r2 r3 r4 r5
      have HOW := Lib.hid own6
      have HAL := Lib.hid HAL1.out
      have HTY : Hid (Tree w6 (fun g => (G g ∧ g < xb) ∨ B ≤ g) (d + 1) ⟨xk, xf, xn, xw, xla, xln, xlc, (some ⟨g, 0, none⟩), xmn, cA⟩ (v.setM (v.mem.set pl (s, u)))) := Lib.hid (Tree.toM' (Tree.imp (fun g hg _ => .inl hg) _ _ _ (HT0.out.new HM.out)) HOW.out (HAL.out.imp (fun _ _ q => ⟨q.1, Tree.imp (fun g hg _ => .inl hg) _ _ _ (q.2.new HM.out)⟩)) (fun g h => .inr h))
      go_wp2_with fail
      refine bodyPost_ret (v := .tuple #[VA.val ⟨xk, xf, xn, xw, xla, xln, xlc, (some ⟨g, 0, none⟩), xmn, cA⟩, .int .i64 0]) (by simp [results, Tryz.results51, go_sem, e0, e1, e2, e3, e4, e5, ef, r0, r1, r2, r3, r4, r5, rf]) rfl (RChg.to HEQ.out (y := ⟨xk, xf, xn, xw, xla, xln, xlc, (some ⟨g, 0, none⟩), xmn, cA⟩) (Tree.imp (G := fun g => (G g ∧ g < xb) ∨ B ≤ g) (fun g hg _ => by rcases hg with h | h; exact .inl h.1; exact .inr (by omega)) _ _ _ (Tree.mod (S := fun k => xb ≤ k ∧ k < B) ?_ (fun g hg _ q => by rcases hg with h | h <;> omega) _ _ _ HTY.out)) ?_)
      · repeat (with_reducible (first | exact Mod.refl _ _ | (refine Mod.setCell ?_ (.inl ⟨by first | omega | (dsimp only; omega) | skip, by first | omega | (dsimp only; omega) | skip⟩) _)))
      · repeat (with_reducible (first | exact HM.out | (refine Mod.setCell ?_ (.inr (by first | omega | (dsimp only; omega) | skip)) _)))
    | false =>
      have HEQ : Hid (R = (v.setM (v.mem.take (place v.mem s) ++ (s, u) :: v.mem.drop (place v.mem s)), 0)) := Lib.hid (by rw [HRR.out, HC5.out, if_neg HK3.out, if_neg (by rw [hh]; exact Bool.false_ne_true)]; rfl)
      have hpl : place v.mem s ≤ xmn := by have := HF6.out; have := place_le v.mem s; omega
      have HAL1 := Lib.hid (HL4.out.ins (place v.mem s) (x := (⟨s, ⟨yk, yf, yn, yw, yla, yln, ylc, yma, ymn, ymc⟩⟩ : MA)) (y := (s, u)) ⟨rfl, HU.out⟩)
      clear hh
      generalize place v.mem s = pl at *
      have hfar : ∀ k, blkOf A = some k → B ≤ k := fun k e => by
        rcases HOWN.out.blk with ⟨hA, _⟩ | ⟨g', hA, hB', _⟩
        · subst hA; cases e
        · subst hA; injection e with e; simp only at e; omega
      have hfar2 : ∀ k, blkOf A = some k → k < w5.heap.size := fun k e => by
        rcases HOWN.out.blk with ⟨hA, _⟩ | ⟨g', hA, hB', ht'⟩
        · subst hA; cases e
        · subst hA; injection e with e; simp only at e; subst e; exact ht'.lt
      have mv : New w5 (w5.alloc (.cells #[.string s, .int .i64 yk, .bool yf, .int .i64 yn, .string yw, .slice yla yln ylc, .slice yma ymn ymc] 49)) := (Mod.refl _ _).alloc _
      have bv : Blk (w5.alloc (.cells #[.string s, .int .i64 yk, .bool yf, .int .i64 yn, .string yw, .slice yla yln ylc, .slice yma ymn ymc] 49)) w5.heap.size 49 (encL 7 MA.enc ⟨s, ⟨yk, yf, yn, yw, yla, yln, ylc, yma, ymn, ymc⟩⟩).toArray := Blk.new _ _ _
      have hins := insert_ma _ B A xmn cA pl ms ⟨s, ⟨yk, yf, yn, yw, yla, yln, ylc, yma, ymn, ymc⟩⟩ w5.heap.size (HOWN.out.new mv) bv (fun e => by have := hfar2 _ e; omega) (by have := mv.size; omega) hpl (by omega)
      clear bv
      go_wp2_with fail
      refine hins.mono ?_
      clear hins
      rintro e w6 ⟨g, cap6, rfl, own6, o6, -⟩
      generalize (ms.take pl ++ (⟨s, ⟨yk, yf, yn, yw, yla, yln, ylc, yma, ymn, ymc⟩⟩ : MA) :: ms.drop pl) = ys at *
      generalize ys.length = n6 at *
      have HX1 := Lib.hid ((HX.out.mod mv (fun e => e)).mod o6 (fun e => by have := hfar _ e; omega))
      have HC1 := Lib.hid ((HC.out.mod mv (fun e => e)).mod o6 (fun e => by have := hfar _ e; omega))
      have HR1 := Lib.hid ((HR.out.mod mv (fun e => e)).mod o6 (fun e => by have := hfar _ e; omega))
      have HM1 := Lib.hid ((HM.out.trans mv).step o6 (fun i hi e => by have := hfar _ e; omega))
      clear e0 e1 e2 e3 e4 e5 el ef c0 c1 c2 c3 c4 c5 c6 c7 cl r0 r1 r2 r3 r4 r5 rl rf
      clear HX HC HR HM
      have HX := HX1
      have HC := HC1
      have HR := HR1
      have HM := HM1
      clear HX1 HC1 HR1 HM1
      have e0 := HX.out.cell 0
      have e1 := HX.out.cell 1
      have e2 := HX.out.cell 2
      have e3 := HX.out.cell 3
      have e4 := HX.out.cell 4
      have e5 := HX.out.cell 5
      have el := HX.out.lt
      have ef := HX.out.frozen
      have c0 := HC.out.cell 0
      have c1 := HC.out.cell 1
      have c2 := HC.out.cell 2
      have c3 := HC.out.cell 3
      have c4 := HC.out.cell 4
      have c5 := HC.out.cell 5
      have c6 := HC.out.cell 6
      have c7 := HC.out.cell 7
      have cl := HC.out.lt
      have r0 := HR.out.cell 0
      have r1 := HR.out.cell 1
      have r2 := HR.out.cell 2
      have r3 := HR.out.cell 3
      have r4 := HR.out.cell 4
      have r5 := HR.out.cell 5
      have rl := HR.out.lt
      have rf := HR.out.frozen
      simp only [List.getElem?_toArray, List.getElem?_cons_zero, List.getElem?_cons_succ] at e0 e1 e2 e3 e4 e5 c0 c1 c2 c3 c4 c5 c6 c7 r0 r1 r2 r3 r4 r5
      clear mv o6
      have HOW := Lib.hid own6
      have HAL := Lib.hid HAL1.out
      have HTY : Hid (Tree w6 (fun g => (G g ∧ g < xb) ∨ B ≤ g) (d + 1) ⟨xk, xf, xn, xw, xla, xln, xlc, (some ⟨g, 0, none⟩), n6, cap6⟩ (v.setM (v.mem.take pl ++ (s, u) :: v.mem.drop pl))) := Lib.hid (Tree.toM' (Tree.imp (fun g hg _ => .inl hg) _ _ _ (HT0.out.new HM.out)) HOW.out (HAL.out.imp (fun _ _ q => ⟨q.1, Tree.imp (fun g hg _ => .inl hg) _ _ _ (q.2.new HM.out)⟩)) (fun g h => .inr h))
      go_wp2_with fail
      refine bodyPost_ret (v := .tuple #[VA.val ⟨xk, xf, xn, xw, xla, xln, xlc, (some ⟨g, 0, none⟩), n6, cap6⟩, .int .i64 0]) (by simp [results, Tryz.results51, go_sem, e0, e1, e2, e3, e4, e5, ef, r0, r1, r2, r3, r4, r5, rf]) rfl (RChg.to HEQ.out (y := ⟨xk, xf, xn, xw, xla, xln, xlc, (some ⟨g, 0, none⟩), n6, cap6⟩) (Tree.imp (G := fun g => (G g ∧ g < xb) ∨ B ≤ g) (fun g hg _ => by rcases hg with h | h; exact .inl h.1; exact .inr (by omega)) _ _ _ (Tree.mod (S := fun k => xb ≤ k ∧ k < B) ?_ (fun g hg _ q => by rcases hg with h | h <;> omega) _ _ _ HTY.out)) ?_)
      · repeat (with_reducible (first | exact Mod.refl _ _ | (refine Mod.setCell ?_ (.inl ⟨by first | omega | (dsimp only; omega) | skip, by first | omega | (dsimp only; omega) | skip⟩) _)))
      · repeat (with_reducible (first | exact HM.out | (refine Mod.setCell ?_ (.inr (by first | omega | (dsimp only; omega) | skip)) _)))

set_option maxRecDepth 100000 in
set_option maxHeartbeats 1000000 in
theorem changedList_v (G : Nat → Prop) (d : Nat) (x : VA) (v : VT) (c : CA) (u : VT) (s : Int) (w : World) (ht : Tree w G (d + 1) x v) (hu : Tree w G d c.v u) (hs : 0 ≤ s ∧ s ≤ 5000) (hm : v.list.length ≤ 1000) :
    Calls Tryz.prog 52 #[x.val, c.val, .int .i64 s] w (RChg G (d + 1) w (chL v c.kind s.toNat u)) := by
  obtain ⟨xs, ms, h1, h2, h3, h4⟩ := ht.als
  obtain ⟨f1, -, -, -, f5, f6⟩ := ht.fields
  obtain ⟨k, rfl⟩ := Int.eq_ofNat_of_zero_le hs.1
  have hk5 : k ≤ 5000 := by omega
  rw [show ((k : Nat) : Int).toNat = k from rfl]
  have HCL := Lib.hid (fun W (h : New w W) => cloneVA xs x.la x.ln x.lc W (h1.sl.new h) (by omega))
  have HL4 := Lib.hid (h2.imp (fun _ _ q => (q.oldG : TV w (fun g => G g ∧ g < w.heap.size) d _ _)))
  have HT := Lib.hid ht
  have HT0 := Lib.hid ht.oldG
  have HU := Lib.hid hu.oldG
  have HF3 := Lib.hid h1.1
  obtain ⟨R, hR⟩ : ∃ R, R = chL v c.kind k u := ⟨_, rfl⟩
  rw [← hR]
  obtain ⟨xk, xf, xn, xw, xla, xln, xlc, xma, xmn, xmc⟩ := x
  obtain ⟨ck, ca, cn, cc, cv⟩ := c
  obtain ⟨yk, yf, yn, yw, yla, yln, ylc, yma, ymn, ymc⟩ := cv
  simp only at f1 f5 f6 HCL HT HT0 HU HF3 hR
  have hln : xln ≤ 1000 := by omega
  have HRR : Hid (R = chL v ck k u) := Lib.hid hR
  have HF1 := Lib.hid f1
  have HF6 := Lib.hid f5
  clear ht hu h1 h2 h3 h4 hs hm f1 f5 f6 hR
  go_enter Tryz.func52, Tryz.ntmps52
  have hx := Blk.new w 29 #[.int .i64 xk, .bool xf, .int .i64 xn, .string xw, .slice xla xln xlc, .slice xma xmn xmc]
  have m1 : New w (w.alloc (.cells #[.int .i64 xk, .bool xf, .int .i64 xn, .string xw, .slice xla xln xlc, .slice xma xmn xmc] 29)) := (Mod.refl _ _).alloc _
  have z1 : (w.alloc (.cells #[.int .i64 xk, .bool xf, .int .i64 xn, .string xw, .slice xla xln xlc, .slice xma xmn xmc] 29)).heap.size = w.heap.size + 1 := by simp
  go_upto_region 1 with (fail)
  generalize w.alloc (.cells #[.int .i64 xk, .bool xf, .int .i64 xn, .string xw, .slice xla xln xlc, .slice xma xmn xmc] 29) = w1 at *
  have hy := Blk.new w1 57 #[.int .i64 ck, .slice ca cn cc, .int .i64 yk, .bool yf, .int .i64 yn, .string yw, .slice yla yln ylc, .slice yma ymn ymc]
  have m2 : New w1 (w1.alloc (.cells #[.int .i64 ck, .slice ca cn cc, .int .i64 yk, .bool yf, .int .i64 yn, .string yw, .slice yla yln ylc, .slice yma ymn ymc] 57)) := (Mod.refl _ _).alloc _
  have z2 : (w1.alloc (.cells #[.int .i64 ck, .slice ca cn cc, .int .i64 yk, .bool yf, .int .i64 yn, .string yw, .slice yla yln ylc, .slice yma ymn ymc] 57)).heap.size = w1.heap.size + 1 := by simp
  generalize w1.alloc (.cells #[.int .i64 ck, .slice ca cn cc, .int .i64 yk, .bool yf, .int .i64 yn, .string yw, .slice yla yln ylc, .slice yma ymn ymc] 57) = w2 at *
  have hz := Blk.new w2 29 #[.int .i64 0, .bool false, .int .i64 0, .string ⟨#[]⟩, .slice none 0 0, .slice none 0 0]
  have m3 : New w2 (w2.alloc (.cells #[.int .i64 0, .bool false, .int .i64 0, .string ⟨#[]⟩, .slice none 0 0, .slice none 0 0] 29)) := (Mod.refl _ _).alloc _
  generalize w2.alloc (.cells #[.int .i64 0, .bool false, .int .i64 0, .string ⟨#[]⟩, .slice none 0 0, .slice none 0 0] 29) = w3 at *
  rw [z1] at hy z2
  rw [z2] at hz
  have HX := Lib.hid ((hx.mod m2 (fun e => e)).mod m3 (fun e => e))
  have HC := Lib.hid (hy.mod m3 (fun e => e))
  have HR := Lib.hid hz
  have HM := Lib.hid ((m1.trans m2).trans m3)
  clear hx hy hz m1 m2 m3 z1 z2
  generalize hxb : w.heap.size = xb at *
  have e0 := HX.out.cell 0
  have e1 := HX.out.cell 1
  have e2 := HX.out.cell 2
  have e3 := HX.out.cell 3
  have e4 := HX.out.cell 4
  have e5 := HX.out.cell 5
  have el := HX.out.lt
  have ef := HX.out.frozen
  have c0 := HC.out.cell 0
  have c1 := HC.out.cell 1
  have c2 := HC.out.cell 2
  have c3 := HC.out.cell 3
  have c4 := HC.out.cell 4
  have c5 := HC.out.cell 5
  have c6 := HC.out.cell 6
  have c7 := HC.out.cell 7
  have cl := HC.out.lt
  have r0 := HR.out.cell 0
  have r1 := HR.out.cell 1
  have r2 := HR.out.cell 2
  have r3 := HR.out.cell 3
  have r4 := HR.out.cell 4
  have r5 := HR.out.cell 5
  have rl := HR.out.lt
  have rf := HR.out.frozen
  simp only [List.getElem?_toArray, List.getElem?_cons_zero, List.getElem?_cons_succ] at e0 e1 e2 e3 e4 e5 c0 c1 c2 c3 c4 c5 c6 c7 r0 r1 r2 r3 r4 r5
  by_cases hk5 : xk = 4
  rotate_left
  · have HEQ : Hid (R = (v, 10)) := Lib.hid (by
      have h1 := HF1.out
      rw [HRR.out]; unfold chL
      rw [if_pos (fun q => hk5 (by rw [← h1]; exact q))])
    have hk6 : (xk != 4) = true := by simpa using hk5
    clear hk5
    go_wp2_with fail
    refine bodyPost_ret (v := .tuple #[VA.val ⟨xk, xf, xn, xw, xla, xln, xlc, xma, xmn, xmc⟩, .int .i64 10]) (by simp [results, Tryz.results52, go_sem, e0, e1, e2, e3, e4, e5, r0, r1, r2, r3, r4, r5, rf]) rfl (RChg.of HEQ.out HT.out ?_)
    repeat (with_reducible (first | exact HM.out | (refine Mod.setCell ?_ (.inr (by first | omega | (dsimp only; omega) | skip)) _)))
  have hk6 : (xk != 4) = false := by simpa using hk5
  have HK5 : Hid (v.kind = 4) := Lib.hid (by rw [HF1.out, hk5])
  clear hk5
  have HC5 := Lib.hid (chL4 HK5.out ck k u)
  by_cases hgt : xln < k
  · have hgt1 : (xln : Int) < k := by omega
    have HEQ : Hid (R = (v, 8)) := Lib.hid (by rw [HRR.out, HC5.out, if_pos (.inl (by have := HF6.out; omega))])
    go_wp2_with fail
    refine bodyPost_ret (v := .tuple #[VA.val ⟨xk, xf, xn, xw, xla, xln, xlc, xma, xmn, xmc⟩, .int .i64 8]) (by simp [results, Tryz.results52, go_sem, e0, e1, e2, e3, e4, e5, r0, r1, r2, r3, r4, r5, rf]) rfl (RChg.of HEQ.out HT.out ?_)
    repeat (with_reducible (first | exact HM.out | (refine Mod.setCell ?_ (.inr (by first | omega | (dsimp only; omega) | skip)) _)))
  have hgt1 : ¬ (xln : Int) < k := by omega
  by_cases hk3 : ck = 3
  · have hk4 : (ck == 3) = true := by simpa using hk3
    have HK3 := Lib.hid hk3
    clear hk3
    by_cases hkl : k = xln
    · have HEQ : Hid (R = (v, 8)) := Lib.hid (by rw [HRR.out, HC5.out, if_pos (.inr ⟨HK3.out, by have := HF6.out; omega⟩)])
      have hkl1 : ((k : Int) == (xln : Int)) = true := by simp only [beq_iff_eq]; omega
      clear hkl
      go_wp2_with fail
      refine bodyPost_ret (v := .tuple #[VA.val ⟨xk, xf, xn, xw, xla, xln, xlc, xma, xmn, xmc⟩, .int .i64 8]) (by simp [results, Tryz.results52, go_sem, e0, e1, e2, e3, e4, e5, r0, r1, r2, r3, r4, r5, rf]) rfl (RChg.of HEQ.out HT.out ?_)
      repeat (with_reducible (first | exact HM.out | (refine Mod.setCell ?_ (.inr (by first | omega | (dsimp only; omega) | skip)) _)))
    · have hkl1 : ((k : Int) == (xln : Int)) = false := by simp; omega
      have HEQ : Hid (R = (v.setL (v.list.take k ++ v.list.drop (k + 1)), 0)) := Lib.hid (by
        have := HF6.out
        rw [HRR.out, HC5.out, if_neg (by omega), if_pos HK3.out])
      have HAL1 := Lib.hid (HL4.out.cut k)
      have hcl := HCL.out w3 HM.out
      go_wp2_with fail
      refine hcl.mono ?_
      clear hcl
      rintro e w5 ⟨A, cA, rfl, own5, m5⟩
      have hB : xb + 1 + 1 < w3.heap.size := rl
      have hB5 : w3.heap.size ≤ w5.heap.size := m5.size
      have HX1 := Lib.hid (HX.out.mod m5 (fun e => e))
      have HC1 := Lib.hid (HC.out.mod m5 (fun e => e))
      have HR1 := Lib.hid (HR.out.mod m5 (fun e => e))
      have HM1 := Lib.hid (HM.out.trans m5)
      clear e0 e1 e2 e3 e4 e5 el ef c0 c1 c2 c3 c4 c5 c6 c7 cl r0 r1 r2 r3 r4 r5 rl rf
      clear HX HC HR HM
      have HX := HX1
      have HC := HC1
      have HR := HR1
      have HM := HM1
      clear HX1 HC1 HR1 HM1
      have e0 := HX.out.cell 0
      have e1 := HX.out.cell 1
      have e2 := HX.out.cell 2
      have e3 := HX.out.cell 3
      have e4 := HX.out.cell 4
      have e5 := HX.out.cell 5
      have el := HX.out.lt
      have ef := HX.out.frozen
      have c0 := HC.out.cell 0
      have c1 := HC.out.cell 1
      have c2 := HC.out.cell 2
      have c3 := HC.out.cell 3
      have c4 := HC.out.cell 4
      have c5 := HC.out.cell 5
      have c6 := HC.out.cell 6
      have c7 := HC.out.cell 7
      have cl := HC.out.lt
      have r0 := HR.out.cell 0
      have r1 := HR.out.cell 1
      have r2 := HR.out.cell 2
      have r3 := HR.out.cell 3
      have r4 := HR.out.cell 4
      have r5 := HR.out.cell 5
      have rl := HR.out.lt
      have rf := HR.out.frozen
      simp only [List.getElem?_toArray, List.getElem?_cons_zero, List.getElem?_cons_succ] at e0 e1 e2 e3 e4 e5 c0 c1 c2 c3 c4 c5 c6 c7 r0 r1 r2 r3 r4 r5
      generalize w3.heap.size = B at *
      have HOWN := Lib.hid own5
      clear own5 m5
      obtain ⟨g, hA, hBg, htb, hnc, hcm⟩ := HOWN.out.form (by omega)
      subst hA
      have hdel := delete_va w5 B g xln cA k xs HOWN.out (by omega) (by omega)
      have hb1 : (k : Int) + 1 ≤ 6000 := by omega
      go_wp2_with fail
      refine hdel.mono ?_
      clear hdel
      rintro e w6 ⟨rfl, own6, o6⟩
      generalize xs.eraseIdx k = ys at *
      generalize ys.length = n6 at *
      have HX1 := Lib.hid (HX.out.mod o6 (fun e => by omega))
      have HC1 := Lib.hid (HC.out.mod o6 (fun e => by omega))
      have HR1 := Lib.hid (HR.out.mod o6 (fun e => by omega))
      have HM1 := Lib.hid (HM.out.step o6 (fun i hi e => by omega))
      clear e0 e1 e2 e3 e4 e5 el ef c0 c1 c2 c3 c4 c5 c6 c7 cl r0 r1 r2 r3 r4 r5 rl rf
      clear HX HC HR HM
      have HX := HX1
      have HC := HC1
      have HR := HR1
      have HM := HM1
      clear HX1 HC1 HR1 HM1
      have e0 := HX.out.cell 0
      have e1 := HX.out.cell 1
      have e2 := HX.out.cell 2
      have e3 := HX.out.cell 3
      have e4 := HX.out.cell 4
      have e5 := HX.out.cell 5
      have el := HX.out.lt
      have ef := HX.out.frozen
      have c0 := HC.out.cell 0
      have c1 := HC.out.cell 1
      have c2 := HC.out.cell 2
      have c3 := HC.out.cell 3
      have c4 := HC.out.cell 4
      have c5 := HC.out.cell 5
      have c6 := HC.out.cell 6
      have c7 := HC.out.cell 7
      have cl := HC.out.lt
      have r0 := HR.out.cell 0
      have r1 := HR.out.cell 1
      have r2 := HR.out.cell 2
      have r3 := HR.out.cell 3
      have r4 := HR.out.cell 4
      have r5 := HR.out.cell 5
      have rl := HR.out.lt
      have rf := HR.out.frozen
      simp only [List.getElem?_toArray, List.getElem?_cons_zero, List.getElem?_cons_succ] at e0 e1 e2 e3 e4 e5 c0 c1 c2 c3 c4 c5 c6 c7 r0 r1 r2 r3 r4 r5
      have HOW := Lib.hid own6
      have HAL := Lib.hid HAL1.out
      have HTY : Hid (Tree w6 (fun g => (G g ∧ g < xb) ∨ B ≤ g) (d + 1) ⟨xk, xf, xn, xw, (some ⟨g, 0, none⟩), n6, cA, xma, xmn, xmc⟩ (v.setL (v.list.take k ++ v.list.drop (k + 1)))) := Lib.hid (Tree.toL' (Tree.imp (fun g hg _ => .inl hg) _ _ _ (HT0.out.new HM.out)) HOW.out (HAL.out.imp (fun _ _ q => Tree.imp (fun g hg _ => .inl hg) _ _ _ (q.new HM.out))) (fun g h => .inr h))
      go_wp2_with fail
      refine bodyPost_ret (v := .tuple #[VA.val ⟨xk, xf, xn, xw, (some ⟨g, 0, none⟩), n6, cA, xma, xmn, xmc⟩, .int .i64 0]) (by simp [results, Tryz.results52, go_sem, e0, e1, e2, e3, e4, e5, ef, r0, r1, r2, r3, r4, r5, rf]) rfl (RChg.to HEQ.out (y := ⟨xk, xf, xn, xw, (some ⟨g, 0, none⟩), n6, cA, xma, xmn, xmc⟩) (Tree.imp (G := fun g => (G g ∧ g < xb) ∨ B ≤ g) (fun g hg _ => by rcases hg with h | h; exact .inl h.1; exact .inr (by omega)) _ _ _ (Tree.mod (S := fun k => xb ≤ k ∧ k < B) ?_ (fun g hg _ q => by rcases hg with h | h <;> omega) _ _ _ HTY.out)) ?_)
      · repeat (with_reducible (first | exact Mod.refl _ _ | (refine Mod.setCell ?_ (.inl ⟨by first | omega | (dsimp only; omega) | skip, by first | omega | (dsimp only; omega) | skip⟩) _)))
      · repeat (with_reducible (first | exact HM.out | (refine Mod.setCell ?_ (.inr (by first | omega | (dsimp only; omega) | skip)) _)))
  · have hk4 : (ck == 3) = false := by simpa using hk3
    have HK3 := Lib.hid hk3
    clear hk3
    by_cases hset : ck = 1 ∧ k < xln
    · obtain ⟨hck, hpl⟩ := hset
      have hck1 : (ck == 1) = true := by simpa using hck
      have HEQ : Hid (R = (v.setL (v.list.set k u), 0)) := Lib.hid (by
        have := HF6.out
        have h3 := HK3.out
        rw [HRR.out, HC5.out, if_neg (by omega), if_neg h3, if_pos ⟨hck, by omega⟩])
      clear hck
      have hpm : k < xs.length := by have := HF3.out; omega
      have HAL1 := Lib.hid (HL4.out.set k (x := (⟨yk, yf, yn, yw, yla, yln, ylc, yma, ymn, ymc⟩ : VA)) (y := u) HU.out)
      have hcl := HCL.out w3 HM.out
      go_wp2_with fail
      refine hcl.mono ?_
      clear hcl
      rintro e w5 ⟨A, cA, rfl, own5, m5⟩
      have hB : xb + 1 + 1 < w3.heap.size := rl
      have hB5 : w3.heap.size ≤ w5.heap.size := m5.size
      have HX1 := Lib.hid (HX.out.mod m5 (fun e => e))
      have HC1 := Lib.hid (HC.out.mod m5 (fun e => e))
      have HR1 := Lib.hid (HR.out.mod m5 (fun e => e))
      have HM1 := Lib.hid (HM.out.trans m5)
      clear e0 e1 e2 e3 e4 e5 el ef c0 c1 c2 c3 c4 c5 c6 c7 cl r0 r1 r2 r3 r4 r5 rl rf
      clear HX HC HR HM
      have HX := HX1
      have HC := HC1
      have HR := HR1
      have HM := HM1
      clear HX1 HC1 HR1 HM1
      have e0 := HX.out.cell 0
      have e1 := HX.out.cell 1
      have e2 := HX.out.cell 2
      have e3 := HX.out.cell 3
      have e4 := HX.out.cell 4
      have e5 := HX.out.cell 5
      have el := HX.out.lt
      have ef := HX.out.frozen
      have c0 := HC.out.cell 0
      have c1 := HC.out.cell 1
      have c2 := HC.out.cell 2
      have c3 := HC.out.cell 3
      have c4 := HC.out.cell 4
      have c5 := HC.out.cell 5
      have c6 := HC.out.cell 6
      have c7 := HC.out.cell 7
      have cl := HC.out.lt
      have r0 := HR.out.cell 0
      have r1 := HR.out.cell 1
      have r2 := HR.out.cell 2
      have r3 := HR.out.cell 3
      have r4 := HR.out.cell 4
      have r5 := HR.out.cell 5
      have rl := HR.out.lt
      have rf := HR.out.frozen
      simp only [List.getElem?_toArray, List.getElem?_cons_zero, List.getElem?_cons_succ] at e0 e1 e2 e3 e4 e5 c0 c1 c2 c3 c4 c5 c6 c7 r0 r1 r2 r3 r4 r5
      generalize w3.heap.size = B at *
      have HOWN := Lib.hid own5
      clear own5 m5
      obtain ⟨g, hA, hBg, htb, hnc, hcm⟩ := HOWN.out.form (by omega)
      subst hA
      have own6 := HOWN.out.set6 hpm ⟨yk, yf, yn, yw, yla, yln, ylc, yma, ymn, ymc⟩
      obtain ⟨g', o', hA, htb', hc0⟩ := HOWN.out.sl.2 (by omega)
      injection hA with hA
      injection hA with hA1 hA2
      subst hA1 hA2
      have hc := fun j (hj : j < 6) => hc0 k hpm j hj
      have gf := HOWN.out.frozen
      have gl := htb.lt
      have hb1 : (0 : Int) ≤ (k : Nat) := by omega
      have hb2 : ((k : Nat) : Int) < xln := by omega
      have o6 : Only g w5 ((((((w5.setCell ⟨g, k * 6, none⟩ (.int .i64 yk)).setCell ⟨g, k * 6 + 1, none⟩ (.bool yf)).setCell ⟨g, k * 6 + 2, none⟩ (.int .i64 yn)).setCell ⟨g, k * 6 + 3, none⟩ (.string yw)).setCell ⟨g, k * 6 + 4, none⟩ (.slice yla yln ylc)).setCell ⟨g, k * 6 + 5, none⟩ (.slice yma ymn ymc)) := (((((Only.set (Mod.refl _ _) _ _).set _ _).set _ _).set _ _).set _ _).set _ _
      simp only [VA.enc] at own6
      have b0 := hc 0 (by omega)
      have b1 := hc 1 (by omega)
      have b2 := hc 2 (by omega)
      have b3 := hc 3 (by omega)
      have b4 := hc 4 (by omega)
      have b5 := hc 5 (by omega)
      simp only [VA.enc, Nat.add_zero, Nat.zero_add] at b0 b1 b2 b3 b4 b5
      clear hc hc0 htb htb'
      go_upto_region 11 with (fail)
      generalize (((((w5.setCell ⟨g, k * 6, none⟩ (.int .i64 yk)).setCell ⟨g, k * 6 + 1, none⟩ (.bool yf)).setCell ⟨g, k * 6 + 2, none⟩ (.int .i64 yn)).setCell ⟨g, k * 6 + 3, none⟩ (.string yw)).setCell ⟨g, k * 6 + 4, none⟩ (.slice yla yln ylc)).setCell ⟨g, k * 6 + 5, none⟩ (.slice yma ymn ymc) = w6 at *
      clear b0 b1 b2 b3 b4 b5 gf gl
      have HX1 := Lib.hid (HX.out.mod o6 (fun e => by omega))
      have HC1 := Lib.hid (HC.out.mod o6 (fun e => by omega))
      have HR1 := Lib.hid (HR.out.mod o6 (fun e => by omega))
      have HM1 := Lib.hid (HM.out.step o6 (fun i hi e => by omega))
      clear e0 e1 e2 e3 e4 e5 el ef c0 c1 c2 c3 c4 c5 c6 c7 cl r0 r1 r2 r3 r4 r5 rl rf
      clear HX HC HR HM
      have HX := HX1
      have HC := HC1
      have HR := HR1
      have HM := HM1
      clear HX1 HC1 HR1 HM1
      have e0 := HX.out.cell 0
      have e1 := HX.out.cell 1
      have e2 := HX.out.cell 2
      have e3 := HX.out.cell 3
      have e4 := HX.out.cell 4
      have e5 := HX.out.cell 5
      have el := HX.out.lt
      have ef := HX.out.frozen
      have c0 := HC.out.cell 0
      have c1 := HC.out.cell 1
      have c2 := HC.out.cell 2
      have c3 := HC.out.cell 3
      have c4 := HC.out.cell 4
      have c5 := HC.out.cell 5
      have c6 := HC.out.cell 6
      have c7 := HC.out.cell 7
      have cl := HC.out.lt
      have r0 := HR.out.cell 0
      have r1 := HR.out.cell 1
      have r2 := HR.out.cell 2
      have r3 := HR.out.cell 3
      have r4 := HR.out.cell 4
      have r5 := HR.out.cell 5
      have rl := HR.out.lt
      have rf := HR.out.frozen
      simp only [List.getElem?_toArray, List.getElem?_cons_zero, List.getElem?_cons_succ] at e0 e1 e2 e3 e4 e5 c0 c1 c2 c3 c4 c5 c6 c7 r0 r1 r2 r3 r4 r5
      have HOW := Lib.hid own6
      have HAL := Lib.hid HAL1.out
      have HTY : Hid (Tree w6 (fun g => (G g ∧ g < xb) ∨ B ≤ g) (d + 1) ⟨xk, xf, xn, xw, (some ⟨g, 0, none⟩), xln, cA, xma, xmn, xmc⟩ (v.setL (v.list.set k u))) := Lib.hid (Tree.toL' (Tree.imp (fun g hg _ => .inl hg) _ _ _ (HT0.out.new HM.out)) HOW.out (HAL.out.imp (fun _ _ q => Tree.imp (fun g hg _ => .inl hg) _ _ _ (q.new HM.out))) (fun g h => .inr h))
      go_wp2_with fail
      refine bodyPost_ret (v := .tuple #[VA.val ⟨xk, xf, xn, xw, (some ⟨g, 0, none⟩), xln, cA, xma, xmn, xmc⟩, .int .i64 0]) (by simp [results, Tryz.results52, go_sem, e0, e1, e2, e3, e4, e5, ef, r0, r1, r2, r3, r4, r5, rf]) rfl (RChg.to HEQ.out (y := ⟨xk, xf, xn, xw, (some ⟨g, 0, none⟩), xln, cA, xma, xmn, xmc⟩) (Tree.imp (G := fun g => (G g ∧ g < xb) ∨ B ≤ g) (fun g hg _ => by rcases hg with h | h; exact .inl h.1; exact .inr (by omega)) _ _ _ (Tree.mod (S := fun k => xb ≤ k ∧ k < B) ?_ (fun g hg _ q => by rcases hg with h | h <;> omega) _ _ _ HTY.out)) ?_)
      · repeat (with_reducible (first | exact Mod.refl _ _ | (refine Mod.setCell ?_ (.inl ⟨by first | omega | (dsimp only; omega) | skip, by first | omega | (dsimp only; omega) | skip⟩) _)))
      · repeat (with_reducible (first | exact HM.out | (refine Mod.setCell ?_ (.inr (by first | omega | (dsimp only; omega) | skip)) _)))
    · have HEQ : Hid (R = (v.setL (v.list.take k ++ u :: v.list.drop k), 0)) := Lib.hid (by
        have := HF6.out
        have h3 := HK3.out
        rw [HRR.out, HC5.out, if_neg (by omega), if_neg h3, if_neg (by rw [this]; exact hset)])
      have hset1 : ((ck == 1) = false) ∨ ((ck == 1) = true ∧ ¬ ((k : Int) < xln)) := by
        by_cases e : ck = 1
        · exact .inr ⟨by simpa using e, by omega⟩
        · exact .inl (by simpa using e)
      clear hset
      have HAL1 := Lib.hid (HL4.out.ins k (x := (⟨yk, yf, yn, yw, yla, yln, ylc, yma, ymn, ymc⟩ : VA)) (y := u) HU.out)
      have hcl := HCL.out w3 HM.out
      go_wp2_with fail
      refine hcl.mono ?_
      clear hcl
      rintro e w5 ⟨A, cA, rfl, own5, m5⟩
      have hB : xb + 1 + 1 < w3.heap.size := rl
      have hB5 : w3.heap.size ≤ w5.heap.size := m5.size
      have HX1 := Lib.hid (HX.out.mod m5 (fun e => e))
      have HC1 := Lib.hid (HC.out.mod m5 (fun e => e))
      have HR1 := Lib.hid (HR.out.mod m5 (fun e => e))
      have HM1 := Lib.hid (HM.out.trans m5)
      clear e0 e1 e2 e3 e4 e5 el ef c0 c1 c2 c3 c4 c5 c6 c7 cl r0 r1 r2 r3 r4 r5 rl rf
      clear HX HC HR HM
      have HX := HX1
      have HC := HC1
      have HR := HR1
      have HM := HM1
      clear HX1 HC1 HR1 HM1
      have e0 := HX.out.cell 0
      have e1 := HX.out.cell 1
      have e2 := HX.out.cell 2
      have e3 := HX.out.cell 3
      have e4 := HX.out.cell 4
      have e5 := HX.out.cell 5
      have el := HX.out.lt
      have ef := HX.out.frozen
      have c0 := HC.out.cell 0
      have c1 := HC.out.cell 1
      have c2 := HC.out.cell 2
      have c3 := HC.out.cell 3
      have c4 := HC.out.cell 4
      have c5 := HC.out.cell 5
      have c6 := HC.out.cell 6
      have c7 := HC.out.cell 7
      have cl := HC.out.lt
      have r0 := HR.out.cell 0
      have r1 := HR.out.cell 1
      have r2 := HR.out.cell 2
      have r3 := HR.out.cell 3
      have r4 := HR.out.cell 4
      have r5 := HR.out.cell 5
      have rl := HR.out.lt
      have rf := HR.out.frozen
      simp only [List.getElem?_toArray, List.getElem?_cons_zero, List.getElem?_cons_succ] at e0 e1 e2 e3 e4 e5 c0 c1 c2 c3 c4 c5 c6 c7 r0 r1 r2 r3 r4 r5
      generalize w3.heap.size = B at *
      have HOWN := Lib.hid own5
      clear own5 m5
      have hfar : ∀ k, blkOf A = some k → B ≤ k := fun k e => by
        rcases HOWN.out.blk with ⟨hA, _⟩ | ⟨g', hA, hB', _⟩
        · subst hA; cases e
        · subst hA; injection e with e; simp only at e; omega
      have hfar2 : ∀ k, blkOf A = some k → k < w5.heap.size := fun k e => by
        rcases HOWN.out.blk with ⟨hA, _⟩ | ⟨g', hA, hB', ht'⟩
        · subst hA; cases e
        · subst hA; injection e with e; simp only at e; subst e; exact ht'.lt
      have mv : New w5 (w5.alloc (.cells #[.int .i64 yk, .bool yf, .int .i64 yn, .string yw, .slice yla yln ylc, .slice yma ymn ymc] 29)) := (Mod.refl _ _).alloc _
      have bv : Blk (w5.alloc (.cells #[.int .i64 yk, .bool yf, .int .i64 yn, .string yw, .slice yla yln ylc, .slice yma ymn ymc] 29)) w5.heap.size 29 (encL 6 VA.enc ⟨yk, yf, yn, yw, yla, yln, ylc, yma, ymn, ymc⟩).toArray := Blk.new _ _ _
      have hins := insert_va _ B A xln cA k xs ⟨yk, yf, yn, yw, yla, yln, ylc, yma, ymn, ymc⟩ w5.heap.size (HOWN.out.new mv) bv (fun e => by have := hfar2 _ e; omega) (by have := mv.size; omega) (by omega) (by omega)
      clear bv
      rcases hset1 with hs1 | ⟨hs1, hs2⟩
      · go_wp2_with fail
        refine hins.mono ?_
        clear hins
        rintro e w6 ⟨g, cap6, rfl, own6, o6, -⟩
        generalize (xs.take k ++ (⟨yk, yf, yn, yw, yla, yln, ylc, yma, ymn, ymc⟩ : VA) :: xs.drop k) = ys at *
        generalize ys.length = n6 at *
        have HX1 := Lib.hid ((HX.out.mod mv (fun e => e)).mod o6 (fun e => by have := hfar _ e; omega))
        have HC1 := Lib.hid ((HC.out.mod mv (fun e => e)).mod o6 (fun e => by have := hfar _ e; omega))
        have HR1 := Lib.hid ((HR.out.mod mv (fun e => e)).mod o6 (fun e => by have := hfar _ e; omega))
        have HM1 := Lib.hid ((HM.out.trans mv).step o6 (fun i hi e => by have := hfar _ e; omega))
        clear e0 e1 e2 e3 e4 e5 el ef c0 c1 c2 c3 c4 c5 c6 c7 cl r0 r1 r2 r3 r4 r5 rl rf
        clear HX HC HR HM
        have HX := HX1
        have HC := HC1
        have HR := HR1
        have HM := HM1
        clear HX1 HC1 HR1 HM1
        have e0 := HX.out.cell 0
        have e1 := HX.out.cell 1
        have e2 := HX.out.cell 2
        have e3 := HX.out.cell 3
        have e4 := HX.out.cell 4
        have e5 := HX.out.cell 5
        have el := HX.out.lt
        have ef := HX.out.frozen
        have c0 := HC.out.cell 0
        have c1 := HC.out.cell 1
        have c2 := HC.out.cell 2
        have c3 := HC.out.cell 3
        have c4 := HC.out.cell 4
        have c5 := HC.out.cell 5
        have c6 := HC.out.cell 6
        have c7 := HC.out.cell 7
        have cl := HC.out.lt
        have r0 := HR.out.cell 0
        have r1 := HR.out.cell 1
        have r2 := HR.out.cell 2
        have r3 := HR.out.cell 3
        have r4 := HR.out.cell 4
        have r5 := HR.out.cell 5
        have rl := HR.out.lt
        have rf := HR.out.frozen
        simp only [List.getElem?_toArray, List.getElem?_cons_zero, List.getElem?_cons_succ] at e0 e1 e2 e3 e4 e5 c0 c1 c2 c3 c4 c5 c6 c7 r0 r1 r2 r3 r4 r5
        clear mv o6
        have HOW := Lib.hid own6
        have HAL := Lib.hid HAL1.out
        have HTY : Hid (Tree w6 (fun g => (G g ∧ g < xb) ∨ B ≤ g) (d + 1) ⟨xk, xf, xn, xw, (some ⟨g, 0, none⟩), n6, cap6, xma, xmn, xmc⟩ (v.setL (v.list.take k ++ u :: v.list.drop k))) := Lib.hid (Tree.toL' (Tree.imp (fun g hg _ => .inl hg) _ _ _ (HT0.out.new HM.out)) HOW.out (HAL.out.imp (fun _ _ q => Tree.imp (fun g hg _ => .inl hg) _ _ _ (q.new HM.out))) (fun g h => .inr h))
        go_wp2_with fail
        refine bodyPost_ret (v := .tuple #[VA.val ⟨xk, xf, xn, xw, (some ⟨g, 0, none⟩), n6, cap6, xma, xmn, xmc⟩, .int .i64 0]) (by simp [results, Tryz.results52, go_sem, e0, e1, e2, e3, e4, e5, ef, r0, r1, r2, r3, r4, r5, rf]) rfl (RChg.to HEQ.out (y := ⟨xk, xf, xn, xw, (some ⟨g, 0, none⟩), n6, cap6, xma, xmn, xmc⟩) (Tree.imp (G := fun g => (G g ∧ g < xb) ∨ B ≤ g) (fun g hg _ => by rcases hg with h | h; exact .inl h.1; exact .inr (by omega)) _ _ _ (Tree.mod (S := fun k => xb ≤ k ∧ k < B) ?_ (fun g hg _ q => by rcases hg with h | h <;> omega) _ _ _ HTY.out)) ?_)
        · repeat (with_reducible (first | exact Mod.refl _ _ | (refine Mod.setCell ?_ (.inl ⟨by first | omega | (dsimp only; omega) | skip, by first | omega | (dsimp only; omega) | skip⟩) _)))
        · repeat (with_reducible (first | exact HM.out | (refine Mod.setCell ?_ (.inr (by first | omega | (dsimp only; omega) | skip)) _)))
      · go_wp2_with fail
        refine hins.mono ?_
        clear hins
        rintro e w6 ⟨g, cap6, rfl, own6, o6, -⟩
        generalize (xs.take k ++ (⟨yk, yf, yn, yw, yla, yln, ylc, yma, ymn, ymc⟩ : VA) :: xs.drop k) = ys at *
        generalize ys.length = n6 at *
        have HX1 := Lib.hid ((HX.out.mod mv (fun e => e)).mod o6 (fun e => by have := hfar _ e; omega))
        have HC1 := Lib.hid ((HC.out.mod mv (fun e => e)).mod o6 (fun e => by have := hfar _ e; omega))
        have HR1 := Lib.hid ((HR.out.mod mv (fun e => e)).mod o6 (fun e => by have := hfar _ e; omega))
        have HM1 := Lib.hid ((HM.out.trans mv).step o6 (fun i hi e => by have := hfar _ e; omega))
        clear e0 e1 e2 e3 e4 e5 el ef c0 c1 c2 c3 c4 c5 c6 c7 cl r0 r1 r2 r3 r4 r5 rl rf
        clear HX HC HR HM
        have HX := HX1
        have HC := HC1
        have HR := HR1
        have HM := HM1
        clear HX1 HC1 HR1 HM1
        have e0 := HX.out.cell 0
        have e1 := HX.out.cell 1
        have e2 := HX.out.cell 2
        have e3 := HX.out.cell 3
        have e4 := HX.out.cell 4
        have e5 := HX.out.cell 5
        have el := HX.out.lt
        have ef := HX.out.frozen
        have c0 := HC.out.cell 0
        have c1 := HC.out.cell 1
        have c2 := HC.out.cell 2
        have c3 := HC.out.cell 3
        have c4 := HC.out.cell 4
        have c5 := HC.out.cell 5
        have c6 := HC.out.cell 6
        have c7 := HC.out.cell 7
        have cl := HC.out.lt
        have r0 := HR.out.cell 0
        have r1 := HR.out.cell 1
        have r2 := HR.out.cell 2
        have r3 := HR.out.cell 3
        have r4 := HR.out.cell 4
        have r5 := HR.out.cell 5
        have rl := HR.out.lt
        have rf := HR.out.frozen
        simp only [List.getElem?_toArray, List.getElem?_cons_zero, List.getElem?_cons_succ] at e0 e1 e2 e3 e4 e5 c0 c1 c2 c3 c4 c5 c6 c7 r0 r1 r2 r3 r4 r5
        clear mv o6
        have HOW := Lib.hid own6
        have HAL := Lib.hid HAL1.out
        have HTY : Hid (Tree w6 (fun g => (G g ∧ g < xb) ∨ B ≤ g) (d + 1) ⟨xk, xf, xn, xw, (some ⟨g, 0, none⟩), n6, cap6, xma, xmn, xmc⟩ (v.setL (v.list.take k ++ u :: v.list.drop k))) := Lib.hid (Tree.toL' (Tree.imp (fun g hg _ => .inl hg) _ _ _ (HT0.out.new HM.out)) HOW.out (HAL.out.imp (fun _ _ q => Tree.imp (fun g hg _ => .inl hg) _ _ _ (q.new HM.out))) (fun g h => .inr h))
        go_wp2_with fail
        refine bodyPost_ret (v := .tuple #[VA.val ⟨xk, xf, xn, xw, (some ⟨g, 0, none⟩), n6, cap6, xma, xmn, xmc⟩, .int .i64 0]) (by simp [results, Tryz.results52, go_sem, e0, e1, e2, e3, e4, e5, ef, r0, r1, r2, r3, r4, r5, rf]) rfl (RChg.to HEQ.out (y := ⟨xk, xf, xn, xw, (some ⟨g, 0, none⟩), n6, cap6, xma, xmn, xmc⟩) (Tree.imp (G := fun g => (G g ∧ g < xb) ∨ B ≤ g) (fun g hg _ => by rcases hg with h | h; exact .inl h.1; exact .inr (by omega)) _ _ _ (Tree.mod (S := fun k => xb ≤ k ∧ k < B) ?_ (fun g hg _ q => by rcases hg with h | h <;> omega) _ _ _ HTY.out)) ?_)
        · repeat (with_reducible (first | exact Mod.refl _ _ | (refine Mod.setCell ?_ (.inl ⟨by first | omega | (dsimp only; omega) | skip, by first | omega | (dsimp only; omega) | skip⟩) _)))
        · repeat (with_reducible (first | exact HM.out | (refine Mod.setCell ?_ (.inr (by first | omega | (dsimp only; omega) | skip)) _)))

end Go.Proofs.YtahofcopedlenaaGreatDoor
