/- Comparing two values: the program's. (XValE, the reference's member comparison, is printed out of this by mkvale.py.) Conditions: the values stand in memory as trees. -/
import Derived.Test.YtahofcopedlenaaGreatDoorValC
import Derived.Test.YtahofcopedlenaaGreatDoorVal2
import Derived.Test.YtahofcopedlenaaGreatDoorHeld2
namespace Go.Proofs.YtahofcopedlenaaGreatDoor
open Go.RowKit
set_option linter.unusedVariables false
set_option linter.unusedSimpArgs false

theorem enters_valueCompare (args : Array Value) (w : World) : (callFunc 77 args).run Tryz.prog w = .ok (.enter 77 args) w := by
  go_simp
theorem enters_valueCompare1 (args : Array Value) (w : World) : (callFunc 99 args).run Tryz.prog w = .ok (.enter 99 args) w := by
  go_simp

theorem Tree.rows {w : World} {G : Nat → Prop} {d : Nat} {x : VA} {v : VT} (h : Tree w G (d + 1) x v) : ∃ (xs : List VA) (ms : List MA), Row w G 29 6 VA.enc x.la x.ln xs ∧ xs.length = v.list.length ∧ (∀ i (h : i < xs.length) (h' : i < v.list.length), Tree w G d xs[i] v.list[i]) ∧
    Row w G 49 7 MA.enc x.ma x.mn ms ∧ ms.length = v.mem.length ∧ ∀ i (h : i < ms.length) (h' : i < v.mem.length), ms[i].name = v.mem[i].1 ∧ Tree w G d ms[i].v v.mem[i].2 := by
  obtain ⟨vs, ps, rfl, ⟨xs, h1, h2, h3⟩, ⟨ms, h4, h5, h6⟩⟩ := h
  exact ⟨xs, ms, h1, h2, h3, h4, h5, h6⟩
--begin1
/-- what is said of a comparison of values no deeper than d -/
def CmpSpec1 (d : Nat) : Prop := ∀ (x y : VA) (v u : VT) (G : Nat → Prop) (w : World), Tree w G d x v → Tree w G d y u → Fit d v → Fit d u →
    Calls Tryz.prog 77 #[x.val, y.val] w fun e w' => e = .returned (.int .i64 (vCmp d v u)) ∧ New w w'
set_option maxRecDepth 100000 in
set_option maxHeartbeats 1500000 in
theorem cmpMember_1 (d : Nat) (hI : CmpSpec1 d) (m k : MA) (p q : ByteArray × VT) (G : Nat → Prop) (w : World) (hn1 : m.name = p.1) (hn2 : k.name = q.1) (ht1 : Tree w G d m.v p.2) (ht2 : Tree w G d k.v q.2) (hf1 : Fit d p.2) (hf2 : Fit d q.2) :
    Calls Tryz.prog 99 #[m.val, k.val] w fun e w' => e = .returned (.int .i64 (fz [cmpB p.1 q.1, vCmp d p.2 q.2])) ∧ New w w' := by
  have HI := Lib.hid (fun W (h : New w W) => hI m.v k.v p.2 q.2 G W (ht1.new h) (ht2.new h) hf1 hf2)
  have hsc := fun W => Tryz.strings_Compare p.1 q.1 W
  obtain ⟨xm, xk, xf, xn, xw, xla, xln, xlc, xma, xmn, xmc⟩ := m
  obtain ⟨ym, yk, yf, yn, yw, yla, yln, ylc, yma, ymn, ymc⟩ := k
  simp only at hn1 hn2 HI
  subst hn1 hn2
  have HCB : Hid (∀ a b : ByteArray, cmpB a b = Lib.compareBytes a.data.toList b.data.toList) := Lib.hid (fun _ _ => rfl)
  rw [HCB.out]
  clear hI ht1 ht2 hf1 hf2
  generalize vCmp d p.2 q.2 = c2 at *
  generalize Lib.compareBytes p.1.data.toList q.1.data.toList = c1 at *
  generalize p.1 = xm at *
  generalize q.1 = ym at *
  have hx := Blk.new w 49 #[.string xm, .int .i64 xk, .bool xf, .int .i64 xn, .string xw, .slice xla xln xlc, .slice xma xmn xmc]
  have hm1 : New w (w.alloc (.cells #[.string xm, .int .i64 xk, .bool xf, .int .i64 xn, .string xw, .slice xla xln xlc, .slice xma xmn xmc] 49)) := (Mod.refl _ _).alloc _
  have hy := Blk.new (w.alloc (.cells #[.string xm, .int .i64 xk, .bool xf, .int .i64 xn, .string xw, .slice xla xln xlc, .slice xma xmn xmc] 49)) 49 #[.string ym, .int .i64 yk, .bool yf, .int .i64 yn, .string yw, .slice yla yln ylc, .slice yma ymn ymc]
  have hm2 : New (w.alloc (.cells #[.string xm, .int .i64 xk, .bool xf, .int .i64 xn, .string xw, .slice xla xln xlc, .slice xma xmn xmc] 49)) ((w.alloc (.cells #[.string xm, .int .i64 xk, .bool xf, .int .i64 xn, .string xw, .slice xla xln xlc, .slice xma xmn xmc] 49)).alloc (.cells #[.string ym, .int .i64 yk, .bool yf, .int .i64 yn, .string yw, .slice yla yln ylc, .slice yma ymn ymc] 49)) := (Mod.refl _ _).alloc _
  go_enter Tryz.func99, Tryz.ntmps99
  go_upto_region 1 with (fail)
  rw [show (w.alloc (.cells #[.string xm, .int .i64 xk, .bool xf, .int .i64 xn, .string xw, .slice xla xln xlc, .slice xma xmn xmc] 49)).heap.size = w.heap.size + 1 by simp] at hy
  generalize w.alloc (.cells #[.string xm, .int .i64 xk, .bool xf, .int .i64 xn, .string xw, .slice xla xln xlc, .slice xma xmn xmc] 49) = w1 at *
  generalize w1.alloc (.cells #[.string ym, .int .i64 yk, .bool yf, .int .i64 yn, .string yw, .slice yla yln ylc, .slice yma ymn ymc] 49) = w2 at *
  have hx2 := hx.mod hm2 (fun e => e)
  generalize w.heap.size = xb at *
  generalize xb + 1 = yb at *
  have HM2 := Lib.hid (hm1.trans hm2)
  have hS : ∀ W, New w2 W → (W.cell? ⟨xb, 0, none⟩ = some (.string xm) ∧ W.cell? ⟨xb, 1, none⟩ = some (.int .i64 xk) ∧ W.cell? ⟨xb, 2, none⟩ = some (.bool xf) ∧ W.cell? ⟨xb, 3, none⟩ = some (.int .i64 xn) ∧ W.cell? ⟨xb, 4, none⟩ = some (.string xw) ∧ W.cell? ⟨xb, 5, none⟩ = some (.slice xla xln xlc) ∧ W.cell? ⟨xb, 6, none⟩ = some (.slice xma xmn xmc) ∧ xb < W.heap.size ∧
      W.cell? ⟨yb, 0, none⟩ = some (.string ym) ∧ W.cell? ⟨yb, 1, none⟩ = some (.int .i64 yk) ∧ W.cell? ⟨yb, 2, none⟩ = some (.bool yf) ∧ W.cell? ⟨yb, 3, none⟩ = some (.int .i64 yn) ∧ W.cell? ⟨yb, 4, none⟩ = some (.string yw) ∧ W.cell? ⟨yb, 5, none⟩ = some (.slice yla yln ylc) ∧ W.cell? ⟨yb, 6, none⟩ = some (.slice yma ymn ymc) ∧ yb < W.heap.size) := fun W hW => by
    have hb := hx2.mod hW (fun e => e)
    have hc := hy.mod hW (fun e => e)
    exact ⟨(hb.cell 0).trans rfl, (hb.cell 1).trans rfl, (hb.cell 2).trans rfl, (hb.cell 3).trans rfl, (hb.cell 4).trans rfl, (hb.cell 5).trans rfl, (hb.cell 6).trans rfl, hb.lt, (hc.cell 0).trans rfl, (hc.cell 1).trans rfl, (hc.cell 2).trans rfl, (hc.cell 3).trans rfl, (hc.cell 4).trans rfl, (hc.cell 5).trans rfl, (hc.cell 6).trans rfl, hc.lt⟩
  have HS := Lib.hid hS
  clear hS hx hx2 hy hm1 hm2
  refine wp_region_held_ord (fun W => W.cell? ⟨xb, 0, none⟩ = some (.string xm) ∧ W.cell? ⟨xb, 1, none⟩ = some (.int .i64 xk) ∧ W.cell? ⟨xb, 2, none⟩ = some (.bool xf) ∧ W.cell? ⟨xb, 3, none⟩ = some (.int .i64 xn) ∧ W.cell? ⟨xb, 4, none⟩ = some (.string xw) ∧ W.cell? ⟨xb, 5, none⟩ = some (.slice xla xln xlc) ∧ W.cell? ⟨xb, 6, none⟩ = some (.slice xma xmn xmc) ∧ xb < W.heap.size ∧ W.cell? ⟨yb, 0, none⟩ = some (.string ym) ∧ W.cell? ⟨yb, 1, none⟩ = some (.int .i64 yk) ∧ W.cell? ⟨yb, 2, none⟩ = some (.bool yf) ∧ W.cell? ⟨yb, 3, none⟩ = some (.int .i64 yn) ∧ W.cell? ⟨yb, 4, none⟩ = some (.string yw) ∧ W.cell? ⟨yb, 5, none⟩ = some (.slice yla yln ylc) ∧ W.cell? ⟨yb, 6, none⟩ = some (.slice yma ymn ymc) ∧ yb < W.heap.size) [4, 9, 10, 11] [0, 1, 2, 3, 5, 6, 7, 8, 4, 9, 10, 11] (by kernel_rfl) (by kernel_rfl) (fun _ _ d _ _ h => by cases d <;> exact h) ?_ (fun hHeld => ?_)
  · exact HS.out _ (Mod.refl _ _).drew
  simp only [List.length_cons, List.length_nil, List.drop_succ_cons, List.drop_zero]
  refine heldO_take ?_ (by rfl) (by rfl) (by rfl) (fun w hSw => ?_) ?_
  rotate_left
  · (try dsimp only at hSw); go_simp; any_goals (with_reducible rfl)
  simp only [Act.put, List.setIfInBounds_toArray, List.set_cons_zero, List.set_cons_succ]
  refine heldO_take ?_ (by rfl) (by rfl) (by rfl) (fun w hSw => ?_) ?_
  rotate_left
  · (try dsimp only at hSw); go_simp; any_goals (with_reducible rfl)
  simp only [Act.put, List.setIfInBounds_toArray, List.set_cons_zero, List.set_cons_succ]
  refine heldO_take ?_ (by rfl) (by rfl) (by rfl) (fun w hSw => ?_) ?_
  rotate_left
  · (try dsimp only at hSw); go_simp; any_goals (with_reducible rfl)
  simp only [Act.put, List.setIfInBounds_toArray, List.set_cons_zero, List.set_cons_succ]
  refine heldO_take ?_ (by rfl) (by rfl) (by rfl) (fun w hSw => ?_) ?_
  rotate_left
  · (try dsimp only at hSw); go_simp; any_goals (with_reducible rfl)
  simp only [Act.put, List.setIfInBounds_toArray, List.set_cons_zero, List.set_cons_succ]
  refine heldO_take ?_ (by rfl) (by rfl) (by rfl) (fun w hSw => ?_) ?_
  rotate_left
  · (try dsimp only at hSw); go_simp; any_goals (with_reducible rfl)
  simp only [Act.put, List.setIfInBounds_toArray, List.set_cons_zero, List.set_cons_succ]
  refine heldO_take ?_ (by rfl) (by rfl) (by rfl) (fun w hSw => ?_) ?_
  rotate_left
  · (try dsimp only at hSw); go_simp; any_goals (with_reducible rfl)
  simp only [Act.put, List.setIfInBounds_toArray, List.set_cons_zero, List.set_cons_succ]
  refine heldO_take ?_ (by rfl) (by rfl) (by rfl) (fun w hSw => ?_) ?_
  rotate_left
  · (try dsimp only at hSw); go_simp; any_goals (with_reducible rfl)
  simp only [Act.put, List.setIfInBounds_toArray, List.set_cons_zero, List.set_cons_succ]
  refine heldO_take ?_ (by rfl) (by rfl) (by rfl) (fun w hSw => ?_) ?_
  rotate_left
  · (try dsimp only at hSw); go_simp; any_goals (with_reducible rfl)
  simp only [Act.put, List.setIfInBounds_toArray, List.set_cons_zero, List.set_cons_succ]
  refine heldO_step (by rfl) (by rfl) (by rfl) (fun K hK => ?_)
  go_simp
  refine (hsc _).mono ?_
  rintro e w3 ⟨rfl, rfl⟩
  have m3 : New w2 w2.drew := (Mod.refl (fun _ => False) w2).drew
  go_wp2_with fail
  refine hK.out _ _ (HS.out _ m3) (fun hHeld => ?_)
  clear hK K
  try simp only [Act.put, List.setIfInBounds_toArray, List.set_cons_zero, List.set_cons_succ]
  refine heldO_step (by rfl) (by rfl) (by rfl) (fun K hK => ?_)
  go_simp
  refine (HI.out _ (HM2.out.trans m3)).mono ?_
  rintro e w4 ⟨rfl, hm4⟩
  have m4 := m3.trans hm4
  clear hm4
  go_wp2_with fail
  refine hK.out _ _ (HS.out _ m4) (fun hHeld => ?_)
  clear hK K
  try simp only [Act.put, List.setIfInBounds_toArray, List.set_cons_zero, List.set_cons_succ]
  refine heldO_step (by rfl) (by rfl) (by rfl) (fun K hK => ?_)
  go_simp
  have m5 := m4.alloc (.cells #[.int .i64 c1, .int .i64 c2] 3)
  have b5 := Blk.new w4 3 #[.int .i64 c1, .int .i64 c2]
  have hor := cmpOrI_any [c1, c2] w4.heap.size 2 _ b5 rfl (by omega)
  refine hK.out _ _ (HS.out _ m5) (fun hHeld => ?_)
  clear hK K b5
  try simp only [Act.put, List.setIfInBounds_toArray, List.set_cons_zero, List.set_cons_succ]
  generalize hFZ : fz [c1, c2] = FZ at *
  refine heldO_step (by rfl) (by rfl) (by rfl) (fun K hK => ?_)
  go_simp
  refine hor.mono ?_
  clear hor
  rintro e w6 ⟨rfl, rfl⟩
  go_wp2_with fail
  refine hK.out _ _ (HS.out _ m5) (fun hHeld => ?_)
  clear hK K
  try simp only [Act.put, List.setIfInBounds_toArray, List.set_cons_zero, List.set_cons_succ]
  refine heldO_nil ?_
  go_wp2_with fail
  go_ret
  exact ⟨ret_int hFZ.symm, HM2.out.trans m5⟩
--end1
theorem fz_six (a b c d e f : Int) : fz [a, b, c, d, e, f] = if fz [a, b, c, d] ≠ 0 then fz [a, b, c, d] else if e ≠ 0 then e else f := by
  simp only [fz]
  by_cases ha : a = 0 <;> by_cases hb : b = 0 <;> by_cases hc : c = 0 <;> by_cases hd : d = 0 <;> by_cases he : e = 0 <;> by_cases hf : f = 0 <;> simp [ha, hb, hc, hd, he, hf]
theorem flagN_cmp (a b : Bool) : Lib.compareInt (flagN a) (flagN b) = flagN a - flagN b := by
  cases a <;> cases b <;> rfl
theorem flagN_le (a : Bool) : 0 ≤ flagN a ∧ flagN a ≤ 1 := by
  cases a <;> decide

set_option maxRecDepth 100000 in
set_option maxHeartbeats 1500000 in
theorem compare_v (d : Nat) : CmpSpec1 d := by
  induction d with
  | zero => intro x y v u G w ht; exact ht.elim
  | succ d ih =>
    intro x y v u G w ht1 ht2 hf1 hf2
    obtain ⟨xs, ms, hxs, hxl, hxt, hms, hml, hmt⟩ := ht1.rows
    obtain ⟨ys, ns, hys, hyl, hyt, hns, hnl, hnt⟩ := ht2.rows
    have hp1 := hf1.parts
    have hp2 := hf2.parts
    have hL := fun W (h : New w W) => compareFunc_val 77 enters_valueCompare (vCmp d) v.list u.list x.la y.la x.ln x.lc y.ln y.lc xs ys W (hxs.sl.new h) (hys.sl.new h) (by rw [← hxl]; exact hxs.1) (by rw [← hyl]; exact hys.1) (by have := hxs.1; omega) (by have := hys.1; omega)
      (fun i a1 a2 a3 a4 W' hW' => ih xs[i] ys[i] v.list[i] u.list[i] G W' ((hxt i a1 a3).new (h.trans hW')) ((hyt i a2 a4).new (h.trans hW')) (hf1.item a3) (hf2.item a4))
    have hM := fun W (h : New w W) => compareFunc_mem 99 enters_valueCompare1 (fun p q : ByteArray × VT => fz [cmpB p.1 q.1, vCmp d p.2 q.2]) v.mem u.mem x.ma y.ma x.mn x.mc y.mn y.mc ms ns W (hms.sl.new h) (hns.sl.new h) (by rw [← hml]; exact hms.1) (by rw [← hnl]; exact hns.1) (by have := hms.1; omega) (by have := hns.1; omega)
      (fun i a1 a2 a3 a4 W' hW' => cmpMember_1 d ih ms[i] ns[i] v.mem[i] u.mem[i] G W' (hmt i a1 a3).1 (hnt i a2 a4).1 ((hmt i a1 a3).2.new (h.trans hW')) ((hnt i a2 a4).2.new (h.trans hW')) (hf1.member a3).1 (hf2.member a4).1)
    have HV : Hid (vCmp (d + 1) v u = fz [Lib.compareInt v.kind u.kind, Lib.compareInt (flagN v.flag) (flagN u.flag), Lib.compareInt v.num u.num, cmpB v.words u.words, cmpL (vCmp d) v.list u.list, cmpL (fun p q : ByteArray × VT => fz [cmpB p.1 q.1, vCmp d p.2 q.2]) v.mem u.mem]) := Lib.hid rfl
    obtain ⟨g1, g2, g3, g4, -, -⟩ := ht1.fields
    obtain ⟨k1, k2, k3, k4, -, -⟩ := ht2.fields
    have HV2 : Hid (vCmp (d + 1) v u = if fz [Lib.compareInt x.kind y.kind, flagN x.flag - flagN y.flag, Lib.compareInt x.num y.num, Lib.compareBytes x.words.data.toList y.words.data.toList] ≠ 0 then fz [Lib.compareInt x.kind y.kind, flagN x.flag - flagN y.flag, Lib.compareInt x.num y.num, Lib.compareBytes x.words.data.toList y.words.data.toList] else if cmpL (vCmp d) v.list u.list ≠ 0 then cmpL (vCmp d) v.list u.list else cmpL (fun p q : ByteArray × VT => fz [cmpB p.1 q.1, vCmp d p.2 q.2]) v.mem u.mem) := Lib.hid (by
      rw [HV.out, fz_six, g1, g2, g3, g4, k1, k2, k3, k4, flagN_cmp]; rfl)
    have hsc := fun W => Tryz.strings_Compare x.words y.words W
    have hk := fun W => Tryz.cmp_Compare_int x.kind y.kind W
    have hn := fun W => Tryz.cmp_Compare_int x.num y.num W
    have hq1 := flagN_le x.flag
    have hq2 := flagN_le y.flag
    have hfl1 := fun W => flagNumber_v x.flag W
    have hfl2 := fun W => flagNumber_v y.flag W
    clear HV ht1 ht2 hf1 hf2 hxs hxl hxt hms hml hmt hys hyl hyt hns hnl hnt hp1 hp2 g1 g2 g3 g4 k1 k2 k3 k4 ih
    obtain ⟨xk, xf, xn, xw, xla, xln, xlc, xma, xmn, xmc⟩ := x
    obtain ⟨yk, yf, yn, yw, yla, yln, ylc, yma, ymn, ymc⟩ := y
    simp only at hL hM HV2 hsc hk hn hq1 hq2 hfl1 hfl2
    generalize vCmp (d + 1) v u = R at *
    generalize cmpL (vCmp d) v.list u.list = L at *
    generalize cmpL (fun p q : ByteArray × VT => fz [cmpB p.1 q.1, vCmp d p.2 q.2]) v.mem u.mem = M at *
    generalize Lib.compareInt xk yk = z1 at *
    generalize Lib.compareInt xn yn = z3 at *
    generalize Lib.compareBytes xw.data.toList yw.data.toList = z4 at *
    generalize flagN xf = q1 at *
    generalize flagN yf = q2 at *
    obtain ⟨hq10, hq11⟩ := hq1
    obtain ⟨hq20, hq21⟩ := hq2
    have HLL := Lib.hid hL
    have HMM := Lib.hid hM
    clear hL hM
    have hx := Blk.new w 29 #[.int .i64 xk, .bool xf, .int .i64 xn, .string xw, .slice xla xln xlc, .slice xma xmn xmc]
    have hm1 : New w (w.alloc (.cells #[.int .i64 xk, .bool xf, .int .i64 xn, .string xw, .slice xla xln xlc, .slice xma xmn xmc] 29)) := (Mod.refl _ _).alloc _
    have hy := Blk.new (w.alloc (.cells #[.int .i64 xk, .bool xf, .int .i64 xn, .string xw, .slice xla xln xlc, .slice xma xmn xmc] 29)) 29 #[.int .i64 yk, .bool yf, .int .i64 yn, .string yw, .slice yla yln ylc, .slice yma ymn ymc]
    have hm2 : New (w.alloc (.cells #[.int .i64 xk, .bool xf, .int .i64 xn, .string xw, .slice xla xln xlc, .slice xma xmn xmc] 29)) ((w.alloc (.cells #[.int .i64 xk, .bool xf, .int .i64 xn, .string xw, .slice xla xln xlc, .slice xma xmn xmc] 29)).alloc (.cells #[.int .i64 yk, .bool yf, .int .i64 yn, .string yw, .slice yla yln ylc, .slice yma ymn ymc] 29)) := (Mod.refl _ _).alloc _
    go_enter Tryz.func77, Tryz.ntmps77
    go_upto_region 1 with (fail)
    rw [show (w.alloc (.cells #[.int .i64 xk, .bool xf, .int .i64 xn, .string xw, .slice xla xln xlc, .slice xma xmn xmc] 29)).heap.size = w.heap.size + 1 by simp] at hy
    generalize w.alloc (.cells #[.int .i64 xk, .bool xf, .int .i64 xn, .string xw, .slice xla xln xlc, .slice xma xmn xmc] 29) = w1 at *
    generalize w1.alloc (.cells #[.int .i64 yk, .bool yf, .int .i64 yn, .string yw, .slice yla yln ylc, .slice yma ymn ymc] 29) = w2 at *
    have hx2 := hx.mod hm2 (fun e => e)
    generalize w.heap.size = xb at *
    generalize xb + 1 = yb at *
    have HM2 := Lib.hid (hm1.trans hm2)
    have hS : ∀ W, New w2 W → (W.cell? ⟨xb, 0, none⟩ = some (.int .i64 xk) ∧ W.cell? ⟨xb, 1, none⟩ = some (.bool xf) ∧ W.cell? ⟨xb, 2, none⟩ = some (.int .i64 xn) ∧ W.cell? ⟨xb, 3, none⟩ = some (.string xw) ∧ xb < W.heap.size ∧
        W.cell? ⟨yb, 0, none⟩ = some (.int .i64 yk) ∧ W.cell? ⟨yb, 1, none⟩ = some (.bool yf) ∧ W.cell? ⟨yb, 2, none⟩ = some (.int .i64 yn) ∧ W.cell? ⟨yb, 3, none⟩ = some (.string yw) ∧ yb < W.heap.size) := fun W hW => by
      have hb := hx2.mod hW (fun e => e)
      have hc := hy.mod hW (fun e => e)
      exact ⟨(hb.cell 0).trans rfl, (hb.cell 1).trans rfl, (hb.cell 2).trans rfl, (hb.cell 3).trans rfl, hb.lt, (hc.cell 0).trans rfl, (hc.cell 1).trans rfl, (hc.cell 2).trans rfl, (hc.cell 3).trans rfl, hc.lt⟩
    have HS := Lib.hid hS
    have HX2 := Lib.hid hx2
    have HY2 := Lib.hid hy
    clear hS hx hx2 hy hm1 hm2
    refine wp_region_held_ord (fun W => W.cell? ⟨xb, 0, none⟩ = some (.int .i64 xk) ∧ W.cell? ⟨xb, 1, none⟩ = some (.bool xf) ∧ W.cell? ⟨xb, 2, none⟩ = some (.int .i64 xn) ∧ W.cell? ⟨xb, 3, none⟩ = some (.string xw) ∧ xb < W.heap.size ∧ W.cell? ⟨yb, 0, none⟩ = some (.int .i64 yk) ∧ W.cell? ⟨yb, 1, none⟩ = some (.bool yf) ∧ W.cell? ⟨yb, 2, none⟩ = some (.int .i64 yn) ∧ W.cell? ⟨yb, 3, none⟩ = some (.string yw) ∧ yb < W.heap.size) [4, 7, 10, 16, 21, 22, 23] [0, 1, 2, 3, 5, 6, 8, 9, 12, 13, 14, 15, 17, 18, 19, 20, 4, 7, 10, 11, 16, 21, 22, 23] (by kernel_rfl) (by kernel_rfl) (fun _ _ d _ _ h => by cases d <;> exact h) ?_ (fun hHeld => ?_)
    · exact HS.out _ (Mod.refl _ _).drew
    simp only [List.length_cons, List.length_nil, List.drop_succ_cons, List.drop_zero]
    refine heldO_take ?_ (by rfl) (by rfl) (by rfl) (fun w hSw => ?_) ?_
    rotate_left
    · (try dsimp only at hSw); go_simp; any_goals (with_reducible rfl)
    simp only [Act.put, List.setIfInBounds_toArray, List.set_cons_zero, List.set_cons_succ]
    refine heldO_take ?_ (by rfl) (by rfl) (by rfl) (fun w hSw => ?_) ?_
    rotate_left
    · (try dsimp only at hSw); go_simp; any_goals (with_reducible rfl)
    simp only [Act.put, List.setIfInBounds_toArray, List.set_cons_zero, List.set_cons_succ]
    refine heldO_take ?_ (by rfl) (by rfl) (by rfl) (fun w hSw => ?_) ?_
    rotate_left
    · (try dsimp only at hSw); go_simp; any_goals (with_reducible rfl)
    simp only [Act.put, List.setIfInBounds_toArray, List.set_cons_zero, List.set_cons_succ]
    refine heldO_take ?_ (by rfl) (by rfl) (by rfl) (fun w hSw => ?_) ?_
    rotate_left
    · (try dsimp only at hSw); go_simp; any_goals (with_reducible rfl)
    simp only [Act.put, List.setIfInBounds_toArray, List.set_cons_zero, List.set_cons_succ]
    refine heldO_take ?_ (by rfl) (by rfl) (by rfl) (fun w hSw => ?_) ?_
    rotate_left
    · (try dsimp only at hSw); go_simp; any_goals (with_reducible rfl)
    simp only [Act.put, List.setIfInBounds_toArray, List.set_cons_zero, List.set_cons_succ]
    refine heldO_take ?_ (by rfl) (by rfl) (by rfl) (fun w hSw => ?_) ?_
    rotate_left
    · (try dsimp only at hSw); go_simp; any_goals (with_reducible rfl)
    simp only [Act.put, List.setIfInBounds_toArray, List.set_cons_zero, List.set_cons_succ]
    refine heldO_take ?_ (by rfl) (by rfl) (by rfl) (fun w hSw => ?_) ?_
    rotate_left
    · (try dsimp only at hSw); go_simp; any_goals (with_reducible rfl)
    simp only [Act.put, List.setIfInBounds_toArray, List.set_cons_zero, List.set_cons_succ]
    refine heldO_take ?_ (by rfl) (by rfl) (by rfl) (fun w hSw => ?_) ?_
    rotate_left
    · (try dsimp only at hSw); go_simp; any_goals (with_reducible rfl)
    simp only [Act.put, List.setIfInBounds_toArray, List.set_cons_zero, List.set_cons_succ]
    refine heldO_take ?_ (by rfl) (by rfl) (by rfl) (fun w hSw => ?_) ?_
    rotate_left
    · (try dsimp only at hSw); go_simp; any_goals (with_reducible rfl)
    simp only [Act.put, List.setIfInBounds_toArray, List.set_cons_zero, List.set_cons_succ]
    refine heldO_take ?_ (by rfl) (by rfl) (by rfl) (fun w hSw => ?_) ?_
    rotate_left
    · (try dsimp only at hSw); go_simp; any_goals (with_reducible rfl)
    simp only [Act.put, List.setIfInBounds_toArray, List.set_cons_zero, List.set_cons_succ]
    refine heldO_take ?_ (by rfl) (by rfl) (by rfl) (fun w hSw => ?_) ?_
    rotate_left
    · (try dsimp only at hSw); go_simp; any_goals (with_reducible rfl)
    simp only [Act.put, List.setIfInBounds_toArray, List.set_cons_zero, List.set_cons_succ]
    refine heldO_take ?_ (by rfl) (by rfl) (by rfl) (fun w hSw => ?_) ?_
    rotate_left
    · (try dsimp only at hSw); go_simp; any_goals (with_reducible rfl)
    simp only [Act.put, List.setIfInBounds_toArray, List.set_cons_zero, List.set_cons_succ]
    refine heldO_take ?_ (by rfl) (by rfl) (by rfl) (fun w hSw => ?_) ?_
    rotate_left
    · (try dsimp only at hSw); go_simp; any_goals (with_reducible rfl)
    simp only [Act.put, List.setIfInBounds_toArray, List.set_cons_zero, List.set_cons_succ]
    refine heldO_take ?_ (by rfl) (by rfl) (by rfl) (fun w hSw => ?_) ?_
    rotate_left
    · (try dsimp only at hSw); go_simp; any_goals (with_reducible rfl)
    simp only [Act.put, List.setIfInBounds_toArray, List.set_cons_zero, List.set_cons_succ]
    refine heldO_take ?_ (by rfl) (by rfl) (by rfl) (fun w hSw => ?_) ?_
    rotate_left
    · (try dsimp only at hSw); go_simp; any_goals (with_reducible rfl)
    simp only [Act.put, List.setIfInBounds_toArray, List.set_cons_zero, List.set_cons_succ]
    refine heldO_take ?_ (by rfl) (by rfl) (by rfl) (fun w hSw => ?_) ?_
    rotate_left
    · (try dsimp only at hSw); go_simp; any_goals (with_reducible rfl)
    simp only [Act.put, List.setIfInBounds_toArray, List.set_cons_zero, List.set_cons_succ]
    have m3 : New w2 w2.drew := (Mod.refl (fun _ => False) w2).drew
    refine heldO_step (by rfl) (by rfl) (by rfl) (fun K hK => ?_)
    go_simp
    refine (hk _).mono ?_
    rintro e w3 ⟨rfl, rfl⟩
    go_wp2_with fail
    refine hK.out _ _ (HS.out _ m3) (fun hHeld => ?_)
    clear hK K
    try simp only [Act.put, List.setIfInBounds_toArray, List.set_cons_zero, List.set_cons_succ]
    refine heldO_step (by rfl) (by rfl) (by rfl) (fun K hK => ?_)
    go_simp
    refine (hfl1 _).mono ?_
    rintro e w3 ⟨rfl, rfl⟩
    go_wp2_with fail
    refine hK.out _ _ (HS.out _ m3) (fun hHeld => ?_)
    clear hK K
    try simp only [Act.put, List.setIfInBounds_toArray, List.set_cons_zero, List.set_cons_succ]
    refine heldO_step (by rfl) (by rfl) (by rfl) (fun K hK => ?_)
    go_simp
    refine (hfl2 _).mono ?_
    rintro e w3 ⟨rfl, rfl⟩
    go_wp2_with fail
    refine hK.out _ _ (HS.out _ m3) (fun hHeld => ?_)
    clear hK K
    try simp only [Act.put, List.setIfInBounds_toArray, List.set_cons_zero, List.set_cons_succ]
    refine heldO_take ?_ (by rfl) (by rfl) (by rfl) (fun w hSw => ?_) ?_
    rotate_left
    · (try dsimp only at hSw); go_simp; any_goals (with_reducible rfl)
    simp only [Act.put, List.setIfInBounds_toArray, List.set_cons_zero, List.set_cons_succ]
    have hwr : IntKind.i64.wrap (q1 - q2) = q1 - q2 := by
      have a1 : q1 = 0 ∨ q1 = 1 := by omega
      have a2 : q2 = 0 ∨ q2 = 1 := by omega
      rcases a1 with rfl | rfl <;> rcases a2 with rfl | rfl <;> rfl
    simp only [hwr]
    refine heldO_step (by rfl) (by rfl) (by rfl) (fun K hK => ?_)
    go_simp
    refine (hn _).mono ?_
    rintro e w3 ⟨rfl, rfl⟩
    go_wp2_with fail
    refine hK.out _ _ (HS.out _ m3) (fun hHeld => ?_)
    clear hK K
    try simp only [Act.put, List.setIfInBounds_toArray, List.set_cons_zero, List.set_cons_succ]
    refine heldO_step (by rfl) (by rfl) (by rfl) (fun K hK => ?_)
    go_simp
    refine (hsc _).mono ?_
    rintro e w3 ⟨rfl, rfl⟩
    go_wp2_with fail
    refine hK.out _ _ (HS.out _ m3) (fun hHeld => ?_)
    clear hK K
    try simp only [Act.put, List.setIfInBounds_toArray, List.set_cons_zero, List.set_cons_succ]
    refine heldO_step (by rfl) (by rfl) (by rfl) (fun K hK => ?_)
    go_simp
    have m5 := m3.alloc (.cells #[.int .i64 z1, .int .i64 (q1 - q2), .int .i64 z3, .int .i64 z4] 3)
    have b5 := Blk.new w2.drew 3 #[.int .i64 z1, .int .i64 (q1 - q2), .int .i64 z3, .int .i64 z4]
    have hor := cmpOrI_any [z1, q1 - q2, z3, z4] w2.drew.heap.size 4 _ b5 rfl (by omega)
    refine hK.out _ _ (HS.out _ m5) (fun hHeld => ?_)
    clear hK K b5
    try simp only [Act.put, List.setIfInBounds_toArray, List.set_cons_zero, List.set_cons_succ]
    generalize fz [z1, q1 - q2, z3, z4] = O at *
    refine heldO_step (by rfl) (by rfl) (by rfl) (fun K hK => ?_)
    go_simp
    refine hor.mono ?_
    clear hor
    rintro e w6 ⟨rfl, rfl⟩
    go_wp2_with fail
    refine hK.out _ _ (HS.out _ m5) (fun hHeld => ?_)
    clear hK K
    try simp only [Act.put, List.setIfInBounds_toArray, List.set_cons_zero, List.set_cons_succ]
    refine heldO_nil ?_
    have m6 : New w2 ((w2.alloc (.cells #[.int .i64 z1, .int .i64 (q1 - q2), .int .i64 z3, .int .i64 z4] 3)).drew) := ((Mod.refl _ _).alloc _).drew
    have HX6 := Lib.hid (HX2.out.mod m6 (fun e => e))
    have HY6 := Lib.hid (HY2.out.mod m6 (fun e => e))
    have HM6 := Lib.hid (HM2.out.trans m6)
    generalize ((w2.alloc (.cells #[.int .i64 z1, .int .i64 (q1 - q2), .int .i64 z3, .int .i64 z4] 3)).drew) = w6 at *
    clear m6
    clear m3 m5 HS HX2 HY2 HM2 hHeld hsc hk hn hfl1 hfl2
    by_cases hO : O = 0
    · have hO1 : (O != 0) = false := by simpa using hO
      have HR1 : Hid (R = if L ≠ 0 then L else M) := Lib.hid (by rw [HV2.out, if_neg (by simp [hO])])
      have e4 := HX6.out.cell 4
      have el := HX6.out.lt
      have f4 := HY6.out.cell 4
      have fl := HY6.out.lt
      have hl6 := HLL.out w6 HM6.out
      simp only [List.getElem?_toArray, List.getElem?_cons_zero, List.getElem?_cons_succ] at e4 f4
      clear hO HV2
      go_wp2_with fail
      refine hl6.mono ?_
      clear hl6
      rintro e w7 ⟨rfl, m7⟩
      have HM7 := Lib.hid (HM6.out.trans m7)
      clear e4 el f4 fl
      by_cases hL : L = 0
      · have hL1 : (L != 0) = false := by simpa using hL
        have HR2 : Hid (R = M) := Lib.hid (by rw [HR1.out, if_neg (by simp [hL])])
        have hx7 := HX6.out.mod m7 (fun e => e)
        have hy7 := HY6.out.mod m7 (fun e => e)
        have e5 := hx7.cell 5
        have el := hx7.lt
        have f5 := hy7.cell 5
        have fl := hy7.lt
        have hm7 := HMM.out w7 HM7.out
        simp only [List.getElem?_toArray, List.getElem?_cons_zero, List.getElem?_cons_succ] at e5 f5
        clear hL HR1 hx7 hy7
        go_wp2_with fail
        refine hm7.mono ?_
        clear hm7
        rintro e w8 ⟨rfl, m8⟩
        go_wp2_with fail
        go_ret
        exact ⟨ret_int HR2.out.symm, HM7.out.trans m8⟩
      · have hL1 : (L != 0) = true := by simpa using hL
        have HR2 : Hid (R = L) := Lib.hid (by rw [HR1.out, if_pos hL])
        clear hL
        go_wp2_with fail
        go_ret
        exact ⟨ret_int HR2.out.symm, HM7.out⟩
    · have hO1 : (O != 0) = true := by simpa using hO
      have HR1 : Hid (R = O) := Lib.hid (by rw [HV2.out, if_pos hO])
      clear hO HV2
      go_wp2_with fail
      go_ret
      exact ⟨ret_int HR1.out.symm, HM6.out⟩

end Go.Proofs.YtahofcopedlenaaGreatDoor
