/- Comparing two members: the reference's. (Printed by mkvale.py.) Conditions: the values stand in memory as trees. -/
import Derived.Test.YtjnbjianfbfdaaaDoorValD
namespace Go.Proofs.YtjnbjianfbfdaaaDoor
open Go.RowKit
set_option linter.unusedVariables false
set_option linter.unusedSimpArgs false

theorem enters_order (args : Array Value) (w : World) : (callFunc 14 args).run Tryd.prog w = .ok (.enter 14 args) w := by
  go_simp
theorem enters_order1 (args : Array Value) (w : World) : (callFunc 39 args).run Tryd.prog w = .ok (.enter 39 args) w := by
  go_simp

/-- what is said of a comparison of values no deeper than d -/
def CmpSpec2 (d : Nat) : Prop := ∀ (x y : VA) (v u : VT) (G : Nat → Prop) (w : World), Tree w G d x v → Tree w G d y u → Fit d v → Fit d u →
    Calls Tryd.prog 14 #[x.val, y.val] w fun e w' => e = .returned (.int .i64 (vCmp d v u)) ∧ New w w'
set_option maxRecDepth 100000 in
set_option maxHeartbeats 1500000 in
theorem cmpMember_2 (d : Nat) (hI : CmpSpec2 d) (m k : MA) (p q : ByteArray × VT) (G : Nat → Prop) (w : World) (hn1 : m.name = p.1) (hn2 : k.name = q.1) (ht1 : Tree w G d m.v p.2) (ht2 : Tree w G d k.v q.2) (hf1 : Fit d p.2) (hf2 : Fit d q.2) :
    Calls Tryd.prog 39 #[m.val, k.val] w fun e w' => e = .returned (.int .i64 (fz [cmpB p.1 q.1, vCmp d p.2 q.2])) ∧ New w w' := by
  have HI := Lib.hid (fun W (h : New w W) => hI m.v k.v p.2 q.2 G W (ht1.new h) (ht2.new h) hf1 hf2)
  have hsc := fun W => Tryd.strings_Compare p.1 q.1 W
  obtain ⟨xm, xk, xf, xn, xw, xla, xln, xlc, xma, xmn, xmc⟩ := m
  obtain ⟨ym, yk, yf, yn, yw, yla, yln, ylc, yma, ymn, ymc⟩ := k
  simp only at hn1 hn2 HI
  subst hn1 hn2
  have HCB : Hid (∀ a b : ByteArray, cmpB a b = Lib.compareBytes a.data.toList b.data.toList) := Lib.hid (fun _ _ => rfl)
  rw [HCB.out]
  clear hI ht1 ht2 hf1 hf2
  generalize vCmp d p.2 q.2 = c2 at *
  generalize Lib.compareBytes p.1.data.toList q.1.data.toList = c1 at *
  generalize p.1 = xm at *
  generalize q.1 = ym at *
  have hx := Blk.new w 50 #[.string xm, .int .i64 xk, .bool xf, .int .i64 xn, .string xw, .slice xla xln xlc, .slice xma xmn xmc]
  have hm1 : New w (w.alloc (.cells #[.string xm, .int .i64 xk, .bool xf, .int .i64 xn, .string xw, .slice xla xln xlc, .slice xma xmn xmc] 50)) := (Mod.refl _ _).alloc _
  have hy := Blk.new (w.alloc (.cells #[.string xm, .int .i64 xk, .bool xf, .int .i64 xn, .string xw, .slice xla xln xlc, .slice xma xmn xmc] 50)) 50 #[.string ym, .int .i64 yk, .bool yf, .int .i64 yn, .string yw, .slice yla yln ylc, .slice yma ymn ymc]
  have hm2 : New (w.alloc (.cells #[.string xm, .int .i64 xk, .bool xf, .int .i64 xn, .string xw, .slice xla xln xlc, .slice xma xmn xmc] 50)) ((w.alloc (.cells #[.string xm, .int .i64 xk, .bool xf, .int .i64 xn, .string xw, .slice xla xln xlc, .slice xma xmn xmc] 50)).alloc (.cells #[.string ym, .int .i64 yk, .bool yf, .int .i64 yn, .string yw, .slice yla yln ylc, .slice yma ymn ymc] 50)) := (Mod.refl _ _).alloc _
  go_enter Tryd.func39, Tryd.ntmps39
  go_upto_region 1 with (fail)
  rw [show (w.alloc (.cells #[.string xm, .int .i64 xk, .bool xf, .int .i64 xn, .string xw, .slice xla xln xlc, .slice xma xmn xmc] 50)).heap.size = w.heap.size + 1 by simp] at hy
  generalize w.alloc (.cells #[.string xm, .int .i64 xk, .bool xf, .int .i64 xn, .string xw, .slice xla xln xlc, .slice xma xmn xmc] 50) = w1 at *
  generalize w1.alloc (.cells #[.string ym, .int .i64 yk, .bool yf, .int .i64 yn, .string yw, .slice yla yln ylc, .slice yma ymn ymc] 50) = w2 at *
  have hx2 := hx.mod hm2 (fun e => e)
  generalize w.heap.size = xb at *
  generalize xb + 1 = yb at *
  have HM2 := Lib.hid (hm1.trans hm2)
  have hS : ∀ W, New w2 W → (W.cell? ⟨xb, 0, none⟩ = some (.string xm) ∧ W.cell? ⟨xb, 1, none⟩ = some (.int .i64 xk) ∧ W.cell? ⟨xb, 2, none⟩ = some (.bool xf) ∧ W.cell? ⟨xb, 3, none⟩ = some (.int .i64 xn) ∧ W.cell? ⟨xb, 4, none⟩ = some (.string xw) ∧ W.cell? ⟨xb, 5, none⟩ = some (.slice xla xln xlc) ∧ W.cell? ⟨xb, 6, none⟩ = some (.slice xma xmn xmc) ∧ xb < W.heap.size ∧
      W.cell? ⟨yb, 0, none⟩ = some (.string ym) ∧ W.cell? ⟨yb, 1, none⟩ = some (.int .i64 yk) ∧ W.cell? ⟨yb, 2, none⟩ = some (.bool yf) ∧ W.cell? ⟨yb, 3, none⟩ = some (.int .i64 yn) ∧ W.cell? ⟨yb, 4, none⟩ = some (.string yw) ∧ W.cell? ⟨yb, 5, none⟩ = some (.slice yla yln ylc) ∧ W.cell? ⟨yb, 6, none⟩ = some (.slice yma ymn ymc) ∧ yb < W.heap.size) := fun W hW => by
    have hb := hx2.mod hW (fun e => e)
    have hc := hy.mod hW (fun e => e)
    exact ⟨(hb.cell 0).trans rfl, (hb.cell 1).trans rfl, (hb.cell 2).trans rfl, (hb.cell 3).trans rfl, (hb.cell 4).trans rfl, (hb.cell 5).trans rfl, (hb.cell 6).trans rfl, hb.lt, (hc.cell 0).trans rfl, (hc.cell 1).trans rfl, (hc.cell 2).trans rfl, (hc.cell 3).trans rfl, (hc.cell 4).trans rfl, (hc.cell 5).trans rfl, (hc.cell 6).trans rfl, hc.lt⟩
  have HS := Lib.hid hS
  clear hS hx hx2 hy hm1 hm2
  refine wp_region_held_ord (fun W => W.cell? ⟨xb, 0, none⟩ = some (.string xm) ∧ W.cell? ⟨xb, 1, none⟩ = some (.int .i64 xk) ∧ W.cell? ⟨xb, 2, none⟩ = some (.bool xf) ∧ W.cell? ⟨xb, 3, none⟩ = some (.int .i64 xn) ∧ W.cell? ⟨xb, 4, none⟩ = some (.string xw) ∧ W.cell? ⟨xb, 5, none⟩ = some (.slice xla xln xlc) ∧ W.cell? ⟨xb, 6, none⟩ = some (.slice xma xmn xmc) ∧ xb < W.heap.size ∧ W.cell? ⟨yb, 0, none⟩ = some (.string ym) ∧ W.cell? ⟨yb, 1, none⟩ = some (.int .i64 yk) ∧ W.cell? ⟨yb, 2, none⟩ = some (.bool yf) ∧ W.cell? ⟨yb, 3, none⟩ = some (.int .i64 yn) ∧ W.cell? ⟨yb, 4, none⟩ = some (.string yw) ∧ W.cell? ⟨yb, 5, none⟩ = some (.slice yla yln ylc) ∧ W.cell? ⟨yb, 6, none⟩ = some (.slice yma ymn ymc) ∧ yb < W.heap.size) [4, 9, 10, 11] [0, 1, 2, 3, 5, 6, 7, 8, 4, 9, 10, 11] (by kernel_rfl) (by kernel_rfl) (fun _ _ d _ _ h => by cases d <;> exact h) ?_ (fun hHeld => ?_)
  · exact HS.out _ (Mod.refl _ _).drew
  simp only [List.length_cons, List.length_nil, List.drop_succ_cons, List.drop_zero]
  refine heldO_take ?_ (by rfl) (by rfl) (by rfl) (fun w hSw => ?_) ?_
  rotate_left
  · (try dsimp only at hSw); go_simp; any_goals (with_reducible rfl)
  simp only [Act.put, List.setIfInBounds_toArray, List.set_cons_zero, List.set_cons_succ]
  refine heldO_take ?_ (by rfl) (by rfl) (by rfl) (fun w hSw => ?_) ?_
  rotate_left
  · (try dsimp only at hSw); go_simp; any_goals (with_reducible rfl)
  simp only [Act.put, List.setIfInBounds_toArray, List.set_cons_zero, List.set_cons_succ]
  refine heldO_take ?_ (by rfl) (by rfl) (by rfl) (fun w hSw => ?_) ?_
  rotate_left
  · (try dsimp only at hSw); go_simp; any_goals (with_reducible rfl)
  simp only [Act.put, List.setIfInBounds_toArray, List.set_cons_zero, List.set_cons_succ]
  refine heldO_take ?_ (by rfl) (by rfl) (by rfl) (fun w hSw => ?_) ?_
  rotate_left
  · (try dsimp only at hSw); go_simp; any_goals (with_reducible rfl)
  simp only [Act.put, List.setIfInBounds_toArray, List.set_cons_zero, List.set_cons_succ]
  refine heldO_take ?_ (by rfl) (by rfl) (by rfl) (fun w hSw => ?_) ?_
  rotate_left
  · (try dsimp only at hSw); go_simp; any_goals (with_reducible rfl)
  simp only [Act.put, List.setIfInBounds_toArray, List.set_cons_zero, List.set_cons_succ]
  refine heldO_take ?_ (by rfl) (by rfl) (by rfl) (fun w hSw => ?_) ?_
  rotate_left
  · (try dsimp only at hSw); go_simp; any_goals (with_reducible rfl)
  simp only [Act.put, List.setIfInBounds_toArray, List.set_cons_zero, List.set_cons_succ]
  refine heldO_take ?_ (by rfl) (by rfl) (by rfl) (fun w hSw => ?_) ?_
  rotate_left
  · (try dsimp only at hSw); go_simp; any_goals (with_reducible rfl)
  simp only [Act.put, List.setIfInBounds_toArray, List.set_cons_zero, List.set_cons_succ]
  refine heldO_take ?_ (by rfl) (by rfl) (by rfl) (fun w hSw => ?_) ?_
  rotate_left
  · (try dsimp only at hSw); go_simp; any_goals (with_reducible rfl)
  simp only [Act.put, List.setIfInBounds_toArray, List.set_cons_zero, List.set_cons_succ]
  refine heldO_step (by rfl) (by rfl) (by rfl) (fun K hK => ?_)
  go_simp
  refine (hsc _).mono ?_
  rintro e w3 ⟨rfl, rfl⟩
  have m3 : New w2 w2.drew := (Mod.refl (fun _ => False) w2).drew
  go_wp2_with fail
  refine hK.out _ _ (HS.out _ m3) (fun hHeld => ?_)
  clear hK K
  try simp only [Act.put, List.setIfInBounds_toArray, List.set_cons_zero, List.set_cons_succ]
  refine heldO_step (by rfl) (by rfl) (by rfl) (fun K hK => ?_)
  go_simp
  refine (HI.out _ (HM2.out.trans m3)).mono ?_
  rintro e w4 ⟨rfl, hm4⟩
  have m4 := m3.trans hm4
  clear hm4
  go_wp2_with fail
  refine hK.out _ _ (HS.out _ m4) (fun hHeld => ?_)
  clear hK K
  try simp only [Act.put, List.setIfInBounds_toArray, List.set_cons_zero, List.set_cons_succ]
  refine heldO_step (by rfl) (by rfl) (by rfl) (fun K hK => ?_)
  go_simp
  have m5 := m4.alloc (.cells #[.int .i64 c1, .int .i64 c2] 3)
  have b5 := Blk.new w4 3 #[.int .i64 c1, .int .i64 c2]
  have hor := cmpOrI_any [c1, c2] w4.heap.size 2 _ b5 rfl (by omega)
  refine hK.out _ _ (HS.out _ m5) (fun hHeld => ?_)
  clear hK K b5
  try simp only [Act.put, List.setIfInBounds_toArray, List.set_cons_zero, List.set_cons_succ]
  generalize hFZ : fz [c1, c2] = FZ at *
  refine heldO_step (by rfl) (by rfl) (by rfl) (fun K hK => ?_)
  go_simp
  refine hor.mono ?_
  clear hor
  rintro e w6 ⟨rfl, rfl⟩
  go_wp2_with fail
  refine hK.out _ _ (HS.out _ m5) (fun hHeld => ?_)
  clear hK K
  try simp only [Act.put, List.setIfInBounds_toArray, List.set_cons_zero, List.set_cons_succ]
  refine heldO_nil ?_
  go_wp2_with fail
  go_ret
  exact ⟨ret_int hFZ.symm, HM2.out.trans m5⟩

end Go.Proofs.YtjnbjianfbfdaaaDoor
