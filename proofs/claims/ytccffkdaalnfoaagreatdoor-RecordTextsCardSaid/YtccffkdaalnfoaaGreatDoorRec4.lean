/- Records: a record's line. Conditions: a record that the check lets through; strconv's table. -/
import Derived.Test.YtccffkdaalnfoaaGreatDoorRec3
import Derived.Test.YtccffkdaalnfoaaGreatDoorHeld2
namespace Go.Proofs.YtccffkdaalnfoaaGreatDoor
open Go.RowKit
set_option linter.unusedVariables false
set_option linter.unusedSimpArgs false



structure LineRec (r : RecD) : Prop where
  i1 : I64 r.at_
  i2 : I64 r.status
  i3 : I64 r.found
  b1 : nameBad r.route = false
  b2 : nameBad r.caller = false
  b3 : nameBad r.act = false
  b4 : nameBad r.inst = false
  z1 : r.route.size ≤ 200
  z2 : r.caller.size ≤ 200
  z3 : r.act.size ≤ 200
  z4 : r.inst.size ≤ 200
/-- as LineRec, whatever the names -/
structure LineRec0 (r : RecD) : Prop where
  i1 : I64 r.at_
  i2 : I64 r.status
  i3 : I64 r.found
  z1 : r.route.size ≤ 200
  z2 : r.caller.size ≤ 200
  z3 : r.act.size ≤ 200
  z4 : r.inst.size ≤ 200
theorem LineRec.zero {r : RecD} (h : LineRec r) : LineRec0 r := ⟨h.i1, h.i2, h.i3, h.z1, h.z2, h.z3, h.z4⟩
theorem dashE_size {s : ByteArray} (h : s.size ≤ 200) : (dashE s).size ≤ 200 := by
  unfold dashE
  split
  · decide
  · exact h

theorem join7 (a b c d e f g : ByteArray) : Lib.join ([a, b, c, d, e, f, g].map (·.data.toList)) sp.data.toList = (((((((((((((a ++ sp) ++ b) ++ sp) ++ c) ++ sp) ++ d) ++ sp) ++ e) ++ sp) ++ f) ++ sp) ++ g) : ByteArray).data.toList := by
  simp [Lib.join, List.intercalate, ByteArray.data_append]

set_option maxRecDepth 100000 in
set_option maxHeartbeats 4000000 in
theorem gate_recordText (r : RecD) (w : World) (hr : LineRec r) (hT : Pow10 w) :
    Calls Tryz.prog 21 #[.agg #[.int .i64 r.at_, .string r.route, .string r.caller, .string r.act, .string r.inst, .int .i64 r.status, .int .i64 r.found]] w fun e w' => e = .returned (.string (recLineB r)) ∧ New w w' := by
  obtain ⟨at_, route, caller, act, inst, status, found⟩ := r
  obtain ⟨i1, i2, i3, b1, b2, b3, b4, z1, z2, z3, z4⟩ := hr
  simp only at i1 i2 i3 b1 b2 b3 b4 z1 z2 z3 z4 ⊢
  have HT := Lib.hid hT
  clear hT
  go_enter Tryz.func21, Tryz.ntmps21
  go_upto_region 1 with (fail)
  have hm0 : New w (w.alloc (.cells #[.int .i64 at_, .string route, .string caller, .string act, .string inst, .int .i64 status, .int .i64 found] 39)) := (Mod.refl _ _).alloc _
  have hbx := Blk.new w 39 #[.int .i64 at_, .string route, .string caller, .string act, .string inst, .int .i64 status, .int .i64 found]
  generalize w.alloc (.cells #[.int .i64 at_, .string route, .string caller, .string act, .string inst, .int .i64 status, .int .i64 found] 39) = w0 at *
  generalize w.heap.size = xb at *
  have HT0 := Lib.hid (HT.out.new hm0)
  have HM0 := Lib.hid hm0
  clear hm0
  have hS : ∀ W, New w0 W → (W.cell? ⟨xb, 0, none⟩ = some (.int .i64 at_) ∧ W.cell? ⟨xb, 1, none⟩ = some (.string route) ∧ W.cell? ⟨xb, 2, none⟩ = some (.string caller) ∧ W.cell? ⟨xb, 3, none⟩ = some (.string act) ∧ W.cell? ⟨xb, 4, none⟩ = some (.string inst) ∧ W.cell? ⟨xb, 5, none⟩ = some (.int .i64 status) ∧ W.cell? ⟨xb, 6, none⟩ = some (.int .i64 found) ∧ xb < W.heap.size) := fun W hW => by
    have hb := hbx.mod hW (fun e => e)
    exact ⟨(hb.cell 0).trans rfl, (hb.cell 1).trans rfl, (hb.cell 2).trans rfl, (hb.cell 3).trans rfl, (hb.cell 4).trans rfl, (hb.cell 5).trans rfl, (hb.cell 6).trans rfl, hb.lt⟩
  have HS := Lib.hid hS
  clear hS
  refine wp_region_held_ord (fun W => W.cell? ⟨xb, 0, none⟩ = some (.int .i64 at_) ∧ W.cell? ⟨xb, 1, none⟩ = some (.string route) ∧ W.cell? ⟨xb, 2, none⟩ = some (.string caller) ∧ W.cell? ⟨xb, 3, none⟩ = some (.string act) ∧ W.cell? ⟨xb, 4, none⟩ = some (.string inst) ∧ W.cell? ⟨xb, 5, none⟩ = some (.int .i64 status) ∧ W.cell? ⟨xb, 6, none⟩ = some (.int .i64 found) ∧ xb < W.heap.size) [2, 5, 8, 11, 14, 17, 20, 21, 22] [0, 1, 3, 4, 6, 7, 9, 10, 12, 13, 15, 16, 18, 19, 2, 5, 8, 11, 14, 17, 20, 21, 22, 23] (by kernel_rfl) (by kernel_rfl) (fun _ _ d _ _ h => by cases d <;> exact h) ?_ (fun hHeld => ?_)
  · exact HS.out _ (Mod.refl _ _).drew
  simp only [List.length_cons, List.length_nil, List.drop_succ_cons, List.drop_zero]
  refine heldO_take ?_ (by rfl) (by rfl) (by rfl) (fun w hSw => ?_) ?_
  rotate_left
  · (try dsimp only at hSw); go_simp; any_goals (with_reducible rfl)
  simp only [Act.put, List.setIfInBounds_toArray, List.set_cons_zero, List.set_cons_succ]
  refine heldO_take ?_ (by rfl) (by rfl) (by rfl) (fun w hSw => ?_) ?_
  rotate_left
  · (try dsimp only at hSw); go_simp; any_goals (with_reducible rfl)
  simp only [Act.put, List.setIfInBounds_toArray, List.set_cons_zero, List.set_cons_succ]
  refine heldO_take ?_ (by rfl) (by rfl) (by rfl) (fun w hSw => ?_) ?_
  rotate_left
  · (try dsimp only at hSw); go_simp; any_goals (with_reducible rfl)
  simp only [Act.put, List.setIfInBounds_toArray, List.set_cons_zero, List.set_cons_succ]
  refine heldO_take ?_ (by rfl) (by rfl) (by rfl) (fun w hSw => ?_) ?_
  rotate_left
  · (try dsimp only at hSw); go_simp; any_goals (with_reducible rfl)
  simp only [Act.put, List.setIfInBounds_toArray, List.set_cons_zero, List.set_cons_succ]
  refine heldO_take ?_ (by rfl) (by rfl) (by rfl) (fun w hSw => ?_) ?_
  rotate_left
  · (try dsimp only at hSw); go_simp; any_goals (with_reducible rfl)
  simp only [Act.put, List.setIfInBounds_toArray, List.set_cons_zero, List.set_cons_succ]
  refine heldO_take ?_ (by rfl) (by rfl) (by rfl) (fun w hSw => ?_) ?_
  rotate_left
  · (try dsimp only at hSw); go_simp; any_goals (with_reducible rfl)
  simp only [Act.put, List.setIfInBounds_toArray, List.set_cons_zero, List.set_cons_succ]
  refine heldO_take ?_ (by rfl) (by rfl) (by rfl) (fun w hSw => ?_) ?_
  rotate_left
  · (try dsimp only at hSw); go_simp; any_goals (with_reducible rfl)
  simp only [Act.put, List.setIfInBounds_toArray, List.set_cons_zero, List.set_cons_succ]
  refine heldO_take ?_ (by rfl) (by rfl) (by rfl) (fun w hSw => ?_) ?_
  rotate_left
  · (try dsimp only at hSw); go_simp; any_goals (with_reducible rfl)
  simp only [Act.put, List.setIfInBounds_toArray, List.set_cons_zero, List.set_cons_succ]
  refine heldO_take ?_ (by rfl) (by rfl) (by rfl) (fun w hSw => ?_) ?_
  rotate_left
  · (try dsimp only at hSw); go_simp; any_goals (with_reducible rfl)
  simp only [Act.put, List.setIfInBounds_toArray, List.set_cons_zero, List.set_cons_succ]
  refine heldO_take ?_ (by rfl) (by rfl) (by rfl) (fun w hSw => ?_) ?_
  rotate_left
  · (try dsimp only at hSw); go_simp; any_goals (with_reducible rfl)
  simp only [Act.put, List.setIfInBounds_toArray, List.set_cons_zero, List.set_cons_succ]
  refine heldO_take ?_ (by rfl) (by rfl) (by rfl) (fun w hSw => ?_) ?_
  rotate_left
  · (try dsimp only at hSw); go_simp; any_goals (with_reducible rfl)
  simp only [Act.put, List.setIfInBounds_toArray, List.set_cons_zero, List.set_cons_succ]
  refine heldO_take ?_ (by rfl) (by rfl) (by rfl) (fun w hSw => ?_) ?_
  rotate_left
  · (try dsimp only at hSw); go_simp; any_goals (with_reducible rfl)
  simp only [Act.put, List.setIfInBounds_toArray, List.set_cons_zero, List.set_cons_succ]
  refine heldO_take ?_ (by rfl) (by rfl) (by rfl) (fun w hSw => ?_) ?_
  rotate_left
  · (try dsimp only at hSw); go_simp; any_goals (with_reducible rfl)
  simp only [Act.put, List.setIfInBounds_toArray, List.set_cons_zero, List.set_cons_succ]
  refine heldO_take ?_ (by rfl) (by rfl) (by rfl) (fun w hSw => ?_) ?_
  rotate_left
  · (try dsimp only at hSw); go_simp; any_goals (with_reducible rfl)
  simp only [Act.put, List.setIfInBounds_toArray, List.set_cons_zero, List.set_cons_succ]
  refine heldO_step (by rfl) (by rfl) (by rfl) (fun K hK => ?_)
  go_simp
  refine (itoa_any at_ i1 _ (HT0.out.new (Mod.refl _ _).drew)).mono ?_
  rintro e w1 ⟨rfl, hm1⟩
  have m1 : New w0 w1 := (Mod.refl (fun _ => False) w0).drew.trans hm1
  clear hm1
  go_wp2_with fail
  refine hK.out _ _ (HS.out _ m1) (fun hHeld => ?_)
  clear hK K
  try simp only [Act.put, List.setIfInBounds_toArray, List.set_cons_zero, List.set_cons_succ]
  refine heldO_step (by rfl) (by rfl) (by rfl) (fun K hK => ?_)
  go_simp
  refine (gate_dash route _ (by unfold maxLen; omega) b1).mono ?_
  rintro e w2 ⟨rfl, hm1⟩
  have m2 : New w0 w2 := by rw [← hm1]; exact m1
  clear hm1
  go_wp2_with fail
  refine hK.out _ _ (HS.out _ m2) (fun hHeld => ?_)
  clear hK K
  try simp only [Act.put, List.setIfInBounds_toArray, List.set_cons_zero, List.set_cons_succ]
  refine heldO_step (by rfl) (by rfl) (by rfl) (fun K hK => ?_)
  go_simp
  refine (gate_dash caller _ (by unfold maxLen; omega) b2).mono ?_
  rintro e w3 ⟨rfl, hm1⟩
  have m3 : New w0 w3 := by rw [← hm1]; exact m2
  clear hm1
  go_wp2_with fail
  refine hK.out _ _ (HS.out _ m3) (fun hHeld => ?_)
  clear hK K
  try simp only [Act.put, List.setIfInBounds_toArray, List.set_cons_zero, List.set_cons_succ]
  refine heldO_step (by rfl) (by rfl) (by rfl) (fun K hK => ?_)
  go_simp
  refine (gate_dash act _ (by unfold maxLen; omega) b3).mono ?_
  rintro e w4 ⟨rfl, hm1⟩
  have m4 : New w0 w4 := by rw [← hm1]; exact m3
  clear hm1
  go_wp2_with fail
  refine hK.out _ _ (HS.out _ m4) (fun hHeld => ?_)
  clear hK K
  try simp only [Act.put, List.setIfInBounds_toArray, List.set_cons_zero, List.set_cons_succ]
  refine heldO_step (by rfl) (by rfl) (by rfl) (fun K hK => ?_)
  go_simp
  refine (gate_dash inst _ (by unfold maxLen; omega) b4).mono ?_
  rintro e w5 ⟨rfl, hm1⟩
  have m5 : New w0 w5 := by rw [← hm1]; exact m4
  clear hm1
  go_wp2_with fail
  refine hK.out _ _ (HS.out _ m5) (fun hHeld => ?_)
  clear hK K
  try simp only [Act.put, List.setIfInBounds_toArray, List.set_cons_zero, List.set_cons_succ]
  refine heldO_step (by rfl) (by rfl) (by rfl) (fun K hK => ?_)
  go_simp
  refine (itoa_any status i2 _ (HT0.out.new m5)).mono ?_
  rintro e w6 ⟨rfl, hm1⟩
  have m6 : New w0 w6 := m5.trans hm1
  clear hm1
  go_wp2_with fail
  refine hK.out _ _ (HS.out _ m6) (fun hHeld => ?_)
  clear hK K
  try simp only [Act.put, List.setIfInBounds_toArray, List.set_cons_zero, List.set_cons_succ]
  refine heldO_step (by rfl) (by rfl) (by rfl) (fun K hK => ?_)
  go_simp
  refine (itoa_any found i3 _ (HT0.out.new m6)).mono ?_
  rintro e w7 ⟨rfl, hm1⟩
  have m7 : New w0 w7 := m6.trans hm1
  clear hm1
  go_wp2_with fail
  refine hK.out _ _ (HS.out _ m7) (fun hHeld => ?_)
  clear hK K
  try simp only [Act.put, List.setIfInBounds_toArray, List.set_cons_zero, List.set_cons_succ]
  refine heldO_step (by rfl) (by rfl) (by rfl) (fun K hK => ?_)
  go_simp
  have m8 : New w0 (w7.alloc (.cells #[.string (itoaB at_), .string (dashE route), .string (dashE caller), .string (dashE act), .string (dashE inst), .string (itoaB status), .string (itoaB found)] 9)) := m7.alloc _
  have b9 := Blk.new w7 9 #[.string (itoaB at_), .string (dashE route), .string (dashE caller), .string (dashE act), .string (dashE inst), .string (itoaB status), .string (itoaB found)]
  refine hK.out _ _ (HS.out _ m8) (fun hHeld => ?_)
  clear hK K
  try simp only [Act.put, List.setIfInBounds_toArray, List.set_cons_zero, List.set_cons_succ]
  generalize hw9 : w7.alloc (.cells #[.string (itoaB at_), .string (dashE route), .string (dashE caller), .string (dashE act), .string (dashE inst), .string (itoaB status), .string (itoaB found)] 9) = w9 at *
  have y1 := itoaB_size i1
  have y2 := itoaB_size i2
  have y3 := itoaB_size i3
  have d1 := dashE_size z1
  have d2 := dashE_size z2
  have d3 := dashE_size z3
  have d4 := dashE_size z4
  have e1 : (sp : ByteArray).size = 1 := rfl
  have hsz : ((((((((((((((itoaB at_) ++ sp) ++ dashE route) ++ sp) ++ dashE caller) ++ sp) ++ dashE act) ++ sp) ++ dashE inst) ++ sp) ++ itoaB status) ++ sp) ++ itoaB found) : ByteArray).size ≤ 1190 := by
    simp only [ByteArray.size_append]
    omega
  have hjo := Tryz.strings_Join w7.heap.size 0 7 [itoaB at_, dashE route, dashE caller, dashE act, dashE inst, itoaB status, itoaB found] sp w9 (fun j x hx => by
    have := b9.cell j
    rw [Nat.zero_add]
    rw [this]
    match j, hx with
    | 0, hx => injection hx with hx; subst hx; rfl
    | 1, hx => injection hx with hx; subst hx; rfl
    | 2, hx => injection hx with hx; subst hx; rfl
    | 3, hx => injection hx with hx; subst hx; rfl
    | 4, hx => injection hx with hx; subst hx; rfl
    | 5, hx => injection hx with hx; subst hx; rfl
    | 6, hx => injection hx with hx; subst hx; rfl
    | j + 7, hx => cases hx) b9.lt (by simp) (by simp) (by
      rw [join7]
      show ((((((((((((((itoaB at_) ++ sp) ++ dashE route) ++ sp) ++ dashE caller) ++ sp) ++ dashE act) ++ sp) ++ dashE inst) ++ sp) ++ itoaB status) ++ sp) ++ itoaB found) : ByteArray).size ≤ _
      omega)
  rw [join7] at hjo
  refine heldO_step (by rfl) (by rfl) (by rfl) (fun K hK => ?_)
  go_simp
  refine hjo.mono ?_
  clear hjo
  rintro e w10 ⟨rfl, hm10⟩
  have m10 : New w0 w10 := m8.trans (Mod.of_below hm10)
  have hJE : (⟨((((((((((((((itoaB at_) ++ sp) ++ dashE route) ++ sp) ++ dashE caller) ++ sp) ++ dashE act) ++ sp) ++ dashE inst) ++ sp) ++ itoaB status) ++ sp) ++ itoaB found) : ByteArray).data.toList.toArray⟩ : ByteArray) = (((((((((((((itoaB at_) ++ sp) ++ dashE route) ++ sp) ++ dashE caller) ++ sp) ++ dashE act) ++ sp) ++ dashE inst) ++ sp) ++ itoaB status) ++ sp) ++ itoaB found) := mk_toList _
  rw [hJE]
  have HLB : Hid ((((((((((((((itoaB at_) ++ sp) ++ dashE route) ++ sp) ++ dashE caller) ++ sp) ++ dashE act) ++ sp) ++ dashE inst) ++ sp) ++ itoaB status) ++ sp) ++ itoaB found) ++ nl = recLineB ⟨at_, route, caller, act, inst, status, found⟩) := Lib.hid (by unfold recLineB recWords; rw [join7, mk_toList])
  clear hJE
  generalize ((((((((((((((itoaB at_) ++ sp) ++ dashE route) ++ sp) ++ dashE caller) ++ sp) ++ dashE act) ++ sp) ++ dashE inst) ++ sp) ++ itoaB status) ++ sp) ++ itoaB found) : ByteArray) = J at *
  have hy : ¬ 9223372036854775807 < J.size + 1 := by omega
  go_wp2_with fail
  refine hK.out _ _ (HS.out _ m10) (fun hHeld => ?_)
  clear hK K
  try simp only [Act.put, List.setIfInBounds_toArray, List.set_cons_zero, List.set_cons_succ]
  refine heldO_take ?_ (by rfl) (by rfl) (by rfl) (fun w hSw => ?_) ?_
  rotate_left
  · (try dsimp only at hSw); go_simp; any_goals (with_reducible rfl)
  simp only [Act.put, List.setIfInBounds_toArray, List.set_cons_zero, List.set_cons_succ]
  refine heldO_nil ?_
  go_wp2_with fail
  go_ret
  exact ⟨by rw [← HLB.out]; rfl, HM0.out.trans m10⟩

end Go.Proofs.YtccffkdaalnfoaaGreatDoor
