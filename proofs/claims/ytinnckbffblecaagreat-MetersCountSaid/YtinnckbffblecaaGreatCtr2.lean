/- What lasts: the methods of sliding limits and of those at once. Conditions: the numbers of a limit that was checked, moments from 0 to 10^12, pieces with modest numbers. -/
import Derived.Test.YtinnckbffblecaaGreatWith
import Derived.Test.YtinnckbffblecaaGreatHeld2
namespace Go.Proofs.YtinnckbffblecaaGreat
open Go.RowKit
set_option linter.unusedVariables false
set_option linter.unusedSimpArgs false


/-- a counter with pieces, of type T, at block g -/
def PcsAt (T : TypeId) (w : World) (g : Nat) (l : Lim) (A : Option Addr) (n c : Nat) : Prop :=
  Blk w g T #[.string l.key, .int .i64 l.kind, .int .i64 l.most, .int .i64 l.per, .int .i64 l.burst, .slice A n c]

set_option maxHeartbeats 1000000 in
theorem sliding_most (l : Lim) (g : Nat) (ps : List Pc) (A : Option Addr) (n c : Nat) (t : Int) (w : World) (hb : PcsAt 162 w g l A n c) (h : PcRows w A n ps) (hm : ∀ x ∈ ps, x.Mild) (hn : n ≤ 1000000) (hmost : 1 ≤ l.most ∧ l.most ≤ 1000000000) :
    Calls Tryz.prog 147 #[.pointer (some ⟨g, 0, none⟩), .int .i64 t] w fun e w' => e = .returned (.int .i64 (l.most - sumC ps t)) ∧ New w w' := by
  have hbd := sumC_bd hm t
  have hle : (1000000000 : Int) * ps.length ≤ 1000000000 * 1000000 := Int.mul_le_mul_of_nonneg_left (by have := h.1; omega) (by omega)
  have c2 := hb.cell 2
  have c5 := hb.cell 5
  simp at c2 c5
  have hgl := hb.lt
  have e1 : IntKind.i64.wrap (l.most - sumC ps t) = l.most - sumC ps t := IntWalk.i64_in _ (by omega)
  go_enter Tryz.func147, Tryz.ntmps147
  go_wp2_with fail
  refine wp_region_held_ord (fun w' => w'.cell? ⟨g, 2, none⟩ = some (.int .i64 l.most) ∧ w'.cell? ⟨g, 5, none⟩ = some (.slice A n c) ∧ g < w'.heap.size) [10] [0, 1, 2, 3, 4, 5, 6, 7, 8, 9, 10, 11] (by kernel_rfl) (by kernel_rfl) (fun _ _ d _ _ h => by cases d <;> exact h) ?_ (fun hHeld => ?_)
  · exact ⟨c2, c5, hgl⟩
  simp only [List.length_cons, List.length_nil, List.drop_succ_cons, List.drop_zero]
  refine heldO_take ?_ (by rfl) (by rfl) (by rfl) (fun w hSw => ?_) ?_
  rotate_left
  · (try dsimp only at hSw); go_simp; any_goals (with_reducible rfl)
  simp only [Act.put, List.setIfInBounds_toArray, List.set_cons_zero, List.set_cons_succ]
  refine heldO_take ?_ (by rfl) (by rfl) (by rfl) (fun w hSw => ?_) ?_
  rotate_left
  · (try dsimp only at hSw); go_simp; any_goals (with_reducible rfl)
  simp only [Act.put, List.setIfInBounds_toArray, List.set_cons_zero, List.set_cons_succ]
  refine heldO_take ?_ (by rfl) (by rfl) (by rfl) (fun w hSw => ?_) ?_
  rotate_left
  · (try dsimp only at hSw); go_simp; any_goals (with_reducible rfl)
  simp only [Act.put, List.setIfInBounds_toArray, List.set_cons_zero, List.set_cons_succ]
  refine heldO_take ?_ (by rfl) (by rfl) (by rfl) (fun w hSw => ?_) ?_
  rotate_left
  · (try dsimp only at hSw); go_simp; any_goals (with_reducible rfl)
  simp only [Act.put, List.setIfInBounds_toArray, List.set_cons_zero, List.set_cons_succ]
  refine heldO_take ?_ (by rfl) (by rfl) (by rfl) (fun w hSw => ?_) ?_
  rotate_left
  · (try dsimp only at hSw); go_simp; any_goals (with_reducible rfl)
  simp only [Act.put, List.setIfInBounds_toArray, List.set_cons_zero, List.set_cons_succ]
  refine heldO_take ?_ (by rfl) (by rfl) (by rfl) (fun w hSw => ?_) ?_
  rotate_left
  · (try dsimp only at hSw); go_simp; any_goals (with_reducible rfl)
  simp only [Act.put, List.setIfInBounds_toArray, List.set_cons_zero, List.set_cons_succ]
  refine heldO_take ?_ (by rfl) (by rfl) (by rfl) (fun w hSw => ?_) ?_
  rotate_left
  · (try dsimp only at hSw); go_simp; any_goals (with_reducible rfl)
  simp only [Act.put, List.setIfInBounds_toArray, List.set_cons_zero, List.set_cons_succ]
  refine heldO_take ?_ (by rfl) (by rfl) (by rfl) (fun w hSw => ?_) ?_
  rotate_left
  · (try dsimp only at hSw); go_simp; any_goals (with_reducible rfl)
  simp only [Act.put, List.setIfInBounds_toArray, List.set_cons_zero, List.set_cons_succ]
  refine heldO_take ?_ (by rfl) (by rfl) (by rfl) (fun w hSw => ?_) ?_
  rotate_left
  · (try dsimp only at hSw); go_simp; any_goals (with_reducible rfl)
  simp only [Act.put, List.setIfInBounds_toArray, List.set_cons_zero, List.set_cons_succ]
  refine heldO_take ?_ (by rfl) (by rfl) (by rfl) (fun w hSw => ?_) ?_
  rotate_left
  · (try dsimp only at hSw); go_simp; any_goals (with_reducible rfl)
  simp only [Act.put, List.setIfInBounds_toArray, List.set_cons_zero, List.set_cons_succ]
  have hsum : Calls Tryz.prog 151 #[.slice A n c, .int .i64 t] (w.drewN 1) fun e w' => e = .returned (.int .i64 (sumC ps t)) ∧ New (w.drewN 1) w' := pieces_sum ps A n c (w.drewN 1) (h.new ((Mod.refl _ w).drewN 1)) hm hn t
  refine heldO_step (by rfl) (by rfl) (by rfl) (fun K hK => ?_)
  go_simp
  refine hsum.mono ?_
  clear hsum
  rintro e w2 ⟨rfl, hm2⟩
  have hb2 := Blk.mod (w := w.drewN 1) hb hm2 (fun e => e)
  have k2 : w2.cell? ⟨g, 2, none⟩ = some (.int .i64 l.most) := (hb2.cell 2).trans rfl
  have k5 : w2.cell? ⟨g, 5, none⟩ = some (.slice A n c) := (hb2.cell 5).trans rfl
  have kl := hb2.lt
  go_wp2_with fail
  refine hK.out _ _ ⟨k2, k5, kl⟩ (fun hHeld => ?_)
  clear hK K
  try simp only [Act.put, List.setIfInBounds_toArray, List.set_cons_zero, List.set_cons_succ]
  refine heldO_take ?_ (by rfl) (by rfl) (by rfl) (fun w hSw => ?_) ?_
  rotate_left
  · (try dsimp only at hSw); go_simp; any_goals (with_reducible rfl)
  simp only [Act.put, List.setIfInBounds_toArray, List.set_cons_zero, List.set_cons_succ]
  refine heldO_nil ?_
  go_wp2_with fail
  go_ret
  exact ⟨ret_int (by omega), ((Mod.refl _ w).drewN 1).trans hm2⟩
set_option maxHeartbeats 1000000 in
theorem once_most (l : Lim) (g : Nat) (ps : List Pc) (A : Option Addr) (n c : Nat) (t : Int) (w : World) (hb : PcsAt 167 w g l A n c) (h : PcRows w A n ps) (hm : ∀ x ∈ ps, x.Mild) (hn : n ≤ 1000000) (hmost : 1 ≤ l.most ∧ l.most ≤ 1000000000) :
    Calls Tryz.prog 169 #[.pointer (some ⟨g, 0, none⟩), .int .i64 t] w fun e w' => e = .returned (.int .i64 (l.most - sumC ps t)) ∧ New w w' := by
  have hbd := sumC_bd hm t
  have hle : (1000000000 : Int) * ps.length ≤ 1000000000 * 1000000 := Int.mul_le_mul_of_nonneg_left (by have := h.1; omega) (by omega)
  have c2 := hb.cell 2
  have c5 := hb.cell 5
  simp at c2 c5
  have hgl := hb.lt
  have e1 : IntKind.i64.wrap (l.most - sumC ps t) = l.most - sumC ps t := IntWalk.i64_in _ (by omega)
  go_enter Tryz.func169, Tryz.ntmps169
  go_wp2_with fail
  refine wp_region_held_ord (fun w' => w'.cell? ⟨g, 2, none⟩ = some (.int .i64 l.most) ∧ w'.cell? ⟨g, 5, none⟩ = some (.slice A n c) ∧ g < w'.heap.size) [10] [0, 1, 2, 3, 4, 5, 6, 7, 8, 9, 10, 11] (by kernel_rfl) (by kernel_rfl) (fun _ _ d _ _ h => by cases d <;> exact h) ?_ (fun hHeld => ?_)
  · exact ⟨c2, c5, hgl⟩
  simp only [List.length_cons, List.length_nil, List.drop_succ_cons, List.drop_zero]
  refine heldO_take ?_ (by rfl) (by rfl) (by rfl) (fun w hSw => ?_) ?_
  rotate_left
  · (try dsimp only at hSw); go_simp; any_goals (with_reducible rfl)
  simp only [Act.put, List.setIfInBounds_toArray, List.set_cons_zero, List.set_cons_succ]
  refine heldO_take ?_ (by rfl) (by rfl) (by rfl) (fun w hSw => ?_) ?_
  rotate_left
  · (try dsimp only at hSw); go_simp; any_goals (with_reducible rfl)
  simp only [Act.put, List.setIfInBounds_toArray, List.set_cons_zero, List.set_cons_succ]
  refine heldO_take ?_ (by rfl) (by rfl) (by rfl) (fun w hSw => ?_) ?_
  rotate_left
  · (try dsimp only at hSw); go_simp; any_goals (with_reducible rfl)
  simp only [Act.put, List.setIfInBounds_toArray, List.set_cons_zero, List.set_cons_succ]
  refine heldO_take ?_ (by rfl) (by rfl) (by rfl) (fun w hSw => ?_) ?_
  rotate_left
  · (try dsimp only at hSw); go_simp; any_goals (with_reducible rfl)
  simp only [Act.put, List.setIfInBounds_toArray, List.set_cons_zero, List.set_cons_succ]
  refine heldO_take ?_ (by rfl) (by rfl) (by rfl) (fun w hSw => ?_) ?_
  rotate_left
  · (try dsimp only at hSw); go_simp; any_goals (with_reducible rfl)
  simp only [Act.put, List.setIfInBounds_toArray, List.set_cons_zero, List.set_cons_succ]
  refine heldO_take ?_ (by rfl) (by rfl) (by rfl) (fun w hSw => ?_) ?_
  rotate_left
  · (try dsimp only at hSw); go_simp; any_goals (with_reducible rfl)
  simp only [Act.put, List.setIfInBounds_toArray, List.set_cons_zero, List.set_cons_succ]
  refine heldO_take ?_ (by rfl) (by rfl) (by rfl) (fun w hSw => ?_) ?_
  rotate_left
  · (try dsimp only at hSw); go_simp; any_goals (with_reducible rfl)
  simp only [Act.put, List.setIfInBounds_toArray, List.set_cons_zero, List.set_cons_succ]
  refine heldO_take ?_ (by rfl) (by rfl) (by rfl) (fun w hSw => ?_) ?_
  rotate_left
  · (try dsimp only at hSw); go_simp; any_goals (with_reducible rfl)
  simp only [Act.put, List.setIfInBounds_toArray, List.set_cons_zero, List.set_cons_succ]
  refine heldO_take ?_ (by rfl) (by rfl) (by rfl) (fun w hSw => ?_) ?_
  rotate_left
  · (try dsimp only at hSw); go_simp; any_goals (with_reducible rfl)
  simp only [Act.put, List.setIfInBounds_toArray, List.set_cons_zero, List.set_cons_succ]
  refine heldO_take ?_ (by rfl) (by rfl) (by rfl) (fun w hSw => ?_) ?_
  rotate_left
  · (try dsimp only at hSw); go_simp; any_goals (with_reducible rfl)
  simp only [Act.put, List.setIfInBounds_toArray, List.set_cons_zero, List.set_cons_succ]
  have hsum : Calls Tryz.prog 151 #[.slice A n c, .int .i64 t] (w.drewN 1) fun e w' => e = .returned (.int .i64 (sumC ps t)) ∧ New (w.drewN 1) w' := pieces_sum ps A n c (w.drewN 1) (h.new ((Mod.refl _ w).drewN 1)) hm hn t
  refine heldO_step (by rfl) (by rfl) (by rfl) (fun K hK => ?_)
  go_simp
  refine hsum.mono ?_
  clear hsum
  rintro e w2 ⟨rfl, hm2⟩
  have hb2 := Blk.mod (w := w.drewN 1) hb hm2 (fun e => e)
  have k2 : w2.cell? ⟨g, 2, none⟩ = some (.int .i64 l.most) := (hb2.cell 2).trans rfl
  have k5 : w2.cell? ⟨g, 5, none⟩ = some (.slice A n c) := (hb2.cell 5).trans rfl
  have kl := hb2.lt
  go_wp2_with fail
  refine hK.out _ _ ⟨k2, k5, kl⟩ (fun hHeld => ?_)
  clear hK K
  try simp only [Act.put, List.setIfInBounds_toArray, List.set_cons_zero, List.set_cons_succ]
  refine heldO_take ?_ (by rfl) (by rfl) (by rfl) (fun w hSw => ?_) ?_
  rotate_left
  · (try dsimp only at hSw); go_simp; any_goals (with_reducible rfl)
  simp only [Act.put, List.setIfInBounds_toArray, List.set_cons_zero, List.set_cons_succ]
  refine heldO_nil ?_
  go_wp2_with fail
  go_ret
  exact ⟨ret_int (by omega), ((Mod.refl _ w).drewN 1).trans hm2⟩

set_option maxHeartbeats 1000000 in
theorem sliding_wait (l : Lim) (g : Nat) (ps : List Pc) (A : Option Addr) (n c : Nat) (t cost : Int) (w : World) (hb : PcsAt 162 w g l A n c) (h : PcRows w A n ps) (hm : ∀ x ∈ ps, x.Mild) (hn : n ≤ 1000000) (hmost : 1 ≤ l.most ∧ l.most ≤ 1000000000) (hc : 0 ≤ cost ∧ cost ≤ 1000000000) (ht : 0 ≤ t ∧ t ≤ 1000000000000) :
    Calls Tryz.prog 148 #[.pointer (some ⟨g, 0, none⟩), .int .i64 t, .int .i64 cost] w fun e w' => e = .returned (.int .i64 (waitP ps t (l.most - cost))) ∧ New w w' := by
  have c2 := hb.cell 2
  have c5 := hb.cell 5
  simp at c2 c5
  have hgl := hb.lt
  have e1 : IntKind.i64.wrap (l.most - cost) = l.most - cost := IntWalk.i64_in _ (by omega)
  go_enter Tryz.func148, Tryz.ntmps148
  go_wp2_with fail
  refine wp_region_held_ord (fun w' => w'.cell? ⟨g, 2, none⟩ = some (.int .i64 l.most) ∧ w'.cell? ⟨g, 5, none⟩ = some (.slice A n c) ∧ g < w'.heap.size) [12] [0, 1, 2, 3, 4, 5, 6, 7, 8, 9, 10, 11, 12] (by kernel_rfl) (by kernel_rfl) (fun _ _ d _ _ h => by cases d <;> exact h) ?_ (fun hHeld => ?_)
  · exact ⟨c2, c5, hgl⟩
  simp only [List.length_cons, List.length_nil, List.drop_succ_cons, List.drop_zero]
  refine heldO_take ?_ (by rfl) (by rfl) (by rfl) (fun w hSw => ?_) ?_
  rotate_left
  · (try dsimp only at hSw); go_simp; any_goals (with_reducible rfl)
  simp only [Act.put, List.setIfInBounds_toArray, List.set_cons_zero, List.set_cons_succ]
  refine heldO_take ?_ (by rfl) (by rfl) (by rfl) (fun w hSw => ?_) ?_
  rotate_left
  · (try dsimp only at hSw); go_simp; any_goals (with_reducible rfl)
  simp only [Act.put, List.setIfInBounds_toArray, List.set_cons_zero, List.set_cons_succ]
  refine heldO_take ?_ (by rfl) (by rfl) (by rfl) (fun w hSw => ?_) ?_
  rotate_left
  · (try dsimp only at hSw); go_simp; any_goals (with_reducible rfl)
  simp only [Act.put, List.setIfInBounds_toArray, List.set_cons_zero, List.set_cons_succ]
  refine heldO_take ?_ (by rfl) (by rfl) (by rfl) (fun w hSw => ?_) ?_
  rotate_left
  · (try dsimp only at hSw); go_simp; any_goals (with_reducible rfl)
  simp only [Act.put, List.setIfInBounds_toArray, List.set_cons_zero, List.set_cons_succ]
  refine heldO_take ?_ (by rfl) (by rfl) (by rfl) (fun w hSw => ?_) ?_
  rotate_left
  · (try dsimp only at hSw); go_simp; any_goals (with_reducible rfl)
  simp only [Act.put, List.setIfInBounds_toArray, List.set_cons_zero, List.set_cons_succ]
  refine heldO_take ?_ (by rfl) (by rfl) (by rfl) (fun w hSw => ?_) ?_
  rotate_left
  · (try dsimp only at hSw); go_simp; any_goals (with_reducible rfl)
  simp only [Act.put, List.setIfInBounds_toArray, List.set_cons_zero, List.set_cons_succ]
  refine heldO_take ?_ (by rfl) (by rfl) (by rfl) (fun w hSw => ?_) ?_
  rotate_left
  · (try dsimp only at hSw); go_simp; any_goals (with_reducible rfl)
  simp only [Act.put, List.setIfInBounds_toArray, List.set_cons_zero, List.set_cons_succ]
  refine heldO_take ?_ (by rfl) (by rfl) (by rfl) (fun w hSw => ?_) ?_
  rotate_left
  · (try dsimp only at hSw); go_simp; any_goals (with_reducible rfl)
  simp only [Act.put, List.setIfInBounds_toArray, List.set_cons_zero, List.set_cons_succ]
  refine heldO_take ?_ (by rfl) (by rfl) (by rfl) (fun w hSw => ?_) ?_
  rotate_left
  · (try dsimp only at hSw); go_simp; any_goals (with_reducible rfl)
  simp only [Act.put, List.setIfInBounds_toArray, List.set_cons_zero, List.set_cons_succ]
  refine heldO_take ?_ (by rfl) (by rfl) (by rfl) (fun w hSw => ?_) ?_
  rotate_left
  · (try dsimp only at hSw); go_simp; any_goals (with_reducible rfl)
  simp only [Act.put, List.setIfInBounds_toArray, List.set_cons_zero, List.set_cons_succ]
  refine heldO_take ?_ (by rfl) (by rfl) (by rfl) (fun w hSw => ?_) ?_
  rotate_left
  · (try dsimp only at hSw); go_simp; any_goals (with_reducible rfl)
  simp only [Act.put, List.setIfInBounds_toArray, List.set_cons_zero, List.set_cons_succ]
  refine heldO_take ?_ (by rfl) (by rfl) (by rfl) (fun w hSw => ?_) ?_
  rotate_left
  · (try dsimp only at hSw); go_simp; any_goals (with_reducible rfl)
  simp only [Act.put, List.setIfInBounds_toArray, List.set_cons_zero, List.set_cons_succ]
  have hw : Calls Tryz.prog 152 #[.slice A n c, .int .i64 t, .int .i64 (l.most - cost)] (w.drewN 1) fun e w' => e = .returned (.int .i64 (waitP ps t (l.most - cost))) ∧ New (w.drewN 1) w' := pieces_wait ps A n c (w.drewN 1) (h.new ((Mod.refl _ w).drewN 1)) hm hn t _ ht
  refine heldO_step (by rfl) (by rfl) (by rfl) (fun K hK => ?_)
  go_simp
  refine hw.mono ?_
  clear hw
  rintro e w2 ⟨rfl, hm2⟩
  have hb2 := Blk.mod (w := w.drewN 1) hb hm2 (fun e => e)
  have k2 : w2.cell? ⟨g, 2, none⟩ = some (.int .i64 l.most) := (hb2.cell 2).trans rfl
  have k5 : w2.cell? ⟨g, 5, none⟩ = some (.slice A n c) := (hb2.cell 5).trans rfl
  have kl := hb2.lt
  go_wp2_with fail
  refine hK.out _ _ ⟨k2, k5, kl⟩ (fun hHeld => ?_)
  clear hK K
  try simp only [Act.put, List.setIfInBounds_toArray, List.set_cons_zero, List.set_cons_succ]
  refine heldO_nil ?_
  go_wp2_with fail
  go_ret
  exact ⟨rfl, ((Mod.refl _ w).drewN 1).trans hm2⟩
set_option maxHeartbeats 1000000 in
theorem once_wait (l : Lim) (g : Nat) (ps : List Pc) (A : Option Addr) (n c : Nat) (t cost : Int) (w : World) (hb : PcsAt 167 w g l A n c) (h : PcRows w A n ps) (hm : ∀ x ∈ ps, x.Mild) (hn : n ≤ 1000000) (hmost : 1 ≤ l.most ∧ l.most ≤ 1000000000) (hc : 0 ≤ cost ∧ cost ≤ 1000000000) (ht : 0 ≤ t ∧ t ≤ 1000000000000) :
    Calls Tryz.prog 170 #[.pointer (some ⟨g, 0, none⟩), .int .i64 t, .int .i64 cost] w fun e w' => e = .returned (.int .i64 (waitP ps t (l.most - cost))) ∧ New w w' := by
  have c2 := hb.cell 2
  have c5 := hb.cell 5
  simp at c2 c5
  have hgl := hb.lt
  have e1 : IntKind.i64.wrap (l.most - cost) = l.most - cost := IntWalk.i64_in _ (by omega)
  go_enter Tryz.func170, Tryz.ntmps170
  go_wp2_with fail
  refine wp_region_held_ord (fun w' => w'.cell? ⟨g, 2, none⟩ = some (.int .i64 l.most) ∧ w'.cell? ⟨g, 5, none⟩ = some (.slice A n c) ∧ g < w'.heap.size) [12] [0, 1, 2, 3, 4, 5, 6, 7, 8, 9, 10, 11, 12] (by kernel_rfl) (by kernel_rfl) (fun _ _ d _ _ h => by cases d <;> exact h) ?_ (fun hHeld => ?_)
  · exact ⟨c2, c5, hgl⟩
  simp only [List.length_cons, List.length_nil, List.drop_succ_cons, List.drop_zero]
  refine heldO_take ?_ (by rfl) (by rfl) (by rfl) (fun w hSw => ?_) ?_
  rotate_left
  · (try dsimp only at hSw); go_simp; any_goals (with_reducible rfl)
  simp only [Act.put, List.setIfInBounds_toArray, List.set_cons_zero, List.set_cons_succ]
  refine heldO_take ?_ (by rfl) (by rfl) (by rfl) (fun w hSw => ?_) ?_
  rotate_left
  · (try dsimp only at hSw); go_simp; any_goals (with_reducible rfl)
  simp only [Act.put, List.setIfInBounds_toArray, List.set_cons_zero, List.set_cons_succ]
  refine heldO_take ?_ (by rfl) (by rfl) (by rfl) (fun w hSw => ?_) ?_
  rotate_left
  · (try dsimp only at hSw); go_simp; any_goals (with_reducible rfl)
  simp only [Act.put, List.setIfInBounds_toArray, List.set_cons_zero, List.set_cons_succ]
  refine heldO_take ?_ (by rfl) (by rfl) (by rfl) (fun w hSw => ?_) ?_
  rotate_left
  · (try dsimp only at hSw); go_simp; any_goals (with_reducible rfl)
  simp only [Act.put, List.setIfInBounds_toArray, List.set_cons_zero, List.set_cons_succ]
  refine heldO_take ?_ (by rfl) (by rfl) (by rfl) (fun w hSw => ?_) ?_
  rotate_left
  · (try dsimp only at hSw); go_simp; any_goals (with_reducible rfl)
  simp only [Act.put, List.setIfInBounds_toArray, List.set_cons_zero, List.set_cons_succ]
  refine heldO_take ?_ (by rfl) (by rfl) (by rfl) (fun w hSw => ?_) ?_
  rotate_left
  · (try dsimp only at hSw); go_simp; any_goals (with_reducible rfl)
  simp only [Act.put, List.setIfInBounds_toArray, List.set_cons_zero, List.set_cons_succ]
  refine heldO_take ?_ (by rfl) (by rfl) (by rfl) (fun w hSw => ?_) ?_
  rotate_left
  · (try dsimp only at hSw); go_simp; any_goals (with_reducible rfl)
  simp only [Act.put, List.setIfInBounds_toArray, List.set_cons_zero, List.set_cons_succ]
  refine heldO_take ?_ (by rfl) (by rfl) (by rfl) (fun w hSw => ?_) ?_
  rotate_left
  · (try dsimp only at hSw); go_simp; any_goals (with_reducible rfl)
  simp only [Act.put, List.setIfInBounds_toArray, List.set_cons_zero, List.set_cons_succ]
  refine heldO_take ?_ (by rfl) (by rfl) (by rfl) (fun w hSw => ?_) ?_
  rotate_left
  · (try dsimp only at hSw); go_simp; any_goals (with_reducible rfl)
  simp only [Act.put, List.setIfInBounds_toArray, List.set_cons_zero, List.set_cons_succ]
  refine heldO_take ?_ (by rfl) (by rfl) (by rfl) (fun w hSw => ?_) ?_
  rotate_left
  · (try dsimp only at hSw); go_simp; any_goals (with_reducible rfl)
  simp only [Act.put, List.setIfInBounds_toArray, List.set_cons_zero, List.set_cons_succ]
  refine heldO_take ?_ (by rfl) (by rfl) (by rfl) (fun w hSw => ?_) ?_
  rotate_left
  · (try dsimp only at hSw); go_simp; any_goals (with_reducible rfl)
  simp only [Act.put, List.setIfInBounds_toArray, List.set_cons_zero, List.set_cons_succ]
  refine heldO_take ?_ (by rfl) (by rfl) (by rfl) (fun w hSw => ?_) ?_
  rotate_left
  · (try dsimp only at hSw); go_simp; any_goals (with_reducible rfl)
  simp only [Act.put, List.setIfInBounds_toArray, List.set_cons_zero, List.set_cons_succ]
  have hw : Calls Tryz.prog 152 #[.slice A n c, .int .i64 t, .int .i64 (l.most - cost)] (w.drewN 1) fun e w' => e = .returned (.int .i64 (waitP ps t (l.most - cost))) ∧ New (w.drewN 1) w' := pieces_wait ps A n c (w.drewN 1) (h.new ((Mod.refl _ w).drewN 1)) hm hn t _ ht
  refine heldO_step (by rfl) (by rfl) (by rfl) (fun K hK => ?_)
  go_simp
  refine hw.mono ?_
  clear hw
  rintro e w2 ⟨rfl, hm2⟩
  have hb2 := Blk.mod (w := w.drewN 1) hb hm2 (fun e => e)
  have k2 : w2.cell? ⟨g, 2, none⟩ = some (.int .i64 l.most) := (hb2.cell 2).trans rfl
  have k5 : w2.cell? ⟨g, 5, none⟩ = some (.slice A n c) := (hb2.cell 5).trans rfl
  have kl := hb2.lt
  go_wp2_with fail
  refine hK.out _ _ ⟨k2, k5, kl⟩ (fun hHeld => ?_)
  clear hK K
  try simp only [Act.put, List.setIfInBounds_toArray, List.set_cons_zero, List.set_cons_succ]
  refine heldO_nil ?_
  go_wp2_with fail
  go_ret
  exact ⟨rfl, ((Mod.refl _ w).drewN 1).trans hm2⟩

set_option maxHeartbeats 1000000 in
theorem sliding_idle (l : Lim) (g : Nat) (ps : List Pc) (A : Option Addr) (n c : Nat) (t : Int) (w : World) (hb : PcsAt 162 w g l A n c) (h : PcRows w A n ps) (hm : ∀ x ∈ ps, x.Mild) (hn : n ≤ 1000000) :
    Calls Tryz.prog 146 #[.pointer (some ⟨g, 0, none⟩), .int .i64 t] w fun e w' => e = .returned (.bool (sumC ps t == 0)) ∧ New w w' := by
  have c5 := hb.cell 5
  simp at c5
  go_enter Tryz.func146, Tryz.ntmps146
  go_wp2_with fail
  refine (pieces_sum ps A n c _ (by exact h) hm hn t).mono ?_
  rintro e w' ⟨rfl, hm'⟩
  go_wp2_with fail
  go_ret
  exact ⟨rfl, hm'⟩
set_option maxHeartbeats 1000000 in
theorem once_idle (l : Lim) (g : Nat) (ps : List Pc) (A : Option Addr) (n c : Nat) (t : Int) (w : World) (hb : PcsAt 167 w g l A n c) (h : PcRows w A n ps) (hm : ∀ x ∈ ps, x.Mild) (hn : n ≤ 1000000) :
    Calls Tryz.prog 168 #[.pointer (some ⟨g, 0, none⟩), .int .i64 t] w fun e w' => e = .returned (.bool (sumC ps t == 0)) ∧ New w w' := by
  have c5 := hb.cell 5
  simp at c5
  go_enter Tryz.func168, Tryz.ntmps168
  go_wp2_with fail
  refine (pieces_sum ps A n c _ (by exact h) hm hn t).mono ?_
  rintro e w' ⟨rfl, hm'⟩
  go_wp2_with fail
  go_ret
  exact ⟨rfl, hm'⟩

def RAdd (T : TypeId) (w : World) (B g : Nat) (l : Lim) (A : Option Addr) (ps : List Pc) (e : Ending) (w' : World) : Prop :=
  e = .returned (.tuple #[]) ∧ ∃ A' n' c', PcsAt T w' g l A' n' c' ∧ Own w' B 211 2 Pc.enc A' n' c' ps ∧ Mod (fun k => k = g ∨ blkOf A = some k) w w' ∧ ∀ b, blkOf A' = some b → blkOf A = some b ∨ w.heap.size ≤ b
theorem PcsAt.set {T : TypeId} {w : World} {g : Nat} {l : Lim} {A A' : Option Addr} {n n' c c' : Nat} (h : PcsAt T w g l A n c) : PcsAt T (w.setCell ⟨g, 5, none⟩ (.slice A' n' c')) g l A' n' c' := by
  have := Blk.set h 5 (.slice A' n' c')
  simpa [PcsAt] using this
set_option maxRecDepth 100000 in
set_option maxHeartbeats 2000000 in
theorem sliding_add (l : Lim) (g B : Nat) (ps : List Pc) (A : Option Addr) (n c : Nat) (t cost long : Int) (w : World) (hb : PcsAt 162 w g l A n c) (h : Own w B 211 2 Pc.enc A n c ps) (hr : Rising ps) (hB : B ≤ w.heap.size) (hn : n ≤ 100000) (ht : 0 ≤ t ∧ t ≤ 1000000000000) (hp : 1 ≤ l.per ∧ l.per ≤ 8640000000) :
    Calls Tryz.prog 145 #[.pointer (some ⟨g, 0, none⟩), .int .i64 t, .int .i64 cost, .int .i64 long] w (RAdd 162 w B g l A (withP (passP ps t) ⟨t + l.per, cost⟩)) := by
  have hgb : blkOf A ≠ some g := fun e => by
    rcases h.blk with ⟨rfl, _⟩ | ⟨g', rfl, _, htb⟩
    · cases e
    · injection e with e; exact absurd e (htb.ne hb.tb (by decide))
  have hlen := h.1
  have e1 : IntKind.i64.wrap (t + l.per) = t + l.per := IntWalk.i64_in _ (by omega)
  have c3 := hb.cell 3
  have c5 := hb.cell 5
  simp at c3 c5
  have hgl := hb.lt
  go_enter Tryz.func145, Tryz.ntmps145
  go_wp2_with fail
  refine wp_region_held_ord (fun w' => w'.cell? ⟨g, 3, none⟩ = some (.int .i64 l.per) ∧ w'.cell? ⟨g, 5, none⟩ = some (.slice A n c) ∧ g < w'.heap.size) [6, 16] [0, 1, 2, 3, 4, 5, 7, 8, 9, 10, 11, 12, 13, 14, 15, 6, 16, 17, 18] (by kernel_rfl) (by kernel_rfl) (fun _ _ d _ _ h => by cases d <;> exact h) ?_ (fun hHeld => ?_)
  · exact ⟨c3, c5, hgl⟩
  simp only [List.length_cons, List.length_nil, List.drop_succ_cons, List.drop_zero]
  refine heldO_take ?_ (by rfl) (by rfl) (by rfl) (fun w hSw => ?_) ?_
  rotate_left
  · (try dsimp only at hSw); go_simp; any_goals (with_reducible rfl)
  simp only [Act.put, List.setIfInBounds_toArray, List.set_cons_zero, List.set_cons_succ]
  refine heldO_take ?_ (by rfl) (by rfl) (by rfl) (fun w hSw => ?_) ?_
  rotate_left
  · (try dsimp only at hSw); go_simp; any_goals (with_reducible rfl)
  simp only [Act.put, List.setIfInBounds_toArray, List.set_cons_zero, List.set_cons_succ]
  refine heldO_take ?_ (by rfl) (by rfl) (by rfl) (fun w hSw => ?_) ?_
  rotate_left
  · (try dsimp only at hSw); go_simp; any_goals (with_reducible rfl)
  simp only [Act.put, List.setIfInBounds_toArray, List.set_cons_zero, List.set_cons_succ]
  refine heldO_take ?_ (by rfl) (by rfl) (by rfl) (fun w hSw => ?_) ?_
  rotate_left
  · (try dsimp only at hSw); go_simp; any_goals (with_reducible rfl)
  simp only [Act.put, List.setIfInBounds_toArray, List.set_cons_zero, List.set_cons_succ]
  refine heldO_take ?_ (by rfl) (by rfl) (by rfl) (fun w hSw => ?_) ?_
  rotate_left
  · (try dsimp only at hSw); go_simp; any_goals (with_reducible rfl)
  simp only [Act.put, List.setIfInBounds_toArray, List.set_cons_zero, List.set_cons_succ]
  refine heldO_take ?_ (by rfl) (by rfl) (by rfl) (fun w hSw => ?_) ?_
  rotate_left
  · (try dsimp only at hSw); go_simp; any_goals (with_reducible rfl)
  simp only [Act.put, List.setIfInBounds_toArray, List.set_cons_zero, List.set_cons_succ]
  refine heldO_take ?_ (by rfl) (by rfl) (by rfl) (fun w hSw => ?_) ?_
  rotate_left
  · (try dsimp only at hSw); go_simp; any_goals (with_reducible rfl)
  simp only [Act.put, List.setIfInBounds_toArray, List.set_cons_zero, List.set_cons_succ]
  refine heldO_take ?_ (by rfl) (by rfl) (by rfl) (fun w hSw => ?_) ?_
  rotate_left
  · (try dsimp only at hSw); go_simp; any_goals (with_reducible rfl)
  simp only [Act.put, List.setIfInBounds_toArray, List.set_cons_zero, List.set_cons_succ]
  refine heldO_take ?_ (by rfl) (by rfl) (by rfl) (fun w hSw => ?_) ?_
  rotate_left
  · (try dsimp only at hSw); go_simp; any_goals (with_reducible rfl)
  simp only [Act.put, List.setIfInBounds_toArray, List.set_cons_zero, List.set_cons_succ]
  refine heldO_take ?_ (by rfl) (by rfl) (by rfl) (fun w hSw => ?_) ?_
  rotate_left
  · (try dsimp only at hSw); go_simp; any_goals (with_reducible rfl)
  simp only [Act.put, List.setIfInBounds_toArray, List.set_cons_zero, List.set_cons_succ]
  refine heldO_take ?_ (by rfl) (by rfl) (by rfl) (fun w hSw => ?_) ?_
  rotate_left
  · (try dsimp only at hSw); go_simp; any_goals (with_reducible rfl)
  simp only [Act.put, List.setIfInBounds_toArray, List.set_cons_zero, List.set_cons_succ]
  refine heldO_take ?_ (by rfl) (by rfl) (by rfl) (fun w hSw => ?_) ?_
  rotate_left
  · (try dsimp only at hSw); go_simp; any_goals (with_reducible rfl)
  simp only [Act.put, List.setIfInBounds_toArray, List.set_cons_zero, List.set_cons_succ]
  refine heldO_take ?_ (by rfl) (by rfl) (by rfl) (fun w hSw => ?_) ?_
  rotate_left
  · (try dsimp only at hSw); go_simp; any_goals (with_reducible rfl)
  simp only [Act.put, List.setIfInBounds_toArray, List.set_cons_zero, List.set_cons_succ]
  refine heldO_take ?_ (by rfl) (by rfl) (by rfl) (fun w hSw => ?_) ?_
  rotate_left
  · (try dsimp only at hSw); go_simp; any_goals (with_reducible rfl)
  simp only [Act.put, List.setIfInBounds_toArray, List.set_cons_zero, List.set_cons_succ]
  refine heldO_take ?_ (by rfl) (by rfl) (by rfl) (fun w hSw => ?_) ?_
  rotate_left
  · (try dsimp only at hSw); go_simp; any_goals (with_reducible rfl)
  simp only [Act.put, List.setIfInBounds_toArray, List.set_cons_zero, List.set_cons_succ]
  have h1 := h.drewN 1
  have hps : Calls Tryz.prog 149 #[.slice A n c, .int .i64 t] (w.drewN 1) (RPassA (w.drewN 1) B A c (passP ps t)) := pieces_pass (w.drewN 1) B A n c ps t h1 (by omega)
  refine heldO_step (by rfl) (by rfl) (by rfl) (fun K hK => ?_)
  go_simp
  refine hps.mono ?_
  clear hps
  rintro e w2 ⟨rfl, own2, hm2⟩
  have hb2 : PcsAt 162 w2 g l A n c := Blk.mod (w := w.drewN 1) hb hm2 hgb
  have k3 : w2.cell? ⟨g, 3, none⟩ = some (.int .i64 l.per) := (hb2.cell 3).trans rfl
  have k5 : w2.cell? ⟨g, 5, none⟩ = some (.slice A n c) := (hb2.cell 5).trans rfl
  have kl := hb2.lt
  have hz2 := hm2.size
  go_wp2_with fail
  refine hK.out _ _ ⟨k3, k5, kl⟩ (fun hHeld => ?_)
  clear hK K
  try simp only [Act.put, List.setIfInBounds_toArray, List.set_cons_zero, List.set_cons_succ]
  have hws := pieces_with w2 B A _ c (passP ps t) ⟨t + l.per, cost⟩ own2 (passP_rising hr t) (by have : (w.drewN 1).heap.size = w.heap.size := rfl; omega) (by have := List.length_filter_le (fun x : Pc => decide (t < x.until_)) ps; unfold passP; omega)
  refine heldO_step (by rfl) (by rfl) (by rfl) (fun K hK => ?_)
  go_simp
  generalize withP (passP ps t) ⟨t + l.per, cost⟩ = ys at *
  refine hws.mono ?_
  clear hws
  rintro e w3 ⟨g3, c3', rfl, own3, hm3, hat3⟩
  have hb3 : PcsAt 162 w3 g l A n c := Blk.mod hb2 hm3 hgb
  have k3 : w3.cell? ⟨g, 3, none⟩ = some (.int .i64 l.per) := (hb3.cell 3).trans rfl
  have k5 : w3.cell? ⟨g, 5, none⟩ = some (.slice A n c) := (hb3.cell 5).trans rfl
  have kl := hb3.lt
  have kf := hb3.frozen 5
  go_wp2_with fail
  refine hK.out _ _ ⟨k3, k5, kl⟩ (fun hHeld => ?_)
  clear hK K
  try simp only [Act.put, List.setIfInBounds_toArray, List.set_cons_zero, List.set_cons_succ]
  refine heldO_take ?_ (by rfl) (by rfl) (by rfl) (fun w hSw => ?_) ?_
  rotate_left
  · (try dsimp only at hSw); go_simp; any_goals (with_reducible rfl)
  simp only [Act.put, List.setIfInBounds_toArray, List.set_cons_zero, List.set_cons_succ]
  refine heldO_take ?_ (by rfl) (by rfl) (by rfl) (fun w hSw => ?_) ?_
  rotate_left
  · (try dsimp only at hSw); go_simp; any_goals (with_reducible rfl)
  simp only [Act.put, List.setIfInBounds_toArray, List.set_cons_zero, List.set_cons_succ]
  refine heldO_nil ?_
  go_wp2_with fail
  go_end0
  have hg3 : g3 ≠ g := by
    rcases own3.blk with ⟨h1, _⟩ | ⟨g', h1, _, htb⟩
    · cases h1
    · injection h1 with h1; injection h1 with h1; subst h1; exact htb.ne hb3.tb (by decide)
  refine ⟨rfl, some ⟨g3, 0, none⟩, _, c3', PcsAt.set hb3, own3.mod (Mod.setCell (S := fun k => k = g) (p := ⟨g, 5, none⟩) (Mod.refl _ _) (.inl rfl) _) (fun x e => by injection e with e; simp only at e; omega), ?_, ?_⟩
  · exact ((((Mod.refl (fun k => k = g ∨ blkOf A = some k) w).drewN 1).trans (hm2.mono (fun _ _ e => .inr e))).trans (hm3.mono (fun _ _ e => .inr e))).setCell (p := ⟨g, 5, none⟩) (.inl (.inl rfl)) _
  · intro b e
    injection e with e
    simp only at e
    subst e
    rcases hat3 with e | e
    · exact .inl e
    · have h3 : (w.drewN 1).heap.size = w.heap.size := rfl
      right; omega

set_option maxRecDepth 100000 in
set_option maxHeartbeats 2000000 in
theorem once_add (l : Lim) (g B : Nat) (ps : List Pc) (A : Option Addr) (n c : Nat) (t cost long : Int) (w : World) (hb : PcsAt 167 w g l A n c) (h : Own w B 211 2 Pc.enc A n c ps) (hr : Rising ps) (hB : B ≤ w.heap.size) (hn : n ≤ 100000) (ht : 0 ≤ t ∧ t ≤ 1000000000000) (hp : 0 ≤ long ∧ long ≤ 1000000000000) :
    Calls Tryz.prog 167 #[.pointer (some ⟨g, 0, none⟩), .int .i64 t, .int .i64 cost, .int .i64 long] w (RAdd 167 w B g l A (if 0 < long then withP (passP ps t) ⟨t + long, cost⟩ else passP ps t)) := by
  have hgb : blkOf A ≠ some g := fun e => by
    rcases h.blk with ⟨rfl, _⟩ | ⟨g', rfl, _, htb⟩
    · cases e
    · injection e with e; exact absurd e (htb.ne hb.tb (by decide))
  have hlen := h.1
  have c5 := hb.cell 5
  simp at c5
  have hgl := hb.lt
  have hps := pieces_pass w B A n c ps t h (by omega)
  have HR := Lib.hid (passP_rising hr t)
  have hlp : (passP ps t).length ≤ 100000 := by have := List.length_filter_le (fun x : Pc => decide (t < x.until_)) ps; unfold passP; omega
  clear hr h
  generalize passP ps t = qs at *
  by_cases hlg : 0 < long
  · have hd : decide (0 < long) = true := by simpa using hlg
    rw [if_pos hlg]
    go_enter Tryz.func167, Tryz.ntmps167
    go_wp2_with (go_at_call 149; refine hps.mono ?_; clear hps; rintro e w2 ⟨rfl, own2, hm2⟩; have hb2 : PcsAt 167 w2 g l A n c := Blk.mod hb hm2 hgb; have kf := hb2.frozen 5; have kl := hb2.lt; have kc := hb2.cell 5; simp at kc)
    have hb3 : PcsAt 167 (w2.setCell ⟨g, 5, none⟩ (.slice A qs.length c)) g l A qs.length c := PcsAt.set hb2
    have own3 : Own (w2.setCell ⟨g, 5, none⟩ (.slice A qs.length c)) B 211 2 Pc.enc A qs.length c qs := own2.mod (Mod.setCell (S := fun k => k = g) (p := ⟨g, 5, none⟩) (Mod.refl _ _) (.inl rfl) _) (fun x e e' => hgb (by rw [e, e']))
    have hm3 : Mod (fun k => k = g ∨ blkOf A = some k) w (w2.setCell ⟨g, 5, none⟩ (.slice A qs.length c)) := (hm2.mono (fun _ _ e => .inr e)).setCell (p := ⟨g, 5, none⟩) (.inl (.inl rfl)) _
    have hz3 := hm3.size
    have hws := pieces_with (w2.setCell ⟨g, 5, none⟩ (.slice A qs.length c)) B A _ c qs ⟨t + long, cost⟩ own3 HR.out (by omega) hlp
    clear kc kf kl hb2 own2 hm2 own3
    generalize w2.setCell ⟨g, 5, none⟩ (.slice A qs.length c) = w3 at *
    generalize withP qs ⟨t + long, cost⟩ = ys at *
    refine hws.mono ?_
    clear hws
    rintro e w4 ⟨g4, c4, rfl, own4, hm4, hat4⟩
    have hb4 : PcsAt 167 w4 g l A qs.length c := Blk.mod hb3 hm4 hgb
    have kf := hb4.frozen 5
    have kl := hb4.lt
    have kc := hb4.cell 5
    simp at kc
    go_wp2_with fail
    go_end0
    have hg4 : g4 ≠ g := by
      rcases own4.blk with ⟨h1, _⟩ | ⟨g', h1, _, htb⟩
      · cases h1
      · injection h1 with h1; injection h1 with h1; subst h1; exact htb.ne hb4.tb (by decide)
    refine ⟨rfl, some ⟨g4, 0, none⟩, _, c4, PcsAt.set hb4, own4.mod (Mod.setCell (S := fun k => k = g) (p := ⟨g, 5, none⟩) (Mod.refl _ _) (.inl rfl) _) (fun x e => by injection e with e; simp only at e; omega), ?_, ?_⟩
    · exact (hm3.trans (hm4.mono (fun _ _ e => .inr e))).setCell (p := ⟨g, 5, none⟩) (.inl (.inl rfl)) _
    · intro b e
      injection e with e
      simp only at e
      subst e
      rcases hat4 with e | e
      · exact .inl e
      · right; omega
  · have hd : decide (0 < long) = false := by simpa using hlg
    rw [if_neg hlg]
    clear hlg
    go_enter Tryz.func167, Tryz.ntmps167
    go_wp2_with (go_at_call 149; refine hps.mono ?_; clear hps; rintro e w2 ⟨rfl, own2, hm2⟩; have hb2 : PcsAt 167 w2 g l A n c := Blk.mod hb hm2 hgb; have kf := hb2.frozen 5; have kl := hb2.lt; have kc := hb2.cell 5; simp at kc)
    go_end0
    refine ⟨rfl, A, _, c, PcsAt.set hb2, own2.mod (Mod.setCell (S := fun k => k = g) (p := ⟨g, 5, none⟩) (Mod.refl _ _) (.inl rfl) _) (fun x e e' => hgb (by rw [e, e'])), ?_, fun b e => .inl e⟩
    exact (hm2.mono (fun _ _ e => .inr e)).setCell (p := ⟨g, 5, none⟩) (.inl (.inl rfl)) _

end Go.Proofs.YtinnckbffblecaaGreat
