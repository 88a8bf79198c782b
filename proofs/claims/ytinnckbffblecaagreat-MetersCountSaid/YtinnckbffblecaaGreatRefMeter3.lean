/- The reference's meter: how much a limit permits. Conditions: limits were checked, what was let in was checked and never emptied a bucket below nothing. -/
import Derived.Test.YtinnckbffblecaaGreatRefMeter2
namespace Go.Proofs.YtinnckbffblecaaGreat
open Go.RowKit
set_option linter.unusedVariables false
set_option linter.unusedSimpArgs false


/-- what was let in of a bucket's limit, up to t -/
def PourC (l : Lim) (p : List AskD) (t : Int) : Prop := l.kind = 3 → PourOk l p (fullR l, 0) ∧ (poured l p (fullR l, 0)).2 ≤ t
theorem PourC.later {l : Lim} {p : List AskD} {t t' : Int} (h : PourC l p t) (ht : t ≤ t') : PourC l p t' := fun h3 => ⟨(h h3).1, by have := (h h3).2; omega⟩
theorem filledR_bd {l : Lim} (hl : RLim' l) (h3 : l.kind = 3) {p : List AskD} (hp : ∀ a ∈ p, RAskD a) {t : Int} (hc : PourC l p t) : 0 ≤ filledR l p t ∧ filledR l p t ≤ fullR l := by
  have hb := hl.b h3
  have hf := hb.full
  obtain ⟨h1, h2⟩ := hc h3
  have h4 := poured_bd hb h1 (fun a ha => (hp a ha).cost.1) (by unfold fullR; simp only; omega) (by simp only; omega)
  exact fill_bd hb h4.1 h4.2 h2

set_option maxRecDepth 100000 in
set_option maxHeartbeats 2000000 in
theorem ref_leftAt (l : Lim) (hl : RLim' l) (p : List AskD) (A : Option Addr) (n c : Nat) (t : Int) (w : World) (h : AskRows w A n p) (hp : ∀ a ∈ p, RAskD a) (hc : PourC l p t) (hn : n ≤ 100000) (ht : 0 ≤ t ∧ t ≤ 1000000000000) :
    Calls Tryz.prog 65 #[l.val, .slice A n c, .int .i64 t] w fun e w' => e = .returned (.int .i64 (leftR l p t)) ∧ New w w' := by
  have hlen := h.1
  by_cases h3 : l.kind = 3
  · have hfb := filledR_bd hl h3 hp hc
    have hf := (hl.b h3).full
    obtain ⟨hp1, hp2⟩ := (hl.b h3).per
    have hfl := fun W (hW : New w W) => ref_filled l hl h3 p A n c t W (h.new hW) hp (hc h3).1 (hc h3).2 hn ht
    have HFL := Lib.hid hfl
    have HV : Hid (leftR l p t = filledR l p t / l.per) := Lib.hid (by unfold leftR; rw [if_pos h3])
    have hfu : fullR l ≤ 8640000000000000000 := hf.2
    clear hfl h hp hc hl hf
    generalize leftR l p t = LL at *
    generalize filledR l p t = X at *
    generalize fullR l = FF at *
    obtain ⟨key, kind, most, per, burst⟩ := l
    simp only at h3 hp1 hp2
    subst h3
    simp only [Lim.val] at HFL ⊢
    have hp0 : (per == 0) = false := by simp; omega
    have hpne : ¬ per = 0 := by omega
    have d1 := Int.ediv_le_self per hfb.1
    have d2 := Int.ediv_nonneg hfb.1 (show 0 ≤ per by omega)
    go_enter Tryz.func65, Tryz.ntmps65
    go_wp2_with fail
    have hA1 := (Mod.refl (fun _ => False) w).alloc (.cells #[.string key, .int .i64 3, .int .i64 most, .int .i64 per, .int .i64 burst] 28)
    have bl := Blk.new w 28 #[.string key, .int .i64 3, .int .i64 most, .int .i64 per, .int .i64 burst]
    generalize w.alloc (.cells #[.string key, .int .i64 3, .int .i64 most, .int .i64 per, .int .i64 burst] 28) = w1 at *
    have x0 := bl.cell 0
    have x1 := bl.cell 1
    have x2 := bl.cell 2
    have x3 := bl.cell 3
    have x4 := bl.cell 4
    have xl := bl.lt
    simp at x0 x1 x2 x3 x4
    refine wp_region_held_ord (fun w' => w'.cell? ⟨w.heap.size, 0, none⟩ = some (.string key) ∧ w'.cell? ⟨w.heap.size, 1, none⟩ = some (.int .i64 3) ∧ w'.cell? ⟨w.heap.size, 2, none⟩ = some (.int .i64 most) ∧ w'.cell? ⟨w.heap.size, 3, none⟩ = some (.int .i64 per) ∧ w'.cell? ⟨w.heap.size, 4, none⟩ = some (.int .i64 burst) ∧ w.heap.size < w'.heap.size) [3] [0, 1, 2, 4, 5, 3] (by kernel_rfl) (by kernel_rfl) (fun _ _ d _ _ h => by cases d <;> exact h) ?_ (fun hHeld => ?_)
    · exact ⟨x0, x1, x2, x3, x4, xl⟩
    simp only [List.length_cons, List.length_nil, List.drop_succ_cons, List.drop_zero]
    refine heldO_take ?_ (by rfl) (by rfl) (by rfl) (fun w hSw => ?_) ?_
    rotate_left
    · (try dsimp only at hSw); go_simp; any_goals (with_reducible rfl)
    simp only [Act.put, List.setIfInBounds_toArray, List.set_cons_zero, List.set_cons_succ]
    refine heldO_take ?_ (by rfl) (by rfl) (by rfl) (fun w hSw => ?_) ?_
    rotate_left
    · (try dsimp only at hSw); go_simp; any_goals (with_reducible rfl)
    simp only [Act.put, List.setIfInBounds_toArray, List.set_cons_zero, List.set_cons_succ]
    refine heldO_take ?_ (by rfl) (by rfl) (by rfl) (fun w hSw => ?_) ?_
    rotate_left
    · (try dsimp only at hSw); go_simp; any_goals (with_reducible rfl)
    simp only [Act.put, List.setIfInBounds_toArray, List.set_cons_zero, List.set_cons_succ]
    refine heldO_take ?_ (by rfl) (by rfl) (by rfl) (fun w hSw => ?_) ?_
    rotate_left
    · (try dsimp only at hSw); go_simp; any_goals (with_reducible rfl)
    simp only [Act.put, List.setIfInBounds_toArray, List.set_cons_zero, List.set_cons_succ]
    refine heldO_take ?_ (by rfl) (by rfl) (by rfl) (fun w hSw => ?_) ?_
    rotate_left
    · (try dsimp only at hSw); go_simp; any_goals (with_reducible rfl)
    simp only [Act.put, List.setIfInBounds_toArray, List.set_cons_zero, List.set_cons_succ]
    have hcall := HFL.out (w1.drewN 1) (hA1.drewN 1)
    refine heldO_step (by rfl) (by rfl) (by rfl) (fun K hK => ?_)
    go_simp
    refine hcall.mono ?_
    clear hcall
    rintro e w2 ⟨rfl, hm2⟩
    have b2 := bl.new'' (((Mod.refl _ w1).drewN 1).trans hm2)
    have q0 : w2.cell? ⟨w.heap.size, 0, none⟩ = some (.string key) := (b2.cell 0).trans rfl
    have q1 : w2.cell? ⟨w.heap.size, 1, none⟩ = some (.int .i64 3) := (b2.cell 1).trans rfl
    have q2 : w2.cell? ⟨w.heap.size, 2, none⟩ = some (.int .i64 most) := (b2.cell 2).trans rfl
    have q3 : w2.cell? ⟨w.heap.size, 3, none⟩ = some (.int .i64 per) := (b2.cell 3).trans rfl
    have q4 : w2.cell? ⟨w.heap.size, 4, none⟩ = some (.int .i64 burst) := (b2.cell 4).trans rfl
    have ql := b2.lt
    go_wp2_with fail
    refine hK.out _ _ ⟨q0, q1, q2, q3, q4, ql⟩ (fun hHeld => ?_)
    clear hK K
    try simp only [Act.put, List.setIfInBounds_toArray, List.set_cons_zero, List.set_cons_succ]
    refine heldO_nil ?_
    go_wp2_with fail
    go_ret
    exact ⟨ret_int HV.out.symm, (hA1.drewN 1).trans hm2⟩
  · have hbd := usedR_bd l hp t
    have hle : (1000000000 : Int) * p.length ≤ 1000000000 * 100000 := Int.mul_le_mul_of_nonneg_left (by omega) (by omega)
    have hmo := hl.most
    have hus := fun W (hW : New w W) => ref_used l hl h3 p A n c t W (h.new hW) hp hn ht
    have HUS := Lib.hid hus
    have HV : Hid (leftR l p t = max 0 (l.most - usedR l p t)) := Lib.hid (by unfold leftR; rw [if_neg h3])
    have hk := hl.kind
    clear hus h hp hc hl
    generalize leftR l p t = LL at *
    generalize usedR l p t = X at *
    obtain ⟨key, kind, most, per, burst⟩ := l
    simp only at h3 hmo hk
    simp only [Lim.val] at HUS ⊢
    have hk3 : (kind == 3) = false := by simpa using h3
    have e1 : IntKind.i64.wrap (most - X) = most - X := IntWalk.i64_in _ (by omega)
    go_enter Tryz.func65, Tryz.ntmps65
    go_wp2_with fail
    have hA1 := (Mod.refl (fun _ => False) w).alloc (.cells #[.string key, .int .i64 kind, .int .i64 most, .int .i64 per, .int .i64 burst] 28)
    have bl := Blk.new w 28 #[.string key, .int .i64 kind, .int .i64 most, .int .i64 per, .int .i64 burst]
    generalize w.alloc (.cells #[.string key, .int .i64 kind, .int .i64 most, .int .i64 per, .int .i64 burst] 28) = w1 at *
    have x0 := bl.cell 0
    have x1 := bl.cell 1
    have x2 := bl.cell 2
    have x3 := bl.cell 3
    have x4 := bl.cell 4
    have xl := bl.lt
    simp at x0 x1 x2 x3 x4
    refine wp_region_held_ord (fun w' => w'.cell? ⟨w.heap.size, 0, none⟩ = some (.string key) ∧ w'.cell? ⟨w.heap.size, 1, none⟩ = some (.int .i64 kind) ∧ w'.cell? ⟨w.heap.size, 2, none⟩ = some (.int .i64 most) ∧ w'.cell? ⟨w.heap.size, 3, none⟩ = some (.int .i64 per) ∧ w'.cell? ⟨w.heap.size, 4, none⟩ = some (.int .i64 burst) ∧ w.heap.size < w'.heap.size) [5] [0, 1, 2, 3, 4, 5] (by kernel_rfl) (by kernel_rfl) (fun _ _ d _ _ h => by cases d <;> exact h) ?_ (fun hHeld => ?_)
    · exact ⟨x0, x1, x2, x3, x4, xl⟩
    simp only [List.length_cons, List.length_nil, List.drop_succ_cons, List.drop_zero]
    refine heldO_take ?_ (by rfl) (by rfl) (by rfl) (fun w hSw => ?_) ?_
    rotate_left
    · (try dsimp only at hSw); go_simp; any_goals (with_reducible rfl)
    simp only [Act.put, List.setIfInBounds_toArray, List.set_cons_zero, List.set_cons_succ]
    refine heldO_take ?_ (by rfl) (by rfl) (by rfl) (fun w hSw => ?_) ?_
    rotate_left
    · (try dsimp only at hSw); go_simp; any_goals (with_reducible rfl)
    simp only [Act.put, List.setIfInBounds_toArray, List.set_cons_zero, List.set_cons_succ]
    refine heldO_take ?_ (by rfl) (by rfl) (by rfl) (fun w hSw => ?_) ?_
    rotate_left
    · (try dsimp only at hSw); go_simp; any_goals (with_reducible rfl)
    simp only [Act.put, List.setIfInBounds_toArray, List.set_cons_zero, List.set_cons_succ]
    refine heldO_take ?_ (by rfl) (by rfl) (by rfl) (fun w hSw => ?_) ?_
    rotate_left
    · (try dsimp only at hSw); go_simp; any_goals (with_reducible rfl)
    simp only [Act.put, List.setIfInBounds_toArray, List.set_cons_zero, List.set_cons_succ]
    refine heldO_take ?_ (by rfl) (by rfl) (by rfl) (fun w hSw => ?_) ?_
    rotate_left
    · (try dsimp only at hSw); go_simp; any_goals (with_reducible rfl)
    simp only [Act.put, List.setIfInBounds_toArray, List.set_cons_zero, List.set_cons_succ]
    have hcall := HUS.out (w1.drewN 1) (hA1.drewN 1)
    refine heldO_step (by rfl) (by rfl) (by rfl) (fun K hK => ?_)
    go_simp
    refine hcall.mono ?_
    clear hcall
    rintro e w2 ⟨rfl, hm2⟩
    have b2 := bl.new'' (((Mod.refl _ w1).drewN 1).trans hm2)
    have q0 : w2.cell? ⟨w.heap.size, 0, none⟩ = some (.string key) := (b2.cell 0).trans rfl
    have q1 : w2.cell? ⟨w.heap.size, 1, none⟩ = some (.int .i64 kind) := (b2.cell 1).trans rfl
    have q2 : w2.cell? ⟨w.heap.size, 2, none⟩ = some (.int .i64 most) := (b2.cell 2).trans rfl
    have q3 : w2.cell? ⟨w.heap.size, 3, none⟩ = some (.int .i64 per) := (b2.cell 3).trans rfl
    have q4 : w2.cell? ⟨w.heap.size, 4, none⟩ = some (.int .i64 burst) := (b2.cell 4).trans rfl
    have ql := b2.lt
    go_wp2_with fail
    refine hK.out _ _ ⟨q0, q1, q2, q3, q4, ql⟩ (fun hHeld => ?_)
    clear hK K
    try simp only [Act.put, List.setIfInBounds_toArray, List.set_cons_zero, List.set_cons_succ]
    refine heldO_nil ?_
    go_wp2_with fail
    go_ret
    exact ⟨ret_int HV.out.symm, (hA1.drewN 1).trans hm2⟩

end Go.Proofs.YtinnckbffblecaaGreat
