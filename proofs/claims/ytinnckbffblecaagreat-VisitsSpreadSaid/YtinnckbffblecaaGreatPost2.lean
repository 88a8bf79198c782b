/- The reference's player of visits: a gateway's stock. Conditions: right limits, modest numbers. -/
import Derived.Test.YtinnckbffblecaaGreatPost1
import Derived.Test.YtinnckbffblecaaGreatHeld
namespace Go.Proofs.YtinnckbffblecaaGreat
open Go.RowKit Go.MapKept
set_option linter.unusedVariables false
set_option linter.unusedSimpArgs false


set_option maxRecDepth 100000 in
set_option maxHeartbeats 1000000 in
theorem post_have (w : World) (B gp g1 g2 g3 g4 : Nat) (A : Option Addr) (c : Nat) (l : Lim) (D : Int) (q : QSt) (h : PoAt w B gp g1 g2 g3 g4 A c l D q) (hl : WLim l) (gate : ByteArray) (t : Int) (ht0 : 0 ≤ t) (ht1 : t ≤ 1000000000000) :
    Calls Tryz.prog 51 #[.pointer (some ⟨gp, 0, none⟩), .string gate, .int .i64 t] w fun e w' => e = .returned (.tuple #[]) ∧ PoAt w' B gp g1 g2 g3 g4 A c l D (haveQ l q gate t) ∧ Mod (Far w B []) w w' := by
  have c3 := h.blk.cell 3
  have c7 := h.blk.cell 7
  have c8 := h.blk.cell 8
  simp at c3 c7 c8
  obtain ⟨hp1, hp2⟩ := hl.per
  have h5 := Int.ediv_le_self l.per ht0
  have h6 := Int.ediv_nonneg ht0 (show 0 ≤ l.per by omega)
  have hp0 : (l.per == 0) = false := by simp; omega
  have e1 : IntKind.i64.wrap (t / l.per) = t / l.per := IntWalk.i64_in _ (by omega)
  have e2 : t.tdiv l.per = t / l.per := Int.tdiv_eq_ediv_of_nonneg ht0
  have hlook := fun n : Nat => (h.new ((Mod.refl _ w).drewN n)).lookO gate
  have HH := Lib.hid h
  clear h
  by_cases hw : q.of_ gate = t / l.per
  · have hw' : (q.of_ gate != t / l.per) = false := by simp [hw]
    have HT := Lib.hid (show haveQ l q gate t = q by unfold haveQ; rw [if_pos hw])
    clear hw
    go_enter Tryz.func51, Tryz.ntmps51
    go_wp2_with fail
    go_quiet (fail)
    go_wp2_with fail
    go_end0
    exact ⟨rfl, by rw [HT.out]; exact HH.out.new ((Mod.refl _ w).drewN _), (Mod.refl _ w).drewN _⟩
  · have hw' : (q.of_ gate != t / l.per) = true := by simp [hw]
    have HT := Lib.hid (show haveQ l q gate t = { q with stock := upd q.stock gate 0, of_ := upd q.of_ gate (t / l.per) } by unfold haveQ; rw [if_neg hw])
    clear hw
    go_enter Tryz.func51, Tryz.ntmps51
    go_wp2_with fail
    go_quiet (fail)
    go_wp2_with fail
    have H0 := Lib.hid (HH.out.new ((Mod.refl _ w).drewN nq))
    have m0 : New w (w.drewN nq) := (Mod.refl _ w).drewN nq
    clear hlook
    generalize w.drewN nq = w1 at *
    have c3 := H0.out.blk.cell 3
    have c7 := H0.out.blk.cell 7
    have c8 := H0.out.blk.cell 8
    simp at c3 c7 c8
    refine wp_region_held_tail (fun w' => w'.cell? ⟨gp, 3, none⟩ = some (.int .i64 l.per) ∧ w'.cell? ⟨gp, 7, none⟩ = some (.map (some g2)) ∧ w'.cell? ⟨gp, 8, none⟩ = some (.map (some g3))) [17, 19, 20] 22 (by kernel_rfl) (by kernel_rfl) (fun _ _ d _ _ h => by cases d <;> exact h) ?_ (fun hHeld => ?_)
    · exact ⟨c3, c7, c8⟩
    simp only [List.take_succ_cons, List.take_zero, List.drop_succ_cons, List.drop_zero]
    have hpne : ¬ l.per = 0 := by omega
    refine heldL_take ?_ (by rfl) (by rfl) (fun w hSw => ?_) ?_
    rotate_left
    · (try dsimp only at hSw); go_simp; any_goals (with_reducible rfl)
    simp only [Act.put, List.setIfInBounds_toArray, List.set_cons_zero, List.set_cons_succ]
    refine heldL_take ?_ (by rfl) (by rfl) (fun w hSw => ?_) ?_
    rotate_left
    · (try dsimp only at hSw); go_simp; any_goals (with_reducible rfl)
    simp only [Act.put, List.setIfInBounds_toArray, List.set_cons_zero, List.set_cons_succ]
    refine heldL_take ?_ (by rfl) (by rfl) (fun w hSw => ?_) ?_
    rotate_left
    · (try dsimp only at hSw); go_simp; any_goals (with_reducible rfl)
    simp only [Act.put, List.setIfInBounds_toArray, List.set_cons_zero, List.set_cons_succ]
    refine heldL_take ?_ (by rfl) (by rfl) (fun w hSw => ?_) ?_
    rotate_left
    · (try dsimp only at hSw); go_simp; any_goals (with_reducible rfl)
    simp only [Act.put, List.setIfInBounds_toArray, List.set_cons_zero, List.set_cons_succ]
    refine heldL_take ?_ (by rfl) (by rfl) (fun w hSw => ?_) ?_
    rotate_left
    · (try dsimp only at hSw); go_simp; any_goals (with_reducible rfl)
    simp only [Act.put, List.setIfInBounds_toArray, List.set_cons_zero, List.set_cons_succ]
    refine heldL_take ?_ (by rfl) (by rfl) (fun w hSw => ?_) ?_
    rotate_left
    · (try dsimp only at hSw); go_simp; any_goals (with_reducible rfl)
    simp only [Act.put, List.setIfInBounds_toArray, List.set_cons_zero, List.set_cons_succ]
    refine heldL_take ?_ (by rfl) (by rfl) (fun w hSw => ?_) ?_
    rotate_left
    · (try dsimp only at hSw); go_simp; any_goals (with_reducible rfl)
    simp only [Act.put, List.setIfInBounds_toArray, List.set_cons_zero, List.set_cons_succ]
    refine heldL_take ?_ (by rfl) (by rfl) (fun w hSw => ?_) ?_
    rotate_left
    · (try dsimp only at hSw); go_simp; any_goals (with_reducible rfl)
    simp only [Act.put, List.setIfInBounds_toArray, List.set_cons_zero, List.set_cons_succ]
    refine heldL_take ?_ (by rfl) (by rfl) (fun w hSw => ?_) ?_
    rotate_left
    · (try dsimp only at hSw); go_simp; any_goals (with_reducible rfl)
    simp only [Act.put, List.setIfInBounds_toArray, List.set_cons_zero, List.set_cons_succ]
    refine heldL_take ?_ (by rfl) (by rfl) (fun w hSw => ?_) ?_
    rotate_left
    · (try dsimp only at hSw); go_simp; any_goals (with_reducible rfl)
    simp only [Act.put, List.setIfInBounds_toArray, List.set_cons_zero, List.set_cons_succ]
    refine heldL_take ?_ (by rfl) (by rfl) (fun w hSw => ?_) ?_
    rotate_left
    · (try dsimp only at hSw); go_simp; any_goals (with_reducible rfl)
    simp only [Act.put, List.setIfInBounds_toArray, List.set_cons_zero, List.set_cons_succ]
    refine heldL_take ?_ (by rfl) (by rfl) (fun w hSw => ?_) ?_
    rotate_left
    · (try dsimp only at hSw); go_simp; any_goals (with_reducible rfl)
    simp only [Act.put, List.setIfInBounds_toArray, List.set_cons_zero, List.set_cons_succ]
    refine heldL_take ?_ (by rfl) (by rfl) (fun w hSw => ?_) ?_
    rotate_left
    · (try dsimp only at hSw); go_simp; any_goals (with_reducible rfl)
    simp only [Act.put, List.setIfInBounds_toArray, List.set_cons_zero, List.set_cons_succ]
    refine heldL_take ?_ (by rfl) (by rfl) (fun w hSw => ?_) ?_
    rotate_left
    · (try dsimp only at hSw); go_simp; any_goals (with_reducible rfl)
    simp only [Act.put, List.setIfInBounds_toArray, List.set_cons_zero, List.set_cons_succ]
    refine heldL_take ?_ (by rfl) (by rfl) (fun w hSw => ?_) ?_
    rotate_left
    · (try dsimp only at hSw); go_simp; any_goals (with_reducible rfl)
    simp only [Act.put, List.setIfInBounds_toArray, List.set_cons_zero, List.set_cons_succ]
    refine heldL_take ?_ (by rfl) (by rfl) (fun w hSw => ?_) ?_
    rotate_left
    · (try dsimp only at hSw); go_simp; any_goals (with_reducible rfl)
    simp only [Act.put, List.setIfInBounds_toArray, List.set_cons_zero, List.set_cons_succ]
    refine heldL_take ?_ (by rfl) (by rfl) (fun w hSw => ?_) ?_
    rotate_left
    · (try dsimp only at hSw); go_simp; any_goals (with_reducible rfl)
    simp only [Act.put, List.setIfInBounds_toArray, List.set_cons_zero, List.set_cons_succ]
    have h1 := H0.out.new ((Mod.refl _ w1).drewN 1)
    obtain ⟨st, w2, hrun, hfe, ho2, hz2⟩ := run_mapEntry (P := Tryz.prog) h1.stk Tryz.underlying92 Tryz.underlying9 (zero_int _) gate
    have b2 := h1.blk.mod ho2 (h1.stk.ne_blk h1.blk.tb)
    have k3 : w2.cell? ⟨gp, 3, none⟩ = some (.int .i64 l.per) := (b2.cell 3).trans rfl
    have k7 : w2.cell? ⟨gp, 7, none⟩ = some (.map (some g2)) := (b2.cell 7).trans rfl
    have k8 : w2.cell? ⟨gp, 8, none⟩ = some (.map (some g3)) := (b2.cell 8).trans rfl
    have hrun : (Instr.mapEntry 92 (.map (some g2)) (.string gate)).run Tryz.prog w1.drew = .ok (.tuple #[.int .i64 (q.stock gate), goInt st]) w2 := hrun
    refine heldL_step (by rfl) (by rfl) (by rfl) (fun K hK => ?_)
    go_simp
    refine hK.out _ _ ⟨k3, k7, k8⟩ (fun hHeld => ?_)
    clear hK K
    try simp only [Act.put, List.setIfInBounds_toArray, List.set_cons_zero, List.set_cons_succ]
    refine heldL_take ?_ (by rfl) (by rfl) (fun w hSw => ?_) ?_
    rotate_left
    · (try dsimp only at hSw); go_simp; any_goals (with_reducible rfl)
    simp only [Act.put, List.setIfInBounds_toArray, List.set_cons_zero, List.set_cons_succ]
    obtain ⟨w3, hrun3, hf3, ho3, hz3⟩ := run_entryStore (P := Tryz.prog) hfe 92 (.int .i64 0)
    have hrun3 : (Instr.entryStore 92 (.map (some g2)) (.int .i64 (st : Int)) (.int .i64 0)).run Tryz.prog w2 = .ok () w3 := hrun3
    have h3 : PoAt w3 B gp g1 g2 g3 g4 A c l D { q with stock := upd q.stock gate 0 } := h1.setStk (ho2.trans ho3) hf3
    have k3 : w3.cell? ⟨gp, 3, none⟩ = some (.int .i64 l.per) := (h3.blk.cell 3).trans rfl
    have k7 : w3.cell? ⟨gp, 7, none⟩ = some (.map (some g2)) := (h3.blk.cell 7).trans rfl
    have k8 : w3.cell? ⟨gp, 8, none⟩ = some (.map (some g3)) := (h3.blk.cell 8).trans rfl
    refine heldL_step (by rfl) (by rfl) (by rfl) (fun K hK => ?_)
    go_simp
    refine hK.out _ _ ⟨k3, k7, k8⟩ (fun hHeld => ?_)
    clear hK K
    try simp only [Act.put, List.setIfInBounds_toArray, List.set_cons_zero, List.set_cons_succ]
    obtain ⟨st4, w4, hrun4, hfe4, ho4, hz4⟩ := run_mapEntry (P := Tryz.prog) h3.ofs Tryz.underlying92 Tryz.underlying9 (zero_int _) gate
    have hrun4 : (Instr.mapEntry 92 (.map (some g3)) (.string gate)).run Tryz.prog w3 = .ok (.tuple #[.int .i64 (q.of_ gate), goInt st4]) w4 := hrun4
    have b4 := h3.blk.mod ho4 (h3.ofs.ne_blk h3.blk.tb)
    have k3 : w4.cell? ⟨gp, 3, none⟩ = some (.int .i64 l.per) := (b4.cell 3).trans rfl
    have k7 : w4.cell? ⟨gp, 7, none⟩ = some (.map (some g2)) := (b4.cell 7).trans rfl
    have k8 : w4.cell? ⟨gp, 8, none⟩ = some (.map (some g3)) := (b4.cell 8).trans rfl
    refine heldL_step (by rfl) (by rfl) (by rfl) (fun K hK => ?_)
    go_simp
    refine hK.out _ _ ⟨k3, k7, k8⟩ (fun hHeld => ?_)
    clear hK K
    try simp only [Act.put, List.setIfInBounds_toArray, List.set_cons_zero, List.set_cons_succ]
    refine heldL_take ?_ (by rfl) (by rfl) (fun w hSw => ?_) ?_
    rotate_left
    · (try dsimp only at hSw); go_simp; any_goals (with_reducible rfl)
    simp only [Act.put, List.setIfInBounds_toArray, List.set_cons_zero, List.set_cons_succ]
    refine heldL_nil ?_
    obtain ⟨w5, hrun5, hf5, ho5, hz5⟩ := run_entryStore (P := Tryz.prog) hfe4 92 (.int .i64 (t / l.per))
    have hrun5 : (Instr.entryStore 92 (.map (some g3)) (.int .i64 (st4 : Int)) (.int .i64 (t / l.per))).run Tryz.prog w4 = .ok () w5 := hrun5
    have h5 : PoAt w5 B gp g1 g2 g3 g4 A c l D { q with stock := upd q.stock gate 0, of_ := upd q.of_ gate (t / l.per) } := h3.setOf (ho4.trans ho5) hf5
    have M5 : Mod (Far w B []) w w5 := Far.trans (Far.trans (Far.new m0) (Far.trans (Far.new ((Mod.refl _ w1).drewN 1)) (Far.only (Far.of_fmap h1.stk h1.b2) (ho2.trans ho3)))) (Far.only (Far.of_fmap h3.ofs h3.b3) (ho4.trans ho5))
    have H5 := Lib.hid h5
    clear h5 h3 h1
    go_wp2_with fail
    go_end0
    exact ⟨rfl, by rw [HT.out]; exact H5.out, M5⟩

set_option maxRecDepth 100000 in
set_option maxHeartbeats 1000000 in
theorem post_get (w : World) (B gp g1 g2 g3 g4 : Nat) (A : Option Addr) (c : Nat) (l : Lim) (D : Int) (q : QSt) (h : PoAt w B gp g1 g2 g3 g4 A c l D q) (hl : WLim l) (gate : ByteArray) (W many t : Int) (ht0 : 0 ≤ t) (ht1 : t ≤ 1000000000000) (hs : 0 ≤ q.stock gate ∧ q.stock gate ≤ 3000000000000) (hmy : 0 ≤ many ∧ many ≤ 1000000000) :
    Calls Tryz.prog 52 #[.pointer (some ⟨gp, 0, none⟩), .string gate, .int .i64 W, .int .i64 many, .int .i64 t] w fun e w' => e = .returned (.tuple #[]) ∧ PoAt w' B gp g1 g2 g3 g4 A c l D (getQ l q gate W many t) ∧ Mod (Far w B []) w w' := by
  have c3 := h.blk.cell 3
  simp at c3
  obtain ⟨hp1, hp2⟩ := hl.per
  have h5 := Int.ediv_le_self l.per ht0
  have h6 := Int.ediv_nonneg ht0 (show 0 ≤ l.per by omega)
  have hp0 : (l.per == 0) = false := by simp; omega
  by_cases hw : t / l.per = W
  · have hw' : (t / l.per == W) = true := by simp [hw]
    have HT := Lib.hid (show getQ l q gate W many t = { haveQ l q gate t with stock := upd (haveQ l q gate t).stock gate ((haveQ l q gate t).stock gate + many) } by unfold getQ; rw [if_pos hw])
    have hst : 0 ≤ (haveQ l q gate t).stock gate ∧ (haveQ l q gate t).stock gate ≤ 3000000000000 := by
      rw [haveQ_stock, upd_same]; split <;> omega
    have hhv := post_have w B gp g1 g2 g3 g4 A c l D q h hl gate t ht0 ht1
    generalize haveQ l q gate t = q1 at *
    clear h hw
    go_enter Tryz.func52, Tryz.ntmps52
    go_wp2_with (first | (go_at_call 51; refine hhv.mono ?_; clear hhv; rintro e w1 ⟨rfl, h1, hm1⟩; have d7 := h1.blk.cell 7; simp at d7; have hlook := h1.lookS gate; have H1 := Lib.hid h1; have HM1 := Lib.hid hm1; clear h1 hm1) | (at_mapUpdate; refine wpList_fput (K := strKeys) rfl _ _ _ _ rfl Tryz.underlying92 Tryz.underlying9 rfl H1.out.stk gate rfl (.int .i64 (q1.stock gate + many)) rfl ?_; intro w2 hmap2 ho2 hs2))
    go_end0
    exact ⟨rfl, by rw [HT.out]; exact H1.out.setStk ho2 hmap2, Far.trans HM1.out (Far.only (Far.of_fmap H1.out.stk H1.out.b2) ho2)⟩
  · have hw' : (t / l.per == W) = false := by simp [hw]
    have HT := Lib.hid (show getQ l q gate W many t = q by unfold getQ; rw [if_neg hw])
    have HH := Lib.hid h
    clear h hw
    go_enter Tryz.func52, Tryz.ntmps52
    go_wp2_with fail
    go_end0
    exact ⟨rfl, by rw [HT.out]; exact HH.out, Mod.refl _ _⟩

end Go.Proofs.YtinnckbffblecaaGreat
