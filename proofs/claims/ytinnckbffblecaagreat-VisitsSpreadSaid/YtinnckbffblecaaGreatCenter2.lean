/- The program's center: its methods. Conditions: a window limit that was checked, a state that came of calls. -/
import Derived.Test.YtinnckbffblecaaGreatCenter
namespace Go.Proofs.YtinnckbffblecaaGreat
open Go.RowKit
set_option linter.unusedVariables false
set_option linter.unusedSimpArgs false

theorem results4 {fn : Func} {t u v x : Tmp} (h : fn.results = #[.tmp t, .tmp u, .tmp v, .tmp x]) (tmps : Array Value) (P : Program) (w : World) :
    (results fn tmps).run P w = .ok (.tuple #[tmps.getD t undef, tmps.getD u undef, tmps.getD v undef, tmps.getD x undef]) w := by simp [results, h]

theorem zero_int (w : World) : (zeroValue 3).run Tryz.prog w = .ok (.int .i64 0) w := by kernel_rfl

theorem look_ok {w : World} {mb : Nat} {g : Gv} (h : MapOf strKeys w mb (gv g)) (gate : ByteArray) : (Instr.lookup 92 (.map (some mb)) (.string gate) true).run Tryz.prog w = .ok (.tuple #[.int .i64 (igot g gate), .bool (iget g gate).isSome]) w := by
  have := run_lookup_ok (K := strKeys) (P := Tryz.prog) Tryz.underlying92 Tryz.underlying9 (zero_int w) h gate
  rw [aget_gv_getD, aget_gv_isSome] at this
  exact this
theorem look_it {w : World} {mb : Nat} {g : Gv} (h : MapOf strKeys w mb (gv g)) (gate : ByteArray) : (Instr.lookup 92 (.map (some mb)) (.string gate) false).run Tryz.prog w = .ok (.int .i64 (igot g gate)) w := by
  have := run_lookup (K := strKeys) (P := Tryz.prog) Tryz.underlying92 Tryz.underlying9 (zero_int w) h gate
  rw [aget_gv_getD] at this
  exact this
theorem len_it {w : World} {mb : Nat} {g : Gv} (h : MapOf strKeys w mb (gv g)) (ty : TypeId) : (Builtin.len_ #[92] ty #[.map (some mb)]).run Tryz.prog w = .ok (.int .i64 (g.length : Int)) w := by
  have := run_len_map (K := strKeys) (P := Tryz.prog) 92 ty Tryz.underlying92 h
  simpa [gv] using this

/-- what a method does to the memory: the center's block, its map, and new blocks alone -/
def CStep (w : World) (gc mb : Nat) (l : Lim) (s : CS) (w' : World) : Prop :=
  ∃ mb', CenterAt w' gc mb' l s ∧ (mb' = mb ∨ w.heap.size ≤ mb') ∧ Mod (fun k => k = gc ∨ k = mb) w w'

set_option maxHeartbeats 1000000 in
theorem center_pass (w : World) (gc mb : Nat) (l : Lim) (s : CS) (h : CenterAt w gc mb l s) (hl : WLim l) (t : Int) (ht0 : 0 ≤ t) (ht1 : t < 345686400000) :
    Calls Tryz.prog 92 #[.pointer (some ⟨gc, 0, none⟩), .int .i64 t] w fun e w' => e = .returned (.tuple #[]) ∧ CStep w gc mb l ⟨t, thereG l s t⟩ w' := by
  obtain ⟨hp1, hp2⟩ := hl.per
  have hne : gc ≠ mb := h.2.ne_blk h.1.tb
  have c3 := h.1.cell 3
  have c5 := h.1.cell 5
  have c6 := h.1.cell 6
  have c7 := h.1.cell 7
  have c8 := h.1.cell 8
  have ff := h.1.frozen
  have hlt := h.1.lt
  simp at c3 c5 c6 c7 c8
  have h5 := Int.ediv_le_self l.per ht0
  have h6 := Int.ediv_nonneg ht0 (show 0 ≤ l.per by omega)
  have hp0 : (l.per == 0) = false := by simp; omega
  have hmm := @run_makeMap Tryz.prog
  have HB := Lib.hid h
  by_cases hw : t / l.per = s.now / l.per
  · have hw' : (t / l.per != s.now / l.per) = false := by simp [hw]
    have HT := Lib.hid (show thereG l s t = s.g by unfold thereG; rw [if_pos hw])
    have HW := Lib.hid hw
    clear hw h
    go_enter Tryz.func92, Tryz.ntmps92
    go_wp2_with fail
    go_end0
    refine ⟨rfl, mb, ⟨?_, ?_⟩, .inl rfl, ?_⟩
    · have := HB.out.1.set 5 (.int .i64 t)
      simp only [HT.out]
      rw [HW.out]
      simpa using this
    · simp only [HT.out]
      exact HB.out.2.mod (S := fun k => k = gc) ((Mod.refl (fun k => k = gc) _).setCell (.inl rfl) _) (fun e => hne e.symm)
    · exact (Mod.refl (fun k => k = gc ∨ k = mb) _).setCell (p := ⟨gc, 5, none⟩) (.inl (.inl rfl)) _
  · have hw' : (t / l.per != s.now / l.per) = true := by simp [hw]
    have HT := Lib.hid (show thereG l s t = [] by unfold thereG; rw [if_neg hw])
    clear hw h
    go_enter Tryz.func92, Tryz.ntmps92
    go_wp2_with fail
    go_end0
    have hgc : gc ≠ w.heap.size := by omega
    refine ⟨rfl, w.heap.size, ⟨?_, ?_⟩, .inr (Nat.le_refl _), ?_⟩
    · have h1 := (((HB.out.1.set 5 (.int .i64 t)).set 6 (.int .i64 (t / l.per))).set 7 (.map (some w.heap.size))).set 8 (.int .i64 0)
      have h2 := h1.mod ((Mod.refl (fun _ => False) _).alloc (.map #[] 0)) (fun h => h)
      simp only [HT.out]
      simpa [isum] using h2
    · simp only [HT.out]
      refine MapOf.made ?_
      have := heap_alloc_new ((((w.setCell ⟨gc, 5, none⟩ (.int .i64 t)).setCell ⟨gc, 6, none⟩ (.int .i64 (t / l.per))).setCell ⟨gc, 7, none⟩ (.map (some w.heap.size))).setCell ⟨gc, 8, none⟩ (.int .i64 0)) (.map #[] 0)
      simpa [World.setCell] using this
    · refine Mod.alloc ?_ _
      exact ((((Mod.refl (fun k => k = gc ∨ k = mb) _).setCell (p := ⟨gc, 5, none⟩) (.inl (.inl rfl)) _).setCell (p := ⟨gc, 6, none⟩) (.inl (.inl rfl)) _).setCell (p := ⟨gc, 7, none⟩) (.inl (.inl rfl)) _).setCell (p := ⟨gc, 8, none⟩) (.inl (.inl rfl)) _

set_option maxHeartbeats 1000000 in
theorem center_lease (w : World) (gc mb : Nat) (l : Lim) (s : CS) (h : CenterAt w gc mb l s) (hl : WLim l) (hok : s.Ok l) (t : Int) (gate : ByteArray) (want : Int) (ht0 : 0 ≤ t) (ht1 : t < 345686400000) (hw1 : 1 ≤ want) (hw2 : want ≤ 1000000000) :
    Calls Tryz.prog 75 #[.pointer (some ⟨gc, 0, none⟩), .int .i64 t, .string gate, .int .i64 want] w fun e w' => e = .returned (.int .i64 (min want (l.most - isum (thereG l s t)))) ∧
      CStep w gc mb l ⟨t, iput (thereG l s t) gate (igot (thereG l s t) gate + min want (l.most - isum (thereG l s t)))⟩ w' := by
  obtain ⟨h1, h2, h3, h4⟩ := thereG_ok hok hl t
  have hg := igot_le h1 gate
  have hlm := hl.most
  have HSUM := Lib.hid (isum_iput h3 gate (igot (thereG l s t) gate + min want (l.most - isum (thereG l s t))))
  have hml := h.2.lt
  go_enter Tryz.func75, Tryz.ntmps75
  go_wp2_with fail
  refine (center_pass w gc mb l s h hl t ht0 ht1).mono ?_
  rintro e w1 ⟨rfl, mb1, hc1, hmb1, hm1⟩
  generalize hG : thereG l s t = G at *
  have HG := Lib.hid hG
  clear hG
  have c2 := hc1.1.cell 2
  have c7 := hc1.1.cell 7
  have c8 := hc1.1.cell 8
  have f8 := hc1.1.frozen 8
  simp at c2 c7 c8
  have e1 : IntKind.i64.wrap (l.most - isum G) = l.most - isum G := IntWalk.i64_in _ (by omega)
  have hmn : -1000000000 ≤ min want (l.most - isum G) ∧ min want (l.most - isum G) ≤ 1000000000 := by omega
  have hlook := fun q => look_it (w := w1.drewN q) hc1.2 gate
  have hne : gc ≠ mb1 := hc1.2.ne_blk hc1.1.tb
  go_wp2_with fail
  go_quiet (fail)
  clear e1
  go_wp2_with (at_mapUpdate; refine wpList_mapPut rfl _ _ _ _ rfl Tryz.underlying92 Tryz.underlying9 rfl (by exact hc1.2) gate rfl (.int .i64 (igot G gate + min want (l.most - isum G))) rfl ?_; intro w2 hmap2 ho2 hs2; have b2 := Blk.mod (Blk.mod hc1.1 ((Mod.refl (fun _ => False) _).drewN _) (fun h => h)) ho2 hne; have d8 := b2.cell 8; have g8 := b2.frozen 8; simp at d8)
  go_ret
  rw [HG.out]
  refine ⟨rfl, mb1, ⟨?_, ?_⟩, hmb1, ?_⟩
  · have := b2.set 8 (.int .i64 (isum G + min want (l.most - isum G)))
    simp only
    rw [HSUM.out]
    rw [show isum G - igot G gate + (igot G gate + min want (l.most - isum G)) = isum G + min want (l.most - isum G) by omega]
    simpa using this
  · simp only
    rw [← aput_gv]
    exact hmap2.mod (S := fun k => k = gc) ((Mod.refl (fun k => k = gc) _).setCell (.inl rfl) _) (fun e => hne e.symm)
  · refine Mod.setCell (p := ⟨gc, 8, none⟩) ?_ (.inl (.inl rfl)) _
    refine (hm1.drewN _).step ho2 (fun i hi e => ?_)
    rcases hmb1 with h | h
    · right; omega
    · omega

theorem CStep.refl {w : World} {gc mb : Nat} {l : Lim} {s : CS} (h : CenterAt w gc mb l s) (q : Nat) : CStep w gc mb l s (w.drewN q) :=
  ⟨mb, h, .inl rfl, (Mod.refl _ _).drewN q⟩
theorem CStep.pre {w : World} {gc mb : Nat} {l : Lim} {s : CS} {q : Nat} {w' : World} (h : CStep (w.drewN q) gc mb l s w') : CStep w gc mb l s w' := by
  obtain ⟨mb', h1, h2, h3⟩ := h
  exact ⟨mb', h1, h2, ((Mod.refl (fun k => k = gc ∨ k = mb) w).drewN q).trans h3⟩

end Go.Proofs.YtinnckbffblecaaGreat
