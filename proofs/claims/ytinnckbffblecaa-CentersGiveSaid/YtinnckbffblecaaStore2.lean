/- The reference's store: Lease, Return, Free, and the making of the two. Conditions: a window limit that was checked. -/
import Derived.Test.YtinnckbffblecaaStore
namespace Go.Proofs.Ytinnckbffblecaa
open Go.RowKit Go.MapKept
set_option linter.unusedVariables false
set_option linter.unusedSimpArgs false


/-- what a method does to the memory: the store's block, its map, and new blocks alone -/
def DStep (w : World) (gs mb : Nat) (l : Lim) (s : CS) (w' : World) : Prop :=
  ∃ mb', StoreAt w' gs mb' l s ∧ (mb' = mb ∨ w.heap.size ≤ mb') ∧ Mod (fun k => k = gs ∨ k = mb) w w'

theorem DStep.put {w w3 w4 : World} {gs mb mb1 : Nat} {l : Lim} {t now : Int} {G : Gv} {gate : ByteArray} {x : Int}
    (hb3 : Blk w3 gs 81 ((#[Value.string l.key, .int .i64 l.kind, .int .i64 l.most, .int .i64 l.per, .int .i64 l.burst, .int .i64 now, .map (some mb)].setIfInBounds 6 (.map (some mb1))).setIfInBounds 5 (.int .i64 t)))
    (hmap4 : MapOf strKeys w4 mb1 (aput (gv G) gate (.int .i64 x))) (ho4 : Only mb1 w3 w4) (hne1 : gs ≠ mb1) (hmb1 : mb1 = mb ∨ w.heap.size ≤ mb1) (hm3 : Mod (fun k => k = gs ∨ k = mb) w w3) :
    DStep w gs mb l ⟨t, iput G gate x⟩ w4 := by
  refine ⟨mb1, ⟨by simpa using hb3.mod ho4 hne1, by rw [← aput_gv]; exact hmap4⟩, hmb1, hm3.step ho4 ?_⟩
  intro i hi e
  rcases hmb1 with h | h
  · right; omega
  · omega

theorem StoreAt.new {w w' : World} {gs mb : Nat} {l : Lim} {s : CS} (h : StoreAt w gs mb l s) (hm : New w w') : StoreAt w' gs mb l s :=
  ⟨h.1.mod hm (fun h => h), h.2.mod hm (fun h => h)⟩

set_option maxRecDepth 100000 in
set_option maxHeartbeats 1000000 in
theorem store_Lease (w : World) (gs mb : Nat) (l : Lim) (s : CS) (h : StoreAt w gs mb l s) (hl : WLim l) (hok : s.Ok l) (t : Int) (gate : ByteArray) (want : Int) (hs : gate.size ≤ maxLen) :
    Calls Try.prog 25 #[.pointer (some ⟨gs, 0, none⟩), .int .i64 t, .string gate, .int .i64 want] w fun e w' => e = .returned (.tuple #[.int .i64 (leaseC l s t gate want).1.1, .int .i64 (leaseC l s t gate want).1.2]) ∧ DStep w gs mb l (leaseC l s t gate want).2 w' := by
  obtain ⟨h1, h2, h3, h4⟩ := thereG_ok hok hl t
  have hg := igot_le h1 gate
  have hlm := hl.most
  have hml := h.2.lt
  have hgl := h.1.lt
  go_enter Try.func25, Try.ntmps25
  go_wp2_with fail
  refine (store_callFault w gs mb l s h t gate want hs).mono ?_
  rintro e w1 ⟨rfl, rfl⟩
  by_cases hf : callF s t gate want = 0
  · obtain ⟨htf, hk, hw1, hw2⟩ := callF_ok hf
    obtain ⟨t0, t1, t2⟩ := timeF_ok htf
    have HF := Lib.hid hf
    rw [hf]
    clear hf htf
    go_wp2_with fail
    refine (store_there w gs mb l s h hl hok t t0 t1).mono ?_
    rintro e w1 ⟨mb1, rfl, hmap1, hmb1, hm1⟩
    have hlook := fun q => look_ok (w := w1.drewN q) hmap1 gate
    have hlook0 := look_ok hmap1 gate
    have hlen := fun q ty => len_it (w := w1.drewN q) hmap1 ty
    have hlen0 := fun ty => len_it hmap1 ty
    cases hfull : (!(iget (thereG l s t) gate).isSome && decide (50 ≤ (thereG l s t).length))
    · have hsp : leaseC l s t gate want = ((min want (l.most - isum (thereG l s t)), 0), ⟨t, iput (thereG l s t) gate (igot (thereG l s t) gate + min want (l.most - isum (thereG l s t)))⟩) := by
        unfold leaseC; rw [if_neg (by simp [HF.out]), if_neg (by rw [hfull]; exact Bool.false_ne_true)]
      have HSP := Lib.hid hsp
      clear hsp
      cases hkn : (iget (thereG l s t) gate).isSome
      · rw [hkn] at hfull
        have hlen : ¬ (50 : Int) ≤ ((thereG l s t).length : Int) := by simp at hfull; omega
        rw [hkn] at hlook0
        go_wp2_with fail
        refine (store_left w1 gs mb l s (h.new hm1) hl hok t t0 t1).mono ?_
        rintro e w2 ⟨rfl, hm2⟩
        have hw2' := (h.new hm1).new hm2
        have hmap2 := hmap1.mod hm2 (fun h => h)
        have hm12 := hm1.trans hm2
        clear hlook hlook0 hlen0
        generalize hG : thereG l s t = G at *
        have HG := Lib.hid hG
        clear hG
        have c5 := hw2'.1.cell 5
        have c6 := hw2'.1.cell 6
        have f5 := hw2'.1.frozen 5
        have f6 := hw2'.1.frozen 6
        simp at c5 c6
        have hne1 : gs ≠ mb1 := hmap2.ne_blk hw2'.1.tb
        have hmap3 : MapOf strKeys ((w2.setCell ⟨gs, 6, none⟩ (.map (some mb1))).setCell ⟨gs, 5, none⟩ (.int .i64 t)) mb1 (gv G) := hmap2.mod (S := fun k => k = gs) (((Mod.refl (fun k => k = gs) _).setCell (p := ⟨gs, 6, none⟩) (.inl rfl) _).setCell (p := ⟨gs, 5, none⟩) (.inl rfl) _) (fun e => hne1 e.symm)
        have hb3 := (hw2'.1.set 6 (.map (some mb1))).set 5 (.int .i64 t)
        have hm3 : Mod (fun k => k = gs ∨ k = mb) w ((w2.setCell ⟨gs, 6, none⟩ (.map (some mb1))).setCell ⟨gs, 5, none⟩ (.int .i64 t)) := ((hm12.mono (fun _ _ h => h.elim)).setCell (p := ⟨gs, 6, none⟩) (.inl (.inl rfl)) _).setCell (p := ⟨gs, 5, none⟩) (.inl (.inl rfl)) _
        have hlook := look_it hmap3 gate
        clear hmap1 hmap2 hm1 hm2 hm12
        by_cases hlt : l.most - isum G < want
        · have hmn : min want (l.most - isum G) = l.most - isum G := by omega
          go_wp2_with (at_mapUpdate; refine wpList_mapPut rfl _ _ _ _ rfl Try.underlying79 Try.underlying9 rfl (by exact hmap3) gate rfl (.int .i64 (igot G gate + (l.most - isum G))) rfl ?_; intro w4 hmap4 ho4 hs4)
          go_ret2
          rw [HSP.out, hmn]
          exact ⟨rfl, DStep.put hb3 hmap4 ho4 hne1 hmb1 hm3⟩
        · have hmn : min want (l.most - isum G) = want := by omega
          go_wp2_with (at_mapUpdate; refine wpList_mapPut rfl _ _ _ _ rfl Try.underlying79 Try.underlying9 rfl (by exact hmap3) gate rfl (.int .i64 (igot G gate + want)) rfl ?_; intro w4 hmap4 ho4 hs4)
          go_ret2
          rw [HSP.out, hmn]
          exact ⟨rfl, DStep.put hb3 hmap4 ho4 hne1 hmb1 hm3⟩
      · rw [hkn] at hlook0
        go_wp2_with fail
        refine (store_left w1 gs mb l s (h.new hm1) hl hok t t0 t1).mono ?_
        rintro e w2 ⟨rfl, hm2⟩
        have hw2' := (h.new hm1).new hm2
        have hmap2 := hmap1.mod hm2 (fun h => h)
        have hm12 := hm1.trans hm2
        clear hlook hlook0 hlen0
        generalize hG : thereG l s t = G at *
        have HG := Lib.hid hG
        clear hG
        have c5 := hw2'.1.cell 5
        have c6 := hw2'.1.cell 6
        have f5 := hw2'.1.frozen 5
        have f6 := hw2'.1.frozen 6
        simp at c5 c6
        have hne1 : gs ≠ mb1 := hmap2.ne_blk hw2'.1.tb
        have hmap3 : MapOf strKeys ((w2.setCell ⟨gs, 6, none⟩ (.map (some mb1))).setCell ⟨gs, 5, none⟩ (.int .i64 t)) mb1 (gv G) := hmap2.mod (S := fun k => k = gs) (((Mod.refl (fun k => k = gs) _).setCell (p := ⟨gs, 6, none⟩) (.inl rfl) _).setCell (p := ⟨gs, 5, none⟩) (.inl rfl) _) (fun e => hne1 e.symm)
        have hb3 := (hw2'.1.set 6 (.map (some mb1))).set 5 (.int .i64 t)
        have hm3 : Mod (fun k => k = gs ∨ k = mb) w ((w2.setCell ⟨gs, 6, none⟩ (.map (some mb1))).setCell ⟨gs, 5, none⟩ (.int .i64 t)) := ((hm12.mono (fun _ _ h => h.elim)).setCell (p := ⟨gs, 6, none⟩) (.inl (.inl rfl)) _).setCell (p := ⟨gs, 5, none⟩) (.inl (.inl rfl)) _
        have hlook := look_it hmap3 gate
        clear hmap1 hmap2 hm1 hm2 hm12
        by_cases hlt : l.most - isum G < want
        · have hmn : min want (l.most - isum G) = l.most - isum G := by omega
          go_wp2_with (at_mapUpdate; refine wpList_mapPut rfl _ _ _ _ rfl Try.underlying79 Try.underlying9 rfl (by exact hmap3) gate rfl (.int .i64 (igot G gate + (l.most - isum G))) rfl ?_; intro w4 hmap4 ho4 hs4)
          go_ret2
          rw [HSP.out, hmn]
          exact ⟨rfl, DStep.put hb3 hmap4 ho4 hne1 hmb1 hm3⟩
        · have hmn : min want (l.most - isum G) = want := by omega
          go_wp2_with (at_mapUpdate; refine wpList_mapPut rfl _ _ _ _ rfl Try.underlying79 Try.underlying9 rfl (by exact hmap3) gate rfl (.int .i64 (igot G gate + want)) rfl ?_; intro w4 hmap4 ho4 hs4)
          go_ret2
          rw [HSP.out, hmn]
          exact ⟨rfl, DStep.put hb3 hmap4 ho4 hne1 hmb1 hm3⟩
    · have hsp : leaseC l s t gate want = ((0, 12), s) := by
        unfold leaseC; rw [if_neg (by simp [HF.out]), if_pos hfull]
      have HSP := Lib.hid hsp
      clear hsp
      have hkn : (iget (thereG l s t) gate).isSome = false := by simp at hfull; simpa using hfull.1
      have hlen : (50 : Int) ≤ ((thereG l s t).length : Int) := by simp at hfull; omega
      rw [hkn] at hlook0
      go_wp2_with fail
      go_ret2
      rw [HSP.out]
      exact ⟨rfl, mb, h.new hm1, .inl rfl, hm1.mono (fun _ _ h => h.elim)⟩
  · have hf' : (callF s t gate want != 0) = true := by simpa using hf
    have HSP := Lib.hid (show leaseC l s t gate want = ((0, callF s t gate want), s) by unfold leaseC; rw [if_pos hf])
    clear hf
    go_wp2_with fail
    go_ret2
    rw [HSP.out]
    exact ⟨rfl, mb, h, .inl rfl, Mod.refl _ _⟩

set_option maxRecDepth 100000 in
set_option maxHeartbeats 1000000 in
theorem store_Return (w : World) (gs mb : Nat) (l : Lim) (s : CS) (h : StoreAt w gs mb l s) (hl : WLim l) (hok : s.Ok l) (t : Int) (gate : ByteArray) (many : Int) (hs : gate.size ≤ maxLen) :
    Calls Try.prog 27 #[.pointer (some ⟨gs, 0, none⟩), .int .i64 t, .string gate, .int .i64 many] w fun e w' => e = .returned (.int .i64 (returnC l s t gate many).1) ∧ DStep w gs mb l (returnC l s t gate many).2 w' := by
  obtain ⟨h1, h2, h3, h4⟩ := thereG_ok hok hl t
  have hg := igot_le h1 gate
  have hlm := hl.most
  have hml := h.2.lt
  have hgl := h.1.lt
  go_enter Try.func27, Try.ntmps27
  go_wp2_with fail
  refine (store_callFault w gs mb l s h t gate many hs).mono ?_
  rintro e w1 ⟨rfl, rfl⟩
  by_cases hf : callF s t gate many = 0
  · obtain ⟨htf, hk, hw1, hw2⟩ := callF_ok hf
    obtain ⟨t0, t1, t2⟩ := timeF_ok htf
    have HF := Lib.hid hf
    rw [hf]
    clear hf htf
    go_wp2_with fail
    refine (store_there w gs mb l s h hl hok t t0 t1).mono ?_
    rintro e w2 ⟨mb1, rfl, hmap2, hmb1, hm12⟩
    have hlook0 := look_it hmap2 gate
    have hw2' := h.new hm12
    by_cases hlt : igot (thereG l s t) gate < many
    · have HSP := Lib.hid (show returnC l s t gate many = (16, s) by unfold returnC; rw [if_neg (by simp [HF.out]), if_pos hlt])
      go_wp2_with fail
      go_ret
      rw [HSP.out]
      exact ⟨rfl, mb, hw2', .inl rfl, hm12.mono (fun _ _ h => h.elim)⟩
    · have HSP := Lib.hid (show returnC l s t gate many = (0, ⟨t, iput (thereG l s t) gate (igot (thereG l s t) gate - many)⟩) by unfold returnC; rw [if_neg (by simp [HF.out]), if_neg hlt])
      generalize hG : thereG l s t = G at *
      have HG := Lib.hid hG
      clear hG
      have c5 := hw2'.1.cell 5
      have c6 := hw2'.1.cell 6
      have f5 := hw2'.1.frozen 5
      have f6 := hw2'.1.frozen 6
      simp at c5 c6
      have hne1 : gs ≠ mb1 := hmap2.ne_blk hw2'.1.tb
      have hmap3 : MapOf strKeys ((w2.setCell ⟨gs, 6, none⟩ (.map (some mb1))).setCell ⟨gs, 5, none⟩ (.int .i64 t)) mb1 (gv G) := hmap2.mod (S := fun k => k = gs) (((Mod.refl (fun k => k = gs) _).setCell (p := ⟨gs, 6, none⟩) (.inl rfl) _).setCell (p := ⟨gs, 5, none⟩) (.inl rfl) _) (fun e => hne1 e.symm)
      have hb3 := (hw2'.1.set 6 (.map (some mb1))).set 5 (.int .i64 t)
      have hm3 : Mod (fun k => k = gs ∨ k = mb) w ((w2.setCell ⟨gs, 6, none⟩ (.map (some mb1))).setCell ⟨gs, 5, none⟩ (.int .i64 t)) := ((hm12.mono (fun _ _ h => h.elim)).setCell (p := ⟨gs, 6, none⟩) (.inl (.inl rfl)) _).setCell (p := ⟨gs, 5, none⟩) (.inl (.inl rfl)) _
      have hlook := look_it hmap3 gate
      clear hmap2 hm12
      go_wp2_with (at_mapUpdate; refine wpList_mapPut rfl _ _ _ _ rfl Try.underlying79 Try.underlying9 rfl (by exact hmap3) gate rfl (.int .i64 (igot G gate - many)) rfl ?_; intro w4 hmap4 ho4 hs4)
      go_ret
      rw [HSP.out]
      exact ⟨rfl, DStep.put hb3 hmap4 ho4 hne1 hmb1 hm3⟩
  · have hf' : (callF s t gate many != 0) = true := by simpa using hf
    have HSP := Lib.hid (show returnC l s t gate many = (callF s t gate many, s) by unfold returnC; rw [if_pos hf])
    clear hf
    go_wp2_with fail
    go_ret
    rw [HSP.out]
    exact ⟨rfl, mb, h, .inl rfl, Mod.refl _ _⟩

theorem callF_x (s : CS) (t : Int) : callF s t "x".toUTF8 1 = timeF s t := by
  have hk : isKey "x".toUTF8 = true := by decide +kernel
  unfold callF
  rw [hk]
  by_cases h : timeF s t = 0
  · simp [h]
  · simp [h]

set_option maxRecDepth 100000 in
set_option maxHeartbeats 1000000 in
theorem store_Free (w : World) (gs mb : Nat) (l : Lim) (s : CS) (h : StoreAt w gs mb l s) (hl : WLim l) (hok : s.Ok l) (t : Int) :
    Calls Try.prog 29 #[.pointer (some ⟨gs, 0, none⟩), .int .i64 t] w fun e w' => e = .returned (.tuple #[.int .i64 (freeC l s t).1.1, .int .i64 (freeC l s t).1.2]) ∧ DStep w gs mb l (freeC l s t).2 w' := by
  have hlm := hl.most
  have hgl := h.1.lt
  have hcf := store_callFault w gs mb l s h t "x".toUTF8 1 (by decide)
  rw [callF_x] at hcf
  go_enter Try.func29, Try.ntmps29
  go_wp2_with fail
  refine hcf.mono ?_
  rintro e w1 ⟨rfl, rfl⟩
  by_cases hf : timeF s t = 0
  · obtain ⟨t0, t1, t2⟩ := timeF_ok hf
    have hok1 := freeC_ok hok hl t
    have HSP := Lib.hid (show freeC l s t = ((l.most - isum (thereG l s t), 0), ⟨t, thereG l s t⟩) by unfold freeC; rw [if_neg (by simp [hf])])
    rw [HSP.out] at hok1
    have htt : thereG l ⟨t, thereG l s t⟩ t = thereG l s t := by simp [thereG]
    rw [hf]
    clear hf
    go_wp2_with fail
    refine (store_there w gs mb l s h hl hok t t0 t1).mono ?_
    rintro e w2 ⟨mb1, rfl, hmap2, hmb1, hm12⟩
    have hw2' := h.new hm12
    have c5 := hw2'.1.cell 5
    have c6 := hw2'.1.cell 6
    have f5 := hw2'.1.frozen 5
    have f6 := hw2'.1.frozen 6
    simp at c5 c6
    have hne1 : gs ≠ mb1 := hmap2.ne_blk hw2'.1.tb
    have hmap3 : MapOf strKeys ((w2.setCell ⟨gs, 6, none⟩ (.map (some mb1))).setCell ⟨gs, 5, none⟩ (.int .i64 t)) mb1 (gv (thereG l s t)) := hmap2.mod (S := fun k => k = gs) (((Mod.refl (fun k => k = gs) _).setCell (p := ⟨gs, 6, none⟩) (.inl rfl) _).setCell (p := ⟨gs, 5, none⟩) (.inl rfl) _) (fun e => hne1 e.symm)
    have hb3 := (hw2'.1.set 6 (.map (some mb1))).set 5 (.int .i64 t)
    have hst3 : StoreAt ((w2.setCell ⟨gs, 6, none⟩ (.map (some mb1))).setCell ⟨gs, 5, none⟩ (.int .i64 t)) gs mb1 l ⟨t, thereG l s t⟩ := ⟨by simpa using hb3, hmap3⟩
    have hm3 : Mod (fun k => k = gs ∨ k = mb) w ((w2.setCell ⟨gs, 6, none⟩ (.map (some mb1))).setCell ⟨gs, 5, none⟩ (.int .i64 t)) := ((hm12.mono (fun _ _ h => h.elim)).setCell (p := ⟨gs, 6, none⟩) (.inl (.inl rfl)) _).setCell (p := ⟨gs, 5, none⟩) (.inl (.inl rfl)) _
    have hleft := store_left _ gs mb1 l _ hst3 hl hok1 t t0 t1
    rw [htt] at hleft
    go_wp2_with fail
    refine hleft.mono ?_
    rintro e w4 ⟨rfl, hm4⟩
    go_wp2_with fail
    go_ret2
    rw [HSP.out]
    exact ⟨rfl, mb1, hst3.new hm4, hmb1, hm3.trans (hm4.mono (fun _ _ h => h.elim))⟩
  · have hf' : (timeF s t != 0) = true := by simpa using hf
    have HSP := Lib.hid (show freeC l s t = ((0, timeF s t), s) by unfold freeC; rw [if_pos hf])
    clear hf
    go_wp2_with fail
    go_ret2
    rw [HSP.out]
    exact ⟨rfl, mb, h, .inl rfl, Mod.refl _ _⟩

end Go.Proofs.Ytinnckbffblecaa
