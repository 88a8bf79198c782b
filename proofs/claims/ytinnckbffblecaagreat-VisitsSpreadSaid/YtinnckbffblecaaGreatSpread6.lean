/- The program's player of visits: an order that is done. Conditions: right limits, modest numbers. -/
import Derived.Test.YtinnckbffblecaaGreatSpread5
namespace Go.Proofs.YtinnckbffblecaaGreat
open Go.RowKit Go.MapKept
set_option linter.unusedVariables false
set_option linter.unusedSimpArgs false



theorem happenP_done {l : Lim} {D : Int} {p : PSt} {i : Nat} {o : Ord} (ho : p.os[i]? = some o) (hd : o.done = true) : happenP l D p i = { backP l D p o with os := p.os.eraseIdx i } := by
  unfold happenP; rw [ho]; simp [hd]

set_option maxRecDepth 100000 in
set_option maxHeartbeats 2000000 in
theorem spread_happen1 (w : World) (B gs gc mc gm : Nat) (gl : List (ByteArray × Nat)) (A : Option Addr) (c : Nat) (ob : List Nat) (l : Lim) (batch D : Int) (p : PSt) (h : SpAt w B gs gc mc gm gl A c ob l batch D p) (hl : WLim l)
    (hD : 0 ≤ D ∧ D ≤ 8640000000) (i b : Nat) (o : Ord) (hb : ob[i]? = some b) (ho : p.os[i]? = some o) (hm : o.Mild) (hn : o.next D < 345686400000) (hnd : o.done = true) (hB : B ≤ w.heap.size) (hst : 0 ≤ p.stk o.gate ∧ p.stk o.gate ≤ 1000000000000000) (hno : p.os.length ≤ 1000000) :
    Calls Tryz.prog 72 #[.pointer (some ⟨gs, 0, none⟩), .pointer (some ⟨b, 0, none⟩)] w (RHap w B gs gc gm A c l batch D (happenP l D p i)) := by
  have hlen := h.len
  have hib := lt_of_some hb
  obtain ⟨g, rfl, hBg, hg, hgc, hgm⟩ := h.own.form (by omega)
  have hA1 := (Mod.refl (fun _ => False) w).alloc (.cells #[.pointer (some ⟨b, 0, none⟩)] 128)
  have h1 := h.new hA1
  have hord := h1.ord i b o hb ho
  have o2 := hord.cell 2
  have o4 := hord.cell 4
  simp only [Ord.cells] at o2 o4
  simp at o2 o4
  rw [hnd] at o4
  have hx := Blk.new w 128 #[.pointer (some ⟨b, 0, none⟩)]
  have hnx := spread_next gs b _ _ _ _ D o _ h1.blk hord hD hm.1
  have hnn : 0 ≤ o.next D := by unfold Ord.next; split <;> have := hm.1 <;> omega
  have hnn2 : o.next D ≤ 1000000000000 := by omega
  have HHP := Lib.hid (happenP_done (l := l) (D := D) ho hnd)
  have hbx : ∀ k, k = w.heap.size → ¬ B ≤ k → False := fun k e => by omega
  have HH := Lib.hid h1
  have HX := Lib.hid hx
  have hperm := hl.per
  have hgs := h.blk.lt
  have hgl0 := hg.lt
  have hbp : (backP l D p o) = if (o.asked + D) / l.per = (stockP l p o.gate (o.next D)).win o.gate then addP (stockP l p o.gate (o.next D)) o.gate o.given else stockP l p o.gate (o.next D) := rfl
  have HBP := Lib.hid hbp
  have hstk : 0 ≤ (stockP l p o.gate (o.next D)).stk o.gate ∧ (stockP l p o.gate (o.next D)).stk o.gate ≤ 1000000000000000 := by
    rw [stockP_stk, upd_same]; split <;> omega
  have hpos : (stockP l p o.gate (o.next D)).os = p.os := stockP_os _ _ _ _
  generalize hnxt : o.next D = T at *
  have hcs := fun q : Nat => spread_stock ((w.alloc (.cells #[.pointer (some ⟨b, 0, none⟩)] 128)).drewN q) B gs gc mc gm gl (some ⟨g, 0, none⟩) c ob l batch D p (h1.new ((Mod.refl _ _).drewN q)) hl o.gate T hnn hnn2
  generalize hp1 : stockP l p o.gate T = p1 at *
  have HP1 := Lib.hid hp1
  have HPOS := Lib.hid hpos
  clear h h1 hord hx hbp hp1 hpos
  go_enter Tryz.func72, Tryz.ntmps72
  go_wp2_with (first | (go_at_call 88; refine hnx.mono ?_; clear hnx; rintro e w1 ⟨rfl, q, rfl⟩) | (go_at_call 73; refine (hcs _).mono ?_; clear hcs; rintro e w2 ⟨gb, gl2, rfl, hgin, h2, hm2⟩))
  rw [← HPOS.out] at ho
  have hx2 : Blk w2 w.heap.size 128 #[.pointer (some ⟨b, 0, none⟩)] := Far.blk hm2 HX.out (by decide)
  have hord := h2.ord i b o hb ho
  have hgat := h2.gat _ hgin
  have x0 := hx2.cell 0
  have s0 := h2.blk.cell 0
  have s2 := h2.blk.cell 2
  have c3 := h2.cen.1.cell 3
  have a0 := hord.cell 0
  have a3 := hord.cell 3
  have g0 := hgat.cell 0
  have g1 := hgat.cell 1
  have gf1 := hgat.frozen 1
  simp only [Ord.cells] at a0 a3
  simp at x0 s0 s2 c3 a0 a3 g0 g1
  obtain ⟨ha1, ha2⟩ := hm.1
  obtain ⟨hd1, hd2⟩ := hD
  obtain ⟨hper1, hper2⟩ := hperm
  obtain ⟨hgv1, hgv2⟩ := hm.2.2
  have hdv := Int.ediv_le_self l.per (show 0 ≤ o.asked + D by omega)
  have hdv0 := Int.ediv_nonneg (show 0 ≤ o.asked + D by omega) (show 0 ≤ l.per by omega)
  have hp0 : (l.per == 0) = false := by simp; omega
  have HH2 := Lib.hid h2
  have HORD := Lib.hid hord
  have HGAT := Lib.hid hgat
  have HX2 := Lib.hid hx2
  have HHM := Lib.hid hm2
  have hgbne : gb ≠ w.heap.size := hgat.tb.ne hx2.tb (by decide)
  clear h2 hord hgat hx2 hm2
  have e1 : IntKind.i64.wrap (o.asked + D) = o.asked + D := IntWalk.i64_in _ (by omega)
  have e2 : (o.asked + D).tdiv l.per = (o.asked + D) / l.per := Int.tdiv_eq_ediv_of_nonneg (by omega)
  have e3 : IntKind.i64.wrap ((o.asked + D) / l.per) = (o.asked + D) / l.per := IntWalk.i64_in _ (by omega)
  by_cases hc : (o.asked + D) / l.per = p1.win o.gate
  · have hbk := HBP.out
    rw [if_pos hc] at hbk
    have HBK := Lib.hid hbk
    have hceq : ((o.asked + D) / l.per == p1.win o.gate) = true := by simp [hc]
    have HC := Lib.hid hc
    clear hbk hc
    go_quiet (fail)
    clear e1 e2 e3
    go_wp2_with fail
    refine wp_region_quiet_tail 11 (by kernel_rfl) (by kernel_rfl) ?_
    simp only [List.take_succ_cons, List.take_zero, List.drop_succ_cons, List.drop_zero]
    repeat (go_big_quiet_step (fail))
    refine wpQuiet_nil ?_
    intro _ hw'
    obtain ⟨nr, hw''⟩ := hw'
    subst hw''
    go_upto_region 8 with (fail)
    have h3 := (HH2.out.new ((Mod.refl _ _).drewN (nq + nr))).setGate hgin (W := p1.win o.gate) (S := p1.stk o.gate + o.given) (by simpa using (HGAT.out.mod ((Mod.refl (fun _ => False) _).drewN (nq + nr)) (fun x => x)).set 1 (.int .i64 (p1.stk o.gate + o.given))) (Only.cell1 _ gb 1 _)
    rw [upd_self] at h3
    have x3 := (HX2.out.mod ((Mod.refl (fun _ => False) _).drewN (nq + nr)) (fun e => e)).mod (Only.cell1 _ gb 1 (.int .i64 (p1.stk o.gate + o.given))) (fun e => hgbne e.symm)
    have m3 := Far.trans (Far.trans (B := B) (ts := spT) (Far.new (hA1.drewN q)) (Far.mono (HHM.out.drewN (nq + nr)) (by simp))) (Far.only (Far.of_tb (HGAT.out.mod ((Mod.refl (fun _ => False) _).drewN (nq + nr)) (fun x => x)).tb (HH2.out.bgl _ hgin) (by simp)) (Only.cell1 _ gb 1 (.int .i64 (p1.stk o.gate + o.given))))
    clear x0 s0 s2 c3 a0 a3 g0 g1 gf1
    generalize (w2.drewN (nq + nr)).setCell ⟨gb, 1, none⟩ (.int .i64 (p1.stk o.gate + o.given)) = w3 at *
    have H3 := Lib.hid (show SpAt w3 B gs gc mc gm gl2 (some ⟨g, 0, none⟩) c ob l batch D (addP p1 o.gate o.given) from h3)
    clear h3
    have X3 := Lib.hid x3
    have M3 := Lib.hid m3
    have hF : RowPred w3 g 91 (.pointer (some ⟨w.heap.size, 0, none⟩)) ob (fun x => decide (x = b)) := by
      intro x hx wr hwr
      obtain ⟨j, hj, hjx⟩ := List.getElem_of_mem hx
      have hjo : j < ((addP p1 o.gate o.given)).os.length := by rw [← H3.out.len]; exact hj
      have hbx := H3.out.ord j x ((addP p1 o.gate o.given)).os[j] (by rw [List.getElem?_eq_getElem hj, hjx]) (List.getElem?_eq_getElem hjo)
      have hio : i < ((addP p1 o.gate o.given)).os.length := by rw [← H3.out.len]; exact hib
      have hbb := H3.out.ord i b ((addP p1 o.gate o.given)).os[i] hb (List.getElem?_eq_getElem hio)
      obtain ⟨_, hrow, _⟩ := H3.out.own.row
      refine happen1 x b w.heap.size wr (hbx.mod hwr (hbx.tb.ne hrow.tb (by decide))) (hbb.mod hwr (hbb.tb.ne hrow.tb (by decide))) ?_
      have := (X3.out.mod hwr (by omega)).cell 0
      exact this.trans rfl
    have hdel := deleteFunc_ord 91 (.pointer (some ⟨w.heap.size, 0, none⟩)) enters_happen1 w3 B g _ c ob H3.out.own _ hF (by rw [← H3.out.len, hlen]; exact hno)
    have s4 := H3.out.blk.cell 4
    simp at s4
    clear hF
    go_wp2_with (go_at_call 90; refine hdel.mono ?_; clear hdel; rintro e w4 ⟨rfl, ho4, hm4⟩; have hb4 := Blk.mod H3.out.blk hm4 (by (obtain ⟨_, hrow, _⟩ := H3.out.own.row; exact H3.out.blk.tb.ne hrow.tb (by decide))); have t4 := hb4.cell 4; have f4 := hb4.frozen 4; simp at t4)
    go_end0
    have e4 := filter_eraseIdx H3.out.ond hb
    rw [e4] at ho4
    refine ⟨mc, gl2, ob.eraseIdx i, rfl, ?_, ?_⟩
    · rw [HHP.out]
      rw [HBK.out, ← HPOS.out]
      refine SpAt.drop (p := (addP p1 o.gate o.given)) H3.out hb ?_ ?_ ?_
      · refine ho4.mod (Only.cell1 _ gs 4 _) (fun k e => ?_)
        injection e with e
        obtain ⟨_, hrow, _⟩ := ho4.row
        subst e
        exact hrow.tb.ne hb4.tb (by decide)
      · refine Mod.setCell (hm4.mono (T := fun k => k = g ∨ k = gs) (fun i _ e => .inl e)) (.inl (.inr ?_)) _
        rfl
      · have := hb4.set 4 (.slice (some ⟨g, 0, none⟩) (ob.filter (fun x => !decide (x = b))).length c)
        simp only [e4] at this ⊢
        simpa using this
    · obtain ⟨_, hrow, _⟩ := H3.out.own.row
      refine Far.trans (Far.trans M3.out (Far.only (Far.of_tb hrow.tb hBg (by simp)) hm4)) (Far.only (Far.of_tb hb4.tb H3.out.bs (by simp)) (Only.cell1 _ _ _ _))
  · have hbk := HBP.out
    rw [if_neg hc] at hbk
    have HBK := Lib.hid hbk
    have hceq : ((o.asked + D) / l.per == p1.win o.gate) = false := by simp [hc]
    clear hbk hc
    go_quiet (fail)
    clear e1 e2 e3
    have h3 := HH2.out.new ((Mod.refl _ _).drewN nq)
    have x3 := HX2.out.mod ((Mod.refl (fun _ => False) _).drewN nq) (fun x => x)
    have m3 : Mod (Far w B spT) w (w2.drewN nq) := Far.trans (Far.new (hA1.drewN q)) (Far.mono (HHM.out.drewN nq) (by simp))
    clear x0 s0 s2 c3 a0 a3 g0 g1 gf1
    have H3 := Lib.hid (show SpAt (w2.drewN nq) B gs gc mc gm gl2 (some ⟨g, 0, none⟩) c ob l batch D p1 from h3)
    clear h3
    have X3 := Lib.hid x3
    have M3 := Lib.hid m3
    have hF : RowPred (w2.drewN nq) g 91 (.pointer (some ⟨w.heap.size, 0, none⟩)) ob (fun x => decide (x = b)) := by
      intro x hx wr hwr
      obtain ⟨j, hj, hjx⟩ := List.getElem_of_mem hx
      have hjo : j < (p1).os.length := by rw [← H3.out.len]; exact hj
      have hbx := H3.out.ord j x (p1).os[j] (by rw [List.getElem?_eq_getElem hj, hjx]) (List.getElem?_eq_getElem hjo)
      have hio : i < (p1).os.length := by rw [← H3.out.len]; exact hib
      have hbb := H3.out.ord i b (p1).os[i] hb (List.getElem?_eq_getElem hio)
      obtain ⟨_, hrow, _⟩ := H3.out.own.row
      refine happen1 x b w.heap.size wr (hbx.mod hwr (hbx.tb.ne hrow.tb (by decide))) (hbb.mod hwr (hbb.tb.ne hrow.tb (by decide))) ?_
      have := (X3.out.mod hwr (by omega)).cell 0
      exact this.trans rfl
    have hdel := deleteFunc_ord 91 (.pointer (some ⟨w.heap.size, 0, none⟩)) enters_happen1 (w2.drewN nq) B g _ c ob H3.out.own _ hF (by rw [← H3.out.len, hlen]; exact hno)
    have s4 := H3.out.blk.cell 4
    simp at s4
    clear hF
    go_wp2_with (go_at_call 90; refine hdel.mono ?_; clear hdel; rintro e w4 ⟨rfl, ho4, hm4⟩; have hb4 := Blk.mod H3.out.blk hm4 (by (obtain ⟨_, hrow, _⟩ := H3.out.own.row; exact H3.out.blk.tb.ne hrow.tb (by decide))); have t4 := hb4.cell 4; have f4 := hb4.frozen 4; simp at t4)
    go_end0
    have e4 := filter_eraseIdx H3.out.ond hb
    rw [e4] at ho4
    refine ⟨mc, gl2, ob.eraseIdx i, rfl, ?_, ?_⟩
    · rw [HHP.out]
      rw [HBK.out, ← HPOS.out]
      refine SpAt.drop (p := p1) H3.out hb ?_ ?_ ?_
      · refine ho4.mod (Only.cell1 _ gs 4 _) (fun k e => ?_)
        injection e with e
        obtain ⟨_, hrow, _⟩ := ho4.row
        subst e
        exact hrow.tb.ne hb4.tb (by decide)
      · refine Mod.setCell (hm4.mono (T := fun k => k = g ∨ k = gs) (fun i _ e => .inl e)) (.inl (.inr ?_)) _
        rfl
      · have := hb4.set 4 (.slice (some ⟨g, 0, none⟩) (ob.filter (fun x => !decide (x = b))).length c)
        simp only [e4] at this ⊢
        simpa using this
    · obtain ⟨_, hrow, _⟩ := H3.out.own.row
      refine Far.trans (Far.trans M3.out (Far.only (Far.of_tb hrow.tb hBg (by simp)) hm4)) (Far.only (Far.of_tb hb4.tb H3.out.bs (by simp)) (Only.cell1 _ _ _ _))

end Go.Proofs.YtinnckbffblecaaGreat
