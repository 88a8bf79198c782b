/- Reading values: the program's reader puts a value into what is open. Conditions: a text of at most 300000 bytes. -/
import Derived.Test.YtjmnkdkdjnmejaaGreatDoorRvPutGrp
import Derived.Test.YtjmnkdkdjnmejaaGreatDoorAlGrp
import Derived.Test.YtjmnkdkdjnmejaaGreatDoorVal1Grp
namespace Go.Proofs.YtjmnkdkdjnmejaaGreatDoor
open Go.RowKit
set_option linter.unusedVariables false
set_option linter.unusedSimpArgs false


theorem einfo_mmR : EInfo Tryz.prog 60 7 104 := EInfo.of (z := .agg #[.string ⟨#[]⟩, .int .i64 0, .bool false, .int .i64 0, .string ⟨#[]⟩, .slice none 0 0, .slice none 0 0]) (by kernel_rfl) rfl (by decide)
def SM (w1 : World) (q0 ob : Nat) (fname : ByteArray) (W : World) : Prop := Mod (fun k => k ≠ q0) w1 W ∧ W.cell? ⟨ob, 6, none⟩ = some (.string fname)
set_option maxHeartbeats 800000
set_option maxRecDepth 100000 in
theorem val_put1 (s : ByteArray) (r : RV) (B b : Nat) (w : World) (x : VA) (v : VT) (f : RFr) (q : List RFr) (o : OF) (oq : List OF) (h : RdAt w B b s r true (f :: q) (o :: oq)) (hx : Tree w (notIn B (ownL (o :: oq))) r.i x v) (hB : B ≤ w.heap.size)
    (hlen : oq.length ≤ 300000) (hli : f.items.length ≤ 300000) (hlm : f.mems.length ≤ 300000) :
    Calls Tryz.prog 65 #[.pointer (some ⟨b, 0, none⟩), x.val] w (RPut B b s r (f :: q) v w) := by
  have hsn : r.sn = oq.length + 1 := by have := h.sk.1; simpa using this.symm
  have hrd := h.rd
  have hfr := h.fr.1
  have hsk := h.sk
  obtain ⟨sg, hA, -, htg, -, -⟩ := hsk.form (by omega)
  rw [hA] at hsk
  have hc0 : w.cell? ⟨sg, oq.length, none⟩ = some (.pointer (some ⟨o.b, 0, none⟩)) := by
    have hl : oq.length < ((o :: oq).reverse.map (·.b)).length := by simp
    have := hsk.cell1 hl
    simpa [ptrE] using this
  have hob := hfr.blk
  obtain ⟨i, sk, sn, sc, begins, done, ⟨ok, of, on, ow, ola, oln, olc, oma, omn, omc⟩, bad, pl⟩ := r
  simp only at hsn hA
  subst hA
  obtain ⟨n, hn⟩ : ∃ n, oq.length = n := ⟨_, rfl⟩
  rw [hn] at hsn hc0 hlen
  have HN0 := hId hn
  have HSNN := hId hsn
  clear hn
  obtain ⟨xk, xf, xn, xw, xla, xln, xlc, xma, xmn, xmc⟩ := x
  obtain ⟨m, name, items, mems⟩ := f
  obtain ⟨ob, fla, fln, flc, fma, fmn, fmc, fname, fmp⟩ := o
  simp only at hob hc0
  have HX := hId hx
  have HH := hId h
  have hHB := h.hB
  have hobl := hob.lt
  have hsgl := htg.lt
  clear h hx hfr hsk htg
  have hnew : New w (w.alloc (.cells #[.int .i64 xk, .bool xf, .int .i64 xn, .string xw, .slice xla xln xlc, .slice xma xmn xmc] 30)) := (Mod.refl _ _).alloc _
  have hxb := Blk.new w 30 #[.int .i64 xk, .bool xf, .int .i64 xn, .string xw, .slice xla xln xlc, .slice xma xmn xmc]
  go_enter Tryz.func65, Tryz.ntmps65
  go_upto_region 1 with (fail)
  generalize w.alloc (.cells #[.int .i64 xk, .bool xf, .int .i64 xn, .string xw, .slice xla xln xlc, .slice xma xmn xmc] 30) = w1 at *
  generalize hq0 : w.heap.size = q0 at *
  have hrd1 := hrd.mod hnew (fun e => e)
  have hob1 := hob.mod hnew (fun e => e)
  have hc1 : w1.cell? ⟨sg, n, none⟩ = some (.pointer (some ⟨ob, 0, none⟩)) := (hnew.cell (by simpa [hq0] using hsgl) (fun e => e)).trans hc0
  have c2 := hrd1.cell 2
  have z3 := hrd1.frozen 3
  have bl := hrd1.lt
  have d0 := hxb.cell 0
  have d1 := hxb.cell 1
  have d2 := hxb.cell 2
  have d3 := hxb.cell 3
  have d4 := hxb.cell 4
  have d5 := hxb.cell 5
  have dl := hxb.lt
  have e0 := hob1.cell 0
  have e4 := hob1.cell 4
  have e5 := hob1.cell 5
  have ol := hob1.lt
  simp only [RV.cells, OF.cells, lqt, lqz, lqs] at c2 d0 d1 d2 d3 d4 d5 e0 e4 e5
  have HRD1 := hId hrd1
  have HOB1 := hId hob1
  have HXB := hId hxb
  have HN := hId hnew
  have hni : (sn : Int) = (n : Int) + 1 := by omega
  have hsz : sn = n + 1 := hsn
  clear hrd hrd1 hob hob1 hnew hxb hsn hc0 hobl
  subst hsz
  have hgl1 : sg < w1.heap.size := Nat.lt_of_lt_of_le hsgl (by have := HN.out.size; omega)
  go_wp2_with fail
  go_quiet (fail)
  cases m
  · simp only [Bool.false_eq_true, if_false] at e0
    go_upto_region 5 with (fail)
    obtain ⟨vs, hov', hkv⟩ := HH.out.fr.1.its
    have hov : Own w B 30 6 VA.enc fla fln flc vs := hov'
    clear hov'
    have HOV := hId (hov.new HN.out)
    have HKV := hId hkv
    have HOV0 := hId hov
    have hfn : fln ≤ 300000 := by have h1 := hov.1; have h2 := hkv.1; simp only at h1 h2 hli; omega
    have HFL : Hid (∀ k, blkOf fla = some k → k < q0) := hId (fun k e => by have := (hov.far' k e).2.1; omega)
    have HOBF : Hid (B ≤ ob) := hId HH.out.fr.1.hB
    have HOQ : Hid (ob ≠ q0) := hId (fun e => by have := HH.out.fr.1.blk.lt; simp only at this; omega)
    have HOBB : Hid (ob ≠ b) := hId (HOB1.out.ne HRD1.out (by decide))
    clear hov hkv
    have HXB0 : Hid (∀ k, blkOf fla = some k → k ≠ ob ∧ k ≠ q0 ∧ k ≠ b) := hId (fun k e => by
      have ht := (HOV.out.far' k e).2.2
      have hl := HFL.out k e
      exact ⟨ht.ne HOB1.out.tb (by decide), by omega, ht.ne HRD1.out.tb (by decide)⟩)
    have HSC : Hid (∀ W, Mod (fun k => k ≠ q0) w1 W → W.cell? ⟨q0, 0, none⟩ = some (.int .i64 xk) ∧ W.cell? ⟨q0, 1, none⟩ = some (.bool xf) ∧ W.cell? ⟨q0, 2, none⟩ = some (.int .i64 xn) ∧ W.cell? ⟨q0, 3, none⟩ = some (.string xw) ∧ W.cell? ⟨q0, 4, none⟩ = some (.slice xla xln xlc) ∧ W.cell? ⟨q0, 5, none⟩ = some (.slice xma xmn xmc) ∧ ob < W.heap.size ∧ q0 < W.heap.size) := hId (fun W hW => by
      have h2 := HXB.out.mod hW (fun e => e rfl)
      exact ⟨(h2.cell 0).trans rfl, (h2.cell 1).trans rfl, (h2.cell 2).trans rfl, (h2.cell 3).trans rfl, (h2.cell 4).trans rfl, (h2.cell 5).trans rfl, Nat.lt_of_lt_of_le ol hW.size, h2.lt⟩)
    have HE4 : Hid (∀ W, New w1 W → W.cell? ⟨ob, 4, none⟩ = some (.slice fla fln flc)) := hId (fun W hW => ((HOB1.out.mod hW (fun e => e)).cell 4).trans rfl)
    have g0 : (0 : Int) ≤ (fln : Int) := by omega
    have g1 : (fln : Int) < (fln : Int) + 1 := by omega
    have ow := HE4.out _ (show New w1 (w1.drewN nq).drew from (by with_reducible (repeat (first | exact Mod.refl _ _ | refine Mod.drewN ?_ _ | refine Mod.drew ?_ | refine Mod.alloc ?_ _))))
    have nw2 : New w1 ((w1.drewN (nq + 1)).alloc (.cells #[.int .i64 0, .bool false, .int .i64 0, .string ⟨#[]⟩, .slice none 0 0, .slice none 0 0] 30)) := ((Mod.refl _ _).drewN _).alloc _
    have HN2 := hId nw2
    have HZB : Hid (Blk ((w1.drewN (nq + 1)).alloc (.cells #[.int .i64 0, .bool false, .int .i64 0, .string ⟨#[]⟩, .slice none 0 0, .slice none 0 0] 30)) w1.heap.size 30 (encL 6 VA.enc VA.zero).toArray) := hId (Blk.new (w1.drewN (nq + 1)) _ _)
    have HZ : Hid (B ≤ ((w1.drewN (nq + 1)).alloc (.cells #[.int .i64 0, .bool false, .int .i64 0, .string ⟨#[]⟩, .slice none 0 0, .slice none 0 0] 30)).heap.size) := hId (by have h1 := nw2.size; have h2 := HN.out.size; omega)
    clear nw2 ow e5 c2 hc1 d0 d1 d2 d3 d4 d5
    refine wp_region_held_drew (S := Mod (fun k => k ≠ q0) w1) (by kernel_rfl) (by with_reducible (repeat (first | exact Mod.refl _ _ | refine Mod.drewN ?_ _ | refine Mod.drew ?_ | refine Mod.alloc ?_ _))) (fun hHeld => ?_)
    simp only [List.size_toArray, List.length_cons, List.length_nil, Nat.reduceAdd]
    refine wpAnyH_take (i := 0) (v := ?_) rfl (by kernel_rfl) (by kernel_rfl) (by kernel_rfl) (fun _ _ _ h => h) (Or.inl ⟨by rfl, fun W hSw => ?_⟩) (by assumption) ?_
    rotate_left
    · (have hq := HSC.out W hSw); (try simp only [lgt, lgz, lgs]); go_simp; any_goals (with_reducible rfl)
    simp only [Act.put, lgt, lgz, lgs, lst, lsz, lss]
    refine wpAnyH_take (i := 1) (v := ?_) rfl (by kernel_rfl) (by kernel_rfl) (by kernel_rfl) (fun _ _ _ h => h) (Or.inl ⟨by rfl, fun W hSw => ?_⟩) (by assumption) ?_
    rotate_left
    · (have hq := HSC.out W hSw); (try simp only [lgt, lgz, lgs]); go_simp; any_goals (with_reducible rfl)
    simp only [Act.put, lgt, lgz, lgs, lst, lsz, lss]
    refine wpAnyH_take (i := 2) (v := ?_) rfl (by kernel_rfl) (by kernel_rfl) (by kernel_rfl) (fun _ _ _ h => h) (Or.inl ⟨by rfl, fun W hSw => ?_⟩) (by assumption) ?_
    rotate_left
    · (have hq := HSC.out W hSw); (try simp only [lgt, lgz, lgs]); go_simp; any_goals (with_reducible rfl)
    simp only [Act.put, lgt, lgz, lgs, lst, lsz, lss]
    refine wpAnyH_take (i := 3) (v := ?_) rfl (by kernel_rfl) (by kernel_rfl) (by kernel_rfl) (fun _ _ _ h => h) (Or.inl ⟨by rfl, fun W hSw => ?_⟩) (by assumption) ?_
    rotate_left
    · (have hq := HSC.out W hSw); (try simp only [lgt, lgz, lgs]); go_simp; any_goals (with_reducible rfl)
    simp only [Act.put, lgt, lgz, lgs, lst, lsz, lss]
    refine wpAnyH_take (i := 5) (v := ?_) rfl (by kernel_rfl) (by kernel_rfl) (by kernel_rfl) (fun _ _ _ h => h) (Or.inl ⟨by rfl, fun W hSw => ?_⟩) (by assumption) ?_
    rotate_left
    · (have hq := HSC.out W hSw); (try simp only [lgt, lgz, lgs]); go_simp; any_goals (with_reducible rfl)
    simp only [Act.put, lgt, lgz, lgs, lst, lsz, lss]
    refine wpAnyH_ready (rs := [4, 7]) (by kernel_rfl) (by simp) ?_
    refine AllReadyH.cons rfl (fun K hK => ?_) (AllReadyH.cons rfl (fun K hK => ?_) AllReadyH.nil)
    · (try simp only [lgt, lgz, lgs])
      go_simp
      refine hK.out _ _ (by with_reducible (repeat (first | exact Mod.refl _ _ | refine Mod.drewN ?_ _ | refine Mod.drew ?_ | refine Mod.alloc ?_ _))) (fun hHeld => ?_)
      clear hK K
      (try simp only [Act.put, lgt, lgz, lgs, lst, lsz, lss])
      refine wpAnyH_take (i := 6) (v := ?_) rfl (by kernel_rfl) (by kernel_rfl) (by kernel_rfl) (fun _ _ _ h => h) (Or.inl ⟨by rfl, fun W hSw => ?_⟩) (by assumption) ?_
      rotate_left
      · (have hq := HSC.out W hSw); (try simp only [lgt, lgz, lgs]); go_simp; any_goals (with_reducible rfl)
      simp only [Act.put, lgt, lgz, lgs, lst, lsz, lss]
      refine wpAnyH_ready (rs := [7]) (by kernel_rfl) (by simp) ?_
      refine AllReadyH.cons rfl (fun K hK => ?_) AllReadyH.nil
      (try simp only [lgt, lgz, lgs])
      go_simp
      refine hK.out _ _ (by with_reducible (repeat (first | exact Mod.refl _ _ | refine Mod.drewN ?_ _ | refine Mod.drew ?_ | refine Mod.alloc ?_ _))) (fun hHeld => ?_)
      clear hK K e4
      (try simp only [Act.put, lgt, lgz, lgs, lst, lsz, lss])
      generalize ((w1.drewN (nq + 1)).alloc (.cells #[.int .i64 0, .bool false, .int .i64 0, .string ⟨#[]⟩, .slice none 0 0, .slice none 0 0] 30)) = w2 at *
      generalize w1.heap.size = zb at *
      have own2 := HOV.out.new HN2.out
      refine wpAnyH_ready (rs := [8]) (by kernel_rfl) (by simp) ?_
      refine AllReadyH.cons rfl (fun K hK => ?_) AllReadyH.nil
      rw [if_pos (by rfl)]
      refine wp_push (.tmp 40) (.tmp 43) _ rfl 88 Tryz.underlying27 einfo_val rfl (by exact own2) VA.zero zb rfl (by exact HZB.out) (fun j hj => VA.one _ j hj) (by omega) (by omega) HZ.out ?_
      intro g9 cap9 wc own9 hm9 hat9 hlt9
      refine hK.out _ _ ((hHeld.trans (hm9.mono (fun k _ e => (HXB0.out k e).2.1)))) (fun hHeld => ?_)
      clear hK K
      (try simp only [Act.put, lgt, lgz, lgs, lst, lsz, lss])
      have HFLN : Hid (fln < (vs ++ [VA.zero]).length) := hId (by have := own2.1; simp; omega)
      have HHS : Hid (Mod (fun k => k ≠ q0) w1 wc) := hId hHeld
      have HCELL : Hid (∀ j, j < 6 → wc.cell? ⟨g9, fln * 6 + j, none⟩ = some (VA.zero.enc j)) := hId (fun j hj => by
        obtain ⟨g', o', hA, htb, hc⟩ := own9.sl.2 (by omega)
        injection hA with hA
        injection hA with hA1 hA2
        subst hA1 hA2
        have hvl : vs.length = fln := own2.1
        have := hc fln (by simp; omega) j hj
        simpa [← hvl] using this)
      have HROW := hId own9
      have HLT := hId hlt9
      have HG9 : Hid (g9 ≠ q0 ∧ g9 ≠ ob ∧ g9 ≠ b ∧ (blkOf fla = some g9 ∨ w.heap.size ≤ g9)) := hId (by
        have h1 := HN2.out.size
        have h2 := HN.out.size
        rcases hat9 with h | h
        · have h3 := HXB0.out g9 h
          exact ⟨h3.2.1, h3.1, h3.2.2, .inl h⟩
        · refine ⟨by have := HXB.out.lt; omega, by have := HOB1.out.lt; omega, by have := HRD1.out.lt; omega, .inr (by omega)⟩)
      have HOBC := hId ((HOB1.out.mod HN2.out (fun e => e)).mod hm9 (fun e => (HXB0.out _ e).1 rfl))
      have HRBC := hId ((HRD1.out.mod HN2.out (fun e => e)).mod hm9 (fun e => (HXB0.out _ e).2.2 rfl))
      have HMMC : Hid (Mod (fun k => k = ob ∨ blkOf fla = some k ∨ k = b) w wc) := hId (((HN.out.trans HN2.out).mono (fun _ _ e => e.elim)).step hm9 (fun k _ e => .inr (.inl e)))
      have HSETL : Hid ((vs ++ [VA.zero]).set fln (⟨xk, xf, xn, xw, xla, xln, xlc, xma, xmn, xmc⟩ : VA) = vs ++ [⟨xk, xf, xn, xw, xla, xln, xlc, xma, xmn, xmc⟩]) := hId (by have hvl : vs.length = fln := own2.1; simp [← hvl])
      clear own2 own9 hm9 hat9 hlt9 HZB HZ HN2
      generalize vs ++ [VA.zero] = vz at *
      refine wpAnyH_take (i := 9) (v := ?_) rfl (by kernel_rfl) (by kernel_rfl) (by kernel_rfl) (fun _ _ _ h => h) (Or.inl ⟨by rfl, fun W hSw => ?_⟩) (by assumption) ?_
      rotate_left
      · (have hq := HSC.out W hSw); (try simp only [lgt, lgz, lgs]); go_simp; any_goals (with_reducible rfl)
      simp only [Act.put, lgt, lgz, lgs, lst, lsz, lss]
      refine wpAnyH_take (i := 11) (v := ?_) rfl (by kernel_rfl) (by kernel_rfl) (by kernel_rfl) (fun _ _ _ h => h) (Or.inl ⟨by rfl, fun W hSw => ?_⟩) (by assumption) ?_
      rotate_left
      · (have hq := HSC.out W hSw); (try simp only [lgt, lgz, lgs]); go_simp; any_goals (with_reducible rfl)
      simp only [Act.put, lgt, lgz, lgs, lst, lsz, lss]
      refine wpAnyH_take (i := 12) (v := ?_) rfl (by kernel_rfl) (by kernel_rfl) (by kernel_rfl) (fun _ _ _ h => h) (Or.inl ⟨by rfl, fun W hSw => ?_⟩) (by assumption) ?_
      rotate_left
      · (have hq := HSC.out W hSw); (try simp only [lgt, lgz, lgs]); go_simp; any_goals (with_reducible rfl)
      simp only [Act.put, lgt, lgz, lgs, lst, lsz, lss]
      refine wpAnyH_take (i := 13) (v := ?_) rfl (by kernel_rfl) (by kernel_rfl) (by kernel_rfl) (fun _ _ _ h => h) (Or.inl ⟨by rfl, fun W hSw => ?_⟩) (by assumption) ?_
      rotate_left
      · (have hq := HSC.out W hSw); (try simp only [lgt, lgz, lgs]); go_simp; any_goals (with_reducible rfl)
      simp only [Act.put, lgt, lgz, lgs, lst, lsz, lss]
      refine wpAnyH_ready (rs := [10, 14]) (by kernel_rfl) (by simp) ?_
      refine AllReadyH.cons rfl (fun K hK => ?_) (AllReadyH.cons rfl (fun K hK => ?_) AllReadyH.nil)
      · -- the element is stored into the row
        have c0 := HCELL.out 0 (by decide)
        have c1 := HCELL.out 1 (by decide)
        have c2 := HCELL.out 2 (by decide)
        have c3 := HCELL.out 3 (by decide)
        have c4 := HCELL.out 4 (by decide)
        have c5 := HCELL.out 5 (by decide)
        have f0 := HROW.out.frozen (fln * 6)
        have f1 := HROW.out.frozen (fln * 6 + 1)
        have f2 := HROW.out.frozen (fln * 6 + 2)
        have f3 := HROW.out.frozen (fln * 6 + 3)
        have f4 := HROW.out.frozen (fln * 6 + 4)
        have f5 := HROW.out.frozen (fln * 6 + 5)
        have gl := HLT.out
        simp only [VA.enc, VA.zero, Nat.add_zero] at c0 c1 c2 c3 c4 c5
        (try simp only [lgt, lgz, lgs])
        go_simp
        clear c0 c1 c2 c3 c4 c5 f0 f1 f2 f3 f4 f5 gl
        have hset := HROW.out.set6 (i := fln) HFLN.out (⟨xk, xf, xn, xw, xla, xln, xlc, xma, xmn, xmc⟩ : VA)
        simp only [VA.enc] at hset
        have hms : Only g9 wc ((((((wc.setCell ⟨g9, fln * 6, none⟩ (.int .i64 xk)).setCell ⟨g9, fln * 6 + 1, none⟩ (.bool xf)).setCell ⟨g9, fln * 6 + 2, none⟩ (.int .i64 xn)).setCell ⟨g9, fln * 6 + 3, none⟩ (.string xw)).setCell ⟨g9, fln * 6 + 4, none⟩ (.slice xla xln xlc)).setCell ⟨g9, fln * 6 + 5, none⟩ (.slice xma xmn xmc)) := by
          with_reducible repeat (first | exact Mod.refl _ _ | refine Only.set ?_ _ _)
        have HSET := hId hset
        have HMS := hId hms
        clear hset hms
        generalize ((((((wc.setCell ⟨g9, fln * 6, none⟩ (.int .i64 xk)).setCell ⟨g9, fln * 6 + 1, none⟩ (.bool xf)).setCell ⟨g9, fln * 6 + 2, none⟩ (.int .i64 xn)).setCell ⟨g9, fln * 6 + 3, none⟩ (.string xw)).setCell ⟨g9, fln * 6 + 4, none⟩ (.slice xla xln xlc)).setCell ⟨g9, fln * 6 + 5, none⟩ (.slice xma xmn xmc)) = wd at *
        refine hK.out _ _ (HHS.out.step HMS.out (fun k _ e => by subst e; exact HG9.out.1)) (fun hHeld => ?_)
        clear hK K
        (try simp only [Act.put, lgt, lgz, lgs, lst, lsz, lss])
        have HROW1 := HSET
        have HHS1 : Hid (Mod (fun k => k ≠ q0) w1 wd) := hId hHeld
        have HOB2 := hId (HOBC.out.mod HMS.out (fun e => HG9.out.2.1 e.symm))
        have HRB2 := hId (HRBC.out.mod HMS.out (fun e => HG9.out.2.2.1 e.symm))
        have HMM2 : Hid (Mod (fun k => k = ob ∨ blkOf fla = some k ∨ k = b) w wd) := hId (HMMC.out.step HMS.out (fun k hk e => by
          subst e
          rcases HG9.out.2.2.2 with h | h
          · exact .inr (.inl h)
          · omega))
        have HLT2 : Hid (g9 < wd.heap.size) := hId (Nat.lt_of_lt_of_le HLT.out HMS.out.size)
        clear HROW HHS HOBC HRBC HMMC HLT HSET HMS HCELL
        have HROW := HROW1
        have HHS := HHS1
        have HOBC := HOB2
        have HRBC := HRB2
        have HMMC := HMM2
        have HLT := HLT2
        clear HROW1 HHS1 HOB2 HRB2 HMM2 HLT2
        refine wpAnyH_ready (rs := [14]) (by kernel_rfl) (by simp) ?_
        refine AllReadyH.cons rfl (fun K hK => ?_) AllReadyH.nil
        -- the header is stored into the box
        have o4c := HOBC.out.cell 4
        have o4f := HOBC.out.frozen 4
        have o4l := HOBC.out.lt
        simp only [OF.cells, lqt, lqz, lqs, lst, lsz, lss] at o4c
        (try simp only [lgt, lgz, lgs])
        go_simp
        clear o4c o4f o4l
        refine hK.out _ _ (HHS.out.step ((Mod.refl (fun k => k = ob) wd).setCell (p := ⟨ob, 4, none⟩) (.inl rfl) _) (fun k _ e => by subst e; exact HOQ.out)) (fun hHeld => ?_)
        clear hK K
        (try simp only [Act.put, lgt, lgz, lgs, lst, lsz, lss])
        have HMS : Hid (Only ob wd (wd.setCell ⟨ob, 4, none⟩ (.slice (some ⟨g9, 0, none⟩) (fln + 1) cap9))) := hId ((Mod.refl (fun k => k = ob) wd).setCell (p := ⟨ob, 4, none⟩) (.inl rfl) _)
        have HOB2 := hId (HOBC.out.set 4 (.slice (some ⟨g9, 0, none⟩) (fln + 1) cap9))
        have HROW1 := hId (HROW.out.mod HMS.out (fun k e e2 => by injection e with e; subst e; exact HG9.out.2.1 e2))
        have HRB2 := hId (HRBC.out.mod HMS.out (fun e => HOBB.out e.symm))
        have HMM2 : Hid (Mod (fun k => k = ob ∨ blkOf fla = some k ∨ k = b) w (wd.setCell ⟨ob, 4, none⟩ (.slice (some ⟨g9, 0, none⟩) (fln + 1) cap9))) := hId (HMMC.out.step HMS.out (fun k hk e => .inl e))
        have HLT2 : Hid (g9 < (wd.setCell ⟨ob, 4, none⟩ (.slice (some ⟨g9, 0, none⟩) (fln + 1) cap9)).heap.size) := hId (Nat.lt_of_lt_of_le HLT.out HMS.out.size)
        have HHS1 := hId hHeld
        have HROW := HROW1
        have HHS := HHS1
        have HOBC := HOB2
        have HRBC := HRB2
        have HMMC := HMM2
        have HLT := HLT2
        clear HROW1 HHS1 HOB2 HRB2 HMM2 HLT2
        generalize wd.setCell ⟨ob, 4, none⟩ (.slice (some ⟨g9, 0, none⟩) (fln + 1) cap9) = wf at *
        refine wpAnyH_done (by kernel_rfl) ?_ _
        clear HHS hHeld
        have k3 := HRBC.out.frozen 3
        have k4 := HRBC.out.cell 3
        have kl := HRBC.out.lt
        simp only [RV.cells, lqt, lqz, lqs] at k4
        go_wp2_with fail
        go_end0
        have hrf := HRBC.out.set 3 (.bool false)
        have hmf : Only b wf (wf.setCell ⟨b, 3, none⟩ (.bool false)) := (Mod.refl (fun k => k = b) wf).setCell (p := ⟨b, 3, none⟩) (.inl rfl) _
        have hof := HOBC.out.mod hmf (fun e => HOBB.out e)
        have hwf := HROW.out.mod hmf (fun k e e2 => by injection e with e; subst e; exact HG9.out.2.2.1 e2)
        have hmm := HMMC.out.step hmf (fun k hk e => .inr (.inr e))
        rw [HSETL.out] at hwf
        exact ⟨rfl, hmm.mono (fun k hk e => by
          rcases e with e | e | e
          · subst e; exact HOBF.out
          · exact (HOV0.out.far' k e).1
          · subst e; exact hHB), .inr ⟨⟨false, name, items, mems⟩, q, { (⟨i, some ⟨sg, 0, none⟩, n + 1, sc, begins, done, ⟨ok, of, on, ow, ola, oln, olc, oma, omn, omc⟩, bad, pl⟩ : RV) with begins := false }, { (⟨ob, fla, fln, flc, fma, fmn, fmc, fname, fmp⟩ : OF) with la := some ⟨g9, 0, none⟩, ln := fln + 1, lc := cap9 } :: oq, rfl, rfl, rfl, rfl, rfl, rfl,
          HH.out.putL rfl HX.out HOV0.out HKV.out hmm HG9.out.2.2.2 hwf hof hrf rfl ⟨rfl, rfl, rfl⟩⟩⟩
      · -- the header is stored into the box
        have o4c := HOBC.out.cell 4
        have o4f := HOBC.out.frozen 4
        have o4l := HOBC.out.lt
        simp only [OF.cells, lqt, lqz, lqs, lst, lsz, lss] at o4c
        (try simp only [lgt, lgz, lgs])
        go_simp
        clear o4c o4f o4l
        refine hK.out _ _ (HHS.out.step ((Mod.refl (fun k => k = ob) wc).setCell (p := ⟨ob, 4, none⟩) (.inl rfl) _) (fun k _ e => by subst e; exact HOQ.out)) (fun hHeld => ?_)
        clear hK K
        (try simp only [Act.put, lgt, lgz, lgs, lst, lsz, lss])
        have HMS : Hid (Only ob wc (wc.setCell ⟨ob, 4, none⟩ (.slice (some ⟨g9, 0, none⟩) (fln + 1) cap9))) := hId ((Mod.refl (fun k => k = ob) wc).setCell (p := ⟨ob, 4, none⟩) (.inl rfl) _)
        have HOB2 := hId (HOBC.out.set 4 (.slice (some ⟨g9, 0, none⟩) (fln + 1) cap9))
        have HROW1 := hId (HROW.out.mod HMS.out (fun k e e2 => by injection e with e; subst e; exact HG9.out.2.1 e2))
        have HRB2 := hId (HRBC.out.mod HMS.out (fun e => HOBB.out e.symm))
        have HMM2 : Hid (Mod (fun k => k = ob ∨ blkOf fla = some k ∨ k = b) w (wc.setCell ⟨ob, 4, none⟩ (.slice (some ⟨g9, 0, none⟩) (fln + 1) cap9))) := hId (HMMC.out.step HMS.out (fun k hk e => .inl e))
        have HLT2 : Hid (g9 < (wc.setCell ⟨ob, 4, none⟩ (.slice (some ⟨g9, 0, none⟩) (fln + 1) cap9)).heap.size) := hId (Nat.lt_of_lt_of_le HLT.out HMS.out.size)
        have HHS1 := hId hHeld
        have HCELL := hId (fun j hj => (HMS.out.cell (p := ⟨g9, fln * 6 + j, none⟩) HLT.out (fun e => HG9.out.2.1 e)).trans (HCELL.out j hj))
        have HROW := HROW1
        have HHS := HHS1
        have HOBC := HOB2
        have HRBC := HRB2
        have HMMC := HMM2
        have HLT := HLT2
        clear HROW1 HHS1 HOB2 HRB2 HMM2 HLT2
        generalize wc.setCell ⟨ob, 4, none⟩ (.slice (some ⟨g9, 0, none⟩) (fln + 1) cap9) = we at *
        clear hHeld
        have hHeld := HHS.out
        refine wpAnyH_ready (rs := [10]) (by kernel_rfl) (by simp) ?_
        refine AllReadyH.cons rfl (fun K hK => ?_) AllReadyH.nil
        -- the element is stored into the row
        have c0 := HCELL.out 0 (by decide)
        have c1 := HCELL.out 1 (by decide)
        have c2 := HCELL.out 2 (by decide)
        have c3 := HCELL.out 3 (by decide)
        have c4 := HCELL.out 4 (by decide)
        have c5 := HCELL.out 5 (by decide)
        have f0 := HROW.out.frozen (fln * 6)
        have f1 := HROW.out.frozen (fln * 6 + 1)
        have f2 := HROW.out.frozen (fln * 6 + 2)
        have f3 := HROW.out.frozen (fln * 6 + 3)
        have f4 := HROW.out.frozen (fln * 6 + 4)
        have f5 := HROW.out.frozen (fln * 6 + 5)
        have gl := HLT.out
        simp only [VA.enc, VA.zero, Nat.add_zero] at c0 c1 c2 c3 c4 c5
        (try simp only [lgt, lgz, lgs])
        go_simp
        clear c0 c1 c2 c3 c4 c5 f0 f1 f2 f3 f4 f5 gl
        have hset := HROW.out.set6 (i := fln) HFLN.out (⟨xk, xf, xn, xw, xla, xln, xlc, xma, xmn, xmc⟩ : VA)
        simp only [VA.enc] at hset
        have hms : Only g9 we ((((((we.setCell ⟨g9, fln * 6, none⟩ (.int .i64 xk)).setCell ⟨g9, fln * 6 + 1, none⟩ (.bool xf)).setCell ⟨g9, fln * 6 + 2, none⟩ (.int .i64 xn)).setCell ⟨g9, fln * 6 + 3, none⟩ (.string xw)).setCell ⟨g9, fln * 6 + 4, none⟩ (.slice xla xln xlc)).setCell ⟨g9, fln * 6 + 5, none⟩ (.slice xma xmn xmc)) := by
          with_reducible repeat (first | exact Mod.refl _ _ | refine Only.set ?_ _ _)
        have HSET := hId hset
        have HMS := hId hms
        clear hset hms
        generalize ((((((we.setCell ⟨g9, fln * 6, none⟩ (.int .i64 xk)).setCell ⟨g9, fln * 6 + 1, none⟩ (.bool xf)).setCell ⟨g9, fln * 6 + 2, none⟩ (.int .i64 xn)).setCell ⟨g9, fln * 6 + 3, none⟩ (.string xw)).setCell ⟨g9, fln * 6 + 4, none⟩ (.slice xla xln xlc)).setCell ⟨g9, fln * 6 + 5, none⟩ (.slice xma xmn xmc)) = wd at *
        refine hK.out _ _ (HHS.out.step HMS.out (fun k _ e => by subst e; exact HG9.out.1)) (fun hHeld => ?_)
        clear hK K
        (try simp only [Act.put, lgt, lgz, lgs, lst, lsz, lss])
        have HROW1 := HSET
        have HHS1 : Hid (Mod (fun k => k ≠ q0) w1 wd) := hId hHeld
        have HOB2 := hId (HOBC.out.mod HMS.out (fun e => HG9.out.2.1 e.symm))
        have HRB2 := hId (HRBC.out.mod HMS.out (fun e => HG9.out.2.2.1 e.symm))
        have HMM2 : Hid (Mod (fun k => k = ob ∨ blkOf fla = some k ∨ k = b) w wd) := hId (HMMC.out.step HMS.out (fun k hk e => by
          subst e
          rcases HG9.out.2.2.2 with h | h
          · exact .inr (.inl h)
          · omega))
        have HLT2 : Hid (g9 < wd.heap.size) := hId (Nat.lt_of_lt_of_le HLT.out HMS.out.size)
        clear HROW HHS HOBC HRBC HMMC HLT HSET HMS HCELL
        have HROW := HROW1
        have HHS := HHS1
        have HOBC := HOB2
        have HRBC := HRB2
        have HMMC := HMM2
        have HLT := HLT2
        clear HROW1 HHS1 HOB2 HRB2 HMM2 HLT2
        refine wpAnyH_done (by kernel_rfl) ?_ _
        clear HHS hHeld
        have k3 := HRBC.out.frozen 3
        have k4 := HRBC.out.cell 3
        have kl := HRBC.out.lt
        simp only [RV.cells, lqt, lqz, lqs] at k4
        go_wp2_with fail
        go_end0
        have hrf := HRBC.out.set 3 (.bool false)
        have hmf : Only b wd (wd.setCell ⟨b, 3, none⟩ (.bool false)) := (Mod.refl (fun k => k = b) wd).setCell (p := ⟨b, 3, none⟩) (.inl rfl) _
        have hof := HOBC.out.mod hmf (fun e => HOBB.out e)
        have hwf := HROW.out.mod hmf (fun k e e2 => by injection e with e; subst e; exact HG9.out.2.2.1 e2)
        have hmm := HMMC.out.step hmf (fun k hk e => .inr (.inr e))
        rw [HSETL.out] at hwf
        exact ⟨rfl, hmm.mono (fun k hk e => by
          rcases e with e | e | e
          · subst e; exact HOBF.out
          · exact (HOV0.out.far' k e).1
          · subst e; exact hHB), .inr ⟨⟨false, name, items, mems⟩, q, { (⟨i, some ⟨sg, 0, none⟩, n + 1, sc, begins, done, ⟨ok, of, on, ow, ola, oln, olc, oma, omn, omc⟩, bad, pl⟩ : RV) with begins := false }, { (⟨ob, fla, fln, flc, fma, fmn, fmc, fname, fmp⟩ : OF) with la := some ⟨g9, 0, none⟩, ln := fln + 1, lc := cap9 } :: oq, rfl, rfl, rfl, rfl, rfl, rfl,
          HH.out.putL rfl HX.out HOV0.out HKV.out hmm HG9.out.2.2.2 hwf hof hrf rfl ⟨rfl, rfl, rfl⟩⟩⟩
    · (try simp only [lgt, lgz, lgs])
      go_simp
      refine hK.out _ _ (by with_reducible (repeat (first | exact Mod.refl _ _ | refine Mod.drewN ?_ _ | refine Mod.drew ?_ | refine Mod.alloc ?_ _))) (fun hHeld => ?_)
      clear hK K
      (try simp only [Act.put, lgt, lgz, lgs, lst, lsz, lss])
      have e4 := HE4.out _ HN2.out
      generalize ((w1.drewN (nq + 1)).alloc (.cells #[.int .i64 0, .bool false, .int .i64 0, .string ⟨#[]⟩, .slice none 0 0, .slice none 0 0] 30)) = w2 at *
      generalize w1.heap.size = zb at *
      refine wpAnyH_ready (rs := [4]) (by kernel_rfl) (by simp) ?_
      refine AllReadyH.cons rfl (fun K hK => ?_) AllReadyH.nil
      (try simp only [lgt, lgz, lgs])
      go_simp
      refine hK.out _ _ hHeld (fun hHeld => ?_)
      clear hK K e4
      (try simp only [Act.put, lgt, lgz, lgs, lst, lsz, lss])
      refine wpAnyH_take (i := 6) (v := ?_) rfl (by kernel_rfl) (by kernel_rfl) (by kernel_rfl) (fun _ _ _ h => h) (Or.inl ⟨by rfl, fun W hSw => ?_⟩) (by assumption) ?_
      rotate_left
      · (have hq := HSC.out W hSw); (try simp only [lgt, lgz, lgs]); go_simp; any_goals (with_reducible rfl)
      simp only [Act.put, lgt, lgz, lgs, lst, lsz, lss]
      have own2 := HOV.out.new HN2.out
      refine wpAnyH_ready (rs := [8]) (by kernel_rfl) (by simp) ?_
      refine AllReadyH.cons rfl (fun K hK => ?_) AllReadyH.nil
      rw [if_pos (by rfl)]
      refine wp_push (.tmp 40) (.tmp 43) _ rfl 88 Tryz.underlying27 einfo_val rfl (by exact own2) VA.zero zb rfl (by exact HZB.out) (fun j hj => VA.one _ j hj) (by omega) (by omega) HZ.out ?_
      intro g9 cap9 wc own9 hm9 hat9 hlt9
      refine hK.out _ _ ((hHeld.trans (hm9.mono (fun k _ e => (HXB0.out k e).2.1)))) (fun hHeld => ?_)
      clear hK K
      (try simp only [Act.put, lgt, lgz, lgs, lst, lsz, lss])
      have HFLN : Hid (fln < (vs ++ [VA.zero]).length) := hId (by have := own2.1; simp; omega)
      have HHS : Hid (Mod (fun k => k ≠ q0) w1 wc) := hId hHeld
      have HCELL : Hid (∀ j, j < 6 → wc.cell? ⟨g9, fln * 6 + j, none⟩ = some (VA.zero.enc j)) := hId (fun j hj => by
        obtain ⟨g', o', hA, htb, hc⟩ := own9.sl.2 (by omega)
        injection hA with hA
        injection hA with hA1 hA2
        subst hA1 hA2
        have hvl : vs.length = fln := own2.1
        have := hc fln (by simp; omega) j hj
        simpa [← hvl] using this)
      have HROW := hId own9
      have HLT := hId hlt9
      have HG9 : Hid (g9 ≠ q0 ∧ g9 ≠ ob ∧ g9 ≠ b ∧ (blkOf fla = some g9 ∨ w.heap.size ≤ g9)) := hId (by
        have h1 := HN2.out.size
        have h2 := HN.out.size
        rcases hat9 with h | h
        · have h3 := HXB0.out g9 h
          exact ⟨h3.2.1, h3.1, h3.2.2, .inl h⟩
        · refine ⟨by have := HXB.out.lt; omega, by have := HOB1.out.lt; omega, by have := HRD1.out.lt; omega, .inr (by omega)⟩)
      have HOBC := hId ((HOB1.out.mod HN2.out (fun e => e)).mod hm9 (fun e => (HXB0.out _ e).1 rfl))
      have HRBC := hId ((HRD1.out.mod HN2.out (fun e => e)).mod hm9 (fun e => (HXB0.out _ e).2.2 rfl))
      have HMMC : Hid (Mod (fun k => k = ob ∨ blkOf fla = some k ∨ k = b) w wc) := hId (((HN.out.trans HN2.out).mono (fun _ _ e => e.elim)).step hm9 (fun k _ e => .inr (.inl e)))
      have HSETL : Hid ((vs ++ [VA.zero]).set fln (⟨xk, xf, xn, xw, xla, xln, xlc, xma, xmn, xmc⟩ : VA) = vs ++ [⟨xk, xf, xn, xw, xla, xln, xlc, xma, xmn, xmc⟩]) := hId (by have hvl : vs.length = fln := own2.1; simp [← hvl])
      clear own2 own9 hm9 hat9 hlt9 HZB HZ HN2
      generalize vs ++ [VA.zero] = vz at *
      refine wpAnyH_take (i := 9) (v := ?_) rfl (by kernel_rfl) (by kernel_rfl) (by kernel_rfl) (fun _ _ _ h => h) (Or.inl ⟨by rfl, fun W hSw => ?_⟩) (by assumption) ?_
      rotate_left
      · (have hq := HSC.out W hSw); (try simp only [lgt, lgz, lgs]); go_simp; any_goals (with_reducible rfl)
      simp only [Act.put, lgt, lgz, lgs, lst, lsz, lss]
      refine wpAnyH_take (i := 11) (v := ?_) rfl (by kernel_rfl) (by kernel_rfl) (by kernel_rfl) (fun _ _ _ h => h) (Or.inl ⟨by rfl, fun W hSw => ?_⟩) (by assumption) ?_
      rotate_left
      · (have hq := HSC.out W hSw); (try simp only [lgt, lgz, lgs]); go_simp; any_goals (with_reducible rfl)
      simp only [Act.put, lgt, lgz, lgs, lst, lsz, lss]
      refine wpAnyH_take (i := 12) (v := ?_) rfl (by kernel_rfl) (by kernel_rfl) (by kernel_rfl) (fun _ _ _ h => h) (Or.inl ⟨by rfl, fun W hSw => ?_⟩) (by assumption) ?_
      rotate_left
      · (have hq := HSC.out W hSw); (try simp only [lgt, lgz, lgs]); go_simp; any_goals (with_reducible rfl)
      simp only [Act.put, lgt, lgz, lgs, lst, lsz, lss]
      refine wpAnyH_take (i := 13) (v := ?_) rfl (by kernel_rfl) (by kernel_rfl) (by kernel_rfl) (fun _ _ _ h => h) (Or.inl ⟨by rfl, fun W hSw => ?_⟩) (by assumption) ?_
      rotate_left
      · (have hq := HSC.out W hSw); (try simp only [lgt, lgz, lgs]); go_simp; any_goals (with_reducible rfl)
      simp only [Act.put, lgt, lgz, lgs, lst, lsz, lss]
      refine wpAnyH_ready (rs := [10, 14]) (by kernel_rfl) (by simp) ?_
      refine AllReadyH.cons rfl (fun K hK => ?_) (AllReadyH.cons rfl (fun K hK => ?_) AllReadyH.nil)
      · -- the element is stored into the row
        have c0 := HCELL.out 0 (by decide)
        have c1 := HCELL.out 1 (by decide)
        have c2 := HCELL.out 2 (by decide)
        have c3 := HCELL.out 3 (by decide)
        have c4 := HCELL.out 4 (by decide)
        have c5 := HCELL.out 5 (by decide)
        have f0 := HROW.out.frozen (fln * 6)
        have f1 := HROW.out.frozen (fln * 6 + 1)
        have f2 := HROW.out.frozen (fln * 6 + 2)
        have f3 := HROW.out.frozen (fln * 6 + 3)
        have f4 := HROW.out.frozen (fln * 6 + 4)
        have f5 := HROW.out.frozen (fln * 6 + 5)
        have gl := HLT.out
        simp only [VA.enc, VA.zero, Nat.add_zero] at c0 c1 c2 c3 c4 c5
        (try simp only [lgt, lgz, lgs])
        go_simp
        clear c0 c1 c2 c3 c4 c5 f0 f1 f2 f3 f4 f5 gl
        have hset := HROW.out.set6 (i := fln) HFLN.out (⟨xk, xf, xn, xw, xla, xln, xlc, xma, xmn, xmc⟩ : VA)
        simp only [VA.enc] at hset
        have hms : Only g9 wc ((((((wc.setCell ⟨g9, fln * 6, none⟩ (.int .i64 xk)).setCell ⟨g9, fln * 6 + 1, none⟩ (.bool xf)).setCell ⟨g9, fln * 6 + 2, none⟩ (.int .i64 xn)).setCell ⟨g9, fln * 6 + 3, none⟩ (.string xw)).setCell ⟨g9, fln * 6 + 4, none⟩ (.slice xla xln xlc)).setCell ⟨g9, fln * 6 + 5, none⟩ (.slice xma xmn xmc)) := by
          with_reducible repeat (first | exact Mod.refl _ _ | refine Only.set ?_ _ _)
        have HSET := hId hset
        have HMS := hId hms
        clear hset hms
        generalize ((((((wc.setCell ⟨g9, fln * 6, none⟩ (.int .i64 xk)).setCell ⟨g9, fln * 6 + 1, none⟩ (.bool xf)).setCell ⟨g9, fln * 6 + 2, none⟩ (.int .i64 xn)).setCell ⟨g9, fln * 6 + 3, none⟩ (.string xw)).setCell ⟨g9, fln * 6 + 4, none⟩ (.slice xla xln xlc)).setCell ⟨g9, fln * 6 + 5, none⟩ (.slice xma xmn xmc)) = wd at *
        refine hK.out _ _ (HHS.out.step HMS.out (fun k _ e => by subst e; exact HG9.out.1)) (fun hHeld => ?_)
        clear hK K
        (try simp only [Act.put, lgt, lgz, lgs, lst, lsz, lss])
        have HROW1 := HSET
        have HHS1 : Hid (Mod (fun k => k ≠ q0) w1 wd) := hId hHeld
        have HOB2 := hId (HOBC.out.mod HMS.out (fun e => HG9.out.2.1 e.symm))
        have HRB2 := hId (HRBC.out.mod HMS.out (fun e => HG9.out.2.2.1 e.symm))
        have HMM2 : Hid (Mod (fun k => k = ob ∨ blkOf fla = some k ∨ k = b) w wd) := hId (HMMC.out.step HMS.out (fun k hk e => by
          subst e
          rcases HG9.out.2.2.2 with h | h
          · exact .inr (.inl h)
          · omega))
        have HLT2 : Hid (g9 < wd.heap.size) := hId (Nat.lt_of_lt_of_le HLT.out HMS.out.size)
        clear HROW HHS HOBC HRBC HMMC HLT HSET HMS HCELL
        have HROW := HROW1
        have HHS := HHS1
        have HOBC := HOB2
        have HRBC := HRB2
        have HMMC := HMM2
        have HLT := HLT2
        clear HROW1 HHS1 HOB2 HRB2 HMM2 HLT2
        refine wpAnyH_ready (rs := [14]) (by kernel_rfl) (by simp) ?_
        refine AllReadyH.cons rfl (fun K hK => ?_) AllReadyH.nil
        -- the header is stored into the box
        have o4c := HOBC.out.cell 4
        have o4f := HOBC.out.frozen 4
        have o4l := HOBC.out.lt
        simp only [OF.cells, lqt, lqz, lqs, lst, lsz, lss] at o4c
        (try simp only [lgt, lgz, lgs])
        go_simp
        clear o4c o4f o4l
        refine hK.out _ _ (HHS.out.step ((Mod.refl (fun k => k = ob) wd).setCell (p := ⟨ob, 4, none⟩) (.inl rfl) _) (fun k _ e => by subst e; exact HOQ.out)) (fun hHeld => ?_)
        clear hK K
        (try simp only [Act.put, lgt, lgz, lgs, lst, lsz, lss])
        have HMS : Hid (Only ob wd (wd.setCell ⟨ob, 4, none⟩ (.slice (some ⟨g9, 0, none⟩) (fln + 1) cap9))) := hId ((Mod.refl (fun k => k = ob) wd).setCell (p := ⟨ob, 4, none⟩) (.inl rfl) _)
        have HOB2 := hId (HOBC.out.set 4 (.slice (some ⟨g9, 0, none⟩) (fln + 1) cap9))
        have HROW1 := hId (HROW.out.mod HMS.out (fun k e e2 => by injection e with e; subst e; exact HG9.out.2.1 e2))
        have HRB2 := hId (HRBC.out.mod HMS.out (fun e => HOBB.out e.symm))
        have HMM2 : Hid (Mod (fun k => k = ob ∨ blkOf fla = some k ∨ k = b) w (wd.setCell ⟨ob, 4, none⟩ (.slice (some ⟨g9, 0, none⟩) (fln + 1) cap9))) := hId (HMMC.out.step HMS.out (fun k hk e => .inl e))
        have HLT2 : Hid (g9 < (wd.setCell ⟨ob, 4, none⟩ (.slice (some ⟨g9, 0, none⟩) (fln + 1) cap9)).heap.size) := hId (Nat.lt_of_lt_of_le HLT.out HMS.out.size)
        have HHS1 := hId hHeld
        have HROW := HROW1
        have HHS := HHS1
        have HOBC := HOB2
        have HRBC := HRB2
        have HMMC := HMM2
        have HLT := HLT2
        clear HROW1 HHS1 HOB2 HRB2 HMM2 HLT2
        generalize wd.setCell ⟨ob, 4, none⟩ (.slice (some ⟨g9, 0, none⟩) (fln + 1) cap9) = wf at *
        refine wpAnyH_done (by kernel_rfl) ?_ _
        clear HHS hHeld
        have k3 := HRBC.out.frozen 3
        have k4 := HRBC.out.cell 3
        have kl := HRBC.out.lt
        simp only [RV.cells, lqt, lqz, lqs] at k4
        go_wp2_with fail
        go_end0
        have hrf := HRBC.out.set 3 (.bool false)
        have hmf : Only b wf (wf.setCell ⟨b, 3, none⟩ (.bool false)) := (Mod.refl (fun k => k = b) wf).setCell (p := ⟨b, 3, none⟩) (.inl rfl) _
        have hof := HOBC.out.mod hmf (fun e => HOBB.out e)
        have hwf := HROW.out.mod hmf (fun k e e2 => by injection e with e; subst e; exact HG9.out.2.2.1 e2)
        have hmm := HMMC.out.step hmf (fun k hk e => .inr (.inr e))
        rw [HSETL.out] at hwf
        exact ⟨rfl, hmm.mono (fun k hk e => by
          rcases e with e | e | e
          · subst e; exact HOBF.out
          · exact (HOV0.out.far' k e).1
          · subst e; exact hHB), .inr ⟨⟨false, name, items, mems⟩, q, { (⟨i, some ⟨sg, 0, none⟩, n + 1, sc, begins, done, ⟨ok, of, on, ow, ola, oln, olc, oma, omn, omc⟩, bad, pl⟩ : RV) with begins := false }, { (⟨ob, fla, fln, flc, fma, fmn, fmc, fname, fmp⟩ : OF) with la := some ⟨g9, 0, none⟩, ln := fln + 1, lc := cap9 } :: oq, rfl, rfl, rfl, rfl, rfl, rfl,
          HH.out.putL rfl HX.out HOV0.out HKV.out hmm HG9.out.2.2.2 hwf hof hrf rfl ⟨rfl, rfl, rfl⟩⟩⟩
      · -- the header is stored into the box
        have o4c := HOBC.out.cell 4
        have o4f := HOBC.out.frozen 4
        have o4l := HOBC.out.lt
        simp only [OF.cells, lqt, lqz, lqs, lst, lsz, lss] at o4c
        (try simp only [lgt, lgz, lgs])
        go_simp
        clear o4c o4f o4l
        refine hK.out _ _ (HHS.out.step ((Mod.refl (fun k => k = ob) wc).setCell (p := ⟨ob, 4, none⟩) (.inl rfl) _) (fun k _ e => by subst e; exact HOQ.out)) (fun hHeld => ?_)
        clear hK K
        (try simp only [Act.put, lgt, lgz, lgs, lst, lsz, lss])
        have HMS : Hid (Only ob wc (wc.setCell ⟨ob, 4, none⟩ (.slice (some ⟨g9, 0, none⟩) (fln + 1) cap9))) := hId ((Mod.refl (fun k => k = ob) wc).setCell (p := ⟨ob, 4, none⟩) (.inl rfl) _)
        have HOB2 := hId (HOBC.out.set 4 (.slice (some ⟨g9, 0, none⟩) (fln + 1) cap9))
        have HROW1 := hId (HROW.out.mod HMS.out (fun k e e2 => by injection e with e; subst e; exact HG9.out.2.1 e2))
        have HRB2 := hId (HRBC.out.mod HMS.out (fun e => HOBB.out e.symm))
        have HMM2 : Hid (Mod (fun k => k = ob ∨ blkOf fla = some k ∨ k = b) w (wc.setCell ⟨ob, 4, none⟩ (.slice (some ⟨g9, 0, none⟩) (fln + 1) cap9))) := hId (HMMC.out.step HMS.out (fun k hk e => .inl e))
        have HLT2 : Hid (g9 < (wc.setCell ⟨ob, 4, none⟩ (.slice (some ⟨g9, 0, none⟩) (fln + 1) cap9)).heap.size) := hId (Nat.lt_of_lt_of_le HLT.out HMS.out.size)
        have HHS1 := hId hHeld
        have HCELL := hId (fun j hj => (HMS.out.cell (p := ⟨g9, fln * 6 + j, none⟩) HLT.out (fun e => HG9.out.2.1 e)).trans (HCELL.out j hj))
        have HROW := HROW1
        have HHS := HHS1
        have HOBC := HOB2
        have HRBC := HRB2
        have HMMC := HMM2
        have HLT := HLT2
        clear HROW1 HHS1 HOB2 HRB2 HMM2 HLT2
        generalize wc.setCell ⟨ob, 4, none⟩ (.slice (some ⟨g9, 0, none⟩) (fln + 1) cap9) = we at *
        clear hHeld
        have hHeld := HHS.out
        refine wpAnyH_ready (rs := [10]) (by kernel_rfl) (by simp) ?_
        refine AllReadyH.cons rfl (fun K hK => ?_) AllReadyH.nil
        -- the element is stored into the row
        have c0 := HCELL.out 0 (by decide)
        have c1 := HCELL.out 1 (by decide)
        have c2 := HCELL.out 2 (by decide)
        have c3 := HCELL.out 3 (by decide)
        have c4 := HCELL.out 4 (by decide)
        have c5 := HCELL.out 5 (by decide)
        have f0 := HROW.out.frozen (fln * 6)
        have f1 := HROW.out.frozen (fln * 6 + 1)
        have f2 := HROW.out.frozen (fln * 6 + 2)
        have f3 := HROW.out.frozen (fln * 6 + 3)
        have f4 := HROW.out.frozen (fln * 6 + 4)
        have f5 := HROW.out.frozen (fln * 6 + 5)
        have gl := HLT.out
        simp only [VA.enc, VA.zero, Nat.add_zero] at c0 c1 c2 c3 c4 c5
        (try simp only [lgt, lgz, lgs])
        go_simp
        clear c0 c1 c2 c3 c4 c5 f0 f1 f2 f3 f4 f5 gl
        have hset := HROW.out.set6 (i := fln) HFLN.out (⟨xk, xf, xn, xw, xla, xln, xlc, xma, xmn, xmc⟩ : VA)
        simp only [VA.enc] at hset
        have hms : Only g9 we ((((((we.setCell ⟨g9, fln * 6, none⟩ (.int .i64 xk)).setCell ⟨g9, fln * 6 + 1, none⟩ (.bool xf)).setCell ⟨g9, fln * 6 + 2, none⟩ (.int .i64 xn)).setCell ⟨g9, fln * 6 + 3, none⟩ (.string xw)).setCell ⟨g9, fln * 6 + 4, none⟩ (.slice xla xln xlc)).setCell ⟨g9, fln * 6 + 5, none⟩ (.slice xma xmn xmc)) := by
          with_reducible repeat (first | exact Mod.refl _ _ | refine Only.set ?_ _ _)
        have HSET := hId hset
        have HMS := hId hms
        clear hset hms
        generalize ((((((we.setCell ⟨g9, fln * 6, none⟩ (.int .i64 xk)).setCell ⟨g9, fln * 6 + 1, none⟩ (.bool xf)).setCell ⟨g9, fln * 6 + 2, none⟩ (.int .i64 xn)).setCell ⟨g9, fln * 6 + 3, none⟩ (.string xw)).setCell ⟨g9, fln * 6 + 4, none⟩ (.slice xla xln xlc)).setCell ⟨g9, fln * 6 + 5, none⟩ (.slice xma xmn xmc)) = wd at *
        refine hK.out _ _ (HHS.out.step HMS.out (fun k _ e => by subst e; exact HG9.out.1)) (fun hHeld => ?_)
        clear hK K
        (try simp only [Act.put, lgt, lgz, lgs, lst, lsz, lss])
        have HROW1 := HSET
        have HHS1 : Hid (Mod (fun k => k ≠ q0) w1 wd) := hId hHeld
        have HOB2 := hId (HOBC.out.mod HMS.out (fun e => HG9.out.2.1 e.symm))
        have HRB2 := hId (HRBC.out.mod HMS.out (fun e => HG9.out.2.2.1 e.symm))
        have HMM2 : Hid (Mod (fun k => k = ob ∨ blkOf fla = some k ∨ k = b) w wd) := hId (HMMC.out.step HMS.out (fun k hk e => by
          subst e
          rcases HG9.out.2.2.2 with h | h
          · exact .inr (.inl h)
          · omega))
        have HLT2 : Hid (g9 < wd.heap.size) := hId (Nat.lt_of_lt_of_le HLT.out HMS.out.size)
        clear HROW HHS HOBC HRBC HMMC HLT HSET HMS HCELL
        have HROW := HROW1
        have HHS := HHS1
        have HOBC := HOB2
        have HRBC := HRB2
        have HMMC := HMM2
        have HLT := HLT2
        clear HROW1 HHS1 HOB2 HRB2 HMM2 HLT2
        refine wpAnyH_done (by kernel_rfl) ?_ _
        clear HHS hHeld
        have k3 := HRBC.out.frozen 3
        have k4 := HRBC.out.cell 3
        have kl := HRBC.out.lt
        simp only [RV.cells, lqt, lqz, lqs] at k4
        go_wp2_with fail
        go_end0
        have hrf := HRBC.out.set 3 (.bool false)
        have hmf : Only b wd (wd.setCell ⟨b, 3, none⟩ (.bool false)) := (Mod.refl (fun k => k = b) wd).setCell (p := ⟨b, 3, none⟩) (.inl rfl) _
        have hof := HOBC.out.mod hmf (fun e => HOBB.out e)
        have hwf := HROW.out.mod hmf (fun k e e2 => by injection e with e; subst e; exact HG9.out.2.2.1 e2)
        have hmm := HMMC.out.step hmf (fun k hk e => .inr (.inr e))
        rw [HSETL.out] at hwf
        exact ⟨rfl, hmm.mono (fun k hk e => by
          rcases e with e | e | e
          · subst e; exact HOBF.out
          · exact (HOV0.out.far' k e).1
          · subst e; exact hHB), .inr ⟨⟨false, name, items, mems⟩, q, { (⟨i, some ⟨sg, 0, none⟩, n + 1, sc, begins, done, ⟨ok, of, on, ow, ola, oln, olc, oma, omn, omc⟩, bad, pl⟩ : RV) with begins := false }, { (⟨ob, fla, fln, flc, fma, fmn, fmc, fname, fmp⟩ : OF) with la := some ⟨g9, 0, none⟩, ln := fln + 1, lc := cap9 } :: oq, rfl, rfl, rfl, rfl, rfl, rfl,
          HH.out.putL rfl HX.out HOV0.out HKV.out hmm HG9.out.2.2.2 hwf hof hrf rfl ⟨rfl, rfl, rfl⟩⟩⟩
  · simp only [if_true] at e0
    go_upto_region 6 with (fail)
    obtain ⟨vs, hov', hkv⟩ := HH.out.fr.1.mes
    have hov : Own w B 60 7 MA.enc fma fmn fmc vs := hov'
    clear hov'
    have HOV := hId (hov.new HN.out)
    have HKV := hId hkv
    have HOV0 := hId hov
    have hfn : fmn ≤ 300000 := by have h1 := hov.1; have h2 := hkv.1; simp only at h1 h2 hlm; omega
    have HFL : Hid (∀ k, blkOf fma = some k → k < q0) := hId (fun k e => by have := (hov.far' k e).2.1; omega)
    have HOBF : Hid (B ≤ ob) := hId HH.out.fr.1.hB
    have HOQ : Hid (ob ≠ q0) := hId (fun e => by have := HH.out.fr.1.blk.lt; simp only at this; omega)
    have HOBB : Hid (ob ≠ b) := hId (HOB1.out.ne HRD1.out (by decide))
    clear hov hkv
    have HXB0 : Hid (∀ k, blkOf fma = some k → k ≠ ob ∧ k ≠ q0 ∧ k ≠ b) := hId (fun k e => by
      have ht := (HOV.out.far' k e).2.2
      have hl := HFL.out k e
      exact ⟨ht.ne HOB1.out.tb (by decide), by omega, ht.ne HRD1.out.tb (by decide)⟩)
    have HSC : Hid (∀ W, SM w1 q0 ob fname W → W.cell? ⟨q0, 0, none⟩ = some (.int .i64 xk) ∧ W.cell? ⟨q0, 1, none⟩ = some (.bool xf) ∧ W.cell? ⟨q0, 2, none⟩ = some (.int .i64 xn) ∧ W.cell? ⟨q0, 3, none⟩ = some (.string xw) ∧ W.cell? ⟨q0, 4, none⟩ = some (.slice xla xln xlc) ∧ W.cell? ⟨q0, 5, none⟩ = some (.slice xma xmn xmc) ∧ ob < W.heap.size ∧ q0 < W.heap.size ∧ W.cell? ⟨ob, 6, none⟩ = some (.string fname)) := hId (fun W hW => by
      have h2 := HXB.out.mod hW.1 (fun e => e rfl)
      exact ⟨(h2.cell 0).trans rfl, (h2.cell 1).trans rfl, (h2.cell 2).trans rfl, (h2.cell 3).trans rfl, (h2.cell 4).trans rfl, (h2.cell 5).trans rfl, Nat.lt_of_lt_of_le ol hW.1.size, h2.lt, hW.2⟩)
    have HE4 : Hid (∀ W, New w1 W → W.cell? ⟨ob, 5, none⟩ = some (.slice fma fmn fmc) ∧ W.cell? ⟨ob, 6, none⟩ = some (.string fname)) := hId (fun W hW => ⟨((HOB1.out.mod hW (fun e => e)).cell 5).trans rfl, ((HOB1.out.mod hW (fun e => e)).cell 6).trans rfl⟩)
    have g0 : (0 : Int) ≤ (fmn : Int) := by omega
    have g1 : (fmn : Int) < (fmn : Int) + 1 := by omega
    have ow := HE4.out _ (show New w1 (w1.drewN nq).drew from (by with_reducible (repeat (first | exact Mod.refl _ _ | refine Mod.drewN ?_ _ | refine Mod.drew ?_ | refine Mod.alloc ?_ _))))
    have nw2 : New w1 ((w1.drewN (nq + 1)).alloc (.cells #[.string ⟨#[]⟩, .int .i64 0, .bool false, .int .i64 0, .string ⟨#[]⟩, .slice none 0 0, .slice none 0 0] 60)) := ((Mod.refl _ _).drewN _).alloc _
    have HN2 := hId nw2
    have HZB : Hid (Blk ((w1.drewN (nq + 1)).alloc (.cells #[.string ⟨#[]⟩, .int .i64 0, .bool false, .int .i64 0, .string ⟨#[]⟩, .slice none 0 0, .slice none 0 0] 60)) w1.heap.size 60 (encL 7 MA.enc (⟨⟨#[]⟩, VA.zero⟩ : MA)).toArray) := hId (Blk.new (w1.drewN (nq + 1)) _ _)
    have HZ : Hid (B ≤ ((w1.drewN (nq + 1)).alloc (.cells #[.string ⟨#[]⟩, .int .i64 0, .bool false, .int .i64 0, .string ⟨#[]⟩, .slice none 0 0, .slice none 0 0] 60)).heap.size) := hId (by have h1 := nw2.size; have h2 := HN.out.size; omega)
    clear nw2 ow e4 c2 hc1 d0 d1 d2 d3 d4 d5
    refine wp_region_held_drew (S := SM w1 q0 ob fname) (by kernel_rfl) ⟨(by with_reducible (repeat (first | exact Mod.refl _ _ | refine Mod.drewN ?_ _ | refine Mod.drew ?_ | refine Mod.alloc ?_ _))), (HE4.out _ (by with_reducible (repeat (first | exact Mod.refl _ _ | refine Mod.drewN ?_ _ | refine Mod.drew ?_ | refine Mod.alloc ?_ _)))).2⟩ (fun hHeld => ?_)
    simp only [List.size_toArray, List.length_cons, List.length_nil, Nat.reduceAdd]
    refine wpAnyH_take (i := 0) (v := ?_) rfl (by kernel_rfl) (by kernel_rfl) (by kernel_rfl) (fun _ _ _ h => h) (Or.inl ⟨by rfl, fun W hSw => ?_⟩) (by assumption) ?_
    rotate_left
    · (have hq := HSC.out W hSw); (try simp only [lgt, lgz, lgs]); go_simp; any_goals (with_reducible rfl)
    simp only [Act.put, lgt, lgz, lgs, lst, lsz, lss]
    refine wpAnyH_take (i := 1) (v := ?_) rfl (by kernel_rfl) (by kernel_rfl) (by kernel_rfl) (fun _ _ _ h => h) (Or.inl ⟨by rfl, fun W hSw => ?_⟩) (by assumption) ?_
    rotate_left
    · (have hq := HSC.out W hSw); (try simp only [lgt, lgz, lgs]); go_simp; any_goals (with_reducible rfl)
    simp only [Act.put, lgt, lgz, lgs, lst, lsz, lss]
    refine wpAnyH_take (i := 2) (v := ?_) rfl (by kernel_rfl) (by kernel_rfl) (by kernel_rfl) (fun _ _ _ h => h) (Or.inl ⟨by rfl, fun W hSw => ?_⟩) (by assumption) ?_
    rotate_left
    · (have hq := HSC.out W hSw); (try simp only [lgt, lgz, lgs]); go_simp; any_goals (with_reducible rfl)
    simp only [Act.put, lgt, lgz, lgs, lst, lsz, lss]
    refine wpAnyH_take (i := 3) (v := ?_) rfl (by kernel_rfl) (by kernel_rfl) (by kernel_rfl) (fun _ _ _ h => h) (Or.inl ⟨by rfl, fun W hSw => ?_⟩) (by assumption) ?_
    rotate_left
    · (have hq := HSC.out W hSw); (try simp only [lgt, lgz, lgs]); go_simp; any_goals (with_reducible rfl)
    simp only [Act.put, lgt, lgz, lgs, lst, lsz, lss]
    refine wpAnyH_take (i := 5) (v := ?_) rfl (by kernel_rfl) (by kernel_rfl) (by kernel_rfl) (fun _ _ _ h => h) (Or.inl ⟨by rfl, fun W hSw => ?_⟩) (by assumption) ?_
    rotate_left
    · (have hq := HSC.out W hSw); (try simp only [lgt, lgz, lgs]); go_simp; any_goals (with_reducible rfl)
    simp only [Act.put, lgt, lgz, lgs, lst, lsz, lss]
    refine wpAnyH_take (i := 6) (v := ?_) rfl (by kernel_rfl) (by kernel_rfl) (by kernel_rfl) (fun _ _ _ h => h) (Or.inl ⟨by rfl, fun W hSw => ?_⟩) (by assumption) ?_
    rotate_left
    · (have hq := HSC.out W hSw); (try simp only [lgt, lgz, lgs]); go_simp; any_goals (with_reducible rfl)
    simp only [Act.put, lgt, lgz, lgs, lst, lsz, lss]
    refine wpAnyH_take (i := 7) (v := ?_) rfl (by kernel_rfl) (by kernel_rfl) (by kernel_rfl) (fun _ _ _ h => h) (Or.inl ⟨by rfl, fun W hSw => ?_⟩) (by assumption) ?_
    rotate_left
    · (have hq := HSC.out W hSw); (try simp only [lgt, lgz, lgs]); go_simp; any_goals (with_reducible rfl)
    simp only [Act.put, lgt, lgz, lgs, lst, lsz, lss]
    refine wpAnyH_take (i := 8) (v := ?_) rfl (by kernel_rfl) (by kernel_rfl) (by kernel_rfl) (fun _ _ _ h => h) (Or.inl ⟨by rfl, fun W hSw => ?_⟩) (by assumption) ?_
    rotate_left
    · (have hq := HSC.out W hSw); (try simp only [lgt, lgz, lgs]); go_simp; any_goals (with_reducible rfl)
    simp only [Act.put, lgt, lgz, lgs, lst, lsz, lss]
    refine wpAnyH_take (i := 9) (v := ?_) rfl (by kernel_rfl) (by kernel_rfl) (by kernel_rfl) (fun _ _ _ h => h) (Or.inl ⟨by rfl, fun W hSw => ?_⟩) (by assumption) ?_
    rotate_left
    · (have hq := HSC.out W hSw); (try simp only [lgt, lgz, lgs]); go_simp; any_goals (with_reducible rfl)
    simp only [Act.put, lgt, lgz, lgs, lst, lsz, lss]
    refine wpAnyH_take (i := 10) (v := ?_) rfl (by kernel_rfl) (by kernel_rfl) (by kernel_rfl) (fun _ _ _ h => h) (Or.inl ⟨by rfl, fun W hSw => ?_⟩) (by assumption) ?_
    rotate_left
    · (have hq := HSC.out W hSw); (try simp only [lgt, lgz, lgs]); go_simp; any_goals (with_reducible rfl)
    simp only [Act.put, lgt, lgz, lgs, lst, lsz, lss]
    refine wpAnyH_ready (rs := [4, 12]) (by kernel_rfl) (by simp) ?_
    refine AllReadyH.cons rfl (fun K hK => ?_) (AllReadyH.cons rfl (fun K hK => ?_) AllReadyH.nil)
    · (try simp only [lgt, lgz, lgs])
      go_simp
      refine hK.out _ _ ⟨(by with_reducible (repeat (first | exact Mod.refl _ _ | refine Mod.drewN ?_ _ | refine Mod.drew ?_ | refine Mod.alloc ?_ _))), (HE4.out _ (by with_reducible (repeat (first | exact Mod.refl _ _ | refine Mod.drewN ?_ _ | refine Mod.drew ?_ | refine Mod.alloc ?_ _)))).2⟩ (fun hHeld => ?_)
      clear hK K
      (try simp only [Act.put, lgt, lgz, lgs, lst, lsz, lss])
      refine wpAnyH_take (i := 11) (v := ?_) rfl (by kernel_rfl) (by kernel_rfl) (by kernel_rfl) (fun _ _ _ h => h) (Or.inl ⟨by rfl, fun W hSw => ?_⟩) (by assumption) ?_
      rotate_left
      · (have hq := HSC.out W hSw); (try simp only [lgt, lgz, lgs]); go_simp; any_goals (with_reducible rfl)
      simp only [Act.put, lgt, lgz, lgs, lst, lsz, lss]
      refine wpAnyH_ready (rs := [12]) (by kernel_rfl) (by simp) ?_
      refine AllReadyH.cons rfl (fun K hK => ?_) AllReadyH.nil
      (try simp only [lgt, lgz, lgs])
      go_simp
      refine hK.out _ _ ⟨(by with_reducible (repeat (first | exact Mod.refl _ _ | refine Mod.drewN ?_ _ | refine Mod.drew ?_ | refine Mod.alloc ?_ _))), (HE4.out _ (by with_reducible (repeat (first | exact Mod.refl _ _ | refine Mod.drewN ?_ _ | refine Mod.drew ?_ | refine Mod.alloc ?_ _)))).2⟩ (fun hHeld => ?_)
      clear hK K e5
      (try simp only [Act.put, lgt, lgz, lgs, lst, lsz, lss])
      generalize ((w1.drewN (nq + 1)).alloc (.cells #[.string ⟨#[]⟩, .int .i64 0, .bool false, .int .i64 0, .string ⟨#[]⟩, .slice none 0 0, .slice none 0 0] 60)) = w2 at *
      generalize w1.heap.size = zb at *
      have own2 := HOV.out.new HN2.out
      refine wpAnyH_ready (rs := [13]) (by kernel_rfl) (by simp) ?_
      refine AllReadyH.cons rfl (fun K hK => ?_) AllReadyH.nil
      rw [if_pos (by rfl)]
      refine wp_push (.tmp 53) (.tmp 61) _ rfl 104 Tryz.underlying28 einfo_mmR rfl (by exact own2) (⟨⟨#[]⟩, VA.zero⟩ : MA) zb rfl (by exact HZB.out) (fun j hj => MA.one _ j hj) (by omega) (by omega) HZ.out ?_
      intro g9 cap9 wc own9 hm9 hat9 hlt9
      refine hK.out _ _ ⟨hHeld.1.trans (hm9.mono (fun k _ e => (HXB0.out k e).2.1)), (((HOB1.out.mod HN2.out (fun e => e)).mod hm9 (fun e => (HXB0.out _ e).1 rfl)).cell 6).trans rfl⟩ (fun hHeld => ?_)
      clear hK K
      (try simp only [Act.put, lgt, lgz, lgs, lst, lsz, lss])
      have HFLN : Hid (fmn < (vs ++ [(⟨⟨#[]⟩, VA.zero⟩ : MA)]).length) := hId (by have := own2.1; simp; omega)
      have HHS : Hid (SM w1 q0 ob fname wc) := hId hHeld
      have HCELL : Hid (∀ j, j < 7 → wc.cell? ⟨g9, fmn * 7 + j, none⟩ = some ((⟨⟨#[]⟩, VA.zero⟩ : MA).enc j)) := hId (fun j hj => by
        obtain ⟨g', o', hA, htb, hc⟩ := own9.sl.2 (by omega)
        injection hA with hA
        injection hA with hA1 hA2
        subst hA1 hA2
        have hvl : vs.length = fmn := own2.1
        have := hc fmn (by simp; omega) j hj
        simpa [← hvl] using this)
      have HROW := hId own9
      have HLT := hId hlt9
      have HG9 : Hid (g9 ≠ q0 ∧ g9 ≠ ob ∧ g9 ≠ b ∧ (blkOf fma = some g9 ∨ w.heap.size ≤ g9)) := hId (by
        have h1 := HN2.out.size
        have h2 := HN.out.size
        rcases hat9 with h | h
        · have h3 := HXB0.out g9 h
          exact ⟨h3.2.1, h3.1, h3.2.2, .inl h⟩
        · refine ⟨by have := HXB.out.lt; omega, by have := HOB1.out.lt; omega, by have := HRD1.out.lt; omega, .inr (by omega)⟩)
      have HOBC := hId ((HOB1.out.mod HN2.out (fun e => e)).mod hm9 (fun e => (HXB0.out _ e).1 rfl))
      have HRBC := hId ((HRD1.out.mod HN2.out (fun e => e)).mod hm9 (fun e => (HXB0.out _ e).2.2 rfl))
      have HMMC : Hid (Mod (fun k => k = ob ∨ blkOf fma = some k ∨ k = b) w wc) := hId (((HN.out.trans HN2.out).mono (fun _ _ e => e.elim)).step hm9 (fun k _ e => .inr (.inl e)))
      have HSETL : Hid ((vs ++ [(⟨⟨#[]⟩, VA.zero⟩ : MA)]).set fmn (⟨fname, ⟨xk, xf, xn, xw, xla, xln, xlc, xma, xmn, xmc⟩⟩ : MA) = vs ++ [⟨fname, ⟨xk, xf, xn, xw, xla, xln, xlc, xma, xmn, xmc⟩⟩]) := hId (by have hvl : vs.length = fmn := own2.1; simp [← hvl])
      clear own2 own9 hm9 hat9 hlt9 HZB HZ HN2
      generalize vs ++ [(⟨⟨#[]⟩, VA.zero⟩ : MA)] = vz at *
      refine wpAnyH_take (i := 14) (v := ?_) rfl (by kernel_rfl) (by kernel_rfl) (by kernel_rfl) (fun _ _ _ h => h) (Or.inl ⟨by rfl, fun W hSw => ?_⟩) (by assumption) ?_
      rotate_left
      · (have hq := HSC.out W hSw); (try simp only [lgt, lgz, lgs]); go_simp; any_goals (with_reducible rfl)
      simp only [Act.put, lgt, lgz, lgs, lst, lsz, lss]
      refine wpAnyH_take (i := 16) (v := ?_) rfl (by kernel_rfl) (by kernel_rfl) (by kernel_rfl) (fun _ _ _ h => h) (Or.inl ⟨by rfl, fun W hSw => ?_⟩) (by assumption) ?_
      rotate_left
      · (have hq := HSC.out W hSw); (try simp only [lgt, lgz, lgs]); go_simp; any_goals (with_reducible rfl)
      simp only [Act.put, lgt, lgz, lgs, lst, lsz, lss]
      refine wpAnyH_take (i := 17) (v := ?_) rfl (by kernel_rfl) (by kernel_rfl) (by kernel_rfl) (fun _ _ _ h => h) (Or.inl ⟨by rfl, fun W hSw => ?_⟩) (by assumption) ?_
      rotate_left
      · (have hq := HSC.out W hSw); (try simp only [lgt, lgz, lgs]); go_simp; any_goals (with_reducible rfl)
      simp only [Act.put, lgt, lgz, lgs, lst, lsz, lss]
      refine wpAnyH_take (i := 18) (v := ?_) rfl (by kernel_rfl) (by kernel_rfl) (by kernel_rfl) (fun _ _ _ h => h) (Or.inl ⟨by rfl, fun W hSw => ?_⟩) (by assumption) ?_
      rotate_left
      · (have hq := HSC.out W hSw); (try simp only [lgt, lgz, lgs]); go_simp; any_goals (with_reducible rfl)
      simp only [Act.put, lgt, lgz, lgs, lst, lsz, lss]
      refine wpAnyH_ready (rs := [15, 19]) (by kernel_rfl) (by simp) ?_
      refine AllReadyH.cons rfl (fun K hK => ?_) (AllReadyH.cons rfl (fun K hK => ?_) AllReadyH.nil)
      · -- the element is stored into the row
        have c0 := HCELL.out 0 (by decide)
        have c1 := HCELL.out 1 (by decide)
        have c2 := HCELL.out 2 (by decide)
        have c3 := HCELL.out 3 (by decide)
        have c4 := HCELL.out 4 (by decide)
        have c5 := HCELL.out 5 (by decide)
        have c6 := HCELL.out 6 (by decide)
        have f0 := HROW.out.frozen (fmn * 7)
        have f1 := HROW.out.frozen (fmn * 7 + 1)
        have f2 := HROW.out.frozen (fmn * 7 + 2)
        have f3 := HROW.out.frozen (fmn * 7 + 3)
        have f4 := HROW.out.frozen (fmn * 7 + 4)
        have f5 := HROW.out.frozen (fmn * 7 + 5)
        have f6 := HROW.out.frozen (fmn * 7 + 6)
        have gl := HLT.out
        simp only [MA.enc, VA.enc, VA.zero, Nat.add_zero] at c0 c1 c2 c3 c4 c5 c6
        (try simp only [lgt, lgz, lgs])
        go_simp
        clear c0 c1 c2 c3 c4 c5 c6 f0 f1 f2 f3 f4 f5 f6 gl
        have hset := HROW.out.set7 (i := fmn) HFLN.out (⟨fname, ⟨xk, xf, xn, xw, xla, xln, xlc, xma, xmn, xmc⟩⟩ : MA)
        simp only [MA.enc, VA.enc] at hset
        have hms : Only g9 wc (((((((wc.setCell ⟨g9, fmn * 7, none⟩ (.string fname)).setCell ⟨g9, fmn * 7 + 1, none⟩ (.int .i64 xk)).setCell ⟨g9, fmn * 7 + 2, none⟩ (.bool xf)).setCell ⟨g9, fmn * 7 + 3, none⟩ (.int .i64 xn)).setCell ⟨g9, fmn * 7 + 4, none⟩ (.string xw)).setCell ⟨g9, fmn * 7 + 5, none⟩ (.slice xla xln xlc)).setCell ⟨g9, fmn * 7 + 6, none⟩ (.slice xma xmn xmc)) := by
          with_reducible repeat (first | exact Mod.refl _ _ | refine Only.set ?_ _ _)
        have HSET := hId hset
        have HMS := hId hms
        clear hset hms
        generalize (((((((wc.setCell ⟨g9, fmn * 7, none⟩ (.string fname)).setCell ⟨g9, fmn * 7 + 1, none⟩ (.int .i64 xk)).setCell ⟨g9, fmn * 7 + 2, none⟩ (.bool xf)).setCell ⟨g9, fmn * 7 + 3, none⟩ (.int .i64 xn)).setCell ⟨g9, fmn * 7 + 4, none⟩ (.string xw)).setCell ⟨g9, fmn * 7 + 5, none⟩ (.slice xla xln xlc)).setCell ⟨g9, fmn * 7 + 6, none⟩ (.slice xma xmn xmc)) = wd at *
        refine hK.out _ _ ⟨HHS.out.1.step HMS.out (fun k _ e => by subst e; exact HG9.out.1), (HMS.out.cell (p := ⟨ob, 6, none⟩) HOBC.out.lt (fun e => HG9.out.2.1 e.symm)).trans HHS.out.2⟩ (fun hHeld => ?_)
        clear hK K
        (try simp only [Act.put, lgt, lgz, lgs, lst, lsz, lss])
        have HROW1 := HSET
        have HHS1 : Hid (SM w1 q0 ob fname wd) := hId hHeld
        have HOB2 := hId (HOBC.out.mod HMS.out (fun e => HG9.out.2.1 e.symm))
        have HRB2 := hId (HRBC.out.mod HMS.out (fun e => HG9.out.2.2.1 e.symm))
        have HMM2 : Hid (Mod (fun k => k = ob ∨ blkOf fma = some k ∨ k = b) w wd) := hId (HMMC.out.step HMS.out (fun k hk e => by
          subst e
          rcases HG9.out.2.2.2 with h | h
          · exact .inr (.inl h)
          · omega))
        have HLT2 : Hid (g9 < wd.heap.size) := hId (Nat.lt_of_lt_of_le HLT.out HMS.out.size)
        clear HROW HHS HOBC HRBC HMMC HLT HSET HMS HCELL
        have HROW := HROW1
        have HHS := HHS1
        have HOBC := HOB2
        have HRBC := HRB2
        have HMMC := HMM2
        have HLT := HLT2
        clear HROW1 HHS1 HOB2 HRB2 HMM2 HLT2
        refine wpAnyH_ready (rs := [19]) (by kernel_rfl) (by simp) ?_
        refine AllReadyH.cons rfl (fun K hK => ?_) AllReadyH.nil
        -- the header is stored into the box
        have o4c := HOBC.out.cell 5
        have o4f := HOBC.out.frozen 5
        have o4l := HOBC.out.lt
        simp only [OF.cells, lqt, lqz, lqs, lst, lsz, lss] at o4c
        (try simp only [lgt, lgz, lgs])
        go_simp
        clear o4c o4f o4l
        refine hK.out _ _ ⟨HHS.out.1.step ((Mod.refl (fun k => k = ob) wd).setCell (p := ⟨ob, 5, none⟩) (.inl rfl) _) (fun k _ e => by subst e; exact HOQ.out), ((HOBC.out.set 5 (.slice (some ⟨g9, 0, none⟩) (fmn + 1) cap9)).cell 6).trans rfl⟩ (fun hHeld => ?_)
        clear hK K
        (try simp only [Act.put, lgt, lgz, lgs, lst, lsz, lss])
        have HMS : Hid (Only ob wd (wd.setCell ⟨ob, 5, none⟩ (.slice (some ⟨g9, 0, none⟩) (fmn + 1) cap9))) := hId ((Mod.refl (fun k => k = ob) wd).setCell (p := ⟨ob, 5, none⟩) (.inl rfl) _)
        have HOB2 := hId (HOBC.out.set 5 (.slice (some ⟨g9, 0, none⟩) (fmn + 1) cap9))
        have HROW1 := hId (HROW.out.mod HMS.out (fun k e e2 => by injection e with e; subst e; exact HG9.out.2.1 e2))
        have HRB2 := hId (HRBC.out.mod HMS.out (fun e => HOBB.out e.symm))
        have HMM2 : Hid (Mod (fun k => k = ob ∨ blkOf fma = some k ∨ k = b) w (wd.setCell ⟨ob, 5, none⟩ (.slice (some ⟨g9, 0, none⟩) (fmn + 1) cap9))) := hId (HMMC.out.step HMS.out (fun k hk e => .inl e))
        have HLT2 : Hid (g9 < (wd.setCell ⟨ob, 5, none⟩ (.slice (some ⟨g9, 0, none⟩) (fmn + 1) cap9)).heap.size) := hId (Nat.lt_of_lt_of_le HLT.out HMS.out.size)
        have HHS1 := hId hHeld
        have HROW := HROW1
        have HHS := HHS1
        have HOBC := HOB2
        have HRBC := HRB2
        have HMMC := HMM2
        have HLT := HLT2
        clear HROW1 HHS1 HOB2 HRB2 HMM2 HLT2
        generalize wd.setCell ⟨ob, 5, none⟩ (.slice (some ⟨g9, 0, none⟩) (fmn + 1) cap9) = wf at *
        refine wpAnyH_done (by kernel_rfl) ?_ _
        clear HHS hHeld
        have k3 := HRBC.out.frozen 3
        have k4 := HRBC.out.cell 3
        have kl := HRBC.out.lt
        simp only [RV.cells, lqt, lqz, lqs] at k4
        go_wp2_with fail
        go_end0
        have hrf := HRBC.out.set 3 (.bool false)
        have hmf : Only b wf (wf.setCell ⟨b, 3, none⟩ (.bool false)) := (Mod.refl (fun k => k = b) wf).setCell (p := ⟨b, 3, none⟩) (.inl rfl) _
        have hof := HOBC.out.mod hmf (fun e => HOBB.out e)
        have hwf := HROW.out.mod hmf (fun k e e2 => by injection e with e; subst e; exact HG9.out.2.2.1 e2)
        have hmm := HMMC.out.step hmf (fun k hk e => .inr (.inr e))
        rw [HSETL.out] at hwf
        exact ⟨rfl, hmm.mono (fun k hk e => by
          rcases e with e | e | e
          · subst e; exact HOBF.out
          · exact (HOV0.out.far' k e).1
          · subst e; exact hHB), .inr ⟨⟨true, name, items, mems⟩, q, { (⟨i, some ⟨sg, 0, none⟩, n + 1, sc, begins, done, ⟨ok, of, on, ow, ola, oln, olc, oma, omn, omc⟩, bad, pl⟩ : RV) with begins := false }, { (⟨ob, fla, fln, flc, fma, fmn, fmc, fname, fmp⟩ : OF) with ma := some ⟨g9, 0, none⟩, mn := fmn + 1, mc := cap9 } :: oq, rfl, rfl, rfl, rfl, rfl, rfl,
          HH.out.putM rfl HX.out HOV0.out HKV.out hmm HG9.out.2.2.2 hwf hof hrf rfl ⟨rfl, rfl, rfl⟩⟩⟩
      · -- the header is stored into the box
        have o4c := HOBC.out.cell 5
        have o4f := HOBC.out.frozen 5
        have o4l := HOBC.out.lt
        simp only [OF.cells, lqt, lqz, lqs, lst, lsz, lss] at o4c
        (try simp only [lgt, lgz, lgs])
        go_simp
        clear o4c o4f o4l
        refine hK.out _ _ ⟨HHS.out.1.step ((Mod.refl (fun k => k = ob) wc).setCell (p := ⟨ob, 5, none⟩) (.inl rfl) _) (fun k _ e => by subst e; exact HOQ.out), ((HOBC.out.set 5 (.slice (some ⟨g9, 0, none⟩) (fmn + 1) cap9)).cell 6).trans rfl⟩ (fun hHeld => ?_)
        clear hK K
        (try simp only [Act.put, lgt, lgz, lgs, lst, lsz, lss])
        have HMS : Hid (Only ob wc (wc.setCell ⟨ob, 5, none⟩ (.slice (some ⟨g9, 0, none⟩) (fmn + 1) cap9))) := hId ((Mod.refl (fun k => k = ob) wc).setCell (p := ⟨ob, 5, none⟩) (.inl rfl) _)
        have HOB2 := hId (HOBC.out.set 5 (.slice (some ⟨g9, 0, none⟩) (fmn + 1) cap9))
        have HROW1 := hId (HROW.out.mod HMS.out (fun k e e2 => by injection e with e; subst e; exact HG9.out.2.1 e2))
        have HRB2 := hId (HRBC.out.mod HMS.out (fun e => HOBB.out e.symm))
        have HMM2 : Hid (Mod (fun k => k = ob ∨ blkOf fma = some k ∨ k = b) w (wc.setCell ⟨ob, 5, none⟩ (.slice (some ⟨g9, 0, none⟩) (fmn + 1) cap9))) := hId (HMMC.out.step HMS.out (fun k hk e => .inl e))
        have HLT2 : Hid (g9 < (wc.setCell ⟨ob, 5, none⟩ (.slice (some ⟨g9, 0, none⟩) (fmn + 1) cap9)).heap.size) := hId (Nat.lt_of_lt_of_le HLT.out HMS.out.size)
        have HHS1 := hId hHeld
        have HCELL := hId (fun j hj => (HMS.out.cell (p := ⟨g9, fmn * 7 + j, none⟩) HLT.out (fun e => HG9.out.2.1 e)).trans (HCELL.out j hj))
        have HROW := HROW1
        have HHS := HHS1
        have HOBC := HOB2
        have HRBC := HRB2
        have HMMC := HMM2
        have HLT := HLT2
        clear HROW1 HHS1 HOB2 HRB2 HMM2 HLT2
        generalize wc.setCell ⟨ob, 5, none⟩ (.slice (some ⟨g9, 0, none⟩) (fmn + 1) cap9) = we at *
        clear hHeld
        have hHeld := HHS.out
        refine wpAnyH_ready (rs := [15]) (by kernel_rfl) (by simp) ?_
        refine AllReadyH.cons rfl (fun K hK => ?_) AllReadyH.nil
        -- the element is stored into the row
        have c0 := HCELL.out 0 (by decide)
        have c1 := HCELL.out 1 (by decide)
        have c2 := HCELL.out 2 (by decide)
        have c3 := HCELL.out 3 (by decide)
        have c4 := HCELL.out 4 (by decide)
        have c5 := HCELL.out 5 (by decide)
        have c6 := HCELL.out 6 (by decide)
        have f0 := HROW.out.frozen (fmn * 7)
        have f1 := HROW.out.frozen (fmn * 7 + 1)
        have f2 := HROW.out.frozen (fmn * 7 + 2)
        have f3 := HROW.out.frozen (fmn * 7 + 3)
        have f4 := HROW.out.frozen (fmn * 7 + 4)
        have f5 := HROW.out.frozen (fmn * 7 + 5)
        have f6 := HROW.out.frozen (fmn * 7 + 6)
        have gl := HLT.out
        simp only [MA.enc, VA.enc, VA.zero, Nat.add_zero] at c0 c1 c2 c3 c4 c5 c6
        (try simp only [lgt, lgz, lgs])
        go_simp
        clear c0 c1 c2 c3 c4 c5 c6 f0 f1 f2 f3 f4 f5 f6 gl
        have hset := HROW.out.set7 (i := fmn) HFLN.out (⟨fname, ⟨xk, xf, xn, xw, xla, xln, xlc, xma, xmn, xmc⟩⟩ : MA)
        simp only [MA.enc, VA.enc] at hset
        have hms : Only g9 we (((((((we.setCell ⟨g9, fmn * 7, none⟩ (.string fname)).setCell ⟨g9, fmn * 7 + 1, none⟩ (.int .i64 xk)).setCell ⟨g9, fmn * 7 + 2, none⟩ (.bool xf)).setCell ⟨g9, fmn * 7 + 3, none⟩ (.int .i64 xn)).setCell ⟨g9, fmn * 7 + 4, none⟩ (.string xw)).setCell ⟨g9, fmn * 7 + 5, none⟩ (.slice xla xln xlc)).setCell ⟨g9, fmn * 7 + 6, none⟩ (.slice xma xmn xmc)) := by
          with_reducible repeat (first | exact Mod.refl _ _ | refine Only.set ?_ _ _)
        have HSET := hId hset
        have HMS := hId hms
        clear hset hms
        generalize (((((((we.setCell ⟨g9, fmn * 7, none⟩ (.string fname)).setCell ⟨g9, fmn * 7 + 1, none⟩ (.int .i64 xk)).setCell ⟨g9, fmn * 7 + 2, none⟩ (.bool xf)).setCell ⟨g9, fmn * 7 + 3, none⟩ (.int .i64 xn)).setCell ⟨g9, fmn * 7 + 4, none⟩ (.string xw)).setCell ⟨g9, fmn * 7 + 5, none⟩ (.slice xla xln xlc)).setCell ⟨g9, fmn * 7 + 6, none⟩ (.slice xma xmn xmc)) = wd at *
        refine hK.out _ _ ⟨HHS.out.1.step HMS.out (fun k _ e => by subst e; exact HG9.out.1), (HMS.out.cell (p := ⟨ob, 6, none⟩) HOBC.out.lt (fun e => HG9.out.2.1 e.symm)).trans HHS.out.2⟩ (fun hHeld => ?_)
        clear hK K
        (try simp only [Act.put, lgt, lgz, lgs, lst, lsz, lss])
        have HROW1 := HSET
        have HHS1 : Hid (SM w1 q0 ob fname wd) := hId hHeld
        have HOB2 := hId (HOBC.out.mod HMS.out (fun e => HG9.out.2.1 e.symm))
        have HRB2 := hId (HRBC.out.mod HMS.out (fun e => HG9.out.2.2.1 e.symm))
        have HMM2 : Hid (Mod (fun k => k = ob ∨ blkOf fma = some k ∨ k = b) w wd) := hId (HMMC.out.step HMS.out (fun k hk e => by
          subst e
          rcases HG9.out.2.2.2 with h | h
          · exact .inr (.inl h)
          · omega))
        have HLT2 : Hid (g9 < wd.heap.size) := hId (Nat.lt_of_lt_of_le HLT.out HMS.out.size)
        clear HROW HHS HOBC HRBC HMMC HLT HSET HMS HCELL
        have HROW := HROW1
        have HHS := HHS1
        have HOBC := HOB2
        have HRBC := HRB2
        have HMMC := HMM2
        have HLT := HLT2
        clear HROW1 HHS1 HOB2 HRB2 HMM2 HLT2
        refine wpAnyH_done (by kernel_rfl) ?_ _
        clear HHS hHeld
        have k3 := HRBC.out.frozen 3
        have k4 := HRBC.out.cell 3
        have kl := HRBC.out.lt
        simp only [RV.cells, lqt, lqz, lqs] at k4
        go_wp2_with fail
        go_end0
        have hrf := HRBC.out.set 3 (.bool false)
        have hmf : Only b wd (wd.setCell ⟨b, 3, none⟩ (.bool false)) := (Mod.refl (fun k => k = b) wd).setCell (p := ⟨b, 3, none⟩) (.inl rfl) _
        have hof := HOBC.out.mod hmf (fun e => HOBB.out e)
        have hwf := HROW.out.mod hmf (fun k e e2 => by injection e with e; subst e; exact HG9.out.2.2.1 e2)
        have hmm := HMMC.out.step hmf (fun k hk e => .inr (.inr e))
        rw [HSETL.out] at hwf
        exact ⟨rfl, hmm.mono (fun k hk e => by
          rcases e with e | e | e
          · subst e; exact HOBF.out
          · exact (HOV0.out.far' k e).1
          · subst e; exact hHB), .inr ⟨⟨true, name, items, mems⟩, q, { (⟨i, some ⟨sg, 0, none⟩, n + 1, sc, begins, done, ⟨ok, of, on, ow, ola, oln, olc, oma, omn, omc⟩, bad, pl⟩ : RV) with begins := false }, { (⟨ob, fla, fln, flc, fma, fmn, fmc, fname, fmp⟩ : OF) with ma := some ⟨g9, 0, none⟩, mn := fmn + 1, mc := cap9 } :: oq, rfl, rfl, rfl, rfl, rfl, rfl,
          HH.out.putM rfl HX.out HOV0.out HKV.out hmm HG9.out.2.2.2 hwf hof hrf rfl ⟨rfl, rfl, rfl⟩⟩⟩
    · (try simp only [lgt, lgz, lgs])
      go_simp
      refine hK.out _ _ ⟨(by with_reducible (repeat (first | exact Mod.refl _ _ | refine Mod.drewN ?_ _ | refine Mod.drew ?_ | refine Mod.alloc ?_ _))), (HE4.out _ (by with_reducible (repeat (first | exact Mod.refl _ _ | refine Mod.drewN ?_ _ | refine Mod.drew ?_ | refine Mod.alloc ?_ _)))).2⟩ (fun hHeld => ?_)
      clear hK K
      (try simp only [Act.put, lgt, lgz, lgs, lst, lsz, lss])
      have e5 := (HE4.out _ HN2.out).1
      generalize ((w1.drewN (nq + 1)).alloc (.cells #[.string ⟨#[]⟩, .int .i64 0, .bool false, .int .i64 0, .string ⟨#[]⟩, .slice none 0 0, .slice none 0 0] 60)) = w2 at *
      generalize w1.heap.size = zb at *
      refine wpAnyH_ready (rs := [4]) (by kernel_rfl) (by simp) ?_
      refine AllReadyH.cons rfl (fun K hK => ?_) AllReadyH.nil
      (try simp only [lgt, lgz, lgs])
      go_simp
      refine hK.out _ _ hHeld (fun hHeld => ?_)
      clear hK K e5
      (try simp only [Act.put, lgt, lgz, lgs, lst, lsz, lss])
      refine wpAnyH_take (i := 11) (v := ?_) rfl (by kernel_rfl) (by kernel_rfl) (by kernel_rfl) (fun _ _ _ h => h) (Or.inl ⟨by rfl, fun W hSw => ?_⟩) (by assumption) ?_
      rotate_left
      · (have hq := HSC.out W hSw); (try simp only [lgt, lgz, lgs]); go_simp; any_goals (with_reducible rfl)
      simp only [Act.put, lgt, lgz, lgs, lst, lsz, lss]
      have own2 := HOV.out.new HN2.out
      refine wpAnyH_ready (rs := [13]) (by kernel_rfl) (by simp) ?_
      refine AllReadyH.cons rfl (fun K hK => ?_) AllReadyH.nil
      rw [if_pos (by rfl)]
      refine wp_push (.tmp 53) (.tmp 61) _ rfl 104 Tryz.underlying28 einfo_mmR rfl (by exact own2) (⟨⟨#[]⟩, VA.zero⟩ : MA) zb rfl (by exact HZB.out) (fun j hj => MA.one _ j hj) (by omega) (by omega) HZ.out ?_
      intro g9 cap9 wc own9 hm9 hat9 hlt9
      refine hK.out _ _ ⟨hHeld.1.trans (hm9.mono (fun k _ e => (HXB0.out k e).2.1)), (((HOB1.out.mod HN2.out (fun e => e)).mod hm9 (fun e => (HXB0.out _ e).1 rfl)).cell 6).trans rfl⟩ (fun hHeld => ?_)
      clear hK K
      (try simp only [Act.put, lgt, lgz, lgs, lst, lsz, lss])
      have HFLN : Hid (fmn < (vs ++ [(⟨⟨#[]⟩, VA.zero⟩ : MA)]).length) := hId (by have := own2.1; simp; omega)
      have HHS : Hid (SM w1 q0 ob fname wc) := hId hHeld
      have HCELL : Hid (∀ j, j < 7 → wc.cell? ⟨g9, fmn * 7 + j, none⟩ = some ((⟨⟨#[]⟩, VA.zero⟩ : MA).enc j)) := hId (fun j hj => by
        obtain ⟨g', o', hA, htb, hc⟩ := own9.sl.2 (by omega)
        injection hA with hA
        injection hA with hA1 hA2
        subst hA1 hA2
        have hvl : vs.length = fmn := own2.1
        have := hc fmn (by simp; omega) j hj
        simpa [← hvl] using this)
      have HROW := hId own9
      have HLT := hId hlt9
      have HG9 : Hid (g9 ≠ q0 ∧ g9 ≠ ob ∧ g9 ≠ b ∧ (blkOf fma = some g9 ∨ w.heap.size ≤ g9)) := hId (by
        have h1 := HN2.out.size
        have h2 := HN.out.size
        rcases hat9 with h | h
        · have h3 := HXB0.out g9 h
          exact ⟨h3.2.1, h3.1, h3.2.2, .inl h⟩
        · refine ⟨by have := HXB.out.lt; omega, by have := HOB1.out.lt; omega, by have := HRD1.out.lt; omega, .inr (by omega)⟩)
      have HOBC := hId ((HOB1.out.mod HN2.out (fun e => e)).mod hm9 (fun e => (HXB0.out _ e).1 rfl))
      have HRBC := hId ((HRD1.out.mod HN2.out (fun e => e)).mod hm9 (fun e => (HXB0.out _ e).2.2 rfl))
      have HMMC : Hid (Mod (fun k => k = ob ∨ blkOf fma = some k ∨ k = b) w wc) := hId (((HN.out.trans HN2.out).mono (fun _ _ e => e.elim)).step hm9 (fun k _ e => .inr (.inl e)))
      have HSETL : Hid ((vs ++ [(⟨⟨#[]⟩, VA.zero⟩ : MA)]).set fmn (⟨fname, ⟨xk, xf, xn, xw, xla, xln, xlc, xma, xmn, xmc⟩⟩ : MA) = vs ++ [⟨fname, ⟨xk, xf, xn, xw, xla, xln, xlc, xma, xmn, xmc⟩⟩]) := hId (by have hvl : vs.length = fmn := own2.1; simp [← hvl])
      clear own2 own9 hm9 hat9 hlt9 HZB HZ HN2
      generalize vs ++ [(⟨⟨#[]⟩, VA.zero⟩ : MA)] = vz at *
      refine wpAnyH_take (i := 14) (v := ?_) rfl (by kernel_rfl) (by kernel_rfl) (by kernel_rfl) (fun _ _ _ h => h) (Or.inl ⟨by rfl, fun W hSw => ?_⟩) (by assumption) ?_
      rotate_left
      · (have hq := HSC.out W hSw); (try simp only [lgt, lgz, lgs]); go_simp; any_goals (with_reducible rfl)
      simp only [Act.put, lgt, lgz, lgs, lst, lsz, lss]
      refine wpAnyH_take (i := 16) (v := ?_) rfl (by kernel_rfl) (by kernel_rfl) (by kernel_rfl) (fun _ _ _ h => h) (Or.inl ⟨by rfl, fun W hSw => ?_⟩) (by assumption) ?_
      rotate_left
      · (have hq := HSC.out W hSw); (try simp only [lgt, lgz, lgs]); go_simp; any_goals (with_reducible rfl)
      simp only [Act.put, lgt, lgz, lgs, lst, lsz, lss]
      refine wpAnyH_take (i := 17) (v := ?_) rfl (by kernel_rfl) (by kernel_rfl) (by kernel_rfl) (fun _ _ _ h => h) (Or.inl ⟨by rfl, fun W hSw => ?_⟩) (by assumption) ?_
      rotate_left
      · (have hq := HSC.out W hSw); (try simp only [lgt, lgz, lgs]); go_simp; any_goals (with_reducible rfl)
      simp only [Act.put, lgt, lgz, lgs, lst, lsz, lss]
      refine wpAnyH_take (i := 18) (v := ?_) rfl (by kernel_rfl) (by kernel_rfl) (by kernel_rfl) (fun _ _ _ h => h) (Or.inl ⟨by rfl, fun W hSw => ?_⟩) (by assumption) ?_
      rotate_left
      · (have hq := HSC.out W hSw); (try simp only [lgt, lgz, lgs]); go_simp; any_goals (with_reducible rfl)
      simp only [Act.put, lgt, lgz, lgs, lst, lsz, lss]
      refine wpAnyH_ready (rs := [15, 19]) (by kernel_rfl) (by simp) ?_
      refine AllReadyH.cons rfl (fun K hK => ?_) (AllReadyH.cons rfl (fun K hK => ?_) AllReadyH.nil)
      · -- the element is stored into the row
        have c0 := HCELL.out 0 (by decide)
        have c1 := HCELL.out 1 (by decide)
        have c2 := HCELL.out 2 (by decide)
        have c3 := HCELL.out 3 (by decide)
        have c4 := HCELL.out 4 (by decide)
        have c5 := HCELL.out 5 (by decide)
        have c6 := HCELL.out 6 (by decide)
        have f0 := HROW.out.frozen (fmn * 7)
        have f1 := HROW.out.frozen (fmn * 7 + 1)
        have f2 := HROW.out.frozen (fmn * 7 + 2)
        have f3 := HROW.out.frozen (fmn * 7 + 3)
        have f4 := HROW.out.frozen (fmn * 7 + 4)
        have f5 := HROW.out.frozen (fmn * 7 + 5)
        have f6 := HROW.out.frozen (fmn * 7 + 6)
        have gl := HLT.out
        simp only [MA.enc, VA.enc, VA.zero, Nat.add_zero] at c0 c1 c2 c3 c4 c5 c6
        (try simp only [lgt, lgz, lgs])
        go_simp
        clear c0 c1 c2 c3 c4 c5 c6 f0 f1 f2 f3 f4 f5 f6 gl
        have hset := HROW.out.set7 (i := fmn) HFLN.out (⟨fname, ⟨xk, xf, xn, xw, xla, xln, xlc, xma, xmn, xmc⟩⟩ : MA)
        simp only [MA.enc, VA.enc] at hset
        have hms : Only g9 wc (((((((wc.setCell ⟨g9, fmn * 7, none⟩ (.string fname)).setCell ⟨g9, fmn * 7 + 1, none⟩ (.int .i64 xk)).setCell ⟨g9, fmn * 7 + 2, none⟩ (.bool xf)).setCell ⟨g9, fmn * 7 + 3, none⟩ (.int .i64 xn)).setCell ⟨g9, fmn * 7 + 4, none⟩ (.string xw)).setCell ⟨g9, fmn * 7 + 5, none⟩ (.slice xla xln xlc)).setCell ⟨g9, fmn * 7 + 6, none⟩ (.slice xma xmn xmc)) := by
          with_reducible repeat (first | exact Mod.refl _ _ | refine Only.set ?_ _ _)
        have HSET := hId hset
        have HMS := hId hms
        clear hset hms
        generalize (((((((wc.setCell ⟨g9, fmn * 7, none⟩ (.string fname)).setCell ⟨g9, fmn * 7 + 1, none⟩ (.int .i64 xk)).setCell ⟨g9, fmn * 7 + 2, none⟩ (.bool xf)).setCell ⟨g9, fmn * 7 + 3, none⟩ (.int .i64 xn)).setCell ⟨g9, fmn * 7 + 4, none⟩ (.string xw)).setCell ⟨g9, fmn * 7 + 5, none⟩ (.slice xla xln xlc)).setCell ⟨g9, fmn * 7 + 6, none⟩ (.slice xma xmn xmc)) = wd at *
        refine hK.out _ _ ⟨HHS.out.1.step HMS.out (fun k _ e => by subst e; exact HG9.out.1), (HMS.out.cell (p := ⟨ob, 6, none⟩) HOBC.out.lt (fun e => HG9.out.2.1 e.symm)).trans HHS.out.2⟩ (fun hHeld => ?_)
        clear hK K
        (try simp only [Act.put, lgt, lgz, lgs, lst, lsz, lss])
        have HROW1 := HSET
        have HHS1 : Hid (SM w1 q0 ob fname wd) := hId hHeld
        have HOB2 := hId (HOBC.out.mod HMS.out (fun e => HG9.out.2.1 e.symm))
        have HRB2 := hId (HRBC.out.mod HMS.out (fun e => HG9.out.2.2.1 e.symm))
        have HMM2 : Hid (Mod (fun k => k = ob ∨ blkOf fma = some k ∨ k = b) w wd) := hId (HMMC.out.step HMS.out (fun k hk e => by
          subst e
          rcases HG9.out.2.2.2 with h | h
          · exact .inr (.inl h)
          · omega))
        have HLT2 : Hid (g9 < wd.heap.size) := hId (Nat.lt_of_lt_of_le HLT.out HMS.out.size)
        clear HROW HHS HOBC HRBC HMMC HLT HSET HMS HCELL
        have HROW := HROW1
        have HHS := HHS1
        have HOBC := HOB2
        have HRBC := HRB2
        have HMMC := HMM2
        have HLT := HLT2
        clear HROW1 HHS1 HOB2 HRB2 HMM2 HLT2
        refine wpAnyH_ready (rs := [19]) (by kernel_rfl) (by simp) ?_
        refine AllReadyH.cons rfl (fun K hK => ?_) AllReadyH.nil
        -- the header is stored into the box
        have o4c := HOBC.out.cell 5
        have o4f := HOBC.out.frozen 5
        have o4l := HOBC.out.lt
        simp only [OF.cells, lqt, lqz, lqs, lst, lsz, lss] at o4c
        (try simp only [lgt, lgz, lgs])
        go_simp
        clear o4c o4f o4l
        refine hK.out _ _ ⟨HHS.out.1.step ((Mod.refl (fun k => k = ob) wd).setCell (p := ⟨ob, 5, none⟩) (.inl rfl) _) (fun k _ e => by subst e; exact HOQ.out), ((HOBC.out.set 5 (.slice (some ⟨g9, 0, none⟩) (fmn + 1) cap9)).cell 6).trans rfl⟩ (fun hHeld => ?_)
        clear hK K
        (try simp only [Act.put, lgt, lgz, lgs, lst, lsz, lss])
        have HMS : Hid (Only ob wd (wd.setCell ⟨ob, 5, none⟩ (.slice (some ⟨g9, 0, none⟩) (fmn + 1) cap9))) := hId ((Mod.refl (fun k => k = ob) wd).setCell (p := ⟨ob, 5, none⟩) (.inl rfl) _)
        have HOB2 := hId (HOBC.out.set 5 (.slice (some ⟨g9, 0, none⟩) (fmn + 1) cap9))
        have HROW1 := hId (HROW.out.mod HMS.out (fun k e e2 => by injection e with e; subst e; exact HG9.out.2.1 e2))
        have HRB2 := hId (HRBC.out.mod HMS.out (fun e => HOBB.out e.symm))
        have HMM2 : Hid (Mod (fun k => k = ob ∨ blkOf fma = some k ∨ k = b) w (wd.setCell ⟨ob, 5, none⟩ (.slice (some ⟨g9, 0, none⟩) (fmn + 1) cap9))) := hId (HMMC.out.step HMS.out (fun k hk e => .inl e))
        have HLT2 : Hid (g9 < (wd.setCell ⟨ob, 5, none⟩ (.slice (some ⟨g9, 0, none⟩) (fmn + 1) cap9)).heap.size) := hId (Nat.lt_of_lt_of_le HLT.out HMS.out.size)
        have HHS1 := hId hHeld
        have HROW := HROW1
        have HHS := HHS1
        have HOBC := HOB2
        have HRBC := HRB2
        have HMMC := HMM2
        have HLT := HLT2
        clear HROW1 HHS1 HOB2 HRB2 HMM2 HLT2
        generalize wd.setCell ⟨ob, 5, none⟩ (.slice (some ⟨g9, 0, none⟩) (fmn + 1) cap9) = wf at *
        refine wpAnyH_done (by kernel_rfl) ?_ _
        clear HHS hHeld
        have k3 := HRBC.out.frozen 3
        have k4 := HRBC.out.cell 3
        have kl := HRBC.out.lt
        simp only [RV.cells, lqt, lqz, lqs] at k4
        go_wp2_with fail
        go_end0
        have hrf := HRBC.out.set 3 (.bool false)
        have hmf : Only b wf (wf.setCell ⟨b, 3, none⟩ (.bool false)) := (Mod.refl (fun k => k = b) wf).setCell (p := ⟨b, 3, none⟩) (.inl rfl) _
        have hof := HOBC.out.mod hmf (fun e => HOBB.out e)
        have hwf := HROW.out.mod hmf (fun k e e2 => by injection e with e; subst e; exact HG9.out.2.2.1 e2)
        have hmm := HMMC.out.step hmf (fun k hk e => .inr (.inr e))
        rw [HSETL.out] at hwf
        exact ⟨rfl, hmm.mono (fun k hk e => by
          rcases e with e | e | e
          · subst e; exact HOBF.out
          · exact (HOV0.out.far' k e).1
          · subst e; exact hHB), .inr ⟨⟨true, name, items, mems⟩, q, { (⟨i, some ⟨sg, 0, none⟩, n + 1, sc, begins, done, ⟨ok, of, on, ow, ola, oln, olc, oma, omn, omc⟩, bad, pl⟩ : RV) with begins := false }, { (⟨ob, fla, fln, flc, fma, fmn, fmc, fname, fmp⟩ : OF) with ma := some ⟨g9, 0, none⟩, mn := fmn + 1, mc := cap9 } :: oq, rfl, rfl, rfl, rfl, rfl, rfl,
          HH.out.putM rfl HX.out HOV0.out HKV.out hmm HG9.out.2.2.2 hwf hof hrf rfl ⟨rfl, rfl, rfl⟩⟩⟩
      · -- the header is stored into the box
        have o4c := HOBC.out.cell 5
        have o4f := HOBC.out.frozen 5
        have o4l := HOBC.out.lt
        simp only [OF.cells, lqt, lqz, lqs, lst, lsz, lss] at o4c
        (try simp only [lgt, lgz, lgs])
        go_simp
        clear o4c o4f o4l
        refine hK.out _ _ ⟨HHS.out.1.step ((Mod.refl (fun k => k = ob) wc).setCell (p := ⟨ob, 5, none⟩) (.inl rfl) _) (fun k _ e => by subst e; exact HOQ.out), ((HOBC.out.set 5 (.slice (some ⟨g9, 0, none⟩) (fmn + 1) cap9)).cell 6).trans rfl⟩ (fun hHeld => ?_)
        clear hK K
        (try simp only [Act.put, lgt, lgz, lgs, lst, lsz, lss])
        have HMS : Hid (Only ob wc (wc.setCell ⟨ob, 5, none⟩ (.slice (some ⟨g9, 0, none⟩) (fmn + 1) cap9))) := hId ((Mod.refl (fun k => k = ob) wc).setCell (p := ⟨ob, 5, none⟩) (.inl rfl) _)
        have HOB2 := hId (HOBC.out.set 5 (.slice (some ⟨g9, 0, none⟩) (fmn + 1) cap9))
        have HROW1 := hId (HROW.out.mod HMS.out (fun k e e2 => by injection e with e; subst e; exact HG9.out.2.1 e2))
        have HRB2 := hId (HRBC.out.mod HMS.out (fun e => HOBB.out e.symm))
        have HMM2 : Hid (Mod (fun k => k = ob ∨ blkOf fma = some k ∨ k = b) w (wc.setCell ⟨ob, 5, none⟩ (.slice (some ⟨g9, 0, none⟩) (fmn + 1) cap9))) := hId (HMMC.out.step HMS.out (fun k hk e => .inl e))
        have HLT2 : Hid (g9 < (wc.setCell ⟨ob, 5, none⟩ (.slice (some ⟨g9, 0, none⟩) (fmn + 1) cap9)).heap.size) := hId (Nat.lt_of_lt_of_le HLT.out HMS.out.size)
        have HHS1 := hId hHeld
        have HCELL := hId (fun j hj => (HMS.out.cell (p := ⟨g9, fmn * 7 + j, none⟩) HLT.out (fun e => HG9.out.2.1 e)).trans (HCELL.out j hj))
        have HROW := HROW1
        have HHS := HHS1
        have HOBC := HOB2
        have HRBC := HRB2
        have HMMC := HMM2
        have HLT := HLT2
        clear HROW1 HHS1 HOB2 HRB2 HMM2 HLT2
        generalize wc.setCell ⟨ob, 5, none⟩ (.slice (some ⟨g9, 0, none⟩) (fmn + 1) cap9) = we at *
        clear hHeld
        have hHeld := HHS.out
        refine wpAnyH_ready (rs := [15]) (by kernel_rfl) (by simp) ?_
        refine AllReadyH.cons rfl (fun K hK => ?_) AllReadyH.nil
        -- the element is stored into the row
        have c0 := HCELL.out 0 (by decide)
        have c1 := HCELL.out 1 (by decide)
        have c2 := HCELL.out 2 (by decide)
        have c3 := HCELL.out 3 (by decide)
        have c4 := HCELL.out 4 (by decide)
        have c5 := HCELL.out 5 (by decide)
        have c6 := HCELL.out 6 (by decide)
        have f0 := HROW.out.frozen (fmn * 7)
        have f1 := HROW.out.frozen (fmn * 7 + 1)
        have f2 := HROW.out.frozen (fmn * 7 + 2)
        have f3 := HROW.out.frozen (fmn * 7 + 3)
        have f4 := HROW.out.frozen (fmn * 7 + 4)
        have f5 := HROW.out.frozen (fmn * 7 + 5)
        have f6 := HROW.out.frozen (fmn * 7 + 6)
        have gl := HLT.out
        simp only [MA.enc, VA.enc, VA.zero, Nat.add_zero] at c0 c1 c2 c3 c4 c5 c6
        (try simp only [lgt, lgz, lgs])
        go_simp
        clear c0 c1 c2 c3 c4 c5 c6 f0 f1 f2 f3 f4 f5 f6 gl
        have hset := HROW.out.set7 (i := fmn) HFLN.out (⟨fname, ⟨xk, xf, xn, xw, xla, xln, xlc, xma, xmn, xmc⟩⟩ : MA)
        simp only [MA.enc, VA.enc] at hset
        have hms : Only g9 we (((((((we.setCell ⟨g9, fmn * 7, none⟩ (.string fname)).setCell ⟨g9, fmn * 7 + 1, none⟩ (.int .i64 xk)).setCell ⟨g9, fmn * 7 + 2, none⟩ (.bool xf)).setCell ⟨g9, fmn * 7 + 3, none⟩ (.int .i64 xn)).setCell ⟨g9, fmn * 7 + 4, none⟩ (.string xw)).setCell ⟨g9, fmn * 7 + 5, none⟩ (.slice xla xln xlc)).setCell ⟨g9, fmn * 7 + 6, none⟩ (.slice xma xmn xmc)) := by
          with_reducible repeat (first | exact Mod.refl _ _ | refine Only.set ?_ _ _)
        have HSET := hId hset
        have HMS := hId hms
        clear hset hms
        generalize (((((((we.setCell ⟨g9, fmn * 7, none⟩ (.string fname)).setCell ⟨g9, fmn * 7 + 1, none⟩ (.int .i64 xk)).setCell ⟨g9, fmn * 7 + 2, none⟩ (.bool xf)).setCell ⟨g9, fmn * 7 + 3, none⟩ (.int .i64 xn)).setCell ⟨g9, fmn * 7 + 4, none⟩ (.string xw)).setCell ⟨g9, fmn * 7 + 5, none⟩ (.slice xla xln xlc)).setCell ⟨g9, fmn * 7 + 6, none⟩ (.slice xma xmn xmc)) = wd at *
        refine hK.out _ _ ⟨HHS.out.1.step HMS.out (fun k _ e => by subst e; exact HG9.out.1), (HMS.out.cell (p := ⟨ob, 6, none⟩) HOBC.out.lt (fun e => HG9.out.2.1 e.symm)).trans HHS.out.2⟩ (fun hHeld => ?_)
        clear hK K
        (try simp only [Act.put, lgt, lgz, lgs, lst, lsz, lss])
        have HROW1 := HSET
        have HHS1 : Hid (SM w1 q0 ob fname wd) := hId hHeld
        have HOB2 := hId (HOBC.out.mod HMS.out (fun e => HG9.out.2.1 e.symm))
        have HRB2 := hId (HRBC.out.mod HMS.out (fun e => HG9.out.2.2.1 e.symm))
        have HMM2 : Hid (Mod (fun k => k = ob ∨ blkOf fma = some k ∨ k = b) w wd) := hId (HMMC.out.step HMS.out (fun k hk e => by
          subst e
          rcases HG9.out.2.2.2 with h | h
          · exact .inr (.inl h)
          · omega))
        have HLT2 : Hid (g9 < wd.heap.size) := hId (Nat.lt_of_lt_of_le HLT.out HMS.out.size)
        clear HROW HHS HOBC HRBC HMMC HLT HSET HMS HCELL
        have HROW := HROW1
        have HHS := HHS1
        have HOBC := HOB2
        have HRBC := HRB2
        have HMMC := HMM2
        have HLT := HLT2
        clear HROW1 HHS1 HOB2 HRB2 HMM2 HLT2
        refine wpAnyH_done (by kernel_rfl) ?_ _
        clear HHS hHeld
        have k3 := HRBC.out.frozen 3
        have k4 := HRBC.out.cell 3
        have kl := HRBC.out.lt
        simp only [RV.cells, lqt, lqz, lqs] at k4
        go_wp2_with fail
        go_end0
        have hrf := HRBC.out.set 3 (.bool false)
        have hmf : Only b wd (wd.setCell ⟨b, 3, none⟩ (.bool false)) := (Mod.refl (fun k => k = b) wd).setCell (p := ⟨b, 3, none⟩) (.inl rfl) _
        have hof := HOBC.out.mod hmf (fun e => HOBB.out e)
        have hwf := HROW.out.mod hmf (fun k e e2 => by injection e with e; subst e; exact HG9.out.2.2.1 e2)
        have hmm := HMMC.out.step hmf (fun k hk e => .inr (.inr e))
        rw [HSETL.out] at hwf
        exact ⟨rfl, hmm.mono (fun k hk e => by
          rcases e with e | e | e
          · subst e; exact HOBF.out
          · exact (HOV0.out.far' k e).1
          · subst e; exact hHB), .inr ⟨⟨true, name, items, mems⟩, q, { (⟨i, some ⟨sg, 0, none⟩, n + 1, sc, begins, done, ⟨ok, of, on, ow, ola, oln, olc, oma, omn, omc⟩, bad, pl⟩ : RV) with begins := false }, { (⟨ob, fla, fln, flc, fma, fmn, fmc, fname, fmp⟩ : OF) with ma := some ⟨g9, 0, none⟩, mn := fmn + 1, mc := cap9 } :: oq, rfl, rfl, rfl, rfl, rfl, rfl,
          HH.out.putM rfl HX.out HOV0.out HKV.out hmm HG9.out.2.2.2 hwf hof hrf rfl ⟨rfl, rfl, rfl⟩⟩⟩
end Go.Proofs.YtjmnkdkdjnmejaaGreatDoor
