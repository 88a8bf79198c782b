/- Reading values: the program's reader reads a member's name and the colon. Conditions: a text of at most 240000 bytes. -/
import Derived.Test.YtjmnkdkdjnmejaaGreatDoorRvAtGrp
import Derived.Test.YtjmnkdkdjnmejaaGreatDoorWrdsLawGrp
namespace Go.Proofs.YtjmnkdkdjnmejaaGreatDoor
open Go.RowKit
set_option linter.unusedVariables false
set_option linter.unusedSimpArgs false

set_option maxHeartbeats 1500000
set_option maxRecDepth 100000 in
theorem val_member (s : ByteArray) (r : RV) (B b : Nat) (w : World) (f : RFr) (q : List RFr) (o : OF) (oq : List OF) (h : RdAt w B b s r false (f :: q) (o :: oq)) (hf : f.mem = true) (hB : B ≤ w.heap.size) (hs : s.size ≤ 240000)
    (hlen : q.length ≤ 300000) (hd : r.done = false) (hbad : r.bad = false) (hbg : r.begins = false) :
    Calls Tryz.prog 36 #[.pointer (some ⟨b, 0, none⟩)] w (RAt B b s (memS s.data.toList f q r.i) w) := by
  have hsn : r.sn = oq.length + 1 := by have := h.sk.1; simpa using this.symm
  have hqo : q.length = oq.length := Frs.len _ _ _ h.fr.2
  have hrd := h.rd
  have hsk := h.sk
  obtain ⟨sg, hA, -, htg, -, -⟩ := hsk.form (by omega)
  rw [hA] at hsk
  have hc0 : w.cell? ⟨sg, oq.length, none⟩ = some (.pointer (some ⟨o.b, 0, none⟩)) := by
    have hl : oq.length < ((o :: oq).reverse.map (·.b)).length := by simp
    have := hsk.cell1 hl
    simpa [ptrE] using this
  have hHB := h.hB
  have hir := h.hi
  have HH := hId h
  obtain ⟨i, sk, sn, sc, begins, done, ⟨ok, of, on, ow, ola, oln, olc, oma, omn, omc⟩, bad, pl⟩ := r
  simp only at hsn hA hd hbad hbg hir
  subst hA hd hbad hbg
  obtain ⟨n, hn⟩ : ∃ n, oq.length = n := ⟨_, rfl⟩
  rw [hn] at hsn hc0 hqo
  have hn3 : n ≤ 300000 := by omega
  have HN0 := hId hn
  clear hn h hsk htg hqo
  subst hsn
  have hni : ((n + 1 : Nat) : Int) = (n : Int) + 1 := by omega
  have c2 := hrd.cell 2
  have bl := hrd.lt
  simp only [RV.cells, lqt, lqz, lqs] at c2
  have HRD := hId hrd
  clear hrd
  obtain ⟨ob, hob⟩ : ∃ ob, o.b = ob := ⟨_, rfl⟩
  rw [hob] at hc0
  obtain ⟨L, hL⟩ : ∃ L, s.data.toList = L := ⟨_, rfl⟩
  have HL := hId hL
  have HOB := hId hob
  rw [hL]
  clear hob hL
  go_enter Tryz.func36, Tryz.ntmps36
  go_wp2_with fail
  go_quiet (fail)
  clear c2 bl hc0
  have HRD1 := hId (HRD.out.mod (show New w (w.drewN nq) from (by with_reducible (repeat (first | exact Mod.refl _ _ | refine Mod.drewN ?_ _ | refine Mod.drew ?_ | refine Mod.alloc ?_ _)))) (fun e => e))
  have hsk1 := val_skip s _ b _ (by omega) hir HRD1.out
  simp only [HL.out] at hsk1
  obtain ⟨K, hK⟩ : ∃ K, spanAt blankB L i = K := ⟨_, rfl⟩
  rw [hK] at hsk1
  have HK := hId hK
  have hKs : K ≤ s.size := by rw [← hK, ← HL.out]; exact spanL_size _ _ hir
  have hKi : i ≤ K := by rw [← hK]; exact spanAt_ge _ _ _
  obtain ⟨c, hc⟩ : ∃ c, topAt L K = c := ⟨_, rfl⟩
  rw [hc] at hsk1
  have HC := hId hc
  clear hK hc
  go_wp2_with fail
  refine hsk1.mono ?_
  clear hsk1
  rintro e w2 ⟨rfl, hb2, hm2⟩
  have HRD2 := hId hb2
  have HM2 : Hid (Only b w w2) := hId ((show Only b w (w.drewN nq) from (by with_reducible (repeat (first | exact Mod.refl _ _ | refine Mod.drewN ?_ _ | refine Mod.drew ?_ | refine Mod.alloc ?_ _)))).trans hm2)
  have HA2 := hId (HH.out.moved HM2.out HRD2.out ⟨rfl, rfl, rfl⟩ hKi hKs)
  clear hb2 hm2
  have c1 := HRD2.out.cell 1
  have c0 := HRD2.out.cell 0
  have bl := HRD2.out.lt
  simp only [RV.cells, lqt, lqz, lqs] at c0 c1
  by_cases h34 : c = 34
  · subst h34
    have hlt : K < s.size := by
      have h1 := topAt_lt (s := L) (i := K) (by rw [HC.out]; decide)
      rw [← HL.out] at h1
      exact h1
    have hwd := fun W => val_words s K W (by omega) hlt
    simp only [HL.out] at hwd
    generalize hwq : wordsOf (L.drop (K + 1)) = wq at hwd
    have HWQ := hId hwq
    clear hwq
    go_upto_region 3 with (fail)
    have HSX : Hid (∀ W, New w2 W → W.cell? ⟨b, 0, none⟩ = some (.string s) ∧ W.cell? ⟨b, 1, none⟩ = some (.int .i64 (K : Int)) ∧ b < W.heap.size) := hId (fun W hW => by
      have h1 := HRD2.out.mod hW (fun e => e)
      exact ⟨(h1.cell 0).trans rfl, (h1.cell 1).trans rfl, h1.lt⟩)
    clear c0 c1 bl
    refine wp_region_held_drew (S := New w2) (by kernel_rfl) (by with_reducible (repeat (first | exact Mod.refl _ _ | refine Mod.drewN ?_ _ | refine Mod.drew ?_ | refine Mod.alloc ?_ _))) (fun hHeld => ?_)
    simp only [List.size_toArray, List.length_cons, List.length_nil, Nat.reduceAdd]
    refine wpAnyH_take (i := 0) (v := ?_) rfl (by kernel_rfl) (by kernel_rfl) (by kernel_rfl) (fun _ _ _ h => h) (Or.inl ⟨by rfl, fun W hSw => ?_⟩) (by assumption) ?_
    rotate_left
    · (have hq := HSX.out W hSw); (try simp only [lgt, lgz, lgs]); go_simp; any_goals (with_reducible rfl)
    simp only [Act.put, lgt, lgz, lgs, lst, lsz, lss]
    refine wpAnyH_take (i := 1) (v := ?_) rfl (by kernel_rfl) (by kernel_rfl) (by kernel_rfl) (fun _ _ _ h => h) (Or.inl ⟨by rfl, fun W hSw => ?_⟩) (by assumption) ?_
    rotate_left
    · (have hq := HSX.out W hSw); (try simp only [lgt, lgz, lgs]); go_simp; any_goals (with_reducible rfl)
    simp only [Act.put, lgt, lgz, lgs, lst, lsz, lss]
    refine wpAnyH_take (i := 2) (v := ?_) rfl (by kernel_rfl) (by kernel_rfl) (by kernel_rfl) (fun _ _ _ h => h) (Or.inl ⟨by rfl, fun W hSw => ?_⟩) (by assumption) ?_
    rotate_left
    · (have hq := HSX.out W hSw); (try simp only [lgt, lgz, lgs]); go_simp; any_goals (with_reducible rfl)
    simp only [Act.put, lgt, lgz, lgs, lst, lsz, lss]
    refine wpAnyH_take (i := 3) (v := ?_) rfl (by kernel_rfl) (by kernel_rfl) (by kernel_rfl) (fun _ _ _ h => h) (Or.inl ⟨by rfl, fun W hSw => ?_⟩) (by assumption) ?_
    rotate_left
    · (have hq := HSX.out W hSw); (try simp only [lgt, lgz, lgs]); go_simp; any_goals (with_reducible rfl)
    simp only [Act.put, lgt, lgz, lgs, lst, lsz, lss]
    refine wpAnyH_take (i := 4) (v := ?_) rfl (by kernel_rfl) (by kernel_rfl) (by kernel_rfl) (fun _ _ _ h => h) (Or.inl ⟨by rfl, fun W hSw => ?_⟩) (by assumption) ?_
    rotate_left
    · (have hq := HSX.out W hSw); (try simp only [lgt, lgz, lgs]); go_simp; any_goals (with_reducible rfl)
    simp only [Act.put, lgt, lgz, lgs, lst, lsz, lss]
    refine wpAnyH_take (i := 5) (v := ?_) rfl (by kernel_rfl) (by kernel_rfl) (by kernel_rfl) (fun _ _ _ h => h) (Or.inl ⟨by rfl, fun W hSw => ?_⟩) (by assumption) ?_
    rotate_left
    · (have hq := HSX.out W hSw); (try simp only [lgt, lgz, lgs]); go_simp; any_goals (with_reducible rfl)
    simp only [Act.put, lgt, lgz, lgs, lst, lsz, lss]
    refine wpAnyH_take (i := 6) (v := ?_) rfl (by kernel_rfl) (by kernel_rfl) (by kernel_rfl) (fun _ _ _ h => h) (Or.inl ⟨by rfl, fun W hSw => ?_⟩) (by assumption) ?_
    rotate_left
    · (have hq := HSX.out W hSw); (try simp only [lgt, lgz, lgs]); go_simp; any_goals (with_reducible rfl)
    simp only [Act.put, lgt, lgz, lgs, lst, lsz, lss]
    refine wpAnyH_take (i := 7) (v := ?_) rfl (by kernel_rfl) (by kernel_rfl) (by kernel_rfl) (fun _ _ _ h => h) (Or.inl ⟨by rfl, fun W hSw => ?_⟩) (by assumption) ?_
    rotate_left
    · (have hq := HSX.out W hSw); (try simp only [lgt, lgz, lgs]); go_simp; any_goals (with_reducible rfl)
    simp only [Act.put, lgt, lgz, lgs, lst, lsz, lss]
    refine wpAnyH_ready (rs := [8]) (by kernel_rfl) (by simp) ?_
    refine AllReadyH.cons rfl (fun K hK => ?_) AllReadyH.nil
    (try simp only [lgt, lgz, lgs])
    go_simp
    refine (hwd _).mono ?_
    clear hwd
    rintro e w3 ⟨x, m, ok3, rfl, hm3, hor⟩
    have HN3 : Hid (New w2 w3) := hId ((show New w2 w2.drew from (by with_reducible (repeat (first | exact Mod.refl _ _ | refine Mod.drewN ?_ _ | refine Mod.drew ?_ | refine Mod.alloc ?_ _)))).trans hm3)
    clear hm3
    go_wp2_with fail
    refine hK.out _ _ HN3.out (fun hHeld => ?_)
    clear hK K
    (try simp only [Act.put, lgt, lgz, lgs, lst, lsz, lss])
    refine wpAnyH_take (i := 9) (v := ?_) rfl (by kernel_rfl) (by kernel_rfl) (by kernel_rfl) (fun _ _ _ h => h) (Or.inl ⟨by rfl, fun W hSw => ?_⟩) (by assumption) ?_
    rotate_left
    · (have hq := HSX.out W hSw); (try simp only [lgt, lgz, lgs]); go_simp; any_goals (with_reducible rfl)
    simp only [Act.put, lgt, lgz, lgs, lst, lsz, lss]
    refine wpAnyH_take (i := 10) (v := ?_) rfl (by kernel_rfl) (by kernel_rfl) (by kernel_rfl) (fun _ _ _ h => h) (Or.inl ⟨by rfl, fun W hSw => ?_⟩) (by assumption) ?_
    rotate_left
    · (have hq := HSX.out W hSw); (try simp only [lgt, lgz, lgs]); go_simp; any_goals (with_reducible rfl)
    simp only [Act.put, lgt, lgz, lgs, lst, lsz, lss]
    refine wpAnyH_take (i := 11) (v := ?_) rfl (by kernel_rfl) (by kernel_rfl) (by kernel_rfl) (fun _ _ _ h => h) (Or.inl ⟨by rfl, fun W hSw => ?_⟩) (by assumption) ?_
    rotate_left
    · (have hq := HSX.out W hSw); (try simp only [lgt, lgz, lgs]); go_simp; any_goals (with_reducible rfl)
    simp only [Act.put, lgt, lgz, lgs, lst, lsz, lss]
    refine wpAnyH_take (i := 12) (v := ?_) rfl (by kernel_rfl) (by kernel_rfl) (by kernel_rfl) (fun _ _ _ h => h) (Or.inl ⟨by rfl, fun W hSw => ?_⟩) (by assumption) ?_
    rotate_left
    · (have hq := HSX.out W hSw); (try simp only [lgt, lgz, lgs]); go_simp; any_goals (with_reducible rfl)
    simp only [Act.put, lgt, lgz, lgs, lst, lsz, lss]
    refine wpAnyH_take (i := 13) (v := ?_) rfl (by kernel_rfl) (by kernel_rfl) (by kernel_rfl) (fun _ _ _ h => h) (Or.inl ⟨by rfl, fun W hSw => ?_⟩) (by assumption) ?_
    rotate_left
    · (have hq := HSX.out W hSw); (try simp only [lgt, lgz, lgs]); go_simp; any_goals (with_reducible rfl)
    simp only [Act.put, lgt, lgz, lgs, lst, lsz, lss]
    refine wpAnyH_take (i := 14) (v := ?_) rfl (by kernel_rfl) (by kernel_rfl) (by kernel_rfl) (fun _ _ _ h => h) (Or.inl ⟨by rfl, fun W hSw => ?_⟩) (by assumption) ?_
    rotate_left
    · (have hq := HSX.out W hSw); (try simp only [lgt, lgz, lgs]); go_simp; any_goals (with_reducible rfl)
    simp only [Act.put, lgt, lgz, lgs, lst, lsz, lss]
    refine wpAnyH_take (i := 15) (v := ?_) rfl (by kernel_rfl) (by kernel_rfl) (by kernel_rfl) (fun _ _ _ h => h) (Or.inl ⟨by rfl, fun W hSw => ?_⟩) (by assumption) ?_
    rotate_left
    · (have hq := HSX.out W hSw); (try simp only [lgt, lgz, lgs]); go_simp; any_goals (with_reducible rfl)
    simp only [Act.put, lgt, lgz, lgs, lst, lsz, lss]
    refine wpAnyH_done (by kernel_rfl) ?_ _
    clear hHeld
    have HRD3 := hId (HRD2.out.mod HN3.out (fun e => e))
    have HA3 := hId (HA2.out.new HN3.out)
    have HM3 : Hid (Only b w w3) := hId (HM2.out.trans (HN3.out.mono (fun _ _ e => e.elim)))
    rcases hor with ⟨hn1, rfl⟩ | ⟨l, k, hn1, rfl, rfl, hm⟩
    · have HNN := hId hn1
      clear hn1
      have c1 := HRD3.out.cell 1
      have bl := HRD3.out.lt
      simp only [RV.cells, lqt, lqz, lqs] at c1
      have hfa := val_failAt s _ B b K w3 HRD3.out rfl hKs hHB
      go_wp2_with fail
      refine hfa.mono ?_
      clear hfa
      rintro e w4 h3
      obtain ⟨rfl, hm4, ha4⟩ := h3.after (HM3.out.fromB hHB)
      have HM4 := hId hm4
      have HA4 := hId ha4
      clear h3 hm4 ha4
      go_wp2_with fail
      go_end0
      have e1 : memS L f q i = .bad K := by
        unfold memS
        rw [HK.out, if_neg (by rw [HC.out]; simp), HWQ.out, HNN.out]
      rw [e1]
      exact ⟨rfl, HM4.out, HA4.out⟩
    · have HWS := hId (words_some (HWQ.out.trans hn1))
      have HNN := hId hn1
      clear hn1
      obtain ⟨nm, hnm⟩ : ∃ nm : ByteArray, (⟨l.toArray⟩ : ByteArray) = nm := ⟨_, rfl⟩
      have HNM := hId hnm
      rw [hnm]
      clear hnm
      have hmap := HA3.out.fr.1.map
      rw [hf, if_pos rfl] at hmap
      obtain ⟨g, hg, hBg, hfm, -⟩ := hmap
      have HFM := hId hfm
      have HG := hId hg
      have hbk := HA3.out.fr.1.blk
      have hBo := HA3.out.fr.1.hB
      rw [HOB.out] at hBo
      rw [hf, HOB.out] at hbk
      have HBK := hId hbk
      have o7 := hbk.cell 7
      have ol := hbk.lt
      have o6 := hbk.cell 6
      have f6 := hbk.frozen 6
      simp only [OF.cells, lqt, lqz, lqs, hg] at o6 o7
      have hlk := hfm.look (P := Tryz.prog) Tryz.underlying86 Tryz.underlying9 (show (zeroValue 4).run Tryz.prog w3 = .ok (.bool false) w3 by kernel_rfl) nm
      have hsf : seenF (f.seen false) nm = .bool (f.has nm) := by
        rw [← RFr.has_any]
        simp [seenF, RFr.seen]
      rw [hsf] at hlk
      have hlk : (Instr.lookup 86 (.map (some g)) (.string nm) false).run Tryz.prog w3 = .ok (.bool (f.has nm)) w3 := hlk
      clear hfm hbk hsf
      generalize hhs : f.has nm = hs9 at hlk
      have HHS := hId hhs
      clear hhs
      cases hs9 with
      | true =>
        have c1 := HRD3.out.cell 1
        have bl := HRD3.out.lt
        simp only [RV.cells, lqt, lqz, lqs] at c1
        have hfa := val_failAt s _ B b K w3 HRD3.out rfl hKs hHB
        go_wp2_with fail
        refine hfa.mono ?_
        clear hfa
        rintro e w4 h3
        obtain ⟨rfl, hm4, ha4⟩ := h3.after (HM3.out.fromB hHB)
        have HM4 := hId hm4
        have HA4 := hId ha4
        clear h3 hm4 ha4
        go_wp2_with fail
        go_end0
        have e1 : memS L f q i = .bad K := by
          unfold memS
          rw [HK.out, if_neg (by rw [HC.out]; simp), HWQ.out, HNN.out]
          simp only
          rw [if_pos (by rw [HNM.out, HHS.out])]
        rw [e1]
        exact ⟨rfl, HM4.out, HA4.out⟩
      | false =>
        have hob9 : Only ob w3 (w3.setCell ⟨ob, 6, none⟩ (.string nm)) := (Mod.refl (fun k => k = ob) w3).setCell (p := ⟨ob, 6, none⟩) (.inl rfl) _
        have hgo : ob ≠ g := HFM.out.ne_blk HBK.out.tb
        have hgb : b ≠ g := HFM.out.ne_blk HRD3.out.tb
        have hbo : ob ≠ b := HBK.out.ne HRD3.out (by decide)
        obtain ⟨st, w5, hrun, hfe, ho5, hz5⟩ := run_mapEntry (P := Tryz.prog) (HFM.out.mod hob9 (fun e => hgo e.symm)) Tryz.underlying86 Tryz.underlying9 (show (zeroValue 4).run Tryz.prog _ = .ok (.bool false) _ by kernel_rfl) nm
        obtain ⟨w6, hrun2, hf6, ho6, hz6⟩ := run_entryStore (P := Tryz.prog) hfe 86 (.bool true)
        have hsf : seenF (f.seen false) nm = .bool false := by
          have h1 := RFr.has_any f nm
          rw [HHS.out] at h1
          simp [seenF, RFr.seen, h1]
        rw [hsf] at hrun
        have hrun : (Instr.mapEntry 86 (.map (some g)) (.string nm)).run Tryz.prog (w3.setCell ⟨ob, 6, none⟩ (.string nm)) = .ok (.tuple #[.bool false, goInt st]) w5 := hrun
        have hrun2 : (Instr.entryStore 86 (.map (some g)) (.int .i64 (st : Int)) (.bool true)).run Tryz.prog w5 = .ok () w6 := hrun2
        have M6 : Mod (fun k => k = b ∨ k = ob ∨ k = g) w3 w6 := (hob9.mono (fun k _ e => .inr (.inl e))).trans ((ho5.trans ho6).mono (fun k _ e => .inr (.inr e)))
        have HM6 := hId M6
        have hbk6 := (HBK.out.set 6 (.string nm)).mod (ho5.trans ho6) hgo
        have HBK6 := hId hbk6
        have HF6 := hId hf6
        have HRD6 := hId ((HRD3.out.mod hob9 (fun e => hbo e.symm)).mod (ho5.trans ho6) hgb)
        have z1 := HRD6.out.frozen 1
        have k1 := HRD6.out.cell 1
        have bl := HRD6.out.lt
        simp only [RV.cells, lqt, lqz, lqs] at k1
        clear M6 hbk6 hf6 hob9 hfe ho5 ho6 hz5 hz6 hsf
        have hm0 : m = ((K + 1 + k : Nat) : Int) := hm
        obtain ⟨J, hJ⟩ : ∃ J, K + 1 + k = J := ⟨_, rfl⟩
        rw [hJ] at hm0
        have HJ := hId hJ
        clear hJ hm
        subst hm0
        go_upto_region 8 with (fail)
        clear z1 k1 bl hrun hrun2 o6 o7 ol f6
        have HRD7 := hId (HRD6.out.set 1 (.int .i64 (J : Int)))
        have HO7 : Hid (Only b w6 (w6.setCell ⟨b, 1, none⟩ (.int .i64 (J : Int)))) := hId ((Mod.refl (fun k => k = b) w6).setCell (p := ⟨b, 1, none⟩) (.inl rfl) _)
        generalize w6.setCell ⟨b, 1, none⟩ (.int .i64 (J : Int)) = w7 at *
        have hJs : J ≤ s.size := by
          have h1 := HWS.out.2.1
          rw [List.length_drop, ← HL.out] at h1
          have h2 : s.data.toList.length = s.size := rfl
          have h3 := HJ.out
          omega
        have hJK : K ≤ J := by have h3 := HJ.out; omega
        have hM7 : Mod (fun k => k = b ∨ k = ob ∨ k = g) w3 w7 := HM6.out.trans (HO7.out.mono (fun k _ e => .inl e))
        have hA7 := HA3.out.named hf HG.out HHS.out (by rw [HOB.out]; exact hM7) (by rw [HOB.out]; simpa [OF.cells, HG.out] using HBK6.out.mod HO7.out hbo) (HF6.out.mod HO7.out (fun e => hgb e.symm)) (r' := ⟨J, some ⟨sg, 0, none⟩, n + 1, sc, false, false, ⟨ok, of, on, ow, ola, oln, olc, oma, omn, omc⟩, false, pl⟩) HRD7.out ⟨rfl, rfl, rfl⟩ hJK hJs
        have HA7 := hId hA7
        have HM7 : Hid (Mod (From B) w w7) := hId ((HM3.out.fromB hHB).trans (hM7.mono (fun k _ e => by
          rcases e with e | e | e
          · subst e; exact hHB
          · subst e; exact hBo
          · subst e; exact hBg)))
        clear hA7 hM7 HM6 HF6 HBK6 HRD6 HO7
        have hsk2 := val_skip s _ b w7 (by omega) hJs HA7.out.rd
        simp only [HL.out] at hsk2
        obtain ⟨K2, hK2⟩ : ∃ K2, spanAt blankB L J = K2 := ⟨_, rfl⟩
        rw [hK2] at hsk2
        have HK2 := hId hK2
        have hK2s : K2 ≤ s.size := by rw [← hK2, ← HL.out]; exact spanL_size _ _ hJs
        have hK2i : J ≤ K2 := by rw [← hK2]; exact spanAt_ge _ _ _
        obtain ⟨c2, hc2⟩ : ∃ c, topAt L K2 = c := ⟨_, rfl⟩
        rw [hc2] at hsk2
        have HC2 := hId hc2
        clear hK2 hc2
        go_wp2_with fail
        refine hsk2.mono ?_
        clear hsk2
        rintro e w8 ⟨rfl, hb8, hm8⟩
        have HRD8 := hId hb8
        have HM8 : Hid (Mod (From B) w w8) := hId (HM7.out.trans (hm8.fromB hHB))
        have HA8 := hId (HA7.out.moved hm8 hb8 ⟨rfl, rfl, rfl⟩ hK2i hK2s)
        clear hb8 hm8
        have c1 := HRD8.out.cell 1
        have bl := HRD8.out.lt
        have z1 := HRD8.out.frozen 1
        have c3 := HRD8.out.cell 3
        have z3 := HRD8.out.frozen 3
        simp only [RV.cells, lqt, lqz, lqs] at c1 c3
        have e0 : memS L f q i = if c2 ≠ 58 then .bad K2 else .run true ({ f with name := nm } :: q) (K2 + 1) := by
          unfold memS
          rw [HK.out, if_neg (by rw [HC.out]; simp), HWQ.out, HNN.out]
          simp only
          rw [if_neg (by rw [HNM.out, HHS.out]; simp), HJ.out, HK2.out, HC2.out, HNM.out]
        have HE0 := hId e0
        clear e0
        by_cases h58 : c2 = 58
        · subst h58
          have hlt2 : K2 < s.size := by
            have h1 := topAt_lt (s := L) (i := K2) (by rw [HC2.out]; decide)
            rw [← HL.out] at h1
            exact h1
          have HRD9 := hId ((HRD8.out.set 1 (.int .i64 ((K2 : Int) + 1))).set 3 (.bool true))
          have HO9 : Hid (Only b w8 ((w8.setCell ⟨b, 1, none⟩ (.int .i64 ((K2 : Int) + 1))).setCell ⟨b, 3, none⟩ (.bool true))) := hId (((Mod.refl (fun k => k = b) w8).setCell (p := ⟨b, 1, none⟩) (.inl rfl) _).setCell (p := ⟨b, 3, none⟩) (.inl rfl) _)
          have hk9 : (K2 : Int) + 1 ≤ 300000 := by omega
          have hk8 : 0 ≤ (K2 : Int) := by omega
          go_wp2_with fail
          go_end0
          rw [HE0.out, if_neg (by simp)]
          refine ⟨rfl, HM8.out.trans (HO9.out.fromB hHB), _, _, rfl, rfl, rfl, rfl, HA8.out.moved HO9.out (r' := ⟨K2 + 1, some ⟨sg, 0, none⟩, n + 1, sc, true, false, ⟨ok, of, on, ow, ola, oln, olc, oma, omn, omc⟩, false, pl⟩) HRD9.out ⟨rfl, rfl, rfl⟩ (Nat.le_succ _) hlt2⟩
        · have hcn : ((c2.toNat : Int) != 58) = true := by
            have : c2.toNat ≠ 58 := fun e => h58 (UInt8.toNat_inj.1 e)
            simp; omega
          have hfa := val_failAt s _ B b K2 w8 HRD8.out rfl hK2s hHB
          go_wp2_with fail
          refine hfa.mono ?_
          clear hfa
          rintro e w9 h3
          obtain ⟨rfl, hm9, ha9⟩ := h3.after HM8.out
          have HM9 := hId hm9
          have HA9 := hId ha9
          clear h3 hm9 ha9
          go_wp2_with fail
          go_end0
          rw [HE0.out, if_pos h58]
          exact ⟨rfl, HM9.out, HA9.out⟩
  · have hcn : ((c.toNat : Int) != 34) = true := by
      have : c.toNat ≠ 34 := fun e => h34 (UInt8.toNat_inj.1 e)
      simp; omega
    have hfa := val_failAt s _ B b K w2 HRD2.out rfl hKs hHB
    go_wp2_with fail
    refine hfa.mono ?_
    clear hfa
    rintro e w3 h3
    obtain ⟨rfl, hm3, ha3⟩ := h3.after (HM2.out.fromB hHB)
    go_wp2_with fail
    go_end0
    have e1 : memS L f q i = .bad K := by
      unfold memS
      rw [HK.out, if_pos (by rw [HC.out]; exact h34)]
    rw [e1]
    exact ⟨rfl, hm3, ha3⟩
end Go.Proofs.YtjmnkdkdjnmejaaGreatDoor
