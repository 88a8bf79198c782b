/- The reference's verdict over all limits. Conditions: limits and ask were checked, what was let in was checked and never emptied a bucket below nothing. -/
import Derived.Test.YtinnckbffblecaaGreatRefMeter5
namespace Go.Proofs.YtinnckbffblecaaGreat
open Go.RowKit
set_option linter.unusedVariables false
set_option linter.unusedSimpArgs false

theorem ref_waitFor (l : Lim) (hl : RLim' l) (p : List AskD) (A : Option Addr) (n c : Nat) (t cost : Int) (w : World) (h : AskRows w A n p) (hp : ∀ a ∈ p, RAskD a) (hc : PourC l p t) (hn : n ≤ 10000) (ht : 0 ≤ t ∧ t < 345686400000) (hco : 1 ≤ cost ∧ cost ≤ 1000000000) :
    Calls Tryz.prog 83 #[l.val, .slice A n c, .int .i64 t, .int .i64 cost] w fun e w' => e = .returned (.int .i64 (waitD l p t cost)) ∧ New w w' := by
  by_cases h1 : greatest l < cost ∨ l.kind = 3
  · exact ref_waitFor1 l hl p A n c t cost w h hp hc hn ht hco h1
  · exact ref_waitFor2 l hl p A n c t cost w h hp hc hn ht hco (fun e => h1 (.inl e)) (fun e => h1 (.inr e))


set_option maxRecDepth 100000 in
set_option maxHeartbeats 2000000 in
theorem ref_verdictOf (Al A : Option Addr) (n cl m c : Nat) (ls : List Lim) (p : List AskD) (a : AskD) (w : World)
    (hl : LimRows w Al n ls) (hpr : AskRows w A m p) (hR : ∀ l ∈ ls, RLim' l) (hp : ∀ a ∈ p, RAskD a) (hc : ∀ l ∈ ls, PourC l p a.at_) (ha : RAskD a) (hn : n ≤ 1000) (hm : m ≤ 10000) :
    Calls Tryz.prog 59 #[.slice Al n cl, .slice A m c, a.val] w fun e w' => e = .returned (verdR ls p a vd0).val ∧ New w w' := by
  have hlen := hl.1
  obtain ⟨at_, who, cost, long⟩ := a
  obtain ⟨⟨a1, a2⟩, ⟨a3, a4⟩, -⟩ := ha
  simp only at a1 a2 a3 a4 hc
  simp only [AskD.val]
  have hwf := fun W (hW : New w W) l (hl : l ∈ ls) => ref_waitFor l (hR l hl) p A m c at_ cost W (hpr.new hW) hp (hc l hl) hm ⟨a1, a2⟩ ⟨a3, a4⟩
  have HWF := Lib.hid hwf
  have HL := Lib.hid hl
  have HLEN := Lib.hid hlen
  clear hl hlen hwf hR hc hpr hp
  go_enter Tryz.func59, Tryz.ntmps59
  go_wp2_with fail
  have hN : New w (((w.alloc (.cells #[.int .i64 at_, .string who, .int .i64 cost, .int .i64 long] 70)).alloc (.cells #[.bool false, .string ⟨#[]⟩, .int .i64 0] 57)).alloc (.cells #[.bool true, .string ⟨#[]⟩, .int .i64 0] 57)) := (by with_reducible (repeat (first | exact Mod.refl _ _ | refine Mod.drewN ?_ _ | refine Mod.drew ?_ | refine Mod.alloc ?_ _)))
  have b0 : Blk (((w.alloc (.cells #[.int .i64 at_, .string who, .int .i64 cost, .int .i64 long] 70)).alloc (.cells #[.bool false, .string ⟨#[]⟩, .int .i64 0] 57)).alloc (.cells #[.bool true, .string ⟨#[]⟩, .int .i64 0] 57)) w.heap.size 70 #[.int .i64 at_, .string who, .int .i64 cost, .int .i64 long] := ((Blk.new _ _ _).mod ((Mod.refl (fun _ => False) _).alloc _) (fun h => h)).mod ((Mod.refl (fun _ => False) _).alloc _) (fun h => h)
  have b1 : Blk (((w.alloc (.cells #[.int .i64 at_, .string who, .int .i64 cost, .int .i64 long] 70)).alloc (.cells #[.bool false, .string ⟨#[]⟩, .int .i64 0] 57)).alloc (.cells #[.bool true, .string ⟨#[]⟩, .int .i64 0] 57)) (w.heap.size + 1) 57 #[.bool false, .string ⟨#[]⟩, .int .i64 0] := (Blk.new' _ _ (by simp)).mod ((Mod.refl (fun _ => False) _).alloc _) (fun h => h)
  have b2 : Blk (((w.alloc (.cells #[.int .i64 at_, .string who, .int .i64 cost, .int .i64 long] 70)).alloc (.cells #[.bool false, .string ⟨#[]⟩, .int .i64 0] 57)).alloc (.cells #[.bool true, .string ⟨#[]⟩, .int .i64 0] 57)) (w.heap.size + 1 + 1) 57 #[.bool true, .string ⟨#[]⟩, .int .i64 0] := Blk.new' _ _ (by simp)
  generalize ((w.alloc (.cells #[.int .i64 at_, .string who, .int .i64 cost, .int .i64 long] 70)).alloc (.cells #[.bool false, .string ⟨#[]⟩, .int .i64 0] 57)).alloc (.cells #[.bool true, .string ⟨#[]⟩, .int .i64 0] 57) = W at *
  have hx1 : w.heap.size + 1 ≠ w.heap.size + 1 + 1 := by omega
  have hx0 : w.heap.size ≠ w.heap.size + 1 + 1 := by omega
  have HN := Lib.hid hN
  have HB0 := Lib.hid b0
  have HB1 := Lib.hid b1
  have HB2 := Lib.hid b2
  clear hN b0 b1 b2
  go_loopw [9, 10, 14] (fun _ _ i wr => ∃ (j : Nat) (v : Vd), j ≤ n ∧ i = .int .i64 j ∧ Hid (Only (w.heap.size + 1 + 1) W wr) ∧ Hid (Blk wr (w.heap.size + 1 + 1) 57 v.cells) ∧ Hid (verdR ls p ⟨at_, who, cost, long⟩ vd0 = verdR (ls.drop j) p ⟨at_, who, cost, long⟩ v)) (fun _ _ i _ => n - (intOf i).toNat)
  case atStart => exact ⟨0, vd0, Nat.zero_le _, rfl, Lib.hid (Mod.refl _ _), HB2, Lib.hid rfl⟩
  case round =>
    rename World => wr
    obtain ⟨j, v, hj, rfl, HM, HV, HE⟩ := hrel
    have hNr : New w wr := HN.out.step HM.out (fun x hx e => by omega)
    by_cases hlt : j < n
    · have hjl : j < ls.length := by have := HLEN.out; omega
      have hstep := verdR_drop (k := j) hjl p ⟨at_, who, cost, long⟩ v
      have HST := Lib.hid (HE.out.trans hstep)
      obtain ⟨gl, ol, hAl, htl, hcl⟩ := (HL.out.new hNr).2 (by omega)
      subst hAl
      have l0 := hcl j hjl 0 (by omega)
      have l1 := hcl j hjl 1 (by omega)
      have l2 := hcl j hjl 2 (by omega)
      have l3 := hcl j hjl 3 (by omega)
      have l4 := hcl j hjl 4 (by omega)
      simp only [Lim.enc, Nat.add_zero] at l0 l1 l2 l3 l4
      have hbr := HB0.out.mod HM.out hx0
      have x0 := hbr.cell 0
      have x2 := hbr.cell 2
      simp at x0 x2
      have hbxl := hbr.lt
      have hgll := htl.lt
      have hb1 : (0 : Int) ≤ j := by omega
      have hb2 : (j : Int) < n := by omega
      have hcall := fun o : Obj => HWF.out (wr.alloc o) (hNr.alloc o) ls[j] (List.getElem_mem _)
      clear hcl hstep
      generalize ls[j] = l at *
      simp only [Lim.val] at hcall
      generalize waitD l p at_ cost = X at *
      go_wp2_with fail
      refine (hcall _).mono ?_
      clear hcall
      rintro e w2 ⟨rfl, hm2⟩
      have bl := (Blk.new wr 28 #[.string l.key, .int .i64 l.kind, .int .i64 l.most, .int .i64 l.per, .int .i64 l.burst]).new'' hm2
      have q0 := bl.cell 0
      have ql := bl.lt
      simp at q0
      have HM2 := Lib.hid hm2.pre.1
      have hv2 := HV.out.mod HM2.out (fun e => e)
      obtain ⟨ok, by_, wt⟩ := v
      have y0 := hv2.cell 0
      have y1 := hv2.cell 1
      have y2 := hv2.cell 2
      have yl := hv2.lt
      have f0 := hv2.frozen 0
      have f1 := hv2.frozen 1
      have f2 := hv2.frozen 2
      simp [Vd.cells] at y0 y1 y2
      clear bl hm2 hv2 l0 l1 l2 l3 l4 x0 x2
      unfold stepN at HST
      simp only at HST
      by_cases hz : X = 0
      · rw [if_pos hz] at HST
        have hz1 : (X == 0) = true := by simpa using hz
        clear hz
        go_wp2_with fail
        refine ⟨⟨j + 1, ⟨ok, by_, wt⟩, by omega, by go_num, Lib.hid (HM.out.step HM2.out (fun _ _ e => e.elim)), Lib.hid (HV.out.mod HM2.out (fun e => e)), Lib.hid ?_⟩, by simp [intOf]; omega⟩
        exact HST.out
      · rw [if_neg hz] at HST
        have hz1 : (X == 0) = false := by simpa using hz
        cases ok with
        | true =>
          rw [if_pos (.inl rfl)] at HST
          clear hz
          go_wp2_with fail
          refine ⟨⟨j + 1, ⟨false, l.key, X⟩, by omega, by go_num, Lib.hid (((((HM.out.step HM2.out (fun _ _ e => e.elim))).setCell (p := ⟨w.heap.size + 1 + 1, 0, none⟩) (.inl rfl) _).setCell (p := ⟨w.heap.size + 1 + 1, 1, none⟩) (.inl rfl) _).setCell (p := ⟨w.heap.size + 1 + 1, 2, none⟩) (.inl rfl) _), Lib.hid ?_, Lib.hid ?_⟩, by simp [intOf]; omega⟩
          · have := (((HV.out.mod HM2.out (fun e => e)).set 0 (.bool false)).set 1 (.string l.key)).set 2 (.int .i64 X)
            simpa [Vd.cells] using this
          exact HST.out
        | false =>
          by_cases hw1 : 0 ≤ wt
          · have hw1a : decide ((0 : Int) ≤ wt) = true := by simpa using hw1
            by_cases hw2 : X < 0
            · rw [if_pos (.inr ⟨hw1, .inl hw2⟩)] at HST
              have hw2a : decide (X < 0) = true := by simpa using hw2
              go_wp2_with fail
              refine ⟨⟨j + 1, ⟨false, l.key, X⟩, by omega, by go_num, Lib.hid (((((HM.out.step HM2.out (fun _ _ e => e.elim))).setCell (p := ⟨w.heap.size + 1 + 1, 0, none⟩) (.inl rfl) _).setCell (p := ⟨w.heap.size + 1 + 1, 1, none⟩) (.inl rfl) _).setCell (p := ⟨w.heap.size + 1 + 1, 2, none⟩) (.inl rfl) _), Lib.hid ?_, Lib.hid ?_⟩, by simp [intOf]; omega⟩
              · have := (((HV.out.mod HM2.out (fun e => e)).set 0 (.bool false)).set 1 (.string l.key)).set 2 (.int .i64 X)
                simpa [Vd.cells] using this
              exact HST.out
            · have hw2a : decide (X < 0) = false := by simpa using hw2
              by_cases hw3 : wt < X
              · rw [if_pos (.inr ⟨hw1, .inr hw3⟩)] at HST
                have hw3a : decide (wt < X) = true := by simpa using hw3
                go_wp2_with fail
                refine ⟨⟨j + 1, ⟨false, l.key, X⟩, by omega, by go_num, Lib.hid (((((HM.out.step HM2.out (fun _ _ e => e.elim))).setCell (p := ⟨w.heap.size + 1 + 1, 0, none⟩) (.inl rfl) _).setCell (p := ⟨w.heap.size + 1 + 1, 1, none⟩) (.inl rfl) _).setCell (p := ⟨w.heap.size + 1 + 1, 2, none⟩) (.inl rfl) _), Lib.hid ?_, Lib.hid ?_⟩, by simp [intOf]; omega⟩
                · have := (((HV.out.mod HM2.out (fun e => e)).set 0 (.bool false)).set 1 (.string l.key)).set 2 (.int .i64 X)
                  simpa [Vd.cells] using this
                exact HST.out
              · rw [if_neg (by rintro (h | ⟨_, h | h⟩); (· cases h); (· exact hw2 h); exact hw3 h)] at HST
                have hw3a : decide (wt < X) = false := by simpa using hw3
                go_wp2_with fail
                refine ⟨⟨j + 1, ⟨false, by_, wt⟩, by omega, by go_num, Lib.hid (HM.out.step HM2.out (fun _ _ e => e.elim)), Lib.hid (HV.out.mod HM2.out (fun e => e)), Lib.hid ?_⟩, by simp [intOf]; omega⟩
                exact HST.out
          · rw [if_neg (by rintro (h | ⟨h, _⟩); (· cases h); exact hw1 h)] at HST
            have hw1a : decide ((0 : Int) ≤ wt) = false := by simpa using hw1
            go_wp2_with fail
            refine ⟨⟨j + 1, ⟨false, by_, wt⟩, by omega, by go_num, Lib.hid (HM.out.step HM2.out (fun _ _ e => e.elim)), Lib.hid (HV.out.mod HM2.out (fun e => e)), Lib.hid ?_⟩, by simp [intOf]; omega⟩
            exact HST.out
    · obtain rfl : j = n := by omega
      have hr1 := HB1.out.mod HM.out hx1
      have e1 := HE.out
      rw [List.drop_of_length_le (by have := HLEN.out; omega)] at e1
      have HEE := Lib.hid e1
      clear e1
      have y0 := HV.out.cell 0
      have y1 := HV.out.cell 1
      have y2 := HV.out.cell 2
      have r0 := hr1.cell 0
      have r1 := hr1.cell 1
      have r2 := hr1.cell 2
      have f1 := hr1.frozen
      have hrl := hr1.lt
      obtain ⟨ok, by_, wt⟩ := v
      simp [Vd.cells] at y0 y1 y2 r0 r1 r2
      have hne : w.heap.size + 1 + 1 ≠ w.heap.size + 1 := by omega
      clear hr1
      go_wp2_with fail
      refine bodyPost_ret (v := Vd.val ⟨ok, by_, wt⟩) (by simp [results, Tryz.results59, go_sem, y0, y1, y2, r0, r1, r2, f1, hne, Vd.val]) rfl ⟨by rw [HEE.out]; rfl, ?_⟩
      refine Mod.setCell (Mod.setCell (Mod.setCell (HN.out.step HM.out (fun x hx e => by omega)) (.inr ?_) _) (.inr ?_) _) (.inr ?_) _ <;> simp

end Go.Proofs.YtinnckbffblecaaGreat
