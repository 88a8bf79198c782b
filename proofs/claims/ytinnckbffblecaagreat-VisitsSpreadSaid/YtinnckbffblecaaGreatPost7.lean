/- The reference's SpreadOf: all visits. Conditions: right arguments. -/
import Derived.Test.YtinnckbffblecaaGreatPost6
namespace Go.Proofs.YtinnckbffblecaaGreat
open Go.RowKit Go.MapKept
set_option linter.unusedVariables false
set_option linter.unusedSimpArgs false


def RSpreadOf (w : World) (l : Lim) (batch D : Int) (vs : List VisD) (e : Ending) (w' : World) : Prop :=
  ∃ A c, e = .returned (.slice A vs.length c) ∧ BoolOwn w' w.heap.size A vs.length c (outQ l batch D vs vs.length) ∧ New w w'

theorem PoAt.start (w : World) (l : Lim) (D : Int) : PoAt (((((w.alloc (.map #[] 0)).alloc (.map #[] 0)).alloc (.map #[] 0)).alloc (.map #[] 0)).alloc (.cells #[.string l.key, .int .i64 l.kind, .int .i64 l.most, .int .i64 l.per, .int .i64 l.burst, .int .i64 D, .map (some w.heap.size), .map (some (w.heap.size + 1)), .map (some (w.heap.size + 1 + 1)), .map (some (w.heap.size + 1 + 1 + 1)), .slice none 0 0] 95)) w.heap.size (w.heap.size + 1 + 1 + 1 + 1) w.heap.size (w.heap.size + 1) (w.heap.size + 1 + 1) (w.heap.size + 1 + 1 + 1) none 0 l D q00 := by
  have r := fun w' : World => Mod.refl (fun _ => False) w'
  refine ⟨Blk.new' _ _ (by simp), ?_, ?_, ?_, ?_, Own.nil, by omega, by omega, by omega, by omega, by omega, by omega, by omega, by omega, by omega, by omega, by omega⟩
  · exact FMap.mod (S := fun _ => False) (FMap.made (heap_alloc_new w _)) (((((r _).alloc _).alloc _).alloc _).alloc _) (fun e => e)
  · exact FMap.mod (S := fun _ => False) (FMap.made (w := (w.alloc (.map #[] 0)).alloc (.map #[] 0)) (b := w.heap.size + 1) (by have := heap_alloc_new (w.alloc (.map #[] 0)) (.map #[] 0); simpa using this)) ((((r _).alloc _).alloc _).alloc _) (fun e => e)
  · exact FMap.mod (S := fun _ => False) (FMap.made (w := ((w.alloc (.map #[] 0)).alloc (.map #[] 0)).alloc (.map #[] 0)) (b := w.heap.size + 1 + 1) (by have := heap_alloc_new ((w.alloc (.map #[] 0)).alloc (.map #[] 0)) (.map #[] 0); simpa using this)) (((r _).alloc _).alloc _) (fun e => e)
  · exact FMap.mod (S := fun _ => False) (FMap.made (w := (((w.alloc (.map #[] 0)).alloc (.map #[] 0)).alloc (.map #[] 0)).alloc (.map #[] 0)) (b := w.heap.size + 1 + 1 + 1) (by have := heap_alloc_new (((w.alloc (.map #[] 0)).alloc (.map #[] 0)).alloc (.map #[] 0)) (.map #[] 0); simpa using this)) ((r _).alloc _) (fun e => e)

set_option maxRecDepth 100000 in
set_option maxHeartbeats 2000000 in
theorem ref_SpreadOf (w : World) (l : Lim) (batch D : Int) (vs : List VisD) (A : Option Addr) (n c : Nat) (h : SpreadArgs w l vs A n) (hwl : WLim l) (hbt : 1 ≤ batch ∧ batch ≤ 1000000000) (hDt : 0 ≤ D ∧ D ≤ 8640000000) (hvf : visitsFault vs = 0) :
    Calls Tryz.prog 18 #[l.val, .int .i64 batch, .int .i64 D, .slice A n c] w (RSpreadOf w l batch D vs) := by
  obtain ⟨hv, hn, hsz, hks⟩ := h
  have hlen := hv.1
  have hA1 := (Mod.refl (fun _ => False) w).alloc (.cells #[.string l.key, .int .i64 l.kind, .int .i64 l.most, .int .i64 l.per, .int .i64 l.burst] 28)
  have hx1 := Blk.new w 28 #[.string l.key, .int .i64 l.kind, .int .i64 l.most, .int .i64 l.per, .int .i64 l.burst]
  have HV := Lib.hid hv
  have HX := Lib.hid hx1
  have HLN := Lib.hid hlen
  have HVF := Lib.hid hvf
  have hzx : w.heap.size < (w.alloc (.cells #[.string l.key, .int .i64 l.kind, .int .i64 l.most, .int .i64 l.per, .int .i64 l.burst] 28)).heap.size := by simp
  unfold Lim.val
  clear hv hx1 hsz hlen hvf
  go_enter Tryz.func18, Tryz.ntmps18
  go_upto_region 1 with (fail)
  generalize hxb : w.heap.size = lb at *
  have HXB := Lib.hid hxb
  clear hxb
  generalize w.alloc (.cells #[.string l.key, .int .i64 l.kind, .int .i64 l.most, .int .i64 l.per, .int .i64 l.burst] 28) = w1 at *
  have y0 := HX.out.cell 0
  have y1 := HX.out.cell 1
  have y2 := HX.out.cell 2
  have y3 := HX.out.cell 3
  have y4 := HX.out.cell 4
  simp at y0 y1 y2 y3 y4
  have hmm := @run_makeMap Tryz.prog
  go_upto_region 2 with (fail)
  have hpo0 := PoAt.start w1 l D
  have hn0 : New w1 (((((w1.alloc (.map #[] 0)).alloc (.map #[] 0)).alloc (.map #[] 0)).alloc (.map #[] 0)).alloc (.cells #[.string l.key, .int .i64 l.kind, .int .i64 l.most, .int .i64 l.per, .int .i64 l.burst, .int .i64 D, .map (some w1.heap.size), .map (some (w1.heap.size + 1)), .map (some (w1.heap.size + 1 + 1)), .map (some (w1.heap.size + 1 + 1 + 1)), .slice none 0 0] 95)) := (((((Mod.refl (fun _ => False) w1).alloc _).alloc _).alloc _).alloc _).alloc _
  clear y0 y1 y2 y3 y4 hmm
  generalize (((((w1.alloc (.map #[] 0)).alloc (.map #[] 0)).alloc (.map #[] 0)).alloc (.map #[] 0)).alloc (.cells #[.string l.key, .int .i64 l.kind, .int .i64 l.most, .int .i64 l.per, .int .i64 l.burst, .int .i64 D, .map (some w1.heap.size), .map (some (w1.heap.size + 1)), .map (some (w1.heap.size + 1 + 1)), .map (some (w1.heap.size + 1 + 1 + 1)), .slice none 0 0] 95)) = w2 at *
  generalize w1.heap.size + 1 + 1 + 1 + 1 = gp at *
  generalize hg4 : w1.heap.size + 1 + 1 + 1 = g4 at *
  generalize hg3 : w1.heap.size + 1 + 1 = g3 at *
  generalize hg2 : w1.heap.size + 1 = g2 at *
  generalize hg1 : w1.heap.size = g1 at *
  clear hg4 hg3 hg2
  obtain ⟨hvl, hvall⟩ := visits_ok HVF.out
  have HVA := Lib.hid hvall
  clear hvall
  have hn0s := hn0.size
  go_wp2_with fail
  go_loopw [10, 12, 13, 14, 25] (fun t _ _ _ i wq => ∃ (j c2 : Nat) (A2 : Option Addr) (A' : Option Addr) (c' : Nat), j ≤ n ∧ i = .int .i64 j ∧ t = .slice A2 j c2 ∧ Hid (PoAt wq g1 gp g1 g2 g3 g4 A' c' l D (stQ l batch D vs j)) ∧ Hid (BoolOwn wq g1 A2 j c2 (outQ l batch D vs j)) ∧ New w1 wq ∧ g1 ≤ wq.heap.size) (fun _ _ _ _ i _ => n - (intOf i).toNat)
  case atStart => exact ⟨0, 0, none, none, 0, Nat.zero_le _, rfl, rfl, Lib.hid hpo0, Lib.hid Own.nil, hn0, by omega⟩
  case round =>
    rename World => wq
    obtain ⟨j, c2, A2, A', c', hj, rfl, rfl, HPO, HOW, hnq, hBq⟩ := hrel
    have hlen := HLN.out
    by_cases hlt : j < n
    · obtain ⟨g, o, hA, hg, hc⟩ := (HV.out.new (hA1.trans hnq)).2 (by omega)
      subst hA
      have hgl := hg.lt
      have hx : vs[j]? = some vs[j] := by simp
      have c0 := hc j (by omega) 0 (by omega)
      have c1 := hc j (by omega) 1 (by omega)
      have c2' := hc j (by omega) 2 (by omega)
      simp only [VisD.enc, Nat.add_zero] at c0 c1 c2'
      have HOS := Lib.hid (outQ_succ (l := l) (batch := batch) (D := D) hx)
      have HSS := Lib.hid (stQ_succ (l := l) (batch := batch) (D := D) hx)
      obtain ⟨a1, a2, a3, a4, a5⟩ := HVA.out j (by omega)
      obtain ⟨_, _, hsim⟩ := sims hwl hDt.1 hbt HVF.out j (by omega)
      have hsa := hsim.all (T := vs[j].at_) hwl hDt.1 a5 a2
      have hrun := fun cs : Array Value => post_run (wq.alloc (.cells cs 76)) g1 gp g1 g2 g3 g4 A' c' l D _ (HPO.out.new ((Mod.refl _ wq).alloc _)) hwl hDt vs[j].at_ ⟨a1, a2⟩ (by simp; omega) _ j (by omega) _ hsim a5
      have hb1 : (0 : Int) ≤ j := by omega
      have hb2 : (j : Int) < n := by omega
      have hgb := hsa.givenB hwl (Int.le_refl _)
      obtain ⟨qf1, qf2⟩ := hsa.qfacts (by omega)
      have hvq : visitQ l batch D (stQ l batch D vs j) vs[j] = (if vs[j].cost ≤ (askQ l batch D (haveQ l (allQ l D vs[j].at_ (stQ l batch D vs j)) vs[j].gate vs[j].at_) vs[j]).stock vs[j].gate then (true, { askQ l batch D (haveQ l (allQ l D vs[j].at_ (stQ l batch D vs j)) vs[j].gate vs[j].at_) vs[j] with stock := upd (askQ l batch D (haveQ l (allQ l D vs[j].at_ (stQ l batch D vs j)) vs[j].gate vs[j].at_) vs[j]).stock vs[j].gate ((askQ l batch D (haveQ l (allQ l D vs[j].at_ (stQ l batch D vs j)) vs[j].gate vs[j].at_) vs[j]).stock vs[j].gate - vs[j].cost) }) else (false, askQ l batch D (haveQ l (allQ l D vs[j].at_ (stQ l batch D vs j)) vs[j].gate vs[j].at_) vs[j])) := rfl
      have HVQ := Lib.hid hvq
      clear hc hx hsim hsa a3 a5 hvq
      generalize allQ l D vs[j].at_ (stQ l batch D vs j) = q1 at *
      have hq2g : (haveQ l q1 vs[j].gate vs[j].at_).given = q1.given := (haveQ_rest _ _ _ _).1
      have hq2l : (haveQ l q1 vs[j].gate vs[j].at_).ls = q1.ls := (haveQ_rest _ _ _ _).2.2
      have hq2s : 0 ≤ (haveQ l q1 vs[j].gate vs[j].at_).stock vs[j].gate ∧ (haveQ l q1 vs[j].gate vs[j].at_).stock vs[j].gate ≤ 3000000000000 := by
        have := qf1 vs[j].gate
        rw [haveQ_stock, upd_same]; split <;> omega
      have hhv := fun (w3 : World) (A3 : Option Addr) (c3 : Nat) (h3 : PoAt w3 g1 gp g1 g2 g3 g4 A3 c3 l D q1) => post_have w3 g1 gp g1 g2 g3 g4 A3 c3 l D q1 h3 hwl vs[j].gate vs[j].at_ a1 (by omega)
      generalize hq2 : haveQ l q1 vs[j].gate vs[j].at_ = q2 at *
      rw [← hq2g] at hgb
      rw [← hq2l] at qf2
      clear hq2g hq2l qf1 hq2
      generalize vs[j] = v at *
      obtain ⟨T, gate, cost⟩ := v
      simp only at *
      have hownA := fun o : Obj => HOW.out.alloc o
      have hfarA : ∀ {w' w'' : World} {xs : List Bool}, BoolOwn w' g1 A2 j c2 xs → Mod (Far w' g1 poT) w' w'' → BoolOwn w'' g1 A2 j c2 xs := fun ho hm => ho.mod hm (fun g' e f => by
        rcases ho.blk with ⟨hA, _⟩ | ⟨g2, hA, _, ht⟩
        · rw [hA] at e; cases e
        · rw [hA] at e; injection e with e; subst e; exact absurd (f.2 _ ht) (by decide))
      have HFA := @Lib.hid _ @hfarA
      have HOA := Lib.hid hownA
      clear hfarA hownA
      go_upto_region 6 with (fail)
      have hA2 := (Mod.refl (fun _ => False) wq).alloc (.cells #[.int .i64 T, .string gate, .int .i64 cost] 76)
      have hbx := Blk.new wq 76 #[.int .i64 T, .string gate, .int .i64 cost]
      have hrun := hrun #[.int .i64 T, .string gate, .int .i64 cost]
      have ho3 := HOA.out (.cells #[.int .i64 T, .string gate, .int .i64 cost] 76)
      have hn3 : New w1 (wq.alloc (.cells #[.int .i64 T, .string gate, .int .i64 cost] 76)) := hnq.trans hA2
      have hB3 := hA2.size
      clear hA2
      generalize wq.alloc (.cells #[.int .i64 T, .string gate, .int .i64 cost] 76) = w3 at *
      generalize wq.heap.size = xb at *
      have x0 := hbx.cell 0
      simp at x0
      have HO3 := Lib.hid ho3
      have HBX := Lib.hid hbx
      clear ho3 hbx c0 c1 c2' HOA HOW HPO
      go_upto_region 8 with (first | (go_at_call 50; refine hrun.mono ?_; clear hrun; rintro e w4 ⟨rfl, A4, c4, h4, hm4⟩; have x4 := Far.blk hm4 HBX.out (by decide); have z0 := x4.cell 0; have z1 := x4.cell 1; simp at z0 z1; have hhv := hhv w4 A4 c4 h4) | (go_at_call 51; refine hhv.mono ?_; clear hhv; rintro e w5 ⟨rfl, h5, hm5⟩))
      have x5 := Far.blk hm5 x4 (by simp)
      have o5 := HFA.out (HFA.out HO3.out hm4) (Far.mono hm5 (by simp))
      have n5 : New w1 w5 := Mod.step (Mod.step hn3 hm4 (fun i hi f => by have := f.1; omega)) hm5 (fun i hi f => by have := f.1; omega)
      have hB5 : g1 ≤ w5.heap.size := by have := hm4.size; have := hm5.size; omega
      have H5 := Lib.hid h5
      have X5 := Lib.hid x5
      have HO5 := Lib.hid o5
      clear h4 x4 hm4 z0 z1 h5 x5 hm5 o5 x0 HO3 HBX
      have s7 := H5.out.blk.cell 7
      have s9 := H5.out.blk.cell 9
      have hlkS := fun m : Nat => (H5.out.new ((Mod.refl _ w5).drewN m)).lookS gate
      have hlkW := fun m : Nat => (H5.out.new ((Mod.refl _ w5).drewN m)).lookW gate
      have x1 := X5.out.cell 1
      have x2 := X5.out.cell 2
      simp at s7 s9 x1 x2
      have hxl := X5.out.lt
      have hgpl := H5.out.blk.lt
      go_cut [58] (fun s wx => s = .bool (decide (q2.stock gate < cost) && !q2.waits gate) ∧ ∃ m, wx = w5.drewN m)
      case first =>
        by_cases hsc : q2.stock gate < cost
        · go_quiet (fail)
          go_wp2_with fail
          go_meet
          exact ⟨by simp [hsc], _, rfl⟩
        · go_quiet (fail)
          go_wp2_with fail
          go_meet
          exact ⟨by rw [decide_eq_false (by omega)]; rfl, _, rfl⟩
      case rest =>
      obtain ⟨rfl, m, rfl⟩ := hcut
      have h6 := H5.out.new ((Mod.refl _ w5).drewN m)
      have x6 := X5.out.mod ((Mod.refl (fun _ => False) w5).drewN m) (fun e => e)
      have o6 := HO5.out.drewN m
      have n6 : New w1 (w5.drewN m) := n5.drewN m
      have hB6 : g1 ≤ (w5.drewN m).heap.size := hB5
      clear s7 s9 hlkS hlkW x1 x2 hxl hgpl n5 hB5
      generalize w5.drewN m = w6 at *
      have H6 := Lib.hid h6
      have X6 := Lib.hid x6
      have HO6 := Lib.hid o6
      clear h6 x6 o6 H5 X5 HO5
      go_upto_if 58 with (fail)
      have hq3s : 0 ≤ (askQ l batch D q2 ⟨T, gate, cost⟩).stock gate ∧ (askQ l batch D q2 ⟨T, gate, cost⟩).stock gate ≤ 4000000000000 := by
        unfold askQ
        simp only
        split
        · split
          · rw [getQ_stock, upd_same]
            have hm := hwl.most
            have : 0 ≤ giveN l q2 (T / l.per) (max cost batch) ∧ giveN l q2 (T / l.per) (max cost batch) ≤ 1000000000 := by unfold giveN; omega
            simp only [giveQ]
            split <;> (try split) <;> omega
          · simp only; omega
        · omega
      have HVQ2 : Hid (visitQ l batch D (stQ l batch D vs j) ⟨T, gate, cost⟩ = (if cost ≤ (askQ l batch D q2 ⟨T, gate, cost⟩).stock gate then (true, { askQ l batch D q2 ⟨T, gate, cost⟩ with stock := upd (askQ l batch D q2 ⟨T, gate, cost⟩).stock gate ((askQ l batch D q2 ⟨T, gate, cost⟩).stock gate - cost) }) else (false, askQ l batch D q2 ⟨T, gate, cost⟩))) := Lib.hid HVQ.out
      clear HVQ
      go_cut [13] (fun s wx => ∃ A7 c7, Hid (PoAt wx g1 gp g1 g2 g3 g4 A7 c7 l D (askQ l batch D q2 ⟨T, gate, cost⟩)) ∧ Hid (BoolOwn wx g1 A2 j c2 (outQ l batch D vs j)) ∧ Hid (Blk wx xb 76 #[.int .i64 T, .string gate, .int .i64 cost]) ∧ New w1 wx ∧ g1 ≤ wx.heap.size)
      case first =>
        clear HVQ2 hq3s
        by_cases hask : q2.stock gate < cost ∧ q2.waits gate = false
        · have hb : (decide (q2.stock gate < cost) && !q2.waits gate) = true := by rw [decide_eq_true hask.1, hask.2]; rfl
          rw [hb]
          have haq : askQ l batch D q2 ⟨T, gate, cost⟩ = if D = 0 then getQ l (giveQ l q2 (T / l.per) (max cost batch)) gate (T / l.per) (giveN l q2 (T / l.per) (max cost batch)) T else { q2 with waits := upd q2.waits gate true, ls := q2.ls ++ [⟨T, T + D, gate, max cost batch, false, 0⟩] } := by unfold askQ; rw [if_pos hask]
          have HAQ := Lib.hid haq
          have hw0 : 1 ≤ max cost batch ∧ max cost batch ≤ 1000000000 := by omega
          clear hb hask haq
          have x2 := X6.out.cell 2
          simp at x2
          have hxl := X6.out.lt
          go_upto_region 10 with (fail)
          by_cases hD0 : D = 0
          · have haq := HAQ.out
            rw [if_pos hD0] at haq
            have HAQ2 := Lib.hid haq
            have hd0 : (D == 0) = true := by simp [hD0]
            clear haq HAQ hD0
            have hxlb : Blk w6 lb 28 #[.string l.key, .int .i64 l.kind, .int .i64 l.most, .int .i64 l.per, .int .i64 l.burst] := HX.out.mod n6 (fun e => e)
            have l3 := hxlb.cell 3
            have x0 := X6.out.cell 0
            have x1 := X6.out.cell 1
            simp at l3 x0 x1
            have hll := hxlb.lt
            have HXL := Lib.hid hxlb
            clear hxlb
            have hpe := hwl.per
            have hdv1 := Int.ediv_le_self l.per a1
            have hdv0 := Int.ediv_nonneg a1 (show 0 ≤ l.per by omega)
            have hp0 : (l.per == 0) = false := by simp; omega
            have hpne : ¬ l.per = 0 := by omega
            have e1 : IntKind.i64.wrap (T / l.per) = T / l.per := IntWalk.i64_in _ (by omega)
            have e2 : T.tdiv l.per = T / l.per := Int.tdiv_eq_ediv_of_nonneg a1
            go_upto_region 11 with (fail)
            refine wp_region_held_ord (fun w' => w'.cell? ⟨lb, 3, none⟩ = some (.int .i64 l.per) ∧ w'.cell? ⟨xb, 0, none⟩ = some (.int .i64 T) ∧ w'.cell? ⟨xb, 1, none⟩ = some (.string gate)) [15] [0, 1, 2, 3, 4, 5, 6, 7, 8, 9, 10, 11, 12, 13, 14, 16, 17, 15] (by kernel_rfl) (by kernel_rfl) (fun _ _ d _ _ h => by cases d <;> exact h) ?_ (fun hHeld => ?_)
            · exact ⟨l3, x0, x1⟩
            simp only [List.length_cons, List.length_nil, List.drop_succ_cons, List.drop_zero]
            refine heldO_take ?_ (by rfl) (by rfl) (by rfl) (fun w hSw => ?_) ?_
            rotate_left
            · (try dsimp only at hSw); go_simp; any_goals (with_reducible rfl)
            simp only [Act.put, List.setIfInBounds_toArray, List.set_cons_zero, List.set_cons_succ]
            refine heldO_take ?_ (by rfl) (by rfl) (by rfl) (fun w hSw => ?_) ?_
            rotate_left
            · (try dsimp only at hSw); go_simp; any_goals (with_reducible rfl)
            simp only [Act.put, List.setIfInBounds_toArray, List.set_cons_zero, List.set_cons_succ]
            refine heldO_take ?_ (by rfl) (by rfl) (by rfl) (fun w hSw => ?_) ?_
            rotate_left
            · (try dsimp only at hSw); go_simp; any_goals (with_reducible rfl)
            simp only [Act.put, List.setIfInBounds_toArray, List.set_cons_zero, List.set_cons_succ]
            refine heldO_take ?_ (by rfl) (by rfl) (by rfl) (fun w hSw => ?_) ?_
            rotate_left
            · (try dsimp only at hSw); go_simp; any_goals (with_reducible rfl)
            simp only [Act.put, List.setIfInBounds_toArray, List.set_cons_zero, List.set_cons_succ]
            refine heldO_take ?_ (by rfl) (by rfl) (by rfl) (fun w hSw => ?_) ?_
            rotate_left
            · (try dsimp only at hSw); go_simp; any_goals (with_reducible rfl)
            simp only [Act.put, List.setIfInBounds_toArray, List.set_cons_zero, List.set_cons_succ]
            refine heldO_take ?_ (by rfl) (by rfl) (by rfl) (fun w hSw => ?_) ?_
            rotate_left
            · (try dsimp only at hSw); go_simp; any_goals (with_reducible rfl)
            simp only [Act.put, List.setIfInBounds_toArray, List.set_cons_zero, List.set_cons_succ]
            refine heldO_take ?_ (by rfl) (by rfl) (by rfl) (fun w hSw => ?_) ?_
            rotate_left
            · (try dsimp only at hSw); go_simp; any_goals (with_reducible rfl)
            simp only [Act.put, List.setIfInBounds_toArray, List.set_cons_zero, List.set_cons_succ]
            refine heldO_take ?_ (by rfl) (by rfl) (by rfl) (fun w hSw => ?_) ?_
            rotate_left
            · (try dsimp only at hSw); go_simp; any_goals (with_reducible rfl)
            simp only [Act.put, List.setIfInBounds_toArray, List.set_cons_zero, List.set_cons_succ]
            refine heldO_take ?_ (by rfl) (by rfl) (by rfl) (fun w hSw => ?_) ?_
            rotate_left
            · (try dsimp only at hSw); go_simp; any_goals (with_reducible rfl)
            simp only [Act.put, List.setIfInBounds_toArray, List.set_cons_zero, List.set_cons_succ]
            refine heldO_take ?_ (by rfl) (by rfl) (by rfl) (fun w hSw => ?_) ?_
            rotate_left
            · (try dsimp only at hSw); go_simp; any_goals (with_reducible rfl)
            simp only [Act.put, List.setIfInBounds_toArray, List.set_cons_zero, List.set_cons_succ]
            refine heldO_take ?_ (by rfl) (by rfl) (by rfl) (fun w hSw => ?_) ?_
            rotate_left
            · (try dsimp only at hSw); go_simp; any_goals (with_reducible rfl)
            simp only [Act.put, List.setIfInBounds_toArray, List.set_cons_zero, List.set_cons_succ]
            refine heldO_take ?_ (by rfl) (by rfl) (by rfl) (fun w hSw => ?_) ?_
            rotate_left
            · (try dsimp only at hSw); go_simp; any_goals (with_reducible rfl)
            simp only [Act.put, List.setIfInBounds_toArray, List.set_cons_zero, List.set_cons_succ]
            refine heldO_take ?_ (by rfl) (by rfl) (by rfl) (fun w hSw => ?_) ?_
            rotate_left
            · (try dsimp only at hSw); go_simp; any_goals (with_reducible rfl)
            simp only [Act.put, List.setIfInBounds_toArray, List.set_cons_zero, List.set_cons_succ]
            refine heldO_take ?_ (by rfl) (by rfl) (by rfl) (fun w hSw => ?_) ?_
            rotate_left
            · (try dsimp only at hSw); go_simp; any_goals (with_reducible rfl)
            simp only [Act.put, List.setIfInBounds_toArray, List.set_cons_zero, List.set_cons_succ]
            refine heldO_take ?_ (by rfl) (by rfl) (by rfl) (fun w hSw => ?_) ?_
            rotate_left
            · (try dsimp only at hSw); go_simp; any_goals (with_reducible rfl)
            simp only [Act.put, List.setIfInBounds_toArray, List.set_cons_zero, List.set_cons_succ]
            refine heldO_take ?_ (by rfl) (by rfl) (by rfl) (fun w hSw => ?_) ?_
            rotate_left
            · (try dsimp only at hSw); go_simp; any_goals (with_reducible rfl)
            simp only [Act.put, List.setIfInBounds_toArray, List.set_cons_zero, List.set_cons_succ]
            refine heldO_take ?_ (by rfl) (by rfl) (by rfl) (fun w hSw => ?_) ?_
            rotate_left
            · (try dsimp only at hSw); go_simp; any_goals (with_reducible rfl)
            simp only [Act.put, List.setIfInBounds_toArray, List.set_cons_zero, List.set_cons_succ]
            have h7 := H6.out.new ((Mod.refl _ w6).drewN 1)
            have hx7 := X6.out.mod ((Mod.refl (fun _ => False) w6).drewN 1) (fun e => e)
            have hl7 := HXL.out.mod ((Mod.refl (fun _ => False) w6).drewN 1) (fun e => e)
            have hgive := post_give _ g1 gp g1 g2 g3 g4 _ _ l D _ h7 hwl (T / l.per) (max cost batch) hgb hw0
            refine heldO_step (by rfl) (by rfl) (by rfl) (fun K hK => ?_)
            go_simp
            refine hgive.mono ?_
            clear hgive
            rintro e w8 ⟨rfl, h8, ho8⟩
            have hx8 := hx7.mod ho8 (fun e => h7.giv.ne_blk hx7.tb e)
            have hl8 := hl7.mod ho8 (fun e => h7.giv.ne_blk hl7.tb e)
            have k3 : w8.cell? ⟨lb, 3, none⟩ = some (.int .i64 l.per) := (hl8.cell 3).trans rfl
            have k0 : w8.cell? ⟨xb, 0, none⟩ = some (.int .i64 T) := (hx8.cell 0).trans rfl
            have k1 : w8.cell? ⟨xb, 1, none⟩ = some (.string gate) := (hx8.cell 1).trans rfl
            have hfar8 : Mod (Far (w6.drewN 1) g1 poT) (w6.drewN 1) w8 := Far.only (Far.of_fmap h7.giv h7.b1) ho8
            have o8 := HFA.out (HO6.out.drewN 1) hfar8
            have n8 : New w1 w8 := (n6.drewN 1).step ho8 (fun i hi e => by omega)
            have hB8 : g1 ≤ w8.heap.size := by have := n8.size; omega
            have hnb : 0 ≤ giveN l q2 (T / l.per) (max cost batch) ∧ giveN l q2 (T / l.per) (max cost batch) ≤ 1000000000 := by have := hwl.most; unfold giveN; omega
            have hgt := post_get w8 g1 gp g1 g2 g3 g4 _ _ l D _ h8 hwl gate (T / l.per) (giveN l q2 (T / l.per) (max cost batch)) T a1 (by omega) hq2s hnb
            have HX8 := Lib.hid hx8
            have HO8 := Lib.hid o8
            go_wp2_with fail
            refine hK.out _ _ ⟨k3, k0, k1⟩ (fun hHeld => ?_)
            clear hK K h7 hx7 hl7 h8 hx8 hl8 ho8 hfar8 o8
            try simp only [Act.put, List.setIfInBounds_toArray, List.set_cons_zero, List.set_cons_succ]
            refine heldO_nil ?_
            go_wp2_with fail
            refine hgt.mono ?_
            clear hgt
            rintro e w9 ⟨rfl, h9, hm9⟩
            go_wp2_with fail
            go_meet
            refine ⟨_, _, Lib.hid (by rw [HAQ2.out]; exact h9), Lib.hid (HFA.out HO8.out (Far.mono hm9 (by simp))), Lib.hid (Far.blk hm9 HX8.out (by simp)), n8.step hm9 (fun i hi f => by have := f.1; omega), by have := hm9.size; omega⟩
          · have haq := HAQ.out
            rw [if_neg hD0] at haq
            have HAQ2 := Lib.hid haq
            have hd0 : (D == 0) = false := by simp [hD0]
            clear haq HAQ hD0
            have p9 := H6.out.blk.cell 9
            have x1 := X6.out.cell 1
            simp at p9 x1
            have hgpl := H6.out.blk.lt
            go_upto_region 12 with (fail)
            refine wp_region_held_tail (fun w' => w'.cell? ⟨gp, 9, none⟩ = some (.map (some g4)) ∧ w'.cell? ⟨xb, 1, none⟩ = some (.string gate)) [] 6 (by kernel_rfl) (by kernel_rfl) (fun _ _ d _ _ h => by cases d <;> exact h) ?_ (fun hHeld => ?_)
            · exact ⟨p9, x1⟩
            simp only [List.take_succ_cons, List.take_zero, List.drop_succ_cons, List.drop_zero]
            refine heldL_take ?_ (by rfl) (by rfl) (fun w hSw => ?_) ?_
            rotate_left
            · (try dsimp only at hSw); go_simp; any_goals (with_reducible rfl)
            simp only [Act.put, List.setIfInBounds_toArray, List.set_cons_zero, List.set_cons_succ]
            refine heldL_take ?_ (by rfl) (by rfl) (fun w hSw => ?_) ?_
            rotate_left
            · (try dsimp only at hSw); go_simp; any_goals (with_reducible rfl)
            simp only [Act.put, List.setIfInBounds_toArray, List.set_cons_zero, List.set_cons_succ]
            refine heldL_take ?_ (by rfl) (by rfl) (fun w hSw => ?_) ?_
            rotate_left
            · (try dsimp only at hSw); go_simp; any_goals (with_reducible rfl)
            simp only [Act.put, List.setIfInBounds_toArray, List.set_cons_zero, List.set_cons_succ]
            refine heldL_take ?_ (by rfl) (by rfl) (fun w hSw => ?_) ?_
            rotate_left
            · (try dsimp only at hSw); go_simp; any_goals (with_reducible rfl)
            simp only [Act.put, List.setIfInBounds_toArray, List.set_cons_zero, List.set_cons_succ]
            refine heldL_take ?_ (by rfl) (by rfl) (fun w hSw => ?_) ?_
            rotate_left
            · (try dsimp only at hSw); go_simp; any_goals (with_reducible rfl)
            simp only [Act.put, List.setIfInBounds_toArray, List.set_cons_zero, List.set_cons_succ]
            refine heldL_take ?_ (by rfl) (by rfl) (fun w hSw => ?_) ?_
            rotate_left
            · (try dsimp only at hSw); go_simp; any_goals (with_reducible rfl)
            simp only [Act.put, List.setIfInBounds_toArray, List.set_cons_zero, List.set_cons_succ]
            refine heldL_nil ?_
            have h7 := H6.out.new ((Mod.refl _ w6).drewN 1)
            have hx7 := X6.out.mod ((Mod.refl (fun _ => False) w6).drewN 1) (fun e => e)
            at_mapUpdate
            refine wpList_fput (K := strKeys) rfl _ _ _ _ rfl Tryz.underlying80 Tryz.underlying9 rfl h7.wts gate rfl (.bool true) rfl ?_
            intro w8 hmap8 ho8 hs8
            have h8 := h7.setWts ho8 hmap8
            have hx8 := hx7.mod ho8 (fun e => h7.wts.ne_blk hx7.tb e)
            have hfar8 : Mod (Far (w6.drewN 1) g1 poT) (w6.drewN 1) w8 := Far.only (Far.of_fmap h7.wts h7.b4) ho8
            have o8 := HFA.out (HO6.out.drewN 1) hfar8
            have hb4 := h7.b4
            have n8 : New w1 w8 := (n6.drewN 1).step ho8 (fun i hi e => by omega)
            have hB8 : g1 ≤ w8.heap.size := by have := n8.size; omega
            have H8 := Lib.hid h8
            have HX8 := Lib.hid hx8
            have HO8 := Lib.hid o8
            have p10 := h8.blk.cell 10
            have x0 := hx8.cell 0
            have x1' := hx8.cell 1
            simp at p10 x0 x1'
            have hxl8 := hx8.lt
            have hgpl8 := h8.blk.lt
            have e3 : IntKind.i64.wrap (T + D) = T + D := IntWalk.i64_in _ (by omega)
            clear h7 hx7 h8 hx8 ho8 hmap8 hfar8 o8 p9 x1 hs8
            go_upto_region 13 with (fail)
            refine wp_region_held_tail (fun w' => w'.cell? ⟨gp, 10, none⟩ = some (.slice A4 q2.ls.length c4) ∧ w'.cell? ⟨xb, 0, none⟩ = some (.int .i64 T) ∧ w'.cell? ⟨xb, 1, none⟩ = some (.string gate)) [15, 16] 17 (by kernel_rfl) (by kernel_rfl) (fun _ _ d _ _ h => by cases d <;> exact h) ?_ (fun hHeld => ?_)
            · exact ⟨p10, x0, x1'⟩
            simp only [List.take_succ_cons, List.take_zero, List.drop_succ_cons, List.drop_zero]
            refine heldL_take ?_ (by rfl) (by rfl) (fun w hSw => ?_) ?_
            rotate_left
            · (try dsimp only at hSw); go_simp; any_goals (with_reducible rfl)
            simp only [Act.put, List.setIfInBounds_toArray, List.set_cons_zero, List.set_cons_succ]
            refine heldL_take ?_ (by rfl) (by rfl) (fun w hSw => ?_) ?_
            rotate_left
            · (try dsimp only at hSw); go_simp; any_goals (with_reducible rfl)
            simp only [Act.put, List.setIfInBounds_toArray, List.set_cons_zero, List.set_cons_succ]
            refine heldL_take ?_ (by rfl) (by rfl) (fun w hSw => ?_) ?_
            rotate_left
            · (try dsimp only at hSw); go_simp; any_goals (with_reducible rfl)
            simp only [Act.put, List.setIfInBounds_toArray, List.set_cons_zero, List.set_cons_succ]
            refine heldL_take ?_ (by rfl) (by rfl) (fun w hSw => ?_) ?_
            rotate_left
            · (try dsimp only at hSw); go_simp; any_goals (with_reducible rfl)
            simp only [Act.put, List.setIfInBounds_toArray, List.set_cons_zero, List.set_cons_succ]
            refine heldL_take ?_ (by rfl) (by rfl) (fun w hSw => ?_) ?_
            rotate_left
            · (try dsimp only at hSw); go_simp; any_goals (with_reducible rfl)
            simp only [Act.put, List.setIfInBounds_toArray, List.set_cons_zero, List.set_cons_succ]
            refine heldL_take ?_ (by rfl) (by rfl) (fun w hSw => ?_) ?_
            rotate_left
            · (try dsimp only at hSw); go_simp; any_goals (with_reducible rfl)
            simp only [Act.put, List.setIfInBounds_toArray, List.set_cons_zero, List.set_cons_succ]
            refine heldL_take ?_ (by rfl) (by rfl) (fun w hSw => ?_) ?_
            rotate_left
            · (try dsimp only at hSw); go_simp; any_goals (with_reducible rfl)
            simp only [Act.put, List.setIfInBounds_toArray, List.set_cons_zero, List.set_cons_succ]
            refine heldL_take ?_ (by rfl) (by rfl) (fun w hSw => ?_) ?_
            rotate_left
            · (try dsimp only at hSw); go_simp; any_goals (with_reducible rfl)
            simp only [Act.put, List.setIfInBounds_toArray, List.set_cons_zero, List.set_cons_succ]
            refine heldL_take ?_ (by rfl) (by rfl) (fun w hSw => ?_) ?_
            rotate_left
            · (try dsimp only at hSw); go_simp; any_goals (with_reducible rfl)
            simp only [Act.put, List.setIfInBounds_toArray, List.set_cons_zero, List.set_cons_succ]
            refine heldL_take ?_ (by rfl) (by rfl) (fun w hSw => ?_) ?_
            rotate_left
            · (try dsimp only at hSw); go_simp; any_goals (with_reducible rfl)
            simp only [Act.put, List.setIfInBounds_toArray, List.set_cons_zero, List.set_cons_succ]
            refine heldL_take ?_ (by rfl) (by rfl) (fun w hSw => ?_) ?_
            rotate_left
            · (try dsimp only at hSw); go_simp; any_goals (with_reducible rfl)
            simp only [Act.put, List.setIfInBounds_toArray, List.set_cons_zero, List.set_cons_succ]
            refine heldL_take ?_ (by rfl) (by rfl) (fun w hSw => ?_) ?_
            rotate_left
            · (try dsimp only at hSw); go_simp; any_goals (with_reducible rfl)
            simp only [Act.put, List.setIfInBounds_toArray, List.set_cons_zero, List.set_cons_succ]
            refine heldL_take ?_ (by rfl) (by rfl) (fun w hSw => ?_) ?_
            rotate_left
            · (try dsimp only at hSw); go_simp; any_goals (with_reducible rfl)
            simp only [Act.put, List.setIfInBounds_toArray, List.set_cons_zero, List.set_cons_succ]
            refine heldL_take ?_ (by rfl) (by rfl) (fun w hSw => ?_) ?_
            rotate_left
            · (try dsimp only at hSw); go_simp; any_goals (with_reducible rfl)
            simp only [Act.put, List.setIfInBounds_toArray, List.set_cons_zero, List.set_cons_succ]
            refine heldL_take ?_ (by rfl) (by rfl) (fun w hSw => ?_) ?_
            rotate_left
            · (try dsimp only at hSw); go_simp; any_goals (with_reducible rfl)
            simp only [Act.put, List.setIfInBounds_toArray, List.set_cons_zero, List.set_cons_succ]
            refine heldL_step (by rfl) (by rfl) (by rfl) (fun K hK => ?_)
            go_simp
            refine hK.out _ _ (by go_keep) (fun hHeld => ?_)
            clear hK K
            try simp only [Act.put, List.setIfInBounds_toArray, List.set_cons_zero, List.set_cons_succ]
            have hAl := ((Mod.refl (fun _ => False) w8).drewN 1).alloc (.cells #[.int .i64 T, .int .i64 (T + D), .string gate, .int .i64 (max cost batch), .bool false, .int .i64 0] 100)
            have h9 := H8.out.new hAl
            have hx9 := HX8.out.mod hAl (fun e => e)
            have o9 := HO8.out.new hAl
            have n9 := n8.trans hAl
            refine heldL_step (by rfl) (by rfl) (by rfl) (fun K hK => ?_)
            refine wp_push (.tmp 94) (.tmp 105) _ rfl 56 Tryz.underlying93 einfo_let rfl (by exact h9.own) ⟨T, T + D, gate, max cost batch, false, 0⟩ w8.heap.size rfl (by exact Blk.new _ _ _) (fun j hj => Let.one _ j hj) (by omega) (by omega) (by simp; omega) ?_
            intro g10 cap10 w10 hown10 hm10 hat10 hlt10
            have b10 := h9.blk.mod hm10 (fun e => h9.ownNe h9.blk.tb (by decide) _ e rfl)
            have hx10 := hx9.mod hm10 (fun e => h9.ownNe hx9.tb (by decide) _ e rfl)
            have o10 := o9.mod hm10 (fun g' e e2 => by
              rcases o9.blk with ⟨hA, _⟩ | ⟨g3, hA, _, ht⟩
              · rw [hA] at e; cases e
              · rw [hA] at e; injection e with e; subst e; exact h9.ownNe ht (by decide) _ e2 rfl)
            have n10 : New w1 w10 := n9.step hm10 (fun i hi e => by
              rcases h9.own.blk with ⟨hA, _⟩ | ⟨g3, hA, hB, ht⟩
              · rw [hA] at e; cases e
              · rw [hA] at e; injection e with e; have e' : g3 = i := e; omega)
            have k10 : w10.cell? ⟨gp, 10, none⟩ = some (.slice A4 q2.ls.length c4) := (b10.cell 10).trans rfl
            have y0 : w10.cell? ⟨xb, 0, none⟩ = some (.int .i64 T) := (hx10.cell 0).trans rfl
            have y1 : w10.cell? ⟨xb, 1, none⟩ = some (.string gate) := (hx10.cell 1).trans rfl
            have kf := b10.frozen 10
            have kl := b10.lt
            refine hK.out _ _ ⟨k10, y0, y1⟩ (fun hHeld => ?_)
            have h11 := h9.setLs hm10 (by simp) hown10
            have hx11 := hx10.mod (Only.cell1 w10 gp 10 (.slice (some ⟨g10, 0, none⟩) (q2.ls.length + 1) cap10)) (hx10.tb.ne b10.tb (by decide))
            have o11 := o10.mod (Only.cell1 w10 gp 10 (.slice (some ⟨g10, 0, none⟩) (q2.ls.length + 1) cap10)) (fun g' e e2 => by
              rcases o10.blk with ⟨hA, _⟩ | ⟨g3, hA, _, ht⟩
              · rw [hA] at e; cases e
              · rw [hA] at e; injection e with e; subst e; exact ht.ne b10.tb (by decide) e2)
            have hbp := h9.bp
            have n11 : New w1 (w10.setCell ⟨gp, 10, none⟩ (.slice (some ⟨g10, 0, none⟩) (q2.ls.length + 1) cap10)) := n10.step (Only.cell1 w10 gp 10 _) (fun i hi e => by omega)
            have hB11 : g1 ≤ (w10.setCell ⟨gp, 10, none⟩ (.slice (some ⟨g10, 0, none⟩) (q2.ls.length + 1) cap10)).heap.size := by have := n11.size; omega
            have H11 := Lib.hid h11
            have HX11 := Lib.hid hx11
            have HO11 := Lib.hid o11
            clear hK K hown10 hm10 h9 hx9 o9 b10 hx10 o10 n10 h11 hx11 o11
            try simp only [Act.put, List.setIfInBounds_toArray, List.set_cons_zero, List.set_cons_succ]
            refine heldL_nil ?_
            go_wp2_with fail
            go_meet
            exact ⟨_, _, Lib.hid (by rw [HAQ2.out]; exact H11.out), HO11, HX11, n11, hB11⟩
        · have hb : (decide (q2.stock gate < cost) && !q2.waits gate) = false := by
            cases hw : q2.waits gate
            · rw [decide_eq_false (fun e => hask ⟨e, hw⟩)]; rfl
            · simp
          rw [hb]
          have haq : askQ l batch D q2 ⟨T, gate, cost⟩ = q2 := by unfold askQ; rw [if_neg hask]
          have HAQ := Lib.hid haq
          clear hb hask haq
          go_wp2_with fail
          go_meet
          exact ⟨A4, c4, by rw [HAQ.out]; exact H6, HO6, X6, n6, hB6⟩
      case rest =>
      obtain ⟨A7, c7, H7, HO7, X7, n7, hB7⟩ := hcut
      clear H6 HO6 X6 n6 hB6
      generalize askQ l batch D q2 ⟨T, gate, cost⟩ = q3 at *
      rename World => w7
      have p7 := H7.out.blk.cell 7
      have x1 := X7.out.cell 1
      have x2 := X7.out.cell 2
      simp at p7 x1 x2
      have hlkS := fun m : Nat => (H7.out.new ((Mod.refl _ w7).drewN m)).lookS gate
      have hxl := X7.out.lt
      have hgpl := H7.out.blk.lt
      by_cases hle : cost ≤ q3.stock gate
      · have hvq := HVQ2.out
        rw [if_pos hle] at hvq
        have HVQ3 := Lib.hid hvq
        clear hvq HVQ2
        go_upto_region 14 with (fail)
        go_quiet (fail)
        go_upto_region 16 with (fail)
        have h8 := H7.out.new ((Mod.refl _ w7).drewN nq)
        have x8 := X7.out.mod ((Mod.refl (fun _ => False) w7).drewN nq) (fun e => e)
        have o8 := HO7.out.drewN nq
        have n8 : New w1 (w7.drewN nq) := n7.drewN nq
        clear p7 x1 x2 hlkS hxl hgpl
        generalize w7.drewN nq = w8 at *
        have p7 := h8.blk.cell 7
        have x1 := x8.cell 1
        have x2 := x8.cell 2
        simp at p7 x1 x2
        have hlk := h8.lookS gate
        have hxl := x8.lt
        have hgpl := h8.blk.lt
        have e4 : IntKind.i64.wrap (q3.stock gate - cost) = q3.stock gate - cost := IntWalk.i64_in _ (by omega)
        have hlk1 : (Instr.lookup 92 (.map (some g2)) (.string gate) false).run Tryz.prog w8.drew = .ok (.int .i64 (q3.stock gate)) w8.drew := (h8.new ((Mod.refl _ w8).drewN 1)).lookS gate
        have H8 := Lib.hid h8
        have HO8 := Lib.hid o8
        clear h8 x8 o8
        refine wp_region_held_tail (fun w' => w'.cell? ⟨gp, 7, none⟩ = some (.map (some g2)) ∧ w'.cell? ⟨xb, 1, none⟩ = some (.string gate) ∧ w'.cell? ⟨xb, 2, none⟩ = some (.int .i64 cost) ∧ (Instr.lookup 92 (.map (some g2)) (.string gate) false).run Tryz.prog w' = .ok (.int .i64 (q3.stock gate)) w') [] 10 (by kernel_rfl) (by kernel_rfl) (fun _ _ d _ _ h => by cases d <;> exact h) ?_ (fun hHeld => ?_)
        · exact ⟨p7, x1, x2, hlk1⟩
        simp only [List.take_succ_cons, List.take_zero, List.drop_succ_cons, List.drop_zero]
        refine heldL_take ?_ (by rfl) (by rfl) (fun w hSw => ?_) ?_
        rotate_left
        · (try dsimp only at hSw); go_simp; any_goals (with_reducible rfl)
        simp only [Act.put, List.setIfInBounds_toArray, List.set_cons_zero, List.set_cons_succ]
        refine heldL_take ?_ (by rfl) (by rfl) (fun w hSw => ?_) ?_
        rotate_left
        · (try dsimp only at hSw); go_simp; any_goals (with_reducible rfl)
        simp only [Act.put, List.setIfInBounds_toArray, List.set_cons_zero, List.set_cons_succ]
        refine heldL_take ?_ (by rfl) (by rfl) (fun w hSw => ?_) ?_
        rotate_left
        · (try dsimp only at hSw); go_simp; any_goals (with_reducible rfl)
        simp only [Act.put, List.setIfInBounds_toArray, List.set_cons_zero, List.set_cons_succ]
        refine heldL_take ?_ (by rfl) (by rfl) (fun w hSw => ?_) ?_
        rotate_left
        · (try dsimp only at hSw); go_simp; any_goals (with_reducible rfl)
        simp only [Act.put, List.setIfInBounds_toArray, List.set_cons_zero, List.set_cons_succ]
        refine heldL_take ?_ (by rfl) (by rfl) (fun w hSw => ?_) ?_
        rotate_left
        · (try dsimp only at hSw); go_simp; any_goals (with_reducible rfl)
        simp only [Act.put, List.setIfInBounds_toArray, List.set_cons_zero, List.set_cons_succ]
        refine heldL_take ?_ (by rfl) (by rfl) (fun w hSw => ?_) ?_
        rotate_left
        · (try dsimp only at hSw); go_simp; any_goals (with_reducible rfl)
        simp only [Act.put, List.setIfInBounds_toArray, List.set_cons_zero, List.set_cons_succ]
        refine heldL_take ?_ (by rfl) (by rfl) (fun w hSw => ?_) ?_
        rotate_left
        · (try dsimp only at hSw); go_simp; any_goals (with_reducible rfl)
        simp only [Act.put, List.setIfInBounds_toArray, List.set_cons_zero, List.set_cons_succ]
        refine heldL_take ?_ (by rfl) (by rfl) (fun w hSw => ?_) ?_
        rotate_left
        · (try dsimp only at hSw); go_simp; any_goals (with_reducible rfl)
        simp only [Act.put, List.setIfInBounds_toArray, List.set_cons_zero, List.set_cons_succ]
        refine heldL_take ?_ (by rfl) (by rfl) (fun w hSw => ?_) ?_
        rotate_left
        · (try dsimp only at hSw); go_simp; any_goals (with_reducible rfl)
        simp only [Act.put, List.setIfInBounds_toArray, List.set_cons_zero, List.set_cons_succ]
        refine heldL_take ?_ (by rfl) (by rfl) (fun w hSw => ?_) ?_
        rotate_left
        · (try dsimp only at hSw); go_simp; any_goals (with_reducible rfl)
        simp only [Act.put, List.setIfInBounds_toArray, List.set_cons_zero, List.set_cons_succ]
        refine heldL_nil ?_
        have h9 := H8.out.new ((Mod.refl _ w8).drewN 1)
        at_mapUpdate
        refine wpList_fput (K := strKeys) rfl _ _ _ _ rfl Tryz.underlying92 Tryz.underlying9 rfl h9.stk gate rfl (.int .i64 (q3.stock gate - cost)) rfl ?_
        intro w9 hmap9 ho9 hs9
        have h10 := h9.setStk ho9 hmap9
        have hfar9 : Mod (Far (w8.drewN 1) g1 poT) (w8.drewN 1) w9 := Far.only (Far.of_fmap h9.stk h9.b2) ho9
        have o9 := HFA.out (HO8.out.drewN 1) hfar9
        have hb2' := h9.b2
        have n9 : New w1 w9 := (n8.drewN 1).step ho9 (fun i hi e => by omega)
        have hB9 : g1 ≤ w9.heap.size := by have := n9.size; omega
        have H9 := Lib.hid h10
        have HO9 := Lib.hid o9
        clear h9 h10 hfar9 o9 hmap9 ho9 hs9 hlk hlk1 p7 x1 x2
        go_wp2_with (at_builtin; refine wpList_push rfl _ _ _ rfl 1 Tryz.underlying35 einfo_bool rfl (HO9.out.alloc _) true w9.heap.size rfl (Blk.new _ _ _) (fun _ _ => rfl) (by omega) (by omega) (by simp; omega) ?_; intro g10 cap10 w10 hown10 hm10 hat10 hlt10)
        have hA10 : ∀ i, blkOf A2 = some i → TB (w9.alloc (.cells #[.bool true] 4)) i 4 ∧ g1 ≤ i := fun i e => by
          rcases (HO9.out.alloc (.cells #[.bool true] 4)).blk with ⟨hA, _⟩ | ⟨g3, hA, hB3, ht⟩
          · rw [hA] at e; cases e
          · rw [hA] at e; injection e with e; subst e; exact ⟨ht, hB3⟩
        refine ⟨⟨j + 1, cap10, some ⟨g10, 0, none⟩, A7, c7, by omega, by go_num, rfl, Lib.hid ?_, Lib.hid ?_, ?_, ?_⟩, by simp [intOf]; omega⟩
        · rw [HSS.out, HVQ3.out]
          exact (H9.out.new ((Mod.refl _ w9).alloc _)).modT hm10 (fun i e => ⟨_, (hA10 i e).1, by decide⟩)
        · rw [HOS.out, HVQ3.out]; exact hown10
        · refine Mod.step n9 (((Mod.refl _ w9).alloc _).trans hm10) (fun i hi e => ?_)
          have := (hA10 i e).2
          omega
        · have := hm10.size
          simp at this
          omega
      · have hvq := HVQ2.out
        rw [if_neg hle] at hvq
        have HVQ3 := Lib.hid hvq
        clear hvq HVQ2
        go_upto_region 14 with (fail)
        go_quiet (fail)
        go_upto_region 17 with (fail)
        have h9 := H7.out.new ((Mod.refl _ w7).drewN nq)
        have o9 := HO7.out.drewN nq
        have n9 : New w1 (w7.drewN nq) := n7.drewN nq
        have hB9 : g1 ≤ (w7.drewN nq).heap.size := hB7
        have H9 := Lib.hid h9
        have HO9 := Lib.hid o9
        clear p7 x1 x2 hlkS hxl hgpl h9 o9
        generalize w7.drewN nq = w9 at *
        go_wp2_with (at_builtin; refine wpList_push rfl _ _ _ rfl 1 Tryz.underlying35 einfo_bool rfl (HO9.out.alloc _) false w9.heap.size rfl (Blk.new _ _ _) (fun _ _ => rfl) (by omega) (by omega) (by simp; omega) ?_; intro g10 cap10 w10 hown10 hm10 hat10 hlt10)
        have hA10 : ∀ i, blkOf A2 = some i → TB (w9.alloc (.cells #[.bool false] 4)) i 4 ∧ g1 ≤ i := fun i e => by
          rcases (HO9.out.alloc (.cells #[.bool false] 4)).blk with ⟨hA, _⟩ | ⟨g3, hA, hB3, ht⟩
          · rw [hA] at e; cases e
          · rw [hA] at e; injection e with e; subst e; exact ⟨ht, hB3⟩
        refine ⟨⟨j + 1, cap10, some ⟨g10, 0, none⟩, A7, c7, by omega, by go_num, rfl, Lib.hid ?_, Lib.hid ?_, ?_, ?_⟩, by simp [intOf]; omega⟩
        · rw [HSS.out, HVQ3.out]
          exact (H9.out.new ((Mod.refl _ w9).alloc _)).modT hm10 (fun i e => ⟨_, (hA10 i e).1, by decide⟩)
        · rw [HOS.out, HVQ3.out]; exact hown10
        · refine Mod.step n9 (((Mod.refl _ w9).alloc _).trans hm10) (fun i hi e => ?_)
          have := (hA10 i e).2
          omega
        · have := hm10.size
          simp at this
          omega
    · obtain rfl : j = n := by omega
      go_wp2_with fail
      go_ret
      exact ⟨A2, c2, by rw [hlen]; rfl, by rw [hlen]; exact HOW.out.less (by have := HXB.out; omega), hA1.trans hnq⟩

end Go.Proofs.YtinnckbffblecaaGreat
