/- The reference's player of visits: all letters up to a moment. Conditions: right limits, modest numbers, a state that came of visits. -/
import Derived.Test.YtinnckbffblecaaGreatPost5
import Derived.Test.YtinnckbffblecaaGreatHeld2
namespace Go.Proofs.YtinnckbffblecaaGreat
open Go.RowKit Go.MapKept
set_option linter.unusedVariables false
set_option linter.unusedSimpArgs false


def RPost (w : World) (B gp g1 g2 g3 g4 : Nat) (l : Lim) (D : Int) (q : QSt) (e : Ending) (w' : World) : Prop :=
  e = .returned (.tuple #[]) ∧ ∃ A' c', PoAt w' B gp g1 g2 g3 g4 A' c' l D q ∧ Mod (Far w B poT) w w'

theorem runStepQ_back {l : Lim} {D : Int} {q : QSt} {k : Nat} {x : Let} (h : q.ls[k]? = some x) (hb : x.back = true) :
    runStepQ l D q k = { getQ l { q with ls := q.ls.eraseIdx k } x.gate x.window x.many x.at_ with waits := upd q.waits x.gate false } := by
  unfold runStepQ; rw [h]; simp only [hb, if_true]
theorem runStepQ_ask {l : Lim} {D : Int} {q : QSt} {k : Nat} {x : Let} (h : q.ls[k]? = some x) (hb : x.back = false) :
    runStepQ l D q k = { giveQ l q (x.at_ / l.per) x.many with ls := q.ls.eraseIdx k ++ [⟨x.asked, x.at_ + D, x.gate, giveN l q (x.at_ / l.per) x.many, true, x.at_ / l.per⟩] } := by
  unfold runStepQ; rw [h]; simp only [hb, if_false]; rfl

set_option maxRecDepth 100000 in
set_option maxHeartbeats 2000000 in
theorem post_run (w : World) (B gp g1 g2 g3 g4 : Nat) (A : Option Addr) (c : Nat) (l : Lim) (D : Int) (q : QSt) (h : PoAt w B gp g1 g2 g3 g4 A c l D q) (hl : WLim l) (hD : 0 ≤ D ∧ D ≤ 8640000000) (T : Int) (hT : 0 ≤ T ∧ T < 345686400000) (hB : B ≤ w.heap.size)
    (τ : Int) (k : Nat) (hk : k ≤ 3000) (p : PSt) (hs : Sim l D τ k p q) (hτ : τ ≤ T) :
    Calls Tryz.prog 50 #[.pointer (some ⟨gp, 0, none⟩), .int .i64 T] w (RPost w B gp g1 g2 g3 g4 l D (allQ l D T q)) := by
  have hnx := post_next w B gp g1 g2 g3 g4 A c l D q h (by have := (hs.qfacts hk).2; omega) T
  have HH := Lib.hid h
  have HS := Lib.hid hs
  clear h hs
  go_enter Tryz.func50, Tryz.ntmps50
  go_wp2_with (go_at_call 80; refine hnx.mono ?_; clear hnx; rintro e w2 ⟨rfl, hn2⟩)
  go_loopg [4, 5, 6] (meas (q.ls.map Let.ev)) (fun gg s4 _ _ wr => ∃ p' q' τ' A' c', s4 = .int .i64 (pickI (pick T (q'.ls.map Let.ev))) ∧ Hid (PoAt wr B gp g1 g2 g3 g4 A' c' l D q') ∧ Hid (Sim l D τ' k p' q') ∧ τ' ≤ T ∧ Hid (allQ l D T q' = allQ l D T q) ∧ Hid (Mod (Far w B poT) w wr) ∧ B ≤ wr.heap.size ∧ meas (q'.ls.map Let.ev) ≤ gg)
  case atStart => exact ⟨p, q, τ, A, c, rfl, Lib.hid (HH.out.new hn2), HS, hτ, Lib.hid rfl, Lib.hid (Far.new hn2), by have := hn2.size; omega, Nat.le_refl _⟩
  case round =>
    rename World => wr
    obtain ⟨p', q', τ', A', c', rfl, HH', HS', hτ', HAL, HM', hz', hg'⟩ := hrel
    cases hpk : pick T (p'.os.map (Ord.ev D)) with
    | none =>
      have hqk := pick_perm_none HS'.out.evs hpk
      have hal := allQ_stop (l := l) (D := D) hqk
      have HPE : Hid (allQ l D T q = q') := Lib.hid (HAL.out.symm.trans hal)
      have hpt : pickI none = -1 := rfl
      rw [hqk, hpt]
      clear hal hpt hpk hqk
      go_wp2_with fail
      go_end0
      exact ⟨rfl, A', c', by rw [HPE.out]; exact HH'.out, HM'.out⟩
    | some i =>
      obtain ⟨kk, τ2, hqk, ht1, ht2, hs2⟩ := HS'.out.step hl hD.1 (by omega) hpk
      obtain ⟨qf1, qf2⟩ := HS'.out.qfacts hk
      have hkl : kk < q'.ls.length := by have := pick_lt hqk; simpa using this
      have hxs : q'.ls[kk]? = some q'.ls[kk] := List.getElem?_eq_getElem hkl
      have hxm : q'.ls[kk] ∈ q'.ls := List.getElem_mem _
      obtain ⟨lt1, lt2, lt3, lt4, lt5⟩ := HS'.out.letter hD.1 hxm
      have hatT : q'.ls[kk].at_ ≤ T := by
        obtain ⟨e, he, hle, _⟩ := pick_some hqk
        rw [List.getElem?_map, hxs] at he
        injection he with he
        subst he
        exact hle
      have hgv := HS'.out.givenB hl lt1
      have hme := meas_runStepQ l D q' kk hkl
      have hal := allQ_step (l := l) (D := D) hqk
      have HAL2 : Hid (allQ l D T (runStepQ l D q' kk) = allQ l D T q) := Lib.hid (hal.symm.trans HAL.out)
      have hpt : pickI (some kk) = (kk : Int) := rfl
      rw [hqk, hpt]
      obtain ⟨g, o, hA, hBg, hg, hncc, hccm⟩ := (show ∃ g o, A' = some ⟨g, o, none⟩ ∧ B ≤ g ∧ TB wr g 100 ∧ o = 0 ∧ True by
        obtain ⟨g, hA, h1, h2, _⟩ := HH'.out.own.form (by omega)
        exact ⟨g, 0, hA, h1, h2, rfl, trivial⟩)
      subst hA hncc
      clear hccm
      obtain ⟨g', o', hA, hg2, hc⟩ := HH'.out.own.sl.2 (by omega)
      injection hA with hA
      injection hA with hA1 hA2
      subst hA1 hA2
      have hgl := hg.lt
      have k0 := hc kk hkl 0 (by omega)
      have k1 := hc kk hkl 1 (by omega)
      have k2 := hc kk hkl 2 (by omega)
      have k3 := hc kk hkl 3 (by omega)
      have k4 := hc kk hkl 4 (by omega)
      have k5 := hc kk hkl 5 (by omega)
      simp only [Let.enc, Nat.add_zero, Nat.zero_add] at k0 k1 k2 k3 k4 k5
      have d10 := HH'.out.blk.cell 10
      simp at d10
      have hgpl := HH'.out.blk.lt
      have hb1 : (0 : Int) ≤ kk := by omega
      have hb2 : (kk : Int) < q'.ls.length := by omega
      have hdel := fun cs : Array Value => delete_let (wr.alloc (.cells cs 100)) B g _ c' kk q'.ls (HH'.out.own.alloc _) hkl (by omega)
      have hel : (q'.ls.eraseIdx kk).length = q'.ls.length - 1 := by rw [List.length_eraseIdx, if_pos hkl]
      have HEL := Lib.hid hel
      have HS2 := Lib.hid hs2
      have HXS := Lib.hid hxs
      have HQF := Lib.hid qf1
      clear hc hs2 hal hpt hpk hqk hxs hxm hel qf1
      generalize hx : q'.ls[kk] = x at *
      have HX0 := Lib.hid hx
      clear hx
      go_upto_region 4 with (fail)
      have hA1 := (Mod.refl (fun _ => False) wr).alloc (.cells #[.int .i64 x.asked, .int .i64 x.at_, .string x.gate, .int .i64 x.many, .bool x.back, .int .i64 x.window] 100)
      have hbx := Blk.new wr 100 #[.int .i64 x.asked, .int .i64 x.at_, .string x.gate, .int .i64 x.many, .bool x.back, .int .i64 x.window]
      have h1 := HH'.out.new hA1
      have hdel := hdel #[.int .i64 x.asked, .int .i64 x.at_, .string x.gate, .int .i64 x.many, .bool x.back, .int .i64 x.window]
      have hM1 : Mod (Far w B poT) w (wr.alloc (.cells #[.int .i64 x.asked, .int .i64 x.at_, .string x.gate, .int .i64 x.many, .bool x.back, .int .i64 x.window] 100)) := Far.trans HM'.out (Far.new hA1)
      have hz1 := hA1.size
      generalize wr.alloc (.cells #[.int .i64 x.asked, .int .i64 x.at_, .string x.gate, .int .i64 x.many, .bool x.back, .int .i64 x.window] 100) = w3 at *
      have hxne : wr.heap.size ≠ g := by omega
      have hBx : B ≤ wr.heap.size := hz'
      generalize wr.heap.size = xb at *
      have d10 := h1.blk.cell 10
      have df10 := h1.blk.frozen 10
      have hgpl := h1.blk.lt
      simp at d10
      have H1 := Lib.hid h1
      have HBX := Lib.hid hbx
      have HM1 := Lib.hid hM1
      clear k0 k1 k2 k3 k4 k5 h1 hbx hM1 hA1
      go_upto_region 5 with (go_at_call 81; refine hdel.mono ?_; clear hdel; rintro e w4 ⟨rfl, hown4, ho4⟩; have b4 := H1.out.blk.mod ho4 (fun e => H1.out.ownNe H1.out.blk.tb (by decide) g rfl e.symm); have e10 := b4.frozen 10; have e10l := b4.lt; have e10c := b4.cell 10; simp at e10c)
      have ho4' : Mod (fun k => blkOf (some ⟨g, 0, none⟩) = some k) w3 w4 := ho4.mono (fun i _ e => by rw [e]; rfl)
      have h5 := H1.out.setLs ho4' rfl hown4
      have hM5 : Mod (Far w B poT) w (w4.setCell ⟨gp, 10, none⟩ (.slice (some ⟨g, 0, none⟩) (q'.ls.eraseIdx kk).length c')) := Far.trans HM1.out (H1.out.farLs ho4' _)
      have hx5 : Blk (w4.setCell ⟨gp, 10, none⟩ (.slice (some ⟨g, 0, none⟩) (q'.ls.eraseIdx kk).length c')) xb 100 #[.int .i64 x.asked, .int .i64 x.at_, .string x.gate, .int .i64 x.many, .bool x.back, .int .i64 x.window] := (HBX.out.mod ho4 hxne).mod (Only.cell1 w4 gp 10 _) (HBX.out.tb.ne H1.out.blk.tb (by decide))
      have hz5 : B ≤ (w4.setCell ⟨gp, 10, none⟩ (.slice (some ⟨g, 0, none⟩) (q'.ls.eraseIdx kk).length c')).heap.size := by
        have := ho4.size
        have := (Only.cell1 w4 gp 10 (.slice (some ⟨g, 0, none⟩) (q'.ls.eraseIdx kk).length c')).size
        omega
      clear e10 e10l e10c b4 hown4 ho4 ho4' d10 df10 hgpl
      generalize w4.setCell ⟨gp, 10, none⟩ (.slice (some ⟨g, 0, none⟩) (q'.ls.eraseIdx kk).length c') = w5 at *
      have x1 := hx5.cell 1
      have x2 := hx5.cell 2
      have x3 := hx5.cell 3
      have x4 := hx5.cell 4
      have x5 := hx5.cell 5
      simp at x1 x2 x3 x4 x5
      have H5 := Lib.hid h5
      have HM5 := Lib.hid hM5
      have HX5 := Lib.hid hx5
      clear h5 hM5 hx5
      cases hbk : x.back with
      | true =>
        have hgt := post_get w5 B gp g1 g2 g3 g4 _ c' l D _ H5.out hl x.gate x.window x.many x.at_ lt2 (by omega) (HQF.out x.gate) ⟨lt3, lt4⟩
        have hwt : (getQ l { q' with ls := q'.ls.eraseIdx kk } x.gate x.window x.many x.at_).waits = q'.waits := (getQ_rest l _ _ _ _ _).2.1
        have hrs : runStepQ l D q' kk = { getQ l { q' with ls := q'.ls.eraseIdx kk } x.gate x.window x.many x.at_ with waits := upd (getQ l { q' with ls := q'.ls.eraseIdx kk } x.gate x.window x.many x.at_).waits x.gate false } := (runStepQ_back (l := l) (D := D) HXS.out hbk).trans (by rw [hwt])
        rw [hbk] at x4
        have HRS := Lib.hid hrs
        generalize getQ l { q' with ls := q'.ls.eraseIdx kk } x.gate x.window x.many x.at_ = q6 at *
        clear hrs hwt
        go_upto_region 7 with (go_at_call 52; refine hgt.mono ?_; clear hgt; rintro e w6 ⟨rfl, h6, hm6⟩)
        have hx6 := Far.blk hm6 HX5.out (by simp)
        have HM6 : Hid (Mod (Far w B poT) w w6) := Lib.hid (Far.trans HM5.out (Far.mono hm6 (by simp)))
        have hz6 := hm6.size
        have y2 := hx6.cell 2
        have c9 := h6.blk.cell 9
        simp at y2 c9
        have H6 := Lib.hid h6
        have hxl := hx6.lt
        have hgl6 := h6.blk.lt
        clear x1 x2 x3 x4 x5 h6 hx6 hm6
        refine wp_region_held_tail (fun w' => w'.cell? ⟨gp, 9, none⟩ = some (.map (some g4)) ∧ w'.cell? ⟨xb, 2, none⟩ = some (.string x.gate)) [] 6 (by kernel_rfl) (by kernel_rfl) (fun _ _ d _ _ h => by cases d <;> exact h) ?_ (fun hHeld => ?_)
        · exact ⟨c9, y2⟩
        simp only [List.take_succ_cons, List.take_zero, List.drop_succ_cons, List.drop_zero]
        refine heldL_take ?_ (by rfl) (by rfl) (fun w hSw => ?_) ?_
        rotate_left
        · (try dsimp only at hSw); go_simp; any_goals (with_reducible rfl)
        simp only [Act.put, List.setIfInBounds_toArray, List.set_cons_zero, List.set_cons_succ]
        refine heldL_take ?_ (by rfl) (by rfl) (fun w hSw => ?_) ?_
        rotate_left
        · (try dsimp only at hSw); go_simp; any_goals (with_reducible rfl)
        simp only [Act.put, List.setIfInBounds_toArray, List.set_cons_zero, List.set_cons_succ]
        refine heldL_take ?_ (by rfl) (by rfl) (fun w hSw => ?_) ?_
        rotate_left
        · (try dsimp only at hSw); go_simp; any_goals (with_reducible rfl)
        simp only [Act.put, List.setIfInBounds_toArray, List.set_cons_zero, List.set_cons_succ]
        refine heldL_take ?_ (by rfl) (by rfl) (fun w hSw => ?_) ?_
        rotate_left
        · (try dsimp only at hSw); go_simp; any_goals (with_reducible rfl)
        simp only [Act.put, List.setIfInBounds_toArray, List.set_cons_zero, List.set_cons_succ]
        refine heldL_take ?_ (by rfl) (by rfl) (fun w hSw => ?_) ?_
        rotate_left
        · (try dsimp only at hSw); go_simp; any_goals (with_reducible rfl)
        simp only [Act.put, List.setIfInBounds_toArray, List.set_cons_zero, List.set_cons_succ]
        refine heldL_take ?_ (by rfl) (by rfl) (fun w hSw => ?_) ?_
        rotate_left
        · (try dsimp only at hSw); go_simp; any_goals (with_reducible rfl)
        simp only [Act.put, List.setIfInBounds_toArray, List.set_cons_zero, List.set_cons_succ]
        refine heldL_nil ?_
        have h7 := H6.out.new ((Mod.refl _ w6).drewN 1)
        have H7 := Lib.hid h7
        clear h7
        at_mapUpdate
        refine wpList_fput (K := strKeys) rfl _ _ _ _ rfl Tryz.underlying80 Tryz.underlying9 rfl H7.out.wts x.gate rfl (.bool false) rfl ?_
        intro w8 hmap8 ho8 hs8
        have h8 := H7.out.setWts ho8 hmap8
        have hm8 : Mod (Far w B poT) w w8 := Far.trans (HM6.out.drewN 1) (Far.only (Far.of_fmap H7.out.wts H7.out.b4) ho8)
        rw [← HRS.out] at h8
        have hnx := post_next w8 B gp g1 g2 g3 g4 _ c' l D _ h8 (by have := (HS2.out.qfacts hk).2; omega) T
        have H8 := Lib.hid h8
        have HM8 := Lib.hid hm8
        have hz8 := ho8.size
        clear h8 hm8 hmap8 ho8
        go_wp2_with fail
        refine hnx.mono ?_
        clear hnx
        rintro e w9 ⟨rfl, hn9⟩
        go_wp2_with fail
        go_roundg (meas ((runStepQ l D q' kk).ls.map Let.ev))
        case measure => omega
        case rel => exact ⟨_, _, τ2, _, _, rfl, Lib.hid (H8.out.new hn9), HS2, ht2, HAL2, Lib.hid (Far.trans HM8.out (Far.new hn9)), by have := hn9.size; simp at hz8; omega, Nat.le_refl _⟩
      | false =>
        have hrs := runStepQ_ask (l := l) (D := D) HXS.out hbk
        have HRS := Lib.hid hrs
        rw [hbk] at x4
        have hm1 := lt5 hbk
        have hpe := hl.per
        have hdv1 := Int.ediv_le_self l.per lt2
        have hdv0 := Int.ediv_nonneg lt2 (show 0 ≤ l.per by omega)
        have hp0 : (l.per == 0) = false := by simp; omega
        have hpne : ¬ l.per = 0 := by omega
        have e1 : IntKind.i64.wrap (x.at_ / l.per) = x.at_ / l.per := IntWalk.i64_in _ (by omega)
        have e2 : x.at_.tdiv l.per = x.at_ / l.per := Int.tdiv_eq_ediv_of_nonneg lt2
        have e3 : IntKind.i64.wrap (x.at_ + D) = x.at_ + D := IntWalk.i64_in _ (by omega)
        have p3 := H5.out.blk.cell 3
        simp at p3
        go_upto_region 8 with (fail)
        go_quiet (fail)
        go_wp2_with fail
        have h6 := H5.out.new ((Mod.refl _ w5).drewN nq)
        have hx6 := HX5.out.mod ((Mod.refl (fun _ => False) w5).drewN nq) (fun e => e)
        have HM6 : Hid (Mod (Far w B poT) w (w5.drewN nq)) := Lib.hid (HM5.out.drewN nq)
        have hz6 : B ≤ (w5.drewN nq).heap.size := hz5
        clear x1 x2 x3 x4 x5 p3
        generalize w5.drewN nq = w6 at *
        have x0 := hx6.cell 0
        have x1 := hx6.cell 1
        have x2 := hx6.cell 2
        have x3 := hx6.cell 3
        have p10 := h6.blk.cell 10
        have p5 := h6.blk.cell 5
        simp at x0 x1 x2 x3 p10 p5
        have H6 := Lib.hid h6
        have HX6 := Lib.hid hx6
        have hxl := hx6.lt
        have hgl6 := h6.blk.lt
        clear h6 hx6
        refine wp_region_held_ord (fun w' => w'.cell? ⟨gp, 5, none⟩ = some (.int .i64 D) ∧ w'.cell? ⟨gp, 10, none⟩ = some (.slice (some ⟨g, 0, none⟩) (q'.ls.eraseIdx kk).length c') ∧ w'.cell? ⟨xb, 0, none⟩ = some (.int .i64 x.asked) ∧ w'.cell? ⟨xb, 1, none⟩ = some (.int .i64 x.at_) ∧ w'.cell? ⟨xb, 2, none⟩ = some (.string x.gate) ∧ w'.cell? ⟨xb, 3, none⟩ = some (.int .i64 x.many)) [20, 23, 24] [0, 1, 2, 3, 4, 5, 6, 7, 8, 9, 10, 11, 12, 13, 14, 15, 16, 17, 18, 19, 21, 20, 22, 23, 24] (by kernel_rfl) (by kernel_rfl) (fun _ _ d _ _ h => by cases d <;> exact h) ?_ (fun hHeld => ?_)
        · exact ⟨p5, p10, x0, x1, x2, x3⟩
        simp only [List.length_cons, List.length_nil, List.drop_succ_cons, List.drop_zero]
        refine heldO_take ?_ (by rfl) (by rfl) (by rfl) (fun w hSw => ?_) ?_
        rotate_left
        · (try dsimp only at hSw); go_simp; any_goals (with_reducible rfl)
        simp only [Act.put, List.setIfInBounds_toArray, List.set_cons_zero, List.set_cons_succ]
        refine heldO_take ?_ (by rfl) (by rfl) (by rfl) (fun w hSw => ?_) ?_
        rotate_left
        · (try dsimp only at hSw); go_simp; any_goals (with_reducible rfl)
        simp only [Act.put, List.setIfInBounds_toArray, List.set_cons_zero, List.set_cons_succ]
        refine heldO_take ?_ (by rfl) (by rfl) (by rfl) (fun w hSw => ?_) ?_
        rotate_left
        · (try dsimp only at hSw); go_simp; any_goals (with_reducible rfl)
        simp only [Act.put, List.setIfInBounds_toArray, List.set_cons_zero, List.set_cons_succ]
        refine heldO_take ?_ (by rfl) (by rfl) (by rfl) (fun w hSw => ?_) ?_
        rotate_left
        · (try dsimp only at hSw); go_simp; any_goals (with_reducible rfl)
        simp only [Act.put, List.setIfInBounds_toArray, List.set_cons_zero, List.set_cons_succ]
        refine heldO_take ?_ (by rfl) (by rfl) (by rfl) (fun w hSw => ?_) ?_
        rotate_left
        · (try dsimp only at hSw); go_simp; any_goals (with_reducible rfl)
        simp only [Act.put, List.setIfInBounds_toArray, List.set_cons_zero, List.set_cons_succ]
        refine heldO_take ?_ (by rfl) (by rfl) (by rfl) (fun w hSw => ?_) ?_
        rotate_left
        · (try dsimp only at hSw); go_simp; any_goals (with_reducible rfl)
        simp only [Act.put, List.setIfInBounds_toArray, List.set_cons_zero, List.set_cons_succ]
        refine heldO_take ?_ (by rfl) (by rfl) (by rfl) (fun w hSw => ?_) ?_
        rotate_left
        · (try dsimp only at hSw); go_simp; any_goals (with_reducible rfl)
        simp only [Act.put, List.setIfInBounds_toArray, List.set_cons_zero, List.set_cons_succ]
        refine heldO_take ?_ (by rfl) (by rfl) (by rfl) (fun w hSw => ?_) ?_
        rotate_left
        · (try dsimp only at hSw); go_simp; any_goals (with_reducible rfl)
        simp only [Act.put, List.setIfInBounds_toArray, List.set_cons_zero, List.set_cons_succ]
        refine heldO_take ?_ (by rfl) (by rfl) (by rfl) (fun w hSw => ?_) ?_
        rotate_left
        · (try dsimp only at hSw); go_simp; any_goals (with_reducible rfl)
        simp only [Act.put, List.setIfInBounds_toArray, List.set_cons_zero, List.set_cons_succ]
        refine heldO_take ?_ (by rfl) (by rfl) (by rfl) (fun w hSw => ?_) ?_
        rotate_left
        · (try dsimp only at hSw); go_simp; any_goals (with_reducible rfl)
        simp only [Act.put, List.setIfInBounds_toArray, List.set_cons_zero, List.set_cons_succ]
        refine heldO_take ?_ (by rfl) (by rfl) (by rfl) (fun w hSw => ?_) ?_
        rotate_left
        · (try dsimp only at hSw); go_simp; any_goals (with_reducible rfl)
        simp only [Act.put, List.setIfInBounds_toArray, List.set_cons_zero, List.set_cons_succ]
        refine heldO_take ?_ (by rfl) (by rfl) (by rfl) (fun w hSw => ?_) ?_
        rotate_left
        · (try dsimp only at hSw); go_simp; any_goals (with_reducible rfl)
        simp only [Act.put, List.setIfInBounds_toArray, List.set_cons_zero, List.set_cons_succ]
        refine heldO_take ?_ (by rfl) (by rfl) (by rfl) (fun w hSw => ?_) ?_
        rotate_left
        · (try dsimp only at hSw); go_simp; any_goals (with_reducible rfl)
        simp only [Act.put, List.setIfInBounds_toArray, List.set_cons_zero, List.set_cons_succ]
        refine heldO_take ?_ (by rfl) (by rfl) (by rfl) (fun w hSw => ?_) ?_
        rotate_left
        · (try dsimp only at hSw); go_simp; any_goals (with_reducible rfl)
        simp only [Act.put, List.setIfInBounds_toArray, List.set_cons_zero, List.set_cons_succ]
        refine heldO_take ?_ (by rfl) (by rfl) (by rfl) (fun w hSw => ?_) ?_
        rotate_left
        · (try dsimp only at hSw); go_simp; any_goals (with_reducible rfl)
        simp only [Act.put, List.setIfInBounds_toArray, List.set_cons_zero, List.set_cons_succ]
        refine heldO_take ?_ (by rfl) (by rfl) (by rfl) (fun w hSw => ?_) ?_
        rotate_left
        · (try dsimp only at hSw); go_simp; any_goals (with_reducible rfl)
        simp only [Act.put, List.setIfInBounds_toArray, List.set_cons_zero, List.set_cons_succ]
        refine heldO_take ?_ (by rfl) (by rfl) (by rfl) (fun w hSw => ?_) ?_
        rotate_left
        · (try dsimp only at hSw); go_simp; any_goals (with_reducible rfl)
        simp only [Act.put, List.setIfInBounds_toArray, List.set_cons_zero, List.set_cons_succ]
        refine heldO_take ?_ (by rfl) (by rfl) (by rfl) (fun w hSw => ?_) ?_
        rotate_left
        · (try dsimp only at hSw); go_simp; any_goals (with_reducible rfl)
        simp only [Act.put, List.setIfInBounds_toArray, List.set_cons_zero, List.set_cons_succ]
        refine heldO_take ?_ (by rfl) (by rfl) (by rfl) (fun w hSw => ?_) ?_
        rotate_left
        · (try dsimp only at hSw); go_simp; any_goals (with_reducible rfl)
        simp only [Act.put, List.setIfInBounds_toArray, List.set_cons_zero, List.set_cons_succ]
        refine heldO_take ?_ (by rfl) (by rfl) (by rfl) (fun w hSw => ?_) ?_
        rotate_left
        · (try dsimp only at hSw); go_simp; any_goals (with_reducible rfl)
        simp only [Act.put, List.setIfInBounds_toArray, List.set_cons_zero, List.set_cons_succ]
        refine heldO_take ?_ (by rfl) (by rfl) (by rfl) (fun w hSw => ?_) ?_
        rotate_left
        · (try dsimp only at hSw); go_simp; any_goals (with_reducible rfl)
        simp only [Act.put, List.setIfInBounds_toArray, List.set_cons_zero, List.set_cons_succ]
        have h7 := H6.out.new ((Mod.refl _ w6).drewN 1)
        have hx7 := HX6.out.mod ((Mod.refl (fun _ => False) w6).drewN 1) (fun e => e)
        have hgive : Calls Tryz.prog 53 #[.pointer (some ⟨gp, 0, none⟩), .int .i64 (x.at_ / l.per), .int .i64 x.many] (w6.drewN 1) fun e w' => e = .returned (.int .i64 (giveN l q' (x.at_ / l.per) x.many)) ∧ PoAt w' B gp g1 g2 g3 g4 (some ⟨g, 0, none⟩) c' l D { giveQ l q' (x.at_ / l.per) x.many with ls := q'.ls.eraseIdx kk } ∧ Only g1 (w6.drewN 1) w' := post_give _ B gp g1 g2 g3 g4 _ c' l D _ h7 hl (x.at_ / l.per) x.many hgv ⟨hm1, lt4⟩
        refine heldO_step (by rfl) (by rfl) (by rfl) (fun K hK => ?_)
        go_simp
        refine hgive.mono ?_
        clear hgive
        rintro e w8 ⟨rfl, h8, ho8⟩
        have hx8 := hx7.mod ho8 (fun e => h7.giv.ne_blk hx7.tb e)
        have k5 : w8.cell? ⟨gp, 5, none⟩ = some (.int .i64 D) := (h8.blk.cell 5).trans rfl
        have k10 : w8.cell? ⟨gp, 10, none⟩ = some (.slice (some ⟨g, 0, none⟩) (q'.ls.eraseIdx kk).length c') := (h8.blk.cell 10).trans rfl
        have y0 : w8.cell? ⟨xb, 0, none⟩ = some (.int .i64 x.asked) := (hx8.cell 0).trans rfl
        have y1 : w8.cell? ⟨xb, 1, none⟩ = some (.int .i64 x.at_) := (hx8.cell 1).trans rfl
        have y2 : w8.cell? ⟨xb, 2, none⟩ = some (.string x.gate) := (hx8.cell 2).trans rfl
        have y3 : w8.cell? ⟨xb, 3, none⟩ = some (.int .i64 x.many) := (hx8.cell 3).trans rfl
        have HM8 : Hid (Mod (Far w B poT) w w8) := Lib.hid (Far.trans (HM6.out.drewN 1) (Far.only (Far.of_fmap h7.giv h7.b1) ho8))
        have hz8 := ho8.size
        have hz8 : B ≤ w8.heap.size := Nat.le_trans hz6 hz8
        have H8 := Lib.hid h8
        have HX8 := Lib.hid hx8
        have hxl8 := hx8.lt
        have hgl8 := h8.blk.lt
        go_wp2_with fail
        refine hK.out _ _ ⟨k5, k10, y0, y1, y2, y3⟩ (fun hHeld => ?_)
        clear hK K h7 hx7 h8 hx8 ho8
        try simp only [Act.put, List.setIfInBounds_toArray, List.set_cons_zero, List.set_cons_succ]
        refine heldO_take ?_ (by rfl) (by rfl) (by rfl) (fun w hSw => ?_) ?_
        rotate_left
        · (try dsimp only at hSw); go_simp; any_goals (with_reducible rfl)
        simp only [Act.put, List.setIfInBounds_toArray, List.set_cons_zero, List.set_cons_succ]
        refine heldO_step (by rfl) (by rfl) (by rfl) (fun K hK => ?_)
        go_simp
        refine hK.out _ _ (by go_keep) (fun hHeld => ?_)
        clear hK K
        try simp only [Act.put, List.setIfInBounds_toArray, List.set_cons_zero, List.set_cons_succ]
        have h9 := H8.out.new ((Mod.refl (fun _ => False) w8).alloc (.cells #[.int .i64 x.asked, .int .i64 (x.at_ + D), .string x.gate, .int .i64 (giveN l q' (x.at_ / l.per) x.many), .bool true, .int .i64 (x.at_ / l.per)] 100))
        have hx9 := HX8.out.mod ((Mod.refl (fun _ => False) w8).alloc (.cells #[.int .i64 x.asked, .int .i64 (x.at_ + D), .string x.gate, .int .i64 (giveN l q' (x.at_ / l.per) x.many), .bool true, .int .i64 (x.at_ / l.per)] 100)) (fun e => e)
        refine heldO_step (by rfl) (by rfl) (by rfl) (fun K hK => ?_)
        refine wp_push (.tmp 63) (.tmp 82) _ rfl 56 Tryz.underlying93 einfo_let rfl (by exact h9.own) ⟨x.asked, x.at_ + D, x.gate, giveN l q' (x.at_ / l.per) x.many, true, x.at_ / l.per⟩ w8.heap.size rfl (by exact Blk.new _ _ _) (fun j hj => Let.one _ j hj) (by have := HEL.out; omega) (by omega) (by simp; omega) ?_
        intro g10 cap10 w10 hown10 hm10 hat10 hlt10
        have b10 := h9.blk.mod hm10 (fun e => h9.ownNe h9.blk.tb (by decide) _ e rfl)
        have hx10 := hx9.mod hm10 (fun e => by injection e with e; exact hxne e.symm)
        have k5 : w10.cell? ⟨gp, 5, none⟩ = some (.int .i64 D) := (b10.cell 5).trans rfl
        have k10 : w10.cell? ⟨gp, 10, none⟩ = some (.slice (some ⟨g, 0, none⟩) (q'.ls.eraseIdx kk).length c') := (b10.cell 10).trans rfl
        have y0 : w10.cell? ⟨xb, 0, none⟩ = some (.int .i64 x.asked) := (hx10.cell 0).trans rfl
        have y1 : w10.cell? ⟨xb, 1, none⟩ = some (.int .i64 x.at_) := (hx10.cell 1).trans rfl
        have y2 : w10.cell? ⟨xb, 2, none⟩ = some (.string x.gate) := (hx10.cell 2).trans rfl
        have y3 : w10.cell? ⟨xb, 3, none⟩ = some (.int .i64 x.many) := (hx10.cell 3).trans rfl
        have kf := b10.frozen 10
        have kl := b10.lt
        refine hK.out _ _ ⟨k5, k10, y0, y1, y2, y3⟩ (fun hHeld => ?_)
        have h11 := h9.setLs hm10 (by simp) hown10
        have hm11 : Mod (Far w B poT) w _ := Far.trans (Far.trans HM8.out (Far.new ((Mod.refl (fun _ => False) w8).alloc (.cells #[.int .i64 x.asked, .int .i64 (x.at_ + D), .string x.gate, .int .i64 (giveN l q' (x.at_ / l.per) x.many), .bool true, .int .i64 (x.at_ / l.per)] 100)))) (h9.farLs hm10 (.slice (some ⟨g10, 0, none⟩) ((q'.ls.eraseIdx kk).length + 1) cap10))
        have hz11 : B ≤ w10.heap.size := by have := hm10.size; simp at this; omega
        have H11 := Lib.hid h11
        have HM11 := Lib.hid hm11
        clear hK K hown10 hm10 h9 hx9 b10 hx10 h11 hm11
        try simp only [Act.put, List.setIfInBounds_toArray, List.set_cons_zero, List.set_cons_succ]
        refine heldO_nil ?_
        go_wp2_with fail
        have h12 := H11.out
        have hrs2 : { ({ giveQ l q' (x.at_ / l.per) x.many with ls := q'.ls.eraseIdx kk } : QSt) with ls := q'.ls.eraseIdx kk ++ [⟨x.asked, x.at_ + D, x.gate, giveN l q' (x.at_ / l.per) x.many, true, x.at_ / l.per⟩] } = runStepQ l D q' kk := HRS.out.symm
        rw [hrs2] at h12
        have hz12 : B ≤ (w10.setCell ⟨gp, 10, none⟩ (.slice (some ⟨g10, 0, none⟩) ((q'.ls.eraseIdx kk).length + 1) cap10)).heap.size := by simpa [World.setCell] using hz11
        have hnx := post_next _ B gp g1 g2 g3 g4 _ cap10 l D _ h12 (by have := (HS2.out.qfacts hk).2; omega) T
        have H12 := Lib.hid h12
        clear h12
        refine hnx.mono ?_
        clear hnx
        rintro e w13 ⟨rfl, hn13⟩
        dsimp only
        go_wp2_with fail
        go_roundg (meas ((runStepQ l D q' kk).ls.map Let.ev))
        case measure => omega
        case rel => exact ⟨_, _, τ2, _, _, rfl, Lib.hid (H12.out.new hn13), HS2, ht2, HAL2, Lib.hid (Far.trans HM11.out (Far.new hn13)), by have := hn13.size; omega, Nat.le_refl _⟩

end Go.Proofs.YtinnckbffblecaaGreat
