/- The program's player of visits: one visit. Conditions: right limits, modest numbers, a state that came of visits. -/
import Derived.Test.YtinnckbffblecaaGreatSpread6
import Derived.Test.YtinnckbffblecaaGreatHeld
namespace Go.Proofs.YtinnckbffblecaaGreat
open Go.RowKit Go.MapKept
set_option linter.unusedVariables false
set_option linter.unusedSimpArgs false


theorem Sim.facts {l : Lim} {D τ : Int} {k : Nat} {p : PSt} {q : QSt} (h : Sim l D τ k p q) (hτ : τ < 345686400000) (hk : k ≤ 3000) : (∀ o ∈ p.os, o.Mild) ∧ (∀ g, 0 ≤ p.stk g ∧ p.stk g ≤ 3000000000000) ∧ p.os.length ≤ 3000 := by
  refine ⟨fun o ho => ?_, fun g => ?_, ?_⟩
  · have := h.asked o ho
    exact ⟨by omega, by omega, by omega⟩
  · have := h.stk0 g
    have := h.stk1 g
    omega
  · have := h.stk0 ⟨#[]⟩
    have := h.stk1 ⟨#[]⟩
    omega

theorem firstIx_any (f : Nat → Bool) (n : Nat) (xs : List Ord) (g : Ord → Bool) (hn : xs.length = n) (h : ∀ i (hi : i < xs.length), f i = g xs[i]) : decide (0 ≤ firstIx f n) = xs.any g := by
  rcases firstIx_cases f n with ⟨h1, h2⟩ | ⟨k, hk, h1, h2, h3⟩
  · rw [h1]
    have : xs.any g = false := by
      rw [List.any_eq_false]
      intro x hx
      obtain ⟨i, hi, rfl⟩ := List.getElem_of_mem hx
      rw [← h i hi, h2 i (by omega)]; simp
    rw [this]; rfl
  · rw [h1]
    have : xs.any g = true := by
      rw [List.any_eq_true]
      exact ⟨xs[k]'(by omega), List.getElem_mem _, by rw [← h k (by omega)]; exact h2⟩
    rw [this]; simp

section
variable {w w1 w' : World} {B gs gc mc gm : Nat} {gl : List (ByteArray × Nat)} {A : Option Addr} {c : Nat} {ob : List Nat} {l : Lim} {batch D : Int} {p : PSt}
theorem SpAt.addOrd (h : SpAt w B gs gc mc gm gl A c ob l batch D p) {b : Nat} {o : Ord} (ho : OrdAt w b o) (hnew : b ∉ ob) (hB : B ≤ b) {g cap : Nat} (hown : Own w1 B 128 1 ptrEnc (some ⟨g, 0, none⟩) (p.os.length + 1) cap (ob ++ [b])) (hm : Mod (fun k => blkOf A = some k) w w1)
    (hgs : Only gs w1 w') (hblk : Blk w' gs 87 #[.pointer (some ⟨gc, 0, none⟩), .int .i64 batch, .int .i64 D, .map (some gm), .slice (some ⟨g, 0, none⟩) (p.os.length + 1) cap]) : SpAt w' B gs gc mc gm gl (some ⟨g, 0, none⟩) cap (ob ++ [b]) l batch D { p with os := p.os ++ [o] } := by
  have hlen := h.len
  have n1 : ∀ {b : Nat} {t : TypeId} {cs : Array Value}, Blk w b t cs → t ≠ 128 → t ≠ 87 → Blk w' b t cs := fun hb h1 h2 => by
    have b1 := hb.mod hm (fun e => h.ownNe hb.tb h1.symm _ e rfl)
    refine b1.mod hgs (fun e => ?_)
    subst e
    exact h2 (hb.tb.uniq h.blk.tb)
  have n2 : ∀ {b : Nat} {m : List (ByteArray × Value)}, MapOf strKeys w b m → MapOf strKeys w' b m := fun hb => by
    have b1 := hb.mod hm (fun e => h.ownNeMap hb _ e rfl)
    refine b1.mod hgs (fun e => ?_)
    subst e
    exact hb.ne_blk h.blk.tb rfl
  have hgb : ∀ k, blkOf (some ⟨g, 0, none⟩) = some k → k ≠ gs := fun k e => by
    injection e with e
    subst e
    obtain ⟨_, hrow, _⟩ := hown.row
    have hb1 := h.blk.mod hm (fun e => h.ownNe h.blk.tb (by decide) _ e rfl)
    exact hrow.tb.ne hb1.tb (by decide)
  refine ⟨by simpa using hblk, ⟨n1 h.cen.1 (by decide) (by decide), n2 h.cen.2⟩, n2 h.gmp, h.gnd, fun x hx => n1 (h.gat x hx) (by decide) (by decide), h.gno, by simpa using hown.mod hgs hgb, ?_, ?_, h.ne, h.bs, h.bc, h.bm, h.bg, h.bgl, ?_⟩
  · rw [List.nodup_append]
    refine ⟨h.ond, by simp, fun a ha b' hb' e => ?_⟩
    simp at hb'
    subst hb' e
    exact hnew ha
  · intro j bj oj hj1 hj2
    by_cases e : j < ob.length
    · rw [List.getElem?_append_left e] at hj1
      rw [List.getElem?_append_left (by omega)] at hj2
      exact n1 (h.ord j bj oj hj1 hj2) (by decide) (by decide)
    · have hj := lt_of_some hj1
      simp at hj
      obtain rfl : j = ob.length := by omega
      rw [List.getElem?_append_right (by omega)] at hj1
      rw [List.getElem?_append_right (by omega)] at hj2
      simp [hlen] at hj1 hj2
      subst hj1 hj2
      exact n1 ho (by decide) (by decide)
  · intro b' hb'
    rcases List.mem_append.1 hb' with hb' | hb'
    · exact h.bob b' hb'
    · simp at hb'; subst hb'; exact hB
end

theorem leaseN_bd {l : Lim} {s : CS} (hok : s.Ok l) (hl : WLim l) (t want : Int) (hw : 1 ≤ want) : 0 ≤ min want (l.most - isum (thereG l s t)) ∧ min want (l.most - isum (thereG l s t)) ≤ 1000000000 := by
  obtain ⟨h1, h2, h3, h4⟩ := thereG_ok hok hl t
  have := hl.most
  omega

def RVisit (w : World) (B gs gc gm : Nat) (l : Lim) (batch D : Int) (r : Bool × PSt) (e : Ending) (w' : World) : Prop :=
  ∃ mc' gl' A' c' ob', e = .returned (.bool r.1) ∧ SpAt w' B gs gc mc' gm gl' A' c' ob' l batch D r.2 ∧ Mod (Far w B spT) w w'

theorem pick_idx {D T : Int} {p : PSt} {i : Nat} (h : pick T (p.os.map (Ord.ev D)) = some i) : ∃ o, p.os[i]? = some o ∧ o.next D ≤ T := by
  obtain ⟨e, he, hle, _⟩ := pick_some h
  rw [List.getElem?_map] at he
  cases ho : p.os[i]? with
  | none => rw [ho] at he; cases he
  | some o =>
    rw [ho] at he
    injection he with he
    subst he
    exact ⟨o, rfl, hle⟩

theorem spread_happen (w : World) (B gs gc mc gm : Nat) (gl : List (ByteArray × Nat)) (A : Option Addr) (c : Nat) (ob : List Nat) (l : Lim) (batch D : Int) (p : PSt) (h : SpAt w B gs gc mc gm gl A c ob l batch D p) (hl : WLim l) (hok : p.cs.Ok l)
    (hD : 0 ≤ D ∧ D ≤ 8640000000) (i b : Nat) (o : Ord) (hb : ob[i]? = some b) (ho : p.os[i]? = some o) (hm : o.Mild) (hn : o.next D < 345686400000) (hB : B ≤ w.heap.size) (hst : 0 ≤ p.stk o.gate ∧ p.stk o.gate ≤ 3000000000000) (hno : p.os.length ≤ 3000) :
    Calls Tryz.prog 72 #[.pointer (some ⟨gs, 0, none⟩), .pointer (some ⟨b, 0, none⟩)] w (RHap w B gs gc gm A c l batch D (happenP l D p i)) := by
  cases hd : o.done
  · exact spread_happen0 w B gs gc mc gm gl A c ob l batch D p h hl hok hD i b o hb ho hm hn hd hB
  · exact spread_happen1 w B gs gc mc gm gl A c ob l batch D p h hl hD i b o hb ho hm hn hd hB ⟨by omega, by omega⟩ (by omega)

set_option maxRecDepth 100000 in
set_option maxHeartbeats 2000000 in
theorem spread_visit (w : World) (B gs gc mc gm : Nat) (gl : List (ByteArray × Nat)) (A : Option Addr) (c : Nat) (ob : List Nat) (l : Lim) (batch D : Int) (p : PSt) (h : SpAt w B gs gc mc gm gl A c ob l batch D p) (hl : WLim l)
    (hD : 0 ≤ D ∧ D ≤ 8640000000) (hbt : 1 ≤ batch ∧ batch ≤ 1000000000) (v : VisD) (hv : 0 ≤ v.at_ ∧ v.at_ < 345686400000) (hvc : 1 ≤ v.cost ∧ v.cost ≤ 1000000000) (hB : B ≤ w.heap.size) (τ : Int) (k : Nat) (hk : k < 3000) (q : QSt) (hs : Sim l D τ k p q) (hτ : τ ≤ v.at_) :
    Calls Tryz.prog 44 #[.pointer (some ⟨gs, 0, none⟩), v.val] w (RVisit w B gs gc gm l batch D (visitP l batch D p v)) := by
  obtain ⟨T, gate, cost⟩ := v
  simp only at hv hvc hτ
  have hA1 := (Mod.refl (fun _ => False) w).alloc (.cells #[.int .i64 T, .string gate, .int .i64 cost] 76)
  have h1 := h.new hA1
  have hx1 := Blk.new w 76 #[.int .i64 T, .string gate, .int .i64 cost]
  have hm1 : Mod (Far w B spT) w (w.alloc (.cells #[.int .i64 T, .string gate, .int .i64 cost] 76)) := Far.new hA1
  have hz1 : B ≤ (w.alloc (.cells #[.int .i64 T, .string gate, .int .i64 cost] 76)).heap.size := by simp; omega
  obtain ⟨f1, f2, f3⟩ := hs.facts (by omega) (by omega)
  have hfi := spread_first _ B gs gc mc gm gl A c ob l batch D p h1 hD f1 (by omega) T
  have HH := Lib.hid h1
  have HX := Lib.hid hx1
  have HM := Lib.hid hm1
  have HS := Lib.hid hs
  clear h h1 hx1 hm1 hs f1 f2
  unfold VisD.val
  go_enter Tryz.func44, Tryz.ntmps44
  go_upto_region 1 with (fail)
  generalize hwz : w.heap.size = xb at *
  generalize w.alloc (.cells #[.int .i64 T, .string gate, .int .i64 cost] 76) = w1 at *
  have x0 := HX.out.cell 0
  simp at x0
  go_wp2_with (go_at_call 71; refine hfi.mono ?_; clear hfi; rintro e w2 ⟨rfl, hn2⟩)
  go_loopg [5] (meas (p.os.map (Ord.ev D))) (fun gg s5 wr => ∃ p' q' τ' mc' gl' A' c' ob', s5 = .pointer (ptrOf ob' (pick T (p'.os.map (Ord.ev D)))) ∧ Hid (SpAt wr B gs gc mc' gm gl' A' c' ob' l batch D p') ∧ Hid (Sim l D τ' k p' q') ∧ τ' ≤ T ∧ Hid (allP l D T p' = allP l D T p) ∧ Hid (Blk wr xb 76 #[.int .i64 T, .string gate, .int .i64 cost]) ∧ Hid (Mod (Far w B spT) w wr) ∧ B ≤ wr.heap.size ∧ meas (p'.os.map (Ord.ev D)) ≤ gg)
  case atStart => exact ⟨p, q, τ, mc, gl, A, c, ob, rfl, Lib.hid (HH.out.new hn2), HS, hτ, Lib.hid rfl, Lib.hid (HX.out.mod hn2 (fun e => e)), Lib.hid (Far.trans HM.out (Far.new hn2)), by have := hn2.size; omega, Nat.le_refl _⟩
  case round =>
    rename World => wr
    obtain ⟨p', q', τ', mc', gl', A', c', ob', rfl, HH', HS', hτ', HAL, HX', HM', hz', hg'⟩ := hrel
    cases hpk : pick T (p'.os.map (Ord.ev D)) with
    | some i =>
      obtain ⟨o, ho, hle⟩ := pick_idx hpk
      obtain ⟨f1, f2, f3⟩ := HS'.out.facts (by omega) (by omega)
      have hil := lt_of_some ho
      have hib : i < ob'.length := by rw [HH'.out.len]; exact hil
      have hpt : ptrOf ob' (some i) = some ⟨ob'[i], 0, none⟩ := by simp [ptrOf, hib]
      have hhap := spread_happen wr B gs gc mc' gm gl' A' c' ob' l batch D p' HH'.out hl HS'.out.ok hD i ob'[i] o (by simp [hib]) ho (f1 o (List.mem_of_getElem? ho)) (by omega) hz' (f2 _) f3
      obtain ⟨kk, τ2, _, ht1, ht2, hs2⟩ := HS'.out.step hl hD.1 (by omega) hpk
      have hme := meas_happenP l D p' i hil
      have hal := allP_step (l := l) hpk
      have HAL2 : Hid (allP l D T (happenP l D p' i) = allP l D T p) := Lib.hid (hal.symm.trans HAL.out)
      rw [hpt]
      have HS2 := Lib.hid hs2
      generalize ob'[i] = b at *
      generalize happenP l D p' i = p2 at *
      clear hpt hal hs2 f1 f2 f3 ho hpk
      go_wp2_with (go_at_call 72; refine hhap.mono ?_; clear hhap; rintro e w3 ⟨mc3, gl3, ob3, rfl, h3, hm3⟩; have x3 := Far.blk hm3 HX'.out (by decide); have y0 := x3.cell 0; simp at y0; obtain ⟨f1, f2, f3⟩ := HS2.out.facts (by omega) (by omega); have hfi := spread_first _ B gs gc mc3 gm gl3 A' c' ob3 l batch D p2 h3 hD f1 (by omega) T; have H3 := Lib.hid h3; have X3 := Lib.hid x3; have M3 := Lib.hid hm3; have hsz := hm3.size; clear h3 x3 hm3 f1 f2)
      refine hfi.mono ?_
      clear hfi
      rintro e w4 ⟨rfl, hn4⟩
      go_wp2_with fail
      go_roundg (meas (p2.os.map (Ord.ev D)))
      case measure => omega
      case rel => exact ⟨p2, _, τ2, mc3, gl3, A', c', ob3, rfl, Lib.hid (H3.out.new hn4), HS2, ht2, HAL2, Lib.hid (X3.out.mod hn4 (fun e => e)), Lib.hid (Far.trans (Far.trans HM'.out M3.out) (Far.new hn4)), by have := hn4.size; omega, Nat.le_refl _⟩
    | none =>
      have hal := allP_stop (l := l) hpk
      have hpt : ptrOf ob' none = none := rfl
      rw [hpt]
      have HPE : Hid (allP l D T p = p') := Lib.hid (HAL.out.symm.trans hal)
      obtain ⟨f1, f2, f3⟩ := HS'.out.facts (by omega) (by omega)
      have hstk : 0 ≤ (stockP l p' gate T).stk gate ∧ (stockP l p' gate T).stk gate ≤ 3000000000000 := by
        rw [stockP_stk, upd_same]; have := f2 gate; split <;> omega
      have hpos : (stockP l p' gate T).os = p'.os := stockP_os _ _ _ _
      have hpcs : (stockP l p' gate T).cs = p'.cs := stockP_cs _ _ _ _
      have hstc := spread_stock wr B gs gc mc' gm gl' A' c' ob' l batch D p' HH'.out hl gate T hv.1 (by omega)
      have hvp : visitP l batch D p ⟨T, gate, cost⟩ = (let p := stockP l p' gate T
        if cost ≤ p.stk gate then (true, addP p gate (-cost))
        else if D = 0 then takeP (addP { p with cs := leaseS l p.cs T gate (max cost batch) } gate (leaseN l p.cs T (max cost batch))) gate cost
        else (false, if p.os.any (fun o => decide (o.gate = gate)) then p else { p with os := p.os ++ [⟨T, max cost batch, gate, 0, false⟩] })) := by
        unfold visitP; simp only [HPE.out]
      have y0 := HX'.out.cell 0
      have y1 := HX'.out.cell 1
      have y2 := HX'.out.cell 2
      simp at y0 y1 y2
      have hokk := HS'.out.ok
      rw [← hpcs] at hokk
      have hosm := f1
      rw [← hpos] at hosm f3
      generalize stockP l p' gate T = p2 at *
      simp only at hvp
      have HVP := Lib.hid hvp
      clear hal hpt hvp hpk hpos hpcs f1 f2
      go_wp2_with (first | (go_at_call 73; refine hstc.mono ?_; clear hstc; rintro e w3 ⟨gb, gl3, rfl, hgin, h3, hm3⟩; have x3 := Far.blk hm3 HX'.out (by decide); have z0 := x3.cell 0; have z1 := x3.cell 1; have z2 := x3.cell 2; simp at z0 z1 z2) | fail)
      have htk := gate_take w3 B gs gc mc' gm gl3 A' c' ob' l batch D p2 h3 gate gb hgin cost hvc hstk.1 (by omega)
      have M3 : Hid (Mod (Far w B spT) w w3) := Lib.hid (Far.trans HM'.out (Far.mono hm3 (by simp)))
      have hsz3 := hm3.size
      have H3 := Lib.hid h3
      have X3 := Lib.hid x3
      clear h3 hm3 x3 y0 y1 y2
      by_cases hle : cost ≤ p2.stk gate
      · have hvp := HVP.out
        rw [if_pos hle] at hvp
        rw [show takeP p2 gate cost = (true, addP p2 gate (-cost)) by unfold takeP; rw [if_pos hle]] at htk
        have HV := Lib.hid hvp
        clear hvp
        refine htk.mono ?_
        clear htk
        rintro e w4 ⟨rfl, h4, hm4⟩
        go_wp2_with fail
        go_ret
        exact ⟨_, _, _, _, _, by rw [HV.out]; rfl, by rw [HV.out]; exact h4, Far.trans M3.out (Far.mono hm4 (by simp))⟩
      · have hvp := HVP.out
        rw [if_neg hle] at hvp
        rw [show takeP p2 gate cost = (false, p2) by unfold takeP; rw [if_neg hle]] at htk
        have HV := Lib.hid hvp
        clear hvp
        refine htk.mono ?_
        clear htk
        rintro e w4 ⟨rfl, h4, hm4⟩
        have x4 := Far.blk hm4 X3.out (by decide)
        have M4 : Hid (Mod (Far w B spT) w w4) := Lib.hid (Far.trans M3.out (Far.mono hm4 (by simp)))
        have hsz4 := hm4.size
        have u0 := x4.cell 0
        have u1 := x4.cell 1
        have u2 := x4.cell 2
        have s0 := h4.blk.cell 0
        have s1 := h4.blk.cell 1
        have s2 := h4.blk.cell 2
        have s4 := h4.blk.cell 4
        have f4 := h4.blk.frozen 4
        have hgat := h4.gat _ hgin
        have g1 := hgat.cell 1
        have gf1 := hgat.frozen 1
        simp at u0 u1 u2 s0 s1 s2 s4 g1
        have H4 := Lib.hid h4
        have X4 := Lib.hid x4
        have HG4 := Lib.hid hgat
        have hxl := x4.lt
        have hgsl := h4.blk.lt
        clear h4 x4 hgat hm4 z0 z1 z2
        go_wp2_with fail
        go_region
        have hw0 : 1 ≤ max cost batch ∧ max cost batch ≤ 1000000000 := by omega
        by_cases hD0 : D = 0
        · have hvp := HV.out
          rw [if_pos hD0] at hvp
          have HV2 := Lib.hid hvp
          have hd0 : (D == 0) = true := by simp [hD0]
          clear hvp hD0 HV HVP
          have hxgc : xb ≠ gc := X4.out.tb.ne H4.out.cen.1.tb (by decide)
          have hxmc : xb ≠ mc' := H4.out.cen.2.ne_blk X4.out.tb
          have hxgb : xb ≠ gb := X4.out.tb.ne HG4.out.tb (by decide)
          have hgsgb : gs ≠ gb := H4.out.blk.tb.ne HG4.out.tb (by decide)
          obtain ⟨lo1, lo2⟩ := leaseN_bd hokk hl T (max cost batch) hw0.1
          go_upto_region 10 with (fail)
          refine wp_region_held_tail (fun w' => w'.cell? ⟨gs, 0, none⟩ = some (.pointer (some ⟨gc, 0, none⟩)) ∧ w'.cell? ⟨xb, 0, none⟩ = some (.int .i64 T) ∧ w'.cell? ⟨xb, 1, none⟩ = some (.string gate) ∧ w'.cell? ⟨gb, 1, none⟩ = some (.int .i64 (p2.stk gate))) [13] 15 (by kernel_rfl) (by kernel_rfl) (fun _ _ d _ _ h => by cases d <;> exact h) ?_ (fun hHeld => ?_)
          · exact ⟨s0, u0, u1, g1⟩
          simp only [List.take_succ_cons, List.take_zero, List.drop_succ_cons, List.drop_zero]
          refine heldL_take ?_ (by rfl) (by rfl) (fun w hSw => ?_) ?_
          rotate_left
          · (try dsimp only at hSw); go_simp; any_goals (with_reducible rfl)
          simp only [Act.put, List.setIfInBounds_toArray, List.set_cons_zero, List.set_cons_succ]
          refine heldL_take ?_ (by rfl) (by rfl) (fun w hSw => ?_) ?_
          rotate_left
          · (try dsimp only at hSw); go_simp; any_goals (with_reducible rfl)
          simp only [Act.put, List.setIfInBounds_toArray, List.set_cons_zero, List.set_cons_succ]
          refine heldL_take ?_ (by rfl) (by rfl) (fun w hSw => ?_) ?_
          rotate_left
          · (try dsimp only at hSw); go_simp; any_goals (with_reducible rfl)
          simp only [Act.put, List.setIfInBounds_toArray, List.set_cons_zero, List.set_cons_succ]
          refine heldL_take ?_ (by rfl) (by rfl) (fun w hSw => ?_) ?_
          rotate_left
          · (try dsimp only at hSw); go_simp; any_goals (with_reducible rfl)
          simp only [Act.put, List.setIfInBounds_toArray, List.set_cons_zero, List.set_cons_succ]
          refine heldL_take ?_ (by rfl) (by rfl) (fun w hSw => ?_) ?_
          rotate_left
          · (try dsimp only at hSw); go_simp; any_goals (with_reducible rfl)
          simp only [Act.put, List.setIfInBounds_toArray, List.set_cons_zero, List.set_cons_succ]
          refine heldL_take ?_ (by rfl) (by rfl) (fun w hSw => ?_) ?_
          rotate_left
          · (try dsimp only at hSw); go_simp; any_goals (with_reducible rfl)
          simp only [Act.put, List.setIfInBounds_toArray, List.set_cons_zero, List.set_cons_succ]
          refine heldL_take ?_ (by rfl) (by rfl) (fun w hSw => ?_) ?_
          rotate_left
          · (try dsimp only at hSw); go_simp; any_goals (with_reducible rfl)
          simp only [Act.put, List.setIfInBounds_toArray, List.set_cons_zero, List.set_cons_succ]
          refine heldL_take ?_ (by rfl) (by rfl) (fun w hSw => ?_) ?_
          rotate_left
          · (try dsimp only at hSw); go_simp; any_goals (with_reducible rfl)
          simp only [Act.put, List.setIfInBounds_toArray, List.set_cons_zero, List.set_cons_succ]
          refine heldL_take ?_ (by rfl) (by rfl) (fun w hSw => ?_) ?_
          rotate_left
          · (try dsimp only at hSw); go_simp; any_goals (with_reducible rfl)
          simp only [Act.put, List.setIfInBounds_toArray, List.set_cons_zero, List.set_cons_succ]
          refine heldL_take ?_ (by rfl) (by rfl) (fun w hSw => ?_) ?_
          rotate_left
          · (try dsimp only at hSw); go_simp; any_goals (with_reducible rfl)
          simp only [Act.put, List.setIfInBounds_toArray, List.set_cons_zero, List.set_cons_succ]
          refine heldL_take ?_ (by rfl) (by rfl) (fun w hSw => ?_) ?_
          rotate_left
          · (try dsimp only at hSw); go_simp; any_goals (with_reducible rfl)
          simp only [Act.put, List.setIfInBounds_toArray, List.set_cons_zero, List.set_cons_succ]
          refine heldL_take ?_ (by rfl) (by rfl) (fun w hSw => ?_) ?_
          rotate_left
          · (try dsimp only at hSw); go_simp; any_goals (with_reducible rfl)
          simp only [Act.put, List.setIfInBounds_toArray, List.set_cons_zero, List.set_cons_succ]
          refine heldL_take ?_ (by rfl) (by rfl) (fun w hSw => ?_) ?_
          rotate_left
          · (try dsimp only at hSw); go_simp; any_goals (with_reducible rfl)
          simp only [Act.put, List.setIfInBounds_toArray, List.set_cons_zero, List.set_cons_succ]
          refine heldL_step (by rfl) (by rfl) (by rfl) (fun K hK => ?_)
          go_simp
          refine (center_lease _ gc mc' l p2.cs (by exact H4.out.cen) hl hokk T gate (max cost batch) hv.1 hv.2 hw0.1 hw0.2).mono ?_
          rintro e w6 ⟨rfl, hcs⟩
          obtain ⟨mc6, h6, hm6⟩ := (H4.out.new ((Mod.refl (fun _ => False) _).drewN 2)).step hcs (by simp; omega)
          have x6 := X4.out.mod (w := w4) (S := fun k => k = gc ∨ k = mc') (Mod.step ((Mod.refl _ w4).drewN 2) hm6 (fun i _ e => e)) (by rintro (e | e) <;> contradiction)
          have k0 : w6.cell? ⟨gs, 0, none⟩ = some (.pointer (some ⟨gc, 0, none⟩)) := (h6.blk.cell 0).trans rfl
          have k1 : w6.cell? ⟨xb, 0, none⟩ = some (.int .i64 T) := (x6.cell 0).trans rfl
          have k2 : w6.cell? ⟨xb, 1, none⟩ = some (.string gate) := (x6.cell 1).trans rfl
          have k3 : w6.cell? ⟨gb, 1, none⟩ = some (.int .i64 (p2.stk gate)) := ((h6.gat _ hgin).cell 1).trans rfl
          have k4 := (h6.gat _ hgin).frozen 1
          have k5 := (h6.gat _ hgin).lt
          have k6 : w6.cell? ⟨xb, 2, none⟩ = some (.int .i64 cost) := (x6.cell 2).trans rfl
          have H6 := Lib.hid h6
          have X6 := Lib.hid x6
          go_wp2_with fail
          refine hK.out _ _ ⟨k0, k1, k2, k3⟩ (fun hHeld => ?_)
          clear hK K h6 x6 hcs
          try simp only [Act.put, List.setIfInBounds_toArray, List.set_cons_zero, List.set_cons_succ]
          refine heldL_take ?_ (by rfl) (by rfl) (fun w hSw => ?_) ?_
          rotate_left
          · (try dsimp only at hSw); go_simp; any_goals (with_reducible rfl)
          simp only [Act.put, List.setIfInBounds_toArray, List.set_cons_zero, List.set_cons_succ]
          refine heldL_nil ?_
          go_wp2_with fail
          have h7 := H6.out.setGate hgin (W := p2.win gate) (S := p2.stk gate + leaseN l p2.cs T (max cost batch)) (by have := (H6.out.gat _ hgin).set 1 (.int .i64 (p2.stk gate + leaseN l p2.cs T (max cost batch))); simpa using this) (Only.cell1 _ gb 1 _)
          rw [upd_self] at h7
          have h7 : SpAt (w6.setCell ⟨gb, 1, none⟩ (.int .i64 (p2.stk gate + leaseN l p2.cs T (max cost batch)))) B gs gc mc6 gm gl3 A' c' ob' l batch D (addP { p2 with cs := leaseS l p2.cs T gate (max cost batch) } gate (leaseN l p2.cs T (max cost batch))) := h7
          have m7 : Mod (Far w B spT) w (w6.setCell ⟨gb, 1, none⟩ (.int .i64 (p2.stk gate + leaseN l p2.cs T (max cost batch)))) := by
            refine Far.trans (Far.trans (M4.out.drewN 2) (hm6.mono (T := Far (w4.drewN 2) B spT) (fun k hk e => ?_))) (Far.only (Far.of_tb (H6.out.gat _ hgin).tb (H6.out.bgl _ hgin) (by simp)) (Only.cell1 _ gb 1 _))
            rcases e with e | e
            · subst e; exact Far.of_tb H4.out.cen.1.tb H4.out.bc (by simp)
            · subst e; exact Far.of_map H4.out.cen.2 H4.out.bm
          have x7 := X6.out.mod (Only.cell1 _ gb 1 (.int .i64 (p2.stk gate + leaseN l p2.cs T (max cost batch)))) hxgb
          have hs7 : 0 ≤ (addP { p2 with cs := leaseS l p2.cs T gate (max cost batch) } gate (leaseN l p2.cs T (max cost batch))).stk gate ∧ (addP { p2 with cs := leaseS l p2.cs T gate (max cost batch) } gate (leaseN l p2.cs T (max cost batch))).stk gate ≤ 1000000000000000 := by
            simp only [addP, upd_same, leaseN]; omega
          refine (gate_take _ B gs gc mc6 gm gl3 A' c' ob' l batch D _ h7 gate gb hgin cost hvc hs7.1 hs7.2).mono ?_
          rintro e w8 ⟨rfl, h8, hm8⟩
          go_wp2_with fail
          go_ret
          exact ⟨_, _, _, _, _, by rw [HV2.out]; rfl, by rw [HV2.out]; exact h8, Far.trans m7 (Far.mono hm8 (by simp))⟩
        · have hvp := HV.out
          rw [if_neg hD0] at hvp
          have HV2 := Lib.hid hvp
          have hd0 : (D == 0) = false := by simp [hD0]
          clear hvp hD0 HV HVP
          have hpred : ∀ q0 : Nat, OrdPred (w4.drewN q0) 77 (.pointer (some ⟨xb, 0, none⟩)) ob' (fun i => decide (((p2.os[i]?).map (·.gate)).getD gate = gate)) := by
            intro q0 i hi qq
            have hio : i < p2.os.length := by rw [← H4.out.len]; exact hi
            have ho := H4.out.ord i ob'[i] p2.os[i] (List.getElem?_eq_getElem hi) (List.getElem?_eq_getElem hio)
            have hM : Mod (fun _ => False) w4 ((w4.drewN q0).drewN qq) := ((Mod.refl _ w4).drewN q0).drewN qq
            have := visit1 ob'[i] xb p2.os[i] _ _ gate ((w4.drewN q0).drewN qq) (X4.out.mod hM (fun e => e)) (ho.mod hM (fun e => e))
            have e9 : decide (((p2.os[i]?).map (·.gate)).getD gate = gate) = decide (p2.os[i].gate = gate) := by rw [List.getElem?_eq_getElem hio]; rfl
            rw [← e9] at this
            exact this
          have hcont := containsFunc_ord 77 (.pointer (some ⟨xb, 0, none⟩)) enters_visit1 (w4.drewN 1) A' p2.os.length c' ob' (H4.out.own.drewN 1).sl _ (hpred 1) (by omega)
          have hany := firstIx_any (fun i => decide (((p2.os[i]?).map (·.gate)).getD gate = gate)) p2.os.length p2.os (fun o => decide (o.gate = gate)) rfl (fun i hi => by rw [List.getElem?_eq_getElem hi]; rfl)
          rw [hany] at hcont
          clear hany hpred
          cases hin : p2.os.any (fun o => decide (o.gate = gate)) with
          | true =>
            have hvp := HV2.out
            rw [if_pos hin] at hvp
            rw [hin] at hcont
            have HV3 := Lib.hid hvp
            clear hvp hin
            go_wp2_with (go_at_call 76; refine hcont.mono ?_; clear hcont; rintro e w6 ⟨rfl, q6, rfl⟩)
            go_ret
            exact ⟨_, _, _, _, _, by rw [HV3.out]; rfl, by rw [HV3.out]; exact H4.out.new ((Mod.refl _ _).drewN (1 + q6)), M4.out.drewN _⟩
          | false =>
            have hvp := HV2.out
            rw [if_neg (by rw [hin]; simp)] at hvp
            rw [hin] at hcont
            have HV3 := Lib.hid hvp
            clear hvp hin
            go_wp2_with (go_at_call 76; refine hcont.mono ?_; clear hcont; rintro e w6 ⟨rfl, q6, rfl⟩)
            have h5 := H4.out.new ((Mod.refl (fun _ => False) w4).drewN (1 + q6))
            have x5 := X4.out.mod ((Mod.refl (fun _ => False) w4).drewN (1 + q6)) (fun e => e)
            have m5 : Mod (Far w B spT) w (w4.drewN (1 + q6)) := M4.out.drewN _
            have hB5 : B ≤ (w4.drewN (1 + q6)).heap.size := by show B ≤ w4.heap.size; omega
            clear u0 u1 u2 s0 s1 s2 s4 f4 g1 gf1 hxl hgsl
            generalize w4.drewN (1 + q6) = w5 at *
            have u0 := x5.cell 0
            have u1 := x5.cell 1
            have s4 := h5.blk.cell 4
            have sl4 := h5.blk.lt
            have hxl := x5.lt
            simp at u0 u1 s4
            have H5 := Lib.hid h5
            have X5 := Lib.hid x5
            have M5 := Lib.hid m5
            clear h5 x5 m5
            refine wp_region_held_tail (fun w' => w'.cell? ⟨gs, 4, none⟩ = some (.slice A' p2.os.length c') ∧ w'.cell? ⟨xb, 0, none⟩ = some (.int .i64 T) ∧ w'.cell? ⟨xb, 1, none⟩ = some (.string gate)) [11, 12, 13] 14 (by kernel_rfl) (by kernel_rfl) (fun _ _ d _ _ h => by cases d <;> exact h) ?_ (fun hHeld => ?_)
            · exact ⟨s4, u0, u1⟩
            simp only [List.take_succ_cons, List.take_zero, List.drop_succ_cons, List.drop_zero]
            refine heldL_take ?_ (by rfl) (by rfl) (fun w hSw => ?_) ?_
            rotate_left
            · (try dsimp only at hSw); go_simp; any_goals (with_reducible rfl)
            simp only [Act.put, List.setIfInBounds_toArray, List.set_cons_zero, List.set_cons_succ]
            refine heldL_take ?_ (by rfl) (by rfl) (fun w hSw => ?_) ?_
            rotate_left
            · (try dsimp only at hSw); go_simp; any_goals (with_reducible rfl)
            simp only [Act.put, List.setIfInBounds_toArray, List.set_cons_zero, List.set_cons_succ]
            refine heldL_take ?_ (by rfl) (by rfl) (fun w hSw => ?_) ?_
            rotate_left
            · (try dsimp only at hSw); go_simp; any_goals (with_reducible rfl)
            simp only [Act.put, List.setIfInBounds_toArray, List.set_cons_zero, List.set_cons_succ]
            refine heldL_take ?_ (by rfl) (by rfl) (fun w hSw => ?_) ?_
            rotate_left
            · (try dsimp only at hSw); go_simp; any_goals (with_reducible rfl)
            simp only [Act.put, List.setIfInBounds_toArray, List.set_cons_zero, List.set_cons_succ]
            refine heldL_take ?_ (by rfl) (by rfl) (fun w hSw => ?_) ?_
            rotate_left
            · (try dsimp only at hSw); go_simp; any_goals (with_reducible rfl)
            simp only [Act.put, List.setIfInBounds_toArray, List.set_cons_zero, List.set_cons_succ]
            refine heldL_take ?_ (by rfl) (by rfl) (fun w hSw => ?_) ?_
            rotate_left
            · (try dsimp only at hSw); go_simp; any_goals (with_reducible rfl)
            simp only [Act.put, List.setIfInBounds_toArray, List.set_cons_zero, List.set_cons_succ]
            refine heldL_take ?_ (by rfl) (by rfl) (fun w hSw => ?_) ?_
            rotate_left
            · (try dsimp only at hSw); go_simp; any_goals (with_reducible rfl)
            simp only [Act.put, List.setIfInBounds_toArray, List.set_cons_zero, List.set_cons_succ]
            refine heldL_take ?_ (by rfl) (by rfl) (fun w hSw => ?_) ?_
            rotate_left
            · (try dsimp only at hSw); go_simp; any_goals (with_reducible rfl)
            simp only [Act.put, List.setIfInBounds_toArray, List.set_cons_zero, List.set_cons_succ]
            refine heldL_take ?_ (by rfl) (by rfl) (fun w hSw => ?_) ?_
            rotate_left
            · (try dsimp only at hSw); go_simp; any_goals (with_reducible rfl)
            simp only [Act.put, List.setIfInBounds_toArray, List.set_cons_zero, List.set_cons_succ]
            refine heldL_take ?_ (by rfl) (by rfl) (fun w hSw => ?_) ?_
            rotate_left
            · (try dsimp only at hSw); go_simp; any_goals (with_reducible rfl)
            simp only [Act.put, List.setIfInBounds_toArray, List.set_cons_zero, List.set_cons_succ]
            refine heldL_take ?_ (by rfl) (by rfl) (fun w hSw => ?_) ?_
            rotate_left
            · (try dsimp only at hSw); go_simp; any_goals (with_reducible rfl)
            simp only [Act.put, List.setIfInBounds_toArray, List.set_cons_zero, List.set_cons_succ]
            refine heldL_step (by rfl) (by rfl) (by rfl) (fun K hK => ?_)
            go_simp
            refine hK.out _ _ (by go_keep) (fun hHeld => ?_)
            clear hK K
            try simp only [Act.put, List.setIfInBounds_toArray, List.set_cons_zero, List.set_cons_succ]
            refine heldL_step (by rfl) (by rfl) (by rfl) (fun K hK => ?_)
            go_simp
            refine hK.out _ _ (by go_keep) (fun hHeld => ?_)
            clear hK K
            try simp only [Act.put, List.setIfInBounds_toArray, List.set_cons_zero, List.set_cons_succ]
            refine heldL_step (by rfl) (by rfl) (by rfl) (fun K hK => ?_)
            refine wp_push (.tmp 75) (.tmp 83) _ rfl 8 Tryz.underlying85 einfo_ptr rfl (by exact ((H5.out.own.drewN 1).alloc _).alloc _) w5.heap.size (w5.heap.size + 1) rfl (by exact Blk.new' _ _ (by simp)) (fun _ _ => rfl) (by omega) (by omega) (by simp; omega) ?_
            intro g7 cap7 w7 hown7 hm7 hat7 hlt7
            have h6 := H5.out.new ((((Mod.refl (fun _ => False) w5).drewN 1).alloc (.cells #[.int .i64 T, .int .i64 (max cost batch), .string gate, .int .i64 0, .bool false] 138)).alloc (.cells #[.pointer (some ⟨w5.heap.size, 0, none⟩)] 128))
            have x6 := X5.out.mod ((((Mod.refl (fun _ => False) w5).drewN 1).alloc (.cells #[.int .i64 T, .int .i64 (max cost batch), .string gate, .int .i64 0, .bool false] 138)).alloc (.cells #[.pointer (some ⟨w5.heap.size, 0, none⟩)] 128)) (fun e => e)
            have o6 := (Blk.new (w5.drewN 1) 138 #[.int .i64 T, .int .i64 (max cost batch), .string gate, .int .i64 0, .bool false]).mod ((Mod.refl (fun _ => False) _).alloc (.cells #[.pointer (some ⟨w5.heap.size, 0, none⟩)] 128)) (fun e => e)
            have m6 : Mod (Far w B spT) w _ := Far.trans M5.out (Far.new ((((Mod.refl (fun _ => False) w5).drewN 1).alloc (.cells #[.int .i64 T, .int .i64 (max cost batch), .string gate, .int .i64 0, .bool false] 138)).alloc (.cells #[.pointer (some ⟨w5.heap.size, 0, none⟩)] 128)))
            have b7 := h6.blk.mod hm7 (fun e => h6.ownNe h6.blk.tb (by decide) _ e rfl)
            have x7 := x6.mod hm7 (fun e => h6.ownNe x6.tb (by decide) _ e rfl)
            have k0 : w7.cell? ⟨gs, 4, none⟩ = some (.slice A' p2.os.length c') := (b7.cell 4).trans rfl
            have k1 : w7.cell? ⟨xb, 0, none⟩ = some (.int .i64 T) := (x7.cell 0).trans rfl
            have k2 : w7.cell? ⟨xb, 1, none⟩ = some (.string gate) := (x7.cell 1).trans rfl
            have kf := b7.frozen 4
            have kl := b7.lt
            refine hK.out _ _ ⟨k0, k1, k2⟩ (fun hHeld => ?_)
            have HO7 := Lib.hid hown7
            have HM7 := Lib.hid hm7
            have H6 := Lib.hid h6
            have O6 := Lib.hid o6
            have M6 := Lib.hid m6
            have B7 := Lib.hid b7
            have hobl : ∀ b ∈ ob', b < w5.heap.size := fun b hb => by
              obtain ⟨j, hj, hjb⟩ := List.getElem_of_mem hb
              have hjo : j < p2.os.length := by rw [← H5.out.len]; exact hj
              exact (H5.out.ord j b p2.os[j] (by rw [List.getElem?_eq_getElem hj, hjb]) (List.getElem?_eq_getElem hjo)).lt
            have HOB := Lib.hid hobl
            clear hK K hown7 hm7 h6 x6 o6 m6 b7 x7 hobl
            try simp only [Act.put, List.setIfInBounds_toArray, List.set_cons_zero, List.set_cons_succ]
            refine heldL_nil ?_
            go_wp2_with fail
            go_ret
            refine ⟨mc', gl3, some ⟨g7, 0, none⟩, cap7, ob' ++ [w5.heap.size], by rw [HV3.out]; rfl, ?_, ?_⟩
            · rw [HV3.out]
              exact H6.out.addOrd (o := ⟨T, max cost batch, gate, 0, false⟩) O6.out (fun hmem => Nat.lt_irrefl _ (HOB.out _ hmem)) hB5 HO7.out HM7.out (Only.cell1 w7 gs 4 _) (by have := B7.out.set 4 (.slice (some ⟨g7, 0, none⟩) (p2.os.length + 1) cap7); simpa using this)
            · refine Far.trans (Far.trans M6.out (HM7.out.mono (fun k hk e => ?_))) (Far.only (Far.of_tb B7.out.tb H5.out.bs (by simp)) (Only.cell1 w7 gs 4 _))
              rcases H6.out.own.blk with ⟨hA, _⟩ | ⟨g', hA, hBg, hg⟩
              · rw [hA] at e; cases e
              · rw [hA] at e; injection e with e; subst e; exact Far.of_tb hg hBg (by simp)

end Go.Proofs.YtinnckbffblecaaGreat
