/- What is wrong with a part of a template (package route). Conditions: names of modest size. -/
import Derived.Test.YtjehlecgnepgmaaGreatDoorTpl3
import Derived.Test.YtjehlecgnepgmaaGreatDoorHeld2
import Derived.BigQuiet
namespace Go.Proofs.YtjehlecgnepgmaaGreatDoor
open Go.RowKit
set_option linter.unusedVariables false
set_option linter.unusedSimpArgs false

set_option maxHeartbeats 1000000 in
theorem kit_outside (n a b : Int) (w : World) :
    Calls Tryz.prog 69 #[.int .i64 n, .int .i64 a, .int .i64 b] w fun e w' => e = .returned (.bool (decide (n < a) || decide (b < n))) ∧ w = w' := by
  by_cases h : n < a
  · go_enter Tryz.func69, Tryz.ntmps69
    go_wp2
    go_ret
    exact ⟨by simp [h], rfl⟩
  · have h' : decide (n < a) = false := by simpa using h
    go_enter Tryz.func69, Tryz.ntmps69
    go_wp2
    go_ret
    exact ⟨by simp [h'], rfl⟩
set_option maxHeartbeats 1000000 in
theorem route_isRest (p : PartD) (w : World) :
    Calls Tryz.prog 70 #[p.val] w fun e w' => e = .returned (.bool (decide (p.kind = 3))) ∧ New w w' := by
  obtain ⟨pk, pn⟩ := p
  have hb := Blk.new w 34 #[.int .i64 pk, .string pn]
  have HM : Hid (New w (w.alloc (.cells #[.int .i64 pk, .string pn] 34))) := Lib.hid ((Mod.refl _ _).alloc _)
  have hd : ((pk : Int) == 3) = decide (pk = 3) := by rw [Bool.eq_iff_iff]; simp
  unfold PartD.val
  simp only
  clear hb
  go_enter Tryz.func70, Tryz.ntmps70
  go_wp2_with fail
  go_ret
  exact ⟨ret_bool hd, HM.out⟩
theorem PSl.take {w : World} {A : Option Addr} {n : Nat} {ps : List PartD} (h : PSl w A n ps) {k : Nat} (hk : k ≤ n) : PSl w A k (ps.take k) := by
  have hl := h.1
  refine ⟨by simp; omega, fun h0 => ?_⟩
  obtain ⟨g, o, hA, htb, hc⟩ := h.2 (by omega)
  exact ⟨g, o, hA, htb, fun i hi j hj => by
    have hi2 : i < ps.length := by simp at hi; omega
    rw [hc i hi2 j hj]
    simp⟩
/-- parts whose names are of modest size -/
def PShort (ps : List PartD) : Prop := ∀ p ∈ ps, p.name.size ≤ 100000
def badArg (pk : Int) (pn : ByteArray) (before : List PartD) (last : Bool) : Int :=
  if (decide (pk < 1) || decide (3 < pk)) = true then 4
  else if pk = 1 then (if dotsL pn.data.toList = true then 5 else 0)
  else if isWord pn.data.toList = false then 5
  else if hasP before pn = true then 6
  else if pk = 3 ∧ last = false then 7
  else 0
theorem partBad_arg (before : List PartD) (pk : Int) (pn : ByteArray) (last : Bool) : partBad before ⟨pk, pn⟩ last = badArg pk pn before last := by
  unfold partBad badArg
  have e : (!(decide (1 ≤ pk) && decide (pk ≤ 3))) = (decide (pk < 1) || decide (3 < pk)) := by
    rw [Bool.eq_iff_iff]
    simp only [Bool.not_eq_true', Bool.and_eq_false_iff, decide_eq_false_iff_not, Bool.or_eq_true, decide_eq_true_eq]
    omega
  simp only [e, Bool.not_eq_true']
set_option maxRecDepth 100000 in
set_option maxHeartbeats 4000000 in
theorem route_partFault (A : Option Addr) (n c : Nat) (ps : List PartD) (k : Nat) (w : World) (hps : PSl w A n ps) (hn : n ≤ 100000) (hnc : n ≤ c) (hk : k < ps.length) (hsh : PShort ps) :
    Calls Tryz.prog 34 #[.slice A n c, .int .i64 (k : Int)] w fun e w' => e = .returned (.int .i64 (partBad (ps.take k) ps[k] (decide (k + 1 = ps.length)))) ∧ New w w' := by
  have hl := hps.1
  have hkn : k < n := by omega
  obtain ⟨g, o, hA, htb, hc⟩ := hps.2 (by omega)
  have hgl := htb.lt
  have c0 := hc k hk 0 (by decide)
  have c1 := hc k hk 1 (by decide)
  have hHP := fun (W : World) (h : New w W) (s : ByteArray) => route_hasParam A k c (ps.take k) s W ((hps.take (by omega)).new h) (by omega)
  have hsz := hsh ps[k] (List.getElem_mem hk)
  have HTK := Lib.hid hHP
  clear hHP hps hc htb hsh
  generalize hpp : ps.take k = before at *
  generalize ps[k] = p at *
  have hlast : (decide (k + 1 = ps.length) = false) ↔ (k : Int) < (n : Int) - 1 := by rw [decide_eq_false_iff_not]; omega
  generalize decide (k + 1 = ps.length) = last at *
  obtain ⟨pk, pn⟩ := p
  rw [partBad_arg]
  simp only [PartD.enc, Nat.add_zero] at c0 c1
  simp only at hsz
  subst hA
  have hb1 : (0 : Int) ≤ k := by omega
  have hb2 : (k : Int) < n := by omega
  have hb3 : (k : Int) ≤ n := by omega
  have hb4 : (k : Int) ≤ c := by omega
  have hbx := Blk.new w 34 #[.int .i64 pk, .string pn]
  have hmx : New w (w.alloc (.cells #[.int .i64 pk, .string pn] 34)) := (Mod.refl _ _).alloc _
  have hQ : badArg pk pn before last = badArg pk pn before last := rfl
  clear hpp hl hk
  go_enter Tryz.func34, Tryz.ntmps34
  go_upto_region 2 with fail
  generalize w.alloc (.cells #[.int .i64 pk, .string pn] 34) = w1 at *
  generalize hxb : w.heap.size = xb at *
  have HX := Lib.hid hbx
  have HM : Hid (New w w1) := Lib.hid hmx
  clear hbx hmx c0 c1 hQ hxb
  have ho := kit_outside pk 1 3 w1
  have x0 := HX.out.cell 0
  have x1 := HX.out.cell 1
  have xl := HX.out.lt
  simp only [List.getElem?_toArray, List.getElem?_cons_zero, List.getElem?_cons_succ] at x0 x1
  by_cases h1 : (decide (pk < 1) || decide (3 < pk)) = true
  · rw [h1] at ho
    have HQ : Hid (badArg pk pn before last = 4) := Lib.hid (by unfold badArg; rw [if_pos h1])
    clear h1
    go_wp2_with (first | (refine ho.mono ?_; clear ho; rintro e w' ⟨rfl, rfl⟩))
    go_ret
    exact ⟨ret_int HQ.out.symm, HM.out⟩
  have ho' : (decide (pk < 1) || decide (3 < pk)) = false := by simpa using h1
  rw [ho'] at ho
  have hQ1 : badArg pk pn before last = if pk = 1 then (if dotsL pn.data.toList = true then 5 else 0)
      else if isWord pn.data.toList = false then 5
      else if hasP before pn = true then 6
      else if pk = 3 ∧ last = false then 7
      else 0 := by unfold badArg; rw [if_neg h1]
  have hp3 : 1 ≤ pk ∧ pk ≤ 3 := by
    simp only [Bool.or_eq_false_iff, decide_eq_false_iff_not] at ho'
    omega
  clear h1 ho'
  by_cases hk1 : pk = 1
  · subst hk1
    rw [if_pos rfl] at hQ1
    have hd := route_isDots pn w1
    cases hdq : dotsL pn.data.toList <;> rw [hdq] at hd hQ1
    · have HQ : Hid (badArg 1 pn before last = 0) := Lib.hid hQ1
      clear hQ1 hdq
      go_wp2_with (first | (refine ho.mono ?_; clear ho; rintro e w' ⟨rfl, rfl⟩) | (refine hd.mono ?_; clear hd; rintro e w' ⟨rfl, rfl⟩))
      go_ret
      exact ⟨ret_int HQ.out.symm, HM.out⟩
    · have HQ : Hid (badArg 1 pn before last = 5) := Lib.hid hQ1
      clear hQ1 hdq
      go_wp2_with (first | (refine ho.mono ?_; clear ho; rintro e w' ⟨rfl, rfl⟩) | (refine hd.mono ?_; clear hd; rintro e w' ⟨rfl, rfl⟩))
      go_ret
      exact ⟨ret_int HQ.out.symm, HM.out⟩
  · rw [if_neg hk1] at hQ1
    have hk1' : ((pk : Int) == 1) = false := by simpa using hk1
    have hw := val_isWord pn w1 (by unfold maxLen; omega)
    cases hwq : isWord pn.data.toList <;> rw [hwq] at hw hQ1
    · have HQ : Hid (badArg pk pn before last = 5) := Lib.hid hQ1
      clear hQ1 hwq
      go_wp2_with (first | (refine ho.mono ?_; clear ho; rintro e w' ⟨rfl, rfl⟩) | (refine hw.mono ?_; clear hw; rintro e w2 ⟨rfl, hm2⟩; have hm2 := Lib.hid hm2))
      go_ret
      exact ⟨ret_int HQ.out.symm, HM.out.trans hm2.out⟩
    · rw [if_neg (by decide)] at hQ1
      clear hwq
      go_upto_region 10 with (first | (refine ho.mono ?_; clear ho; rintro e w' ⟨rfl, rfl⟩) | (refine hw.mono ?_; clear hw; rintro e w2 ⟨rfl, hm2⟩))
      clear x0 x1 xl
      have HX1 := Lib.hid (HX.out.new2 hm2)
      have HM1 : Hid (New w _) := Lib.hid (HM.out.trans hm2)
      clear HX HM
      have HX := HX1
      have HM := HM1
      clear HX1 HM1
      clear hm2
      have HS : Hid (∀ W, New w2 W → W.cell? ⟨xb, 0, none⟩ = some (.int .i64 pk) ∧ W.cell? ⟨xb, 1, none⟩ = some (.string pn) ∧ xb < W.heap.size) := Lib.hid (fun W hW => by
        have h := HX.out.new2 hW
        exact ⟨(h.cell 0).trans rfl, (h.cell 1).trans rfl, h.lt⟩)
      refine wp_region_held_ord (fun W => W.cell? ⟨xb, 0, none⟩ = some (.int .i64 pk) ∧ W.cell? ⟨xb, 1, none⟩ = some (.string pn) ∧ xb < W.heap.size) [5] [0, 1, 2, 3, 4, 5] (by kernel_rfl) (by kernel_rfl) (fun _ _ d _ _ h => by cases d <;> exact h) ?_ (fun hHeld => ?_)
      · exact HS.out _ (Mod.refl _ _).drew
      simp only [List.length_cons, List.length_nil, List.drop_succ_cons, List.drop_zero]
      refine heldO_take ?_ (by rfl) (by rfl) (by rfl) (fun w hSw => ?_) ?_
      rotate_left
      · (try dsimp only at hSw); (try simp only [List.getElem_toArray, List.getElem_cons_zero, List.getElem_cons_succ]); go_simp; any_goals (with_reducible rfl)
      simp only [Act.put, List.getElem_toArray, List.getElem_cons_zero, List.getElem_cons_succ, List.setIfInBounds_toArray, List.set_cons_zero, List.set_cons_succ]
      refine heldO_take ?_ (by rfl) (by rfl) (by rfl) (fun w hSw => ?_) ?_
      rotate_left
      · (try dsimp only at hSw); (try simp only [List.getElem_toArray, List.getElem_cons_zero, List.getElem_cons_succ]); go_simp; any_goals (with_reducible rfl)
      simp only [Act.put, List.getElem_toArray, List.getElem_cons_zero, List.getElem_cons_succ, List.setIfInBounds_toArray, List.set_cons_zero, List.set_cons_succ]
      refine heldO_take ?_ (by rfl) (by rfl) (by rfl) (fun w hSw => ?_) ?_
      rotate_left
      · (try dsimp only at hSw); (try simp only [List.getElem_toArray, List.getElem_cons_zero, List.getElem_cons_succ]); go_simp; any_goals (with_reducible rfl)
      simp only [Act.put, List.getElem_toArray, List.getElem_cons_zero, List.getElem_cons_succ, List.setIfInBounds_toArray, List.set_cons_zero, List.set_cons_succ]
      refine heldO_take ?_ (by rfl) (by rfl) (by rfl) (fun w hSw => ?_) ?_
      rotate_left
      · (try dsimp only at hSw); (try simp only [List.getElem_toArray, List.getElem_cons_zero, List.getElem_cons_succ]); go_simp; any_goals (with_reducible rfl)
      simp only [Act.put, List.getElem_toArray, List.getElem_cons_zero, List.getElem_cons_succ, List.setIfInBounds_toArray, List.set_cons_zero, List.set_cons_succ]
      refine heldO_take ?_ (by rfl) (by rfl) (by rfl) (fun w hSw => ?_) ?_
      rotate_left
      · (try dsimp only at hSw); (try simp only [List.getElem_toArray, List.getElem_cons_zero, List.getElem_cons_succ]); go_simp; any_goals (with_reducible rfl)
      simp only [Act.put, List.getElem_toArray, List.getElem_cons_zero, List.getElem_cons_succ, List.setIfInBounds_toArray, List.set_cons_zero, List.set_cons_succ]
      refine heldO_step (by rfl) (by rfl) (by rfl) (fun K hK => ?_)
      go_simp
      have hm2d : New w2 w2.drew := (Mod.refl (fun _ => False) w2).drew
      refine (HTK.out w2.drew (HM.out.trans hm2d) pn).mono ?_
      rintro e w4 ⟨rfl, hm4⟩
      have m24 := hm2d.trans hm4
      go_wp2_with fail
      refine hK.out _ _ (HS.out _ m24) (fun hHeld => ?_)
      clear hK K hHeld
      try simp only [Act.put, List.setIfInBounds_toArray, List.set_cons_zero, List.set_cons_succ]
      have HX1 := Lib.hid (HX.out.new2 m24)
      have HM1 : Hid (New w _) := Lib.hid (HM.out.trans m24)
      clear HX HM
      have HX := HX1
      have HM := HM1
      clear HX1 HM1
      clear m24 hm4 hm2d
      refine heldO_nil ?_
      have x0 := HX.out.cell 0
      have x1 := HX.out.cell 1
      have xl := HX.out.lt
      simp only [List.getElem?_toArray, List.getElem?_cons_zero, List.getElem?_cons_succ] at x0 x1
      cases hhq : hasP before pn <;> rw [hhq] at hQ1
      · rw [if_neg (by decide)] at hQ1
        by_cases hk3 : pk = 3
        · subst hk3
          have hir := route_isRest ⟨3, pn⟩ w4
          by_cases hls : (k : Int) < (n : Int) - 1
          · have HQ : Hid (badArg 3 pn before last = 7) := Lib.hid (by rw [hQ1, if_pos ⟨rfl, hlast.2 hls⟩])
            clear hQ1 hhq hlast
            go_wp2_with (first | (refine hir.mono ?_; clear hir; rintro e w5 ⟨rfl, hm5⟩; have hm5 := Lib.hid hm5))
            go_ret
            exact ⟨ret_int HQ.out.symm, HM.out.trans hm5.out⟩
          · have HQ : Hid (badArg 3 pn before last = 0) := Lib.hid (by rw [hQ1, if_neg (fun h => hls (hlast.1 h.2))])
            clear hQ1 hhq hlast
            go_wp2_with (first | (refine hir.mono ?_; clear hir; rintro e w5 ⟨rfl, hm5⟩; have hm5 := Lib.hid hm5))
            go_ret
            exact ⟨ret_int HQ.out.symm, HM.out.trans hm5.out⟩
        · have hir := route_isRest ⟨pk, pn⟩ w4
          rw [decide_eq_false hk3] at hir
          have HQ : Hid (badArg pk pn before last = 0) := Lib.hid (by rw [hQ1, if_neg (fun h => hk3 h.1)])
          clear hQ1 hhq hlast
          go_wp2_with (first | (refine hir.mono ?_; clear hir; rintro e w5 ⟨rfl, hm5⟩; have hm5 := Lib.hid hm5))
          go_ret
          exact ⟨ret_int HQ.out.symm, HM.out.trans hm5.out⟩
      · have HQ : Hid (badArg pk pn before last = 6) := Lib.hid (by rw [hQ1, if_pos rfl])
        clear hQ1 hhq
        go_wp2_with fail
        go_ret
        exact ⟨ret_int HQ.out.symm, HM.out⟩

end Go.Proofs.YtjehlecgnepgmaaGreatDoor
