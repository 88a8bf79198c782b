/- Several texts in one. (1) What is wrong with a part of a template (package route). Conditions: names of modest size. (2) The text of a template (package route: TemplateText). Conditions: names of at most 1000 bytes. (3) The reference writes a segment (segmentText). Conditions: a name of modest size. -/
import Derived.Test.YtjehlecgnepgmaaGreatDoorTpl3
import Derived.Test.YtjehlecgnepgmaaGreatDoorHeldGrp
import Derived.BigQuiet

namespace Go.Proofs.YtjehlecgnepgmaaGreatDoor
open Go.RowKit
set_option linter.unusedVariables false
set_option linter.unusedSimpArgs false

set_option maxHeartbeats 1000000 in
theorem kit_outside (n a b : Int) (w : World) :
    Calls Tryz.prog 69 #[.int .i64 n, .int .i64 a, .int .i64 b] w fun e w' => e = .returned (.bool (decide (n < a) || decide (b < n))) ∧ w = w' := by
  by_cases h : n < a
  · go_enter Tryz.func69, Tryz.ntmps69
    go_wp2
    go_ret
    exact ⟨by simp [h], rfl⟩
  · have h' : decide (n < a) = false := by simpa using h
    go_enter Tryz.func69, Tryz.ntmps69
    go_wp2
    go_ret
    exact ⟨by simp [h'], rfl⟩
set_option maxHeartbeats 1000000 in
theorem route_isRest (p : PartD) (w : World) :
    Calls Tryz.prog 70 #[p.val] w fun e w' => e = .returned (.bool (decide (p.kind = 3))) ∧ New w w' := by
  obtain ⟨pk, pn⟩ := p
  have hb := Blk.new w 34 #[.int .i64 pk, .string pn]
  have HM : Hid (New w (w.alloc (.cells #[.int .i64 pk, .string pn] 34))) := Lib.hid ((Mod.refl _ _).alloc _)
  have hd : ((pk : Int) == 3) = decide (pk = 3) := by rw [Bool.eq_iff_iff]; simp
  unfold PartD.val
  simp only
  clear hb
  go_enter Tryz.func70, Tryz.ntmps70
  go_wp2_with fail
  go_ret
  exact ⟨ret_bool hd, HM.out⟩
theorem PSl.take {w : World} {A : Option Addr} {n : Nat} {ps : List PartD} (h : PSl w A n ps) {k : Nat} (hk : k ≤ n) : PSl w A k (ps.take k) := by
  have hl := h.1
  refine ⟨by simp; omega, fun h0 => ?_⟩
  obtain ⟨g, o, hA, htb, hc⟩ := h.2 (by omega)
  exact ⟨g, o, hA, htb, fun i hi j hj => by
    have hi2 : i < ps.length := by simp at hi; omega
    rw [hc i hi2 j hj]
    simp⟩
/-- parts whose names are of modest size -/
def PShort (ps : List PartD) : Prop := ∀ p ∈ ps, p.name.size ≤ 100000
def badArg (pk : Int) (pn : ByteArray) (before : List PartD) (last : Bool) : Int :=
  if (decide (pk < 1) || decide (3 < pk)) = true then 4
  else if pk = 1 then (if dotsL pn.data.toList = true then 5 else 0)
  else if isWord pn.data.toList = false then 5
  else if hasP before pn = true then 6
  else if pk = 3 ∧ last = false then 7
  else 0
theorem partBad_arg (before : List PartD) (pk : Int) (pn : ByteArray) (last : Bool) : partBad before ⟨pk, pn⟩ last = badArg pk pn before last := by
  unfold partBad badArg
  have e : (!(decide (1 ≤ pk) && decide (pk ≤ 3))) = (decide (pk < 1) || decide (3 < pk)) := by
    rw [Bool.eq_iff_iff]
    simp only [Bool.not_eq_true', Bool.and_eq_false_iff, decide_eq_false_iff_not, Bool.or_eq_true, decide_eq_true_eq]
    omega
  simp only [e, Bool.not_eq_true']
set_option maxRecDepth 100000 in
set_option maxHeartbeats 4000000 in
theorem route_partFault (A : Option Addr) (n c : Nat) (ps : List PartD) (k : Nat) (w : World) (hps : PSl w A n ps) (hn : n ≤ 100000) (hnc : n ≤ c) (hk : k < ps.length) (hsh : PShort ps) :
    Calls Tryz.prog 34 #[.slice A n c, .int .i64 (k : Int)] w fun e w' => e = .returned (.int .i64 (partBad (ps.take k) ps[k] (decide (k + 1 = ps.length)))) ∧ New w w' := by
  have hl := hps.1
  have hkn : k < n := by omega
  obtain ⟨g, o, hA, htb, hc⟩ := hps.2 (by omega)
  have hgl := htb.lt
  have c0 := hc k hk 0 (by decide)
  have c1 := hc k hk 1 (by decide)
  have hHP := fun (W : World) (h : New w W) (s : ByteArray) => route_hasParam A k c (ps.take k) s W ((hps.take (by omega)).new h) (by omega)
  have hsz := hsh ps[k] (List.getElem_mem hk)
  have HTK := Lib.hid hHP
  clear hHP hps hc htb hsh
  generalize hpp : ps.take k = before at *
  generalize ps[k] = p at *
  have hlast : (decide (k + 1 = ps.length) = false) ↔ (k : Int) < (n : Int) - 1 := by rw [decide_eq_false_iff_not]; omega
  generalize decide (k + 1 = ps.length) = last at *
  obtain ⟨pk, pn⟩ := p
  rw [partBad_arg]
  simp only [PartD.enc, Nat.add_zero] at c0 c1
  simp only at hsz
  subst hA
  have hb1 : (0 : Int) ≤ k := by omega
  have hb2 : (k : Int) < n := by omega
  have hb3 : (k : Int) ≤ n := by omega
  have hb4 : (k : Int) ≤ c := by omega
  have hbx := Blk.new w 34 #[.int .i64 pk, .string pn]
  have hmx : New w (w.alloc (.cells #[.int .i64 pk, .string pn] 34)) := (Mod.refl _ _).alloc _
  have hQ : badArg pk pn before last = badArg pk pn before last := rfl
  clear hpp hl hk
  go_enter Tryz.func34, Tryz.ntmps34
  go_upto_region 2 with fail
  generalize w.alloc (.cells #[.int .i64 pk, .string pn] 34) = w1 at *
  generalize hxb : w.heap.size = xb at *
  have HX := Lib.hid hbx
  have HM : Hid (New w w1) := Lib.hid hmx
  clear hbx hmx c0 c1 hQ hxb
  have ho := kit_outside pk 1 3 w1
  have x0 := HX.out.cell 0
  have x1 := HX.out.cell 1
  have xl := HX.out.lt
  simp only [List.getElem?_toArray, List.getElem?_cons_zero, List.getElem?_cons_succ] at x0 x1
  by_cases h1 : (decide (pk < 1) || decide (3 < pk)) = true
  · rw [h1] at ho
    have HQ : Hid (badArg pk pn before last = 4) := Lib.hid (by unfold badArg; rw [if_pos h1])
    clear h1
    go_wp2_with (first | (refine ho.mono ?_; clear ho; rintro e w' ⟨rfl, rfl⟩))
    go_ret
    exact ⟨ret_int HQ.out.symm, HM.out⟩
  have ho' : (decide (pk < 1) || decide (3 < pk)) = false := by simpa using h1
  rw [ho'] at ho
  have hQ1 : badArg pk pn before last = if pk = 1 then (if dotsL pn.data.toList = true then 5 else 0)
      else if isWord pn.data.toList = false then 5
      else if hasP before pn = true then 6
      else if pk = 3 ∧ last = false then 7
      else 0 := by unfold badArg; rw [if_neg h1]
  have hp3 : 1 ≤ pk ∧ pk ≤ 3 := by
    simp only [Bool.or_eq_false_iff, decide_eq_false_iff_not] at ho'
    omega
  clear h1 ho'
  by_cases hk1 : pk = 1
  · subst hk1
    rw [if_pos rfl] at hQ1
    have hd := route_isDots pn w1
    cases hdq : dotsL pn.data.toList <;> rw [hdq] at hd hQ1
    · have HQ : Hid (badArg 1 pn before last = 0) := Lib.hid hQ1
      clear hQ1 hdq
      go_wp2_with (first | (refine ho.mono ?_; clear ho; rintro e w' ⟨rfl, rfl⟩) | (refine hd.mono ?_; clear hd; rintro e w' ⟨rfl, rfl⟩))
      go_ret
      exact ⟨ret_int HQ.out.symm, HM.out⟩
    · have HQ : Hid (badArg 1 pn before last = 5) := Lib.hid hQ1
      clear hQ1 hdq
      go_wp2_with (first | (refine ho.mono ?_; clear ho; rintro e w' ⟨rfl, rfl⟩) | (refine hd.mono ?_; clear hd; rintro e w' ⟨rfl, rfl⟩))
      go_ret
      exact ⟨ret_int HQ.out.symm, HM.out⟩
  · rw [if_neg hk1] at hQ1
    have hk1' : ((pk : Int) == 1) = false := by simpa using hk1
    have hw := val_isWord pn w1 (by unfold maxLen; omega)
    cases hwq : isWord pn.data.toList <;> rw [hwq] at hw hQ1
    · have HQ : Hid (badArg pk pn before last = 5) := Lib.hid hQ1
      clear hQ1 hwq
      go_wp2_with (first | (refine ho.mono ?_; clear ho; rintro e w' ⟨rfl, rfl⟩) | (refine hw.mono ?_; clear hw; rintro e w2 ⟨rfl, hm2⟩; have hm2 := Lib.hid hm2))
      go_ret
      exact ⟨ret_int HQ.out.symm, HM.out.trans hm2.out⟩
    · rw [if_neg (by decide)] at hQ1
      clear hwq
      go_upto_region 10 with (first | (refine ho.mono ?_; clear ho; rintro e w' ⟨rfl, rfl⟩) | (refine hw.mono ?_; clear hw; rintro e w2 ⟨rfl, hm2⟩))
      clear x0 x1 xl
      have HX1 := Lib.hid (HX.out.new2 hm2)
      have HM1 : Hid (New w _) := Lib.hid (HM.out.trans hm2)
      clear HX HM
      have HX := HX1
      have HM := HM1
      clear HX1 HM1
      clear hm2
      have HS : Hid (∀ W, New w2 W → W.cell? ⟨xb, 0, none⟩ = some (.int .i64 pk) ∧ W.cell? ⟨xb, 1, none⟩ = some (.string pn) ∧ xb < W.heap.size) := Lib.hid (fun W hW => by
        have h := HX.out.new2 hW
        exact ⟨(h.cell 0).trans rfl, (h.cell 1).trans rfl, h.lt⟩)
      refine wp_region_held_ord (fun W => W.cell? ⟨xb, 0, none⟩ = some (.int .i64 pk) ∧ W.cell? ⟨xb, 1, none⟩ = some (.string pn) ∧ xb < W.heap.size) [5] [0, 1, 2, 3, 4, 5] (by kernel_rfl) (by kernel_rfl) (fun _ _ d _ _ h => by cases d <;> exact h) ?_ (fun hHeld => ?_)
      · exact HS.out _ (Mod.refl _ _).drew
      simp only [List.length_cons, List.length_nil, List.drop_succ_cons, List.drop_zero]
      refine heldO_take ?_ (by rfl) (by rfl) (by rfl) (fun w hSw => ?_) ?_
      rotate_left
      · (try dsimp only at hSw); (try simp only [List.getElem_toArray, List.getElem_cons_zero, List.getElem_cons_succ]); go_simp; any_goals (with_reducible rfl)
      simp only [Act.put, List.getElem_toArray, List.getElem_cons_zero, List.getElem_cons_succ, List.setIfInBounds_toArray, List.set_cons_zero, List.set_cons_succ]
      refine heldO_take ?_ (by rfl) (by rfl) (by rfl) (fun w hSw => ?_) ?_
      rotate_left
      · (try dsimp only at hSw); (try simp only [List.getElem_toArray, List.getElem_cons_zero, List.getElem_cons_succ]); go_simp; any_goals (with_reducible rfl)
      simp only [Act.put, List.getElem_toArray, List.getElem_cons_zero, List.getElem_cons_succ, List.setIfInBounds_toArray, List.set_cons_zero, List.set_cons_succ]
      refine heldO_take ?_ (by rfl) (by rfl) (by rfl) (fun w hSw => ?_) ?_
      rotate_left
      · (try dsimp only at hSw); (try simp only [List.getElem_toArray, List.getElem_cons_zero, List.getElem_cons_succ]); go_simp; any_goals (with_reducible rfl)
      simp only [Act.put, List.getElem_toArray, List.getElem_cons_zero, List.getElem_cons_succ, List.setIfInBounds_toArray, List.set_cons_zero, List.set_cons_succ]
      refine heldO_take ?_ (by rfl) (by rfl) (by rfl) (fun w hSw => ?_) ?_
      rotate_left
      · (try dsimp only at hSw); (try simp only [List.getElem_toArray, List.getElem_cons_zero, List.getElem_cons_succ]); go_simp; any_goals (with_reducible rfl)
      simp only [Act.put, List.getElem_toArray, List.getElem_cons_zero, List.getElem_cons_succ, List.setIfInBounds_toArray, List.set_cons_zero, List.set_cons_succ]
      refine heldO_take ?_ (by rfl) (by rfl) (by rfl) (fun w hSw => ?_) ?_
      rotate_left
      · (try dsimp only at hSw); (try simp only [List.getElem_toArray, List.getElem_cons_zero, List.getElem_cons_succ]); go_simp; any_goals (with_reducible rfl)
      simp only [Act.put, List.getElem_toArray, List.getElem_cons_zero, List.getElem_cons_succ, List.setIfInBounds_toArray, List.set_cons_zero, List.set_cons_succ]
      refine heldO_step (by rfl) (by rfl) (by rfl) (fun K hK => ?_)
      go_simp
      have hm2d : New w2 w2.drew := (Mod.refl (fun _ => False) w2).drew
      refine (HTK.out w2.drew (HM.out.trans hm2d) pn).mono ?_
      rintro e w4 ⟨rfl, hm4⟩
      have m24 := hm2d.trans hm4
      go_wp2_with fail
      refine hK.out _ _ (HS.out _ m24) (fun hHeld => ?_)
      clear hK K hHeld
      try simp only [Act.put, List.setIfInBounds_toArray, List.set_cons_zero, List.set_cons_succ]
      have HX1 := Lib.hid (HX.out.new2 m24)
      have HM1 : Hid (New w _) := Lib.hid (HM.out.trans m24)
      clear HX HM
      have HX := HX1
      have HM := HM1
      clear HX1 HM1
      clear m24 hm4 hm2d
      refine heldO_nil ?_
      have x0 := HX.out.cell 0
      have x1 := HX.out.cell 1
      have xl := HX.out.lt
      simp only [List.getElem?_toArray, List.getElem?_cons_zero, List.getElem?_cons_succ] at x0 x1
      cases hhq : hasP before pn <;> rw [hhq] at hQ1
      · rw [if_neg (by decide)] at hQ1
        by_cases hk3 : pk = 3
        · subst hk3
          have hir := route_isRest ⟨3, pn⟩ w4
          by_cases hls : (k : Int) < (n : Int) - 1
          · have HQ : Hid (badArg 3 pn before last = 7) := Lib.hid (by rw [hQ1, if_pos ⟨rfl, hlast.2 hls⟩])
            clear hQ1 hhq hlast
            go_wp2_with (first | (refine hir.mono ?_; clear hir; rintro e w5 ⟨rfl, hm5⟩; have hm5 := Lib.hid hm5))
            go_ret
            exact ⟨ret_int HQ.out.symm, HM.out.trans hm5.out⟩
          · have HQ : Hid (badArg 3 pn before last = 0) := Lib.hid (by rw [hQ1, if_neg (fun h => hls (hlast.1 h.2))])
            clear hQ1 hhq hlast
            go_wp2_with (first | (refine hir.mono ?_; clear hir; rintro e w5 ⟨rfl, hm5⟩; have hm5 := Lib.hid hm5))
            go_ret
            exact ⟨ret_int HQ.out.symm, HM.out.trans hm5.out⟩
        · have hir := route_isRest ⟨pk, pn⟩ w4
          rw [decide_eq_false hk3] at hir
          have HQ : Hid (badArg pk pn before last = 0) := Lib.hid (by rw [hQ1, if_neg (fun h => hk3 h.1)])
          clear hQ1 hhq hlast
          go_wp2_with (first | (refine hir.mono ?_; clear hir; rintro e w5 ⟨rfl, hm5⟩; have hm5 := Lib.hid hm5))
          go_ret
          exact ⟨ret_int HQ.out.symm, HM.out.trans hm5.out⟩
      · have HQ : Hid (badArg pk pn before last = 6) := Lib.hid (by rw [hQ1, if_pos rfl])
        clear hQ1 hhq
        go_wp2_with fail
        go_ret
        exact ⟨ret_int HQ.out.symm, HM.out⟩

end Go.Proofs.YtjehlecgnepgmaaGreatDoor

namespace Go.Proofs.YtjehlecgnepgmaaGreatDoor
open Go.RowKit
set_option linter.unusedVariables false
set_option linter.unusedSimpArgs false

def PMild (ps : List PartD) : Prop := ∀ p ∈ ps, p.name.size ≤ 1000
theorem PMild.short {ps : List PartD} (h : PMild ps) : PShort ps := fun p hp => by have := h p hp; omega
def RTxt (q : Int × List UInt8) (w : World) (e : Ending) (w' : World) : Prop := e = .returned (.tuple #[.string ⟨q.2.toArray⟩, .int .i64 q.1]) ∧ New w w'
theorem RTxt.fault {q : Int × List UInt8} {w w' : World} {x : Int} (h : q = (x, [])) (hm : New w w') : RTxt q w (.returned (.tuple #[.string ⟨#[]⟩, .int .i64 x])) w' := ⟨by rw [h], hm⟩
theorem partText_length {p : PartD} (h : p.name.size ≤ 1000) : (partText p).length ≤ 3010 := by
  have h1 : p.name.data.toList.length = p.name.size := rfl
  have h2 := segL_length p.name.data.toList
  unfold partText
  split
  · simp only [List.length_cons]; omega
  · split <;> simp only [List.length_cons, List.length_append, List.length_nil] <;> omega
theorem text_stop {ps : List PartD} {k : Nat} {out : List UInt8} (h0 : 0 < ps.length) (h30 : ps.length ≤ 30) (hk : k < ps.length) (h : partsText ps [] [] = partsText (ps.drop k) (ps.take k) out)
    (hne : partBad (ps.take k) ps[k] (decide (k + 1 = ps.length)) ≠ 0) : templateText ps = (partBad (ps.take k) ps[k] (decide (k + 1 = ps.length)), []) := by
  unfold templateText
  rw [if_neg (by omega), if_neg (by omega), h, partsText_more hk, if_pos hne, if_pos hne]
theorem text_step {ps : List PartD} {k : Nat} {out : List UInt8} (hk : k < ps.length) (h : partsText ps [] [] = partsText (ps.drop k) (ps.take k) out)
    (h0 : partBad (ps.take k) ps[k] (decide (k + 1 = ps.length)) = 0) : partsText ps [] [] = partsText (ps.drop (k + 1)) (ps.take (k + 1)) (out ++ partText ps[k]) := by
  rw [h, partsText_more hk, if_neg (fun e => e h0)]
theorem text_end {ps : List PartD} {out : List UInt8} (h0 : 0 < ps.length) (h30 : ps.length ≤ 30) (h : partsText ps [] [] = partsText (ps.drop ps.length) (ps.take ps.length) out) :
    templateText ps = if out.length > 1000 then (3, []) else (0, out) := by
  unfold templateText
  rw [if_neg (by omega), if_neg (by omega), h, List.drop_length]
  rfl
theorem badArg_kind {pk : Int} {pn : ByteArray} {b : List PartD} {l : Bool} (h : badArg pk pn b l = 0) : pk = 1 ∨ pk = 2 ∨ pk = 3 := by
  unfold badArg at h
  split at h
  · exact absurd h (by decide)
  · rename_i h1
    simp only [Bool.or_eq_true, decide_eq_true_eq, not_or] at h1
    omega
theorem cat_list (a b : ByteArray) : (a ++ b).data.toList = a.data.toList ++ b.data.toList := by simp [ByteArray.data_append]

set_option maxRecDepth 100000 in
set_option maxHeartbeats 3000000 in
theorem route_templateText (A : Option Addr) (n c : Nat) (ps : List PartD) (w : World) (hps : PSl w A n ps) (hnc : n ≤ c) (hn : n ≤ 100000) (hsh : PMild ps) :
    Calls Tryz.prog 10 #[.slice A n c] w (RTxt (templateText ps) w) := by
  have hl := hps.1
  by_cases h0 : n = 0
  · subst h0
    have HQ : Hid (templateText ps = (3, [])) := Lib.hid (by unfold templateText; rw [if_pos (by omega)])
    clear hl hps
    go_enter Tryz.func10, Tryz.ntmps10
    go_wp2_with fail
    go_ret2
    exact RTxt.fault HQ.out (Mod.refl _ _)
  have h0' : ((n : Int) == 0) = false := by simp; omega
  by_cases h30 : 30 < n
  · have h30' : (30 : Int) < (n : Int) := by omega
    have HQ : Hid (templateText ps = (2, [])) := Lib.hid (by unfold templateText; rw [if_neg (by omega), if_pos (by omega)])
    clear hl hps h0
    go_enter Tryz.func10, Tryz.ntmps10
    go_wp2_with fail
    go_ret2
    exact RTxt.fault HQ.out (Mod.refl _ _)
  have h30' : ¬ (30 : Int) < (n : Int) := by omega
  have hb0 := Blk.new w 69 #[.pointer none, .slice none 0 0]
  have hm0 : New w (w.alloc (.cells #[.pointer none, .slice none 0 0] 69)) := (Mod.refl _ _).alloc _
  have HPS := Lib.hid hps
  have HSH := Lib.hid hsh
  have HLN := Lib.hid hl
  clear hps hsh
  go_enter Tryz.func10, Tryz.ntmps10
  go_upto_region 6 with fail
  generalize w.alloc (.cells #[.pointer none, .slice none 0 0] 69) = w1 at *
  generalize hbe : w.heap.size = B at *
  have HB := Lib.hid (Bw.fresh hb0 (Nat.le_refl _))
  have HM := Lib.hid hm0
  have HBE := Lib.hid hbe
  clear hb0 hm0 hbe
  go_wp2_with fail
  go_loopw [16] (fun i wr => ∃ (k : Nat) (out : List UInt8), k ≤ n ∧ i = .int .i64 k ∧ Hid (partsText ps [] [] = partsText (ps.drop k) (ps.take k) out) ∧ Hid (out.length ≤ 3010 * k) ∧ Hid (Bw 69 B B out wr) ∧ Hid (New w wr)) (fun i _ => n - (intOf i).toNat)
  case atStart => exact ⟨0, [], Nat.zero_le _, rfl, Lib.hid rfl, Lib.hid (Nat.zero_le _), HB, HM⟩
  case round =>
    clear HB HM
    rename World => wr
    obtain ⟨k, out, hk, rfl, HT, HZ, HB, HM⟩ := hrel
    by_cases hlt : k < n
    · have hkp : k < ps.length := by omega
      have hpf := fun W (h : New w W) => route_partFault A n c ps k W (HPS.out.new h) hn hnc hkp HSH.out.short
      have hst := text_stop (by omega) (by omega) hkp HT.out
      have hsp := text_step hkp HT.out
      have hzt := partText_length (HSH.out _ (List.getElem_mem hkp))
      obtain ⟨g, o, hA, htb, hc⟩ := (HPS.out.new HM.out).2 (by omega)
      have hgl := htb.lt
      have c0 := hc k hkp 0 (by decide)
      have c1 := hc k hkp 1 (by decide)
      have hnz := HSH.out _ (List.getElem_mem hkp)
      generalize ps.take k = before at *
      generalize ps[k] = p at *
      generalize decide (k + 1 = ps.length) = last at *
      obtain ⟨pk, pn⟩ := p
      rw [partBad_arg] at hst hsp hpf
      simp only [PartD.enc, Nat.add_zero] at c0 c1
      simp only at hnz
      have HPF := Lib.hid hpf
      have HST := Lib.hid hst
      have HSP := Lib.hid hsp
      have HKD := Lib.hid (fun h => badArg_kind (pk := pk) (pn := pn) (b := before) (l := last) h)
      clear hpf hst hsp hc htb HT
      generalize badArg pk pn before last = q at *
      subst hA
      have hb1 : (0 : Int) ≤ k := by omega
      have hb2 : (k : Int) < n := by omega
      have hbx := Blk.new wr 34 #[.int .i64 pk, .string pn]
      have hmx : New wr (wr.alloc (.cells #[.int .i64 pk, .string pn] 34)) := (Mod.refl _ _).alloc _
      go_upto_region 9 with fail
      have HX := Lib.hid hbx
      have HM1 : Hid (New w _) := Lib.hid (HM.out.trans hmx)
      have HB1 := Lib.hid (HB.out.new hmx)
      clear hbx hmx HM HB c0 c1
      generalize wr.alloc (.cells #[.int .i64 pk, .string pn] 34) = w2 at *
      generalize wr.heap.size = xb at *
      have hpf := HPF.out w2 HM1.out
      go_wp2_with fail
      refine hpf.mono ?_
      clear hpf
      rintro e w3 ⟨rfl, hm3⟩
      go_upto_region 10 with fail
      have HX3 := Lib.hid (HX.out.new2 hm3)
      have HM : Hid (New w w3) := Lib.hid (HM1.out.trans hm3)
      have HB := Lib.hid (HB1.out.new hm3)
      clear hm3 HX HM1 HB1
      have x0 := HX3.out.cell 0
      have x1 := HX3.out.cell 1
      have xl := HX3.out.lt
      simp only [List.getElem?_toArray, List.getElem?_cons_zero, List.getElem?_cons_succ] at x0 x1
      by_cases hq : q = 0
      · subst hq
        have HS1 := Lib.hid (HSP.out rfl)
        have hkd := HKD.out rfl
        have hl0 : ¬ (9223372036854775807 : Nat) < pn.size := by omega
        rcases hkd with rfl | rfl | rfl
        · have hsg := fun W => msg_segment pn W (by omega)
          have hsz : (⟨(segL pn.data.toList).toArray⟩ : ByteArray).size ≤ 3000 := by
            have h2 := segL_length pn.data.toList
            have h3 : pn.data.toList.length = pn.size := rfl
            show (segL pn.data.toList).toArray.size ≤ 3000
            simp only [List.size_toArray]
            omega
          have HTX : Hid (((⟨#[47]⟩ : ByteArray) ++ ⟨(segL pn.data.toList).toArray⟩).data.toList = partText ⟨1, pn⟩) := Lib.hid (by rw [cat_list]; rfl)
          have HZ1 : Hid ((out ++ partText ⟨1, pn⟩).length ≤ 3010 * (k + 1)) := Lib.hid (by have := HZ.out; rw [List.length_append]; omega)
          generalize (⟨(segL pn.data.toList).toArray⟩ : ByteArray) = T at *
          have hadd : ¬ 9223372036854775807 < (⟨#[47]⟩ : ByteArray).size + T.size := by have e : (⟨#[47]⟩ : ByteArray).size = 1 := rfl; omega
          have e1 : (⟨#[47]⟩ : ByteArray).size = 1 := rfl
          have hsg := hsg w3
          have HZT := Lib.hid hzt
          clear hzt
          go_upto_region 15 with fail
          go_wp2_with fail
          refine hsg.mono ?_
          clear hsg
          rintro e w4 ⟨rfl, hm4⟩
          have HM4 : Hid (New w w4) := Lib.hid (HM.out.trans hm4)
          have HB4 := Lib.hid (HB.out.new hm4)
          clear hm4 HM HB
          have HM := HM4
          have HB := HB4
          clear HM4 HB4
          go_wp2_with fail
          obtain ⟨U, hU⟩ : ∃ U : ByteArray, U = (⟨#[47]⟩ ++ T) := ⟨_, rfl⟩
          rw [← hU] at HTX
          rw [← hU]
          have hUz : U.size ≤ 3010 := by
            have h1 : U.data.toList.length = U.size := rfl
            rw [HTX.out] at h1
            have := HZT.out
            omega
          have hsum : out.length + U.size ≤ 1000000 := by have := HZ.out; omega
          have hwr := bw_string buT_self B B out U _ HB.out hsum
          clear hU hUz hsum
          refine hwr.mono ?_
          clear hwr
          rintro e w5 ⟨rfl, hb5, hm5, -⟩
          have HM5 := Lib.hid (HM.out.from hm5 (Nat.le_of_eq HBE.out))
          have HB5 := Lib.hid hb5
          clear hb5 hm5 HB HM
          go_wp2_with fail
          go_roundw
          case rel => exact ⟨k + 1, _, by omega, by go_num, HS1, HZ1, by rw [← HTX.out]; exact HB5, HM5⟩
          case measure => simp [intOf]; omega
        · have HTX : Hid (((⟨#[47, 123]⟩ : ByteArray) ++ pn ++ ⟨#[125]⟩).data.toList = partText ⟨2, pn⟩) := Lib.hid (by rw [cat_list, cat_list]; rfl)
          have HZ1 : Hid ((out ++ partText ⟨2, pn⟩).length ≤ 3010 * (k + 1)) := Lib.hid (by have := HZ.out; rw [List.length_append]; omega)
          have e2 : (⟨#[47, 123]⟩ : ByteArray).size = 2 := rfl
          have e1 : (⟨#[125]⟩ : ByteArray).size = 1 := rfl
          have hadd : ¬ 9223372036854775807 < (⟨#[47, 123]⟩ : ByteArray).size + pn.size := by omega
          have hadd2 : ¬ 9223372036854775807 < ((⟨#[47, 123]⟩ : ByteArray) ++ pn).size + (⟨#[125]⟩ : ByteArray).size := by rw [ByteArray.size_append]; omega
          have HZT := Lib.hid hzt
          clear hzt
          go_upto_region 17 with fail
          go_wp2_with fail
          obtain ⟨U, hU⟩ : ∃ U : ByteArray, U = (⟨#[47, 123]⟩ ++ pn ++ ⟨#[125]⟩) := ⟨_, rfl⟩
          rw [← hU] at HTX
          rw [← hU]
          have hUz : U.size ≤ 3010 := by
            have h1 : U.data.toList.length = U.size := rfl
            rw [HTX.out] at h1
            have := HZT.out
            omega
          have hsum : out.length + U.size ≤ 1000000 := by have := HZ.out; omega
          have hwr := bw_string buT_self B B out U _ HB.out hsum
          clear hU hUz hsum
          refine hwr.mono ?_
          clear hwr
          rintro e w5 ⟨rfl, hb5, hm5, -⟩
          have HM5 := Lib.hid (HM.out.from hm5 (Nat.le_of_eq HBE.out))
          have HB5 := Lib.hid hb5
          clear hb5 hm5 HB HM
          go_wp2_with fail
          go_roundw
          case rel => exact ⟨k + 1, _, by omega, by go_num, HS1, HZ1, by rw [← HTX.out]; exact HB5, HM5⟩
          case measure => simp [intOf]; omega
        · have HTX : Hid (((⟨#[47, 123]⟩ : ByteArray) ++ pn ++ ⟨#[42, 125]⟩).data.toList = partText ⟨3, pn⟩) := Lib.hid (by rw [cat_list, cat_list]; rfl)
          have HZ1 : Hid ((out ++ partText ⟨3, pn⟩).length ≤ 3010 * (k + 1)) := Lib.hid (by have := HZ.out; rw [List.length_append]; omega)
          have e2 : (⟨#[47, 123]⟩ : ByteArray).size = 2 := rfl
          have e1 : (⟨#[42, 125]⟩ : ByteArray).size = 2 := rfl
          have hadd : ¬ 9223372036854775807 < (⟨#[47, 123]⟩ : ByteArray).size + pn.size := by omega
          have hadd2 : ¬ 9223372036854775807 < ((⟨#[47, 123]⟩ : ByteArray) ++ pn).size + (⟨#[42, 125]⟩ : ByteArray).size := by rw [ByteArray.size_append]; omega
          have HZT := Lib.hid hzt
          clear hzt
          go_upto_region 13 with fail
          go_wp2_with fail
          obtain ⟨U, hU⟩ : ∃ U : ByteArray, U = (⟨#[47, 123]⟩ ++ pn ++ ⟨#[42, 125]⟩) := ⟨_, rfl⟩
          rw [← hU] at HTX
          rw [← hU]
          have hUz : U.size ≤ 3010 := by
            have h1 : U.data.toList.length = U.size := rfl
            rw [HTX.out] at h1
            have := HZT.out
            omega
          have hsum : out.length + U.size ≤ 1000000 := by have := HZ.out; omega
          have hwr := bw_string buT_self B B out U _ HB.out hsum
          clear hU hUz hsum
          refine hwr.mono ?_
          clear hwr
          rintro e w5 ⟨rfl, hb5, hm5, -⟩
          have HM5 := Lib.hid (HM.out.from hm5 (Nat.le_of_eq HBE.out))
          have HB5 := Lib.hid hb5
          clear hb5 hm5 HB HM
          go_wp2_with fail
          go_roundw
          case rel => exact ⟨k + 1, _, by omega, by go_num, HS1, HZ1, by rw [← HTX.out]; exact HB5, HM5⟩
          case measure => simp [intOf]; omega
      · have hq' : ((q : Int) != 0) = true := by simpa using hq
        have HE := HST.out hq
        clear hq
        go_wp2_with fail
        go_ret2
        exact RTxt.fault HE HM.out
    · obtain rfl : k = n := by omega
      have HE : Hid (templateText ps = if out.length > 1000 then (3, []) else (0, out)) := Lib.hid (text_end (by omega) (by omega) (by rw [HLN.out]; exact HT.out))
      have hln := bw_len B B out wr HB.out
      by_cases hbig : 1000 < out.length
      · have hbig' : (1000 : Int) < (out.length : Int) := by omega
        have HE2 : Hid (templateText ps = (3, [])) := Lib.hid (by rw [HE.out, if_pos hbig])
        go_wp2_with (first | (refine hln.mono ?_; clear hln; rintro e w4 ⟨rfl, hw4⟩; rw [hw4]; clear hw4))
        go_ret2
        exact RTxt.fault HE2.out HM.out
      · have hbig' : ¬ (1000 : Int) < (out.length : Int) := by omega
        have HE2 : Hid (templateText ps = (0, out)) := Lib.hid (by rw [HE.out, if_neg hbig])
        have hst := bw_any B B out wr HB.out
        go_wp2_with (first | (refine hln.mono ?_; clear hln; rintro e w4 ⟨rfl, hw4⟩; rw [hw4]; clear hw4) | (refine hst.mono ?_; clear hst; rintro e w5 ⟨rfl, hm5⟩; have HM5 := Lib.hid (HM.out.from hm5 (Nat.le_of_eq HBE.out)); clear hm5))
        go_ret2
        exact ⟨by rw [HE2.out]; rfl, HM5.out⟩

end Go.Proofs.YtjehlecgnepgmaaGreatDoor

namespace Go.Proofs.YtjehlecgnepgmaaGreatDoor
open Go.RowKit
set_option linter.unusedVariables false
set_option linter.unusedSimpArgs false

abbrev openL : List UInt8 := [97, 98, 99, 100, 101, 102, 103, 104, 105, 106, 107, 108, 109, 110, 111, 112, 113, 114, 115, 116, 117, 118, 119, 120, 121, 122, 65, 66, 67, 68, 69, 70, 71, 72, 73, 74, 75, 76, 77, 78, 79, 80, 81, 82, 83, 84, 85, 86, 87, 88, 89, 90, 95, 48, 49, 50, 51, 52, 53, 54, 55, 56, 57, 45, 46, 126, 33, 36, 38, 39, 40, 41, 42, 43, 44, 59, 61, 58, 64]
theorem open_at (c : UInt8) : decide (0 ≤ Lib.indexByte openL c) = openC c := by
  revert c
  apply byteOf
  decide +kernel
theorem open_ascii {c : UInt8} (h : openC c = true) : Utf8.encode (c.toNat : Int) = ⟨#[c]⟩ := by
  revert h
  revert c
  apply byteOf
  decide +kernel
theorem up_ascii (m : Nat) (h : m < 16) : Utf8.encode ((upB[m]'h).toNat : Int) = ⟨#[upHex m]⟩ := by
  rw [← upB_at m h]
  revert m
  decide +kernel
theorem up_div (x : UInt8) (z : Int) (hz : z = (x.toNat : Int)) (h : (z / 16).toNat < 16) : Utf8.encode ((upB[(z / 16).toNat]'h).toNat : Int) = ⟨#[upHex (x.toNat / 16)]⟩ := by
  have e : (z / 16).toNat = x.toNat / 16 := by omega
  rw [up_ascii _ h, e]
theorem up_mod (x : UInt8) (z : Int) (hz : z = (x.toNat : Int)) (h : (z % 16).toNat < 16) : Utf8.encode ((upB[(z % 16).toNat]'h).toNat : Int) = ⟨#[upHex (x.toNat % 16)]⟩ := by
  have e : (z % 16).toNat = x.toNat % 16 := by omega
  rw [up_ascii _ h, e]
theorem wrap32 (c : UInt8) : IntKind.i32.wrap (c.toNat : Int) = c.toNat := by
  have := c.toNat_lt
  simp [IntKind.wrap, IntKind.signed, IntKind.bits]
  omega
set_option maxRecDepth 100000 in
set_option maxHeartbeats 1500000 in
theorem ref_segmentText (s : ByteArray) (w : World) (hs : s.size ≤ 100000) :
    Calls Tryz.prog 42 #[.string s] w fun e w' => e = .returned (.string ⟨(segL s.data.toList).toArray⟩) ∧ New w w' := by
  have hcv := Lib.run_convert_string_bytes (P := Tryz.prog) w 9 67 5 s (u := .string) Tryz.underlying9 Tryz.underlying67 Tryz.underlying5
  have hB : ∀ j, j < s.size → (Lib.bytesWorld w 5 s).cell? ⟨w.heap.size, j, none⟩ = some (.int .u8 (s.data.toList.getD j 0).toNat) := fun j hj => Lib.bytesWorld_cell w 5 s j hj
  have hNW := bytes_newH w 5 s
  go_enter Tryz.func42, Tryz.ntmps42
  go_wp2_with fail
  generalize Lib.bytesWorld w 5 s = w2 at *
  generalize w.heap.size = cb at *
  have HB := Lib.hid hB
  have HM := Lib.hid hNW
  clear hB hNW hcv
  go_loopw [3, 9] (fun o i wr => ∃ (k : Nat) (U : ByteArray), k ≤ s.size ∧ i = .int .i64 k ∧ o = .string U ∧ Hid (U.data.toList = segL (s.data.toList.take k)) ∧ Hid (New w2 wr)) (fun _ i _ => s.size - (intOf i).toNat)
  case atStart => exact ⟨0, ⟨#[]⟩, Nat.zero_le _, rfl, rfl, Lib.hid rfl, Lib.hid (Mod.refl _ _)⟩
  case round =>
    rename World => wr
    obtain ⟨k, U, hk, rfl, rfl, HU, HW⟩ := hrel
    by_cases hlt : k < s.size
    · have hkl : k < s.data.toList.length := hlt
      have hUz : U.size ≤ 300000 := by
        have h1 : U.data.toList.length = U.size := rfl
        have h2 := segL_length (s.data.toList.take k)
        rw [HU.out] at h1
        have h3 : (s.data.toList.take k).length = k := by rw [List.length_take]; omega
        omega
      have hst := segL_take hkl
      have hc := (HW.out.cell (p := ⟨cb, k, none⟩) (by
        have := HB.out k hlt
        rcases Nat.lt_or_ge cb w2.heap.size with h | h
        · exact h
        · simp [World.cell?, Array.getElem?_eq_none h] at this) (fun e => e)).trans (HB.out k hlt)
      have hget : s.data.toList.getD k 0 = s.data.toList[k] := by simp [List.getD, List.getElem?_eq_getElem hkl]
      rw [hget] at hc
      have hix := fun W => Tryz.strings_IndexByte ⟨#[97, 98, 99, 100, 101, 102, 103, 104, 105, 106, 107, 108, 109, 110, 111, 112, 113, 114, 115, 116, 117, 118, 119, 120, 121, 122, 65, 66, 67, 68, 69, 70, 71, 72, 73, 74, 75, 76, 77, 78, 79, 80, 81, 82, 83, 84, 85, 86, 87, 88, 89, 90, 95, 48, 49, 50, 51, 52, 53, 54, 55, 56, 57, 45, 46, 126, 33, 36, 38, 39, 40, 41, 42, 43, 44, 59, 61, 58, 64]⟩ (s.data.toList[k].toNat : Int) W
      rw [byteBack, show (⟨#[97, 98, 99, 100, 101, 102, 103, 104, 105, 106, 107, 108, 109, 110, 111, 112, 113, 114, 115, 116, 117, 118, 119, 120, 121, 122, 65, 66, 67, 68, 69, 70, 71, 72, 73, 74, 75, 76, 77, 78, 79, 80, 81, 82, 83, 84, 85, 86, 87, 88, 89, 90, 95, 48, 49, 50, 51, 52, 53, 54, 55, 56, 57, 45, 46, 126, 33, 36, 38, 39, 40, 41, 42, 43, 44, 59, 61, 58, 64]⟩ : ByteArray).data.toList = openL from rfl] at hix
      have hop := open_at s.data.toList[k]
      generalize s.data.toList[k] = x at *
      have hsx : segC x = if openC x then [x] else [37, upHex (x.toNat / 16), upHex (x.toNat % 16)] := rfl
      have hwr := wrap32 x
      have hx256 := x.toNat_lt
      have hb1 : (0 : Int) ≤ k := by omega
      have hb2 : (k : Int) < s.size := by omega
      have hix := hix wr
      generalize Lib.indexByte openL x = r at *
      cases hox : openC x <;> rw [hox] at hop hsx
      · have hr : ¬ (0 : Int) ≤ r := by simpa using hop
        obtain ⟨z, hz⟩ : ∃ z : Int, z = (x.toNat : Int) := ⟨_, rfl⟩
        have z0 : 0 ≤ z := by omega
        have z1 : z < 256 := by omega
        have q16 : (z / 16).toNat < 16 := by omega
        have r16 : (z % 16).toNat < 16 := by omega
        have d0 : 0 ≤ z / 16 := by omega
        have d1 : z / 16 < 16 := by omega
        have m0 : 0 ≤ z % 16 := by omega
        have m1 : z % 16 < 16 := by omega
        have td : z.tdiv 16 = z / 16 := Int.tdiv_eq_ediv_of_nonneg z0
        have tm : z.tmod 16 = z % 16 := Int.tmod_eq_emod_of_nonneg z0
        have en1 := up_div x z hz q16
        have en2 := up_mod x z hz r16
        have HS1 : Hid ((U ++ (⟨#[37]⟩ ++ ⟨#[upHex (x.toNat / 16)]⟩ ++ ⟨#[upHex (x.toNat % 16)]⟩)).data.toList = segL (s.data.toList.take (k + 1))) := Lib.hid (by rw [cat_list, HU.out, hst, hsx]; rfl)
        generalize upHex (x.toNat / 16) = u1 at *
        generalize upHex (x.toNat % 16) = u2 at *
        have e1 : ∀ u : UInt8, (⟨#[u]⟩ : ByteArray).size = 1 := fun u => rfl
        have hadd1 : ¬ 9223372036854775807 < (⟨#[37]⟩ : ByteArray).size + (⟨#[u1]⟩ : ByteArray).size := by rw [e1, e1]; omega
        have hadd2 : ¬ 9223372036854775807 < ((⟨#[37]⟩ : ByteArray) ++ ⟨#[u1]⟩).size + (⟨#[u2]⟩ : ByteArray).size := by rw [ByteArray.size_append, e1, e1, e1]; omega
        have hadd3 : ¬ 9223372036854775807 < U.size + ((⟨#[37]⟩ : ByteArray) ++ ⟨#[u1]⟩ ++ ⟨#[u2]⟩).size := by rw [ByteArray.size_append, ByteArray.size_append, e1, e1, e1]; omega
        rw [← hz] at hc hix
        have HALL := Lib.hid (And.intro td (And.intro tm (And.intro en1 en2)))
        clear hst hsx hop hget hox hz hwr e1 hx256 td tm en1 en2
        go_upto_region 7 with (first | (refine hix.mono ?_; clear hix; rintro e w' ⟨rfl, hw⟩; rw [hw]; clear hw))
        obtain ⟨td, tm, en1, en2⟩ := HALL.out
        clear HALL
        go_quiet (fail)
        go_wp2_with fail
        go_roundw
        case rel => exact ⟨k + 1, _, by omega, by go_num, rfl, HS1, Lib.hid (HW.out.drewN _)⟩
        case measure => simp [intOf]; omega
      · have hr : (0 : Int) ≤ r := by simpa using hop
        have hen := open_ascii hox
        have HS1 : Hid ((U ++ ⟨#[x]⟩).data.toList = segL (s.data.toList.take (k + 1))) := Lib.hid (by rw [cat_list, HU.out, hst, hsx]; rfl)
        have hadd : ¬ 9223372036854775807 < U.size + (⟨#[x]⟩ : ByteArray).size := by have e : (⟨#[x]⟩ : ByteArray).size = 1 := rfl; omega
        clear hst hsx hop hget hox
        go_wp2_with (first | (refine hix.mono ?_; clear hix; rintro e w' ⟨rfl, hw⟩; rw [hw]; clear hw))
        go_roundw
        case rel => exact ⟨k + 1, _, by omega, by go_num, rfl, HS1, HW⟩
        case measure => simp [intOf]; omega
    · obtain rfl : k = s.size := by omega
      have HN : Hid (U = ⟨(segL s.data.toList).toArray⟩) := Lib.hid (by
        have h := HU.out
        rw [show s.data.toList.take s.size = s.data.toList from List.take_length] at h
        rw [← h, mkList])
      go_wp2_with fail
      go_ret
      exact ⟨by rw [← HN.out]; rfl, HM.out.trans HW.out⟩

end Go.Proofs.YtjehlecgnepgmaaGreatDoor
