/- Several texts in one. (1) The parameters that a template's parts take of segments (route.match). Conditions: texts of modest size. (2) The parameters that a template's parts take of segments (gateref1.matched), printed out of XMatch by mkmatched.py. Conditions: texts of modest size. (3) What Match answers (route.Match, gateref1.MatchOf). Conditions: texts of modest size; the library's variables lie as they should. (4) The segments that a part makes of parameters (route.built). Conditions: texts of modest size; the library's variable on searching is an int. (5) The path that a template makes of parameters (route.Build). Conditions: texts of modest size; the library's variable on searching is an int. (6) The parts of a template are few and their names short. Plain law. No conditions. (7) The reference's path that a template makes of parameters (gateref1.BuildOf). Conditions: texts of modest size; the library's variables lie as they should. -/
import Derived.Test.YtjehlecgnepgmaaGreatDoorPathFrom
import Derived.Test.YtjehlecgnepgmaaGreatDoorPairs
import Derived.Test.YtjehlecgnepgmaaGreatDoorTplT1Grp
import Derived.Test.YtjehlecgnepgmaaGreatDoorTplR1Grp
import Derived.Test.YtjehlecgnepgmaaGreatDoorRow2
import Derived.Test.YtjehlecgnepgmaaGreatDoorMaps2

namespace Go.Proofs.YtjehlecgnepgmaaGreatDoor
open Go.RowKit
set_option linter.unusedVariables false
set_option linter.unusedSimpArgs false

/-- the parameters, and whether the segments fit -/
def RMatch (q : Option (List PairD)) (w : World) (e : Ending) (w' : World) : Prop := ∃ A n c, e = .returned (.tuple #[.slice A n c, .bool q.isSome]) ∧ (∀ l, q = some l → QSl w' A n l) ∧ New w w' ∧ n ≤ c
theorem RMatch.none {q : Option (List PairD)} {w w' : World} {A : Option Addr} {n c : Nat} (h : q = none) (hm : New w w') (hc : n ≤ c) : RMatch q w (.returned (.tuple #[.slice A n c, .bool false])) w' :=
  ⟨A, n, c, by rw [h]; rfl, by rw [h]; rintro l ⟨⟩, hm, hc⟩
theorem RMatch.some {q : Option (List PairD)} {w w' : World} {A : Option Addr} {n c : Nat} {l : List PairD} (h : q = some l) (hs : QSl w' A n l) (hm : New w w') (hc : n ≤ c) : RMatch q w (.returned (.tuple #[.slice A n c, .bool true])) w' :=
  ⟨A, n, c, by rw [h]; rfl, by rw [h]; rintro l' ⟨⟩; exact hs, hm, hc⟩
theorem match_at {ps : List PartD} {segs : List ByteArray} {k : Nat} (h : k < ps.length) (out : List PairD) :
    matchL (ps.drop k) (segs.drop k) out = if ps[k].kind = 3 then some (out ++ [(ps[k].name, ⟨(pathT (segs.drop k)).toArray⟩)]) else
      if hk : k < segs.length then (if (ps[k].kind = 1 ∧ segs[k] ≠ ps[k].name) ∨ (ps[k].kind = 2 ∧ segs[k] = emptyB) then none else matchL (ps.drop (k + 1)) (segs.drop (k + 1)) (if ps[k].kind = 2 then out ++ [(ps[k].name, segs[k])] else out)) else none := by
  by_cases hk : k < segs.length
  · rw [dif_pos hk, List.drop_eq_getElem_cons h, List.drop_eq_getElem_cons hk, matchL]
  · have e2 : segs.drop k = [] := List.drop_eq_nil_of_le (by omega)
    rw [dif_neg hk, List.drop_eq_getElem_cons h, e2, matchL]
theorem match_end {ps : List PartD} {segs : List ByteArray} {k : Nat} (h : ps.length ≤ k) (h2 : k ≤ segs.length) (out : List PairD) : matchL (ps.drop k) (segs.drop k) out = if k = segs.length then some out else none := by
  rw [List.drop_eq_nil_of_le h, matchL]
  by_cases hk : k = segs.length
  · rw [if_pos hk, if_pos (List.drop_eq_nil_of_le (by omega))]
  · rw [if_neg hk, if_neg (fun e => by have := List.drop_eq_nil_iff.1 e; omega)]
theorem PFit.drop {l : List ByteArray} (h : PFit l) (k : Nat) : PFit (l.drop k) := by
  refine ⟨?_, fun x hx => h.x x (List.mem_of_mem_drop hx)⟩
  have : pathT l = pathT (l.take k) ++ pathT (l.drop k) := by
    unfold pathT
    rw [← List.flatMap_append, List.take_append_drop]
  have h1 := h.t
  rw [this, List.length_append] at h1
  omega
theorem SSl.drop {w : World} {g o n : Nat} {l : List ByteArray} (h : SSl w (some ⟨g, o, none⟩) n l) (k : Nat) (hk : k ≤ n) : SSl w (some ⟨g, o + k, none⟩) (n - k) (l.drop k) := by
  have hl := h.1
  refine ⟨by rw [List.length_drop]; omega, fun h0 => ?_⟩
  obtain ⟨g', o', hA, ht, hc⟩ := h.2 (by omega)
  injection hA with hA
  injection hA with q1 q2
  subst q1 q2
  refine ⟨g, o + k, rfl, ht, fun i hi j hj => ?_⟩
  have hi2 : k + i < l.length := by rw [List.length_drop] at hi; omega
  have := hc (k + i) hi2 j hj
  rw [List.getElem_drop]
  rw [← this]
  congr 2
  omega

theorem SSl.dropC {w : World} {g o n c : Nat} {l : List ByteArray} (h : SSl w (some ⟨g, o, none⟩) n l) {k : Nat} (hk : k ≤ n) (hc : n ≤ c) : SSl w (if c = k then some ⟨g, o, none⟩ else some ⟨g, o + k, none⟩) (n - k) (l.drop k) := by
  by_cases e : c = k
  · have hl := h.1
    refine ⟨by rw [List.length_drop]; omega, fun h0 => by omega⟩
  · rw [if_neg e]
    exact h.drop k hk

theorem Own.belowM {α : Type} {w : World} {B : Nat} {t : TypeId} {sz : Nat} {enc : α → Nat → Value} {A : Option Addr} {n c : Nat} {xs : List α} (h : Own w B t sz enc A n c xs) (g : Nat) (e : blkOf A = some g) : g < w.heap.size := by
  rcases h.blk with ⟨rfl, _, _⟩ | ⟨g', rfl, _, htb⟩
  · cases e
  · injection e with e; subst e; exact htb.lt
set_option maxRecDepth 100000 in
set_option maxHeartbeats 1500000 in
theorem route_match (Ap : Option Addr) (np cp : Nat) (ps : List PartD) (As : Option Addr) (ns cs : Nat) (segs : List ByteArray) (w : World) (hp : PSl w Ap np ps) (hs : SSl w As ns segs) (hn : np ≤ 100000) (hf : PFit segs) (hcs : ns ≤ cs) (h0 : 0 < ns) :
    Calls Tryz.prog 46 #[.slice Ap np cp, .slice As ns cs] w (RMatch (matchL ps segs []) w) := by
  have hsl := hs.1
  have hpl := hp.1
  obtain ⟨gs, os, rfl, htg, -⟩ := hs.2 h0
  have HSB := Lib.hid htg.lt
  clear htg
  have HP := Lib.hid hp
  have HS := Lib.hid hs
  have HF := Lib.hid hf
  have HPL := Lib.hid hpl
  have HSL := Lib.hid hsl
  have hns : ns ≤ 100000 := by have h1 := pathT_ge segs; have h2 := hf.t; omega
  clear hp hs hf hpl hsl
  go_enter Tryz.func46, Tryz.ntmps46
  go_wp2_with fail
  go_loopw [6, 11] (fun o' i wr => ∃ (k n' c' : Nat) (A' : Option Addr) (out : List PairD), k ≤ np ∧ k ≤ ns ∧ i = .int .i64 k ∧ o' = .slice A' n' c' ∧ n' ≤ k ∧ Hid (Own wr w.heap.size 50 2 pairEnc A' n' c' out) ∧ Hid (matchL ps segs [] = matchL (ps.drop k) (segs.drop k) out) ∧ Hid (New w wr)) (fun _ i _ => np - (intOf i).toNat)
  case atStart => exact ⟨0, 0, 0, none, [], Nat.zero_le _, Nat.zero_le _, rfl, rfl, Nat.le_refl _, Lib.hid Own.nil, Lib.hid rfl, Lib.hid (Mod.refl _ _)⟩
  case round =>
    rename World => wr
    obtain ⟨k, n', c', A', out, hk, hks, rfl, rfl, hnk, HO, HE, HM⟩ := hrel
    by_cases hlt : k < np
    · have hkp : k < ps.length := by have := HPL.out; omega
      have HOL : Hid (∀ g', blkOf A' = some g' → g' < wr.heap.size) := Lib.hid (fun g' e => HO.out.belowM g' e)
      have hat := match_at (segs := segs) hkp out
      rw [← HE.out] at hat
      obtain ⟨g, o, hA, htb, hc⟩ := (HP.out.new HM.out).2 (by omega)
      have hgl := htb.lt
      have c0 := hc k hkp 0 (by decide)
      have c1 := hc k hkp 1 (by decide)
      generalize ps[k] = p at *
      obtain ⟨pk, pn⟩ := p
      simp only [PartD.enc, Nat.add_zero] at c0 c1
      simp only at hat
      have HAT := Lib.hid hat
      clear hc htb hat
      subst hA
      have hb1 : (0 : Int) ≤ k := by omega
      have hb2 : (k : Int) < np := by omega
      have hbx := Blk.new wr 34 #[.int .i64 pk, .string pn]
      have hmx : New wr (wr.alloc (.cells #[.int .i64 pk, .string pn] 34)) := (Mod.refl _ _).alloc _
      have HO1 := Lib.hid (HO.out.new hmx)
      go_upto_region 5 with fail
      have HX := Lib.hid hbx
      have HM1 : Hid (New w _) := Lib.hid (HM.out.trans hmx)
      have hBw1 : w.heap.size ≤ _ := HM1.out.size
      clear hbx hmx HM c0 c1 HO
      have HM := HM1
      have HO := HO1
      clear HM1 HO1
      generalize wr.alloc (.cells #[.int .i64 pk, .string pn] 34) = w1 at *
      generalize wr.heap.size = xb at *
      have hir := route_isRest ⟨pk, pn⟩ w1
      have x0 := HX.out.cell 0
      have x1 := HX.out.cell 1
      have xl := HX.out.lt
      simp only [List.getElem?_toArray, List.getElem?_cons_zero, List.getElem?_cons_succ] at x0 x1
      by_cases hk3 : pk = 3
      · subst hk3
        go_upto_region 6 with (first | (refine hir.mono ?_; clear hir; rintro e w2 ⟨rfl, hm2⟩) | fail)
        try clear y0
        try clear y1
        try clear yl
        have HX2 := Lib.hid (HX.out.new2 hm2)
        have HO2 := Lib.hid (HO.out.new hm2)
        have HM2 : Hid (New w w2) := Lib.hid (HM.out.trans hm2)
        clear HX HO HM
        have HX := HX2
        have HO := HO2
        have HM := HM2
        clear HX2 HO2 HM2
        clear hm2
        have HSW : Hid (∀ W, New w2 W → W.cell? ⟨xb, 0, none⟩ = some (.int .i64 3) ∧ W.cell? ⟨xb, 1, none⟩ = some (.string pn) ∧ xb < W.heap.size) := Lib.hid (fun W hW => by
          have h := HX.out.new2 hW
          exact ⟨(h.cell 0).trans rfl, (h.cell 1).trans rfl, h.lt⟩)
        have hmin : min (k : Int) (ns : Int) = (k : Int) := by omega
        have hkn : (k : Int) ≤ (ns : Int) := by omega
        have hnc : (ns : Int) ≤ (cs : Int) := by omega
        refine wp_region_held_ord (fun W => W.cell? ⟨xb, 0, none⟩ = some (.int .i64 3) ∧ W.cell? ⟨xb, 1, none⟩ = some (.string pn) ∧ xb < W.heap.size) [9, 11, 12] [0, 1, 2, 3, 4, 5, 6, 7, 8, 13, 14, 15, 16, 9, 10, 11, 12, 17] (by kernel_rfl) (by kernel_rfl) (fun _ _ d _ _ h => by cases d <;> exact h) ?_ (fun hHeld => ?_)
        · exact HSW.out _ (Mod.refl _ _).drew
        simp only [List.length_cons, List.length_nil, List.drop_succ_cons, List.drop_zero]
        refine heldO_take ?_ (by rfl) (by rfl) (by rfl) (fun w hSw => ?_) ?_
        rotate_left
        · (try dsimp only at hSw); (try simp only [List.getElem_toArray, List.getElem_cons_zero, List.getElem_cons_succ]); go_simp; any_goals (with_reducible rfl)
        simp only [Act.put, List.getElem_toArray, List.getElem_cons_zero, List.getElem_cons_succ, List.setIfInBounds_toArray, List.set_cons_zero, List.set_cons_succ]
        refine heldO_take ?_ (by rfl) (by rfl) (by rfl) (fun w hSw => ?_) ?_
        rotate_left
        · (try dsimp only at hSw); (try simp only [List.getElem_toArray, List.getElem_cons_zero, List.getElem_cons_succ]); go_simp; any_goals (with_reducible rfl)
        simp only [Act.put, List.getElem_toArray, List.getElem_cons_zero, List.getElem_cons_succ, List.setIfInBounds_toArray, List.set_cons_zero, List.set_cons_succ]
        refine heldO_take ?_ (by rfl) (by rfl) (by rfl) (fun w hSw => ?_) ?_
        rotate_left
        · (try dsimp only at hSw); (try simp only [List.getElem_toArray, List.getElem_cons_zero, List.getElem_cons_succ]); go_simp; any_goals (with_reducible rfl)
        simp only [Act.put, List.getElem_toArray, List.getElem_cons_zero, List.getElem_cons_succ, List.setIfInBounds_toArray, List.set_cons_zero, List.set_cons_succ]
        refine heldO_take ?_ (by rfl) (by rfl) (by rfl) (fun w hSw => ?_) ?_
        rotate_left
        · (try dsimp only at hSw); (try simp only [List.getElem_toArray, List.getElem_cons_zero, List.getElem_cons_succ]); go_simp; any_goals (with_reducible rfl)
        simp only [Act.put, List.getElem_toArray, List.getElem_cons_zero, List.getElem_cons_succ, List.setIfInBounds_toArray, List.set_cons_zero, List.set_cons_succ]
        refine heldO_take ?_ (by rfl) (by rfl) (by rfl) (fun w hSw => ?_) ?_
        rotate_left
        · (try dsimp only at hSw); (try simp only [List.getElem_toArray, List.getElem_cons_zero, List.getElem_cons_succ]); go_simp; any_goals (with_reducible rfl)
        simp only [Act.put, List.getElem_toArray, List.getElem_cons_zero, List.getElem_cons_succ, List.setIfInBounds_toArray, List.set_cons_zero, List.set_cons_succ]
        refine heldO_take ?_ (by rfl) (by rfl) (by rfl) (fun w hSw => ?_) ?_
        rotate_left
        · (try dsimp only at hSw); (try simp only [List.getElem_toArray, List.getElem_cons_zero, List.getElem_cons_succ]); go_simp; any_goals (with_reducible rfl)
        simp only [Act.put, List.getElem_toArray, List.getElem_cons_zero, List.getElem_cons_succ, List.setIfInBounds_toArray, List.set_cons_zero, List.set_cons_succ]
        refine heldO_take ?_ (by rfl) (by rfl) (by rfl) (fun w hSw => ?_) ?_
        rotate_left
        · (try dsimp only at hSw); (try simp only [List.getElem_toArray, List.getElem_cons_zero, List.getElem_cons_succ]); go_simp; any_goals (with_reducible rfl)
        simp only [Act.put, List.getElem_toArray, List.getElem_cons_zero, List.getElem_cons_succ, List.setIfInBounds_toArray, List.set_cons_zero, List.set_cons_succ]
        refine heldO_take ?_ (by rfl) (by rfl) (by rfl) (fun w hSw => ?_) ?_
        rotate_left
        · (try dsimp only at hSw); (try simp only [List.getElem_toArray, List.getElem_cons_zero, List.getElem_cons_succ]); go_simp; any_goals (with_reducible rfl)
        simp only [Act.put, List.getElem_toArray, List.getElem_cons_zero, List.getElem_cons_succ, List.setIfInBounds_toArray, List.set_cons_zero, List.set_cons_succ]
        refine heldO_take ?_ (by rfl) (by rfl) (by rfl) (fun w hSw => ?_) ?_
        rotate_left
        · (try dsimp only at hSw); (try simp only [List.getElem_toArray, List.getElem_cons_zero, List.getElem_cons_succ]); go_simp; any_goals (with_reducible rfl)
        simp only [Act.put, List.getElem_toArray, List.getElem_cons_zero, List.getElem_cons_succ, List.setIfInBounds_toArray, List.set_cons_zero, List.set_cons_succ]
        refine heldO_take ?_ (by rfl) (by rfl) (by rfl) (fun w hSw => ?_) ?_
        rotate_left
        · (try dsimp only at hSw); (try simp only [List.getElem_toArray, List.getElem_cons_zero, List.getElem_cons_succ]); go_simp; any_goals (with_reducible rfl)
        simp only [Act.put, List.getElem_toArray, List.getElem_cons_zero, List.getElem_cons_succ, List.setIfInBounds_toArray, List.set_cons_zero, List.set_cons_succ]
        refine heldO_take ?_ (by rfl) (by rfl) (by rfl) (fun w hSw => ?_) ?_
        rotate_left
        · (try dsimp only at hSw); (try simp only [List.getElem_toArray, List.getElem_cons_zero, List.getElem_cons_succ]); go_simp; any_goals (with_reducible rfl)
        simp only [Act.put, List.getElem_toArray, List.getElem_cons_zero, List.getElem_cons_succ, List.setIfInBounds_toArray, List.set_cons_zero, List.set_cons_succ]
        refine heldO_take ?_ (by rfl) (by rfl) (by rfl) (fun w hSw => ?_) ?_
        rotate_left
        · (try dsimp only at hSw); (try simp only [List.getElem_toArray, List.getElem_cons_zero, List.getElem_cons_succ]); go_simp; any_goals (with_reducible rfl)
        simp only [Act.put, List.getElem_toArray, List.getElem_cons_zero, List.getElem_cons_succ, List.setIfInBounds_toArray, List.set_cons_zero, List.set_cons_succ]
        refine heldO_take ?_ (by rfl) (by rfl) (by rfl) (fun w hSw => ?_) ?_
        rotate_left
        · (try dsimp only at hSw); (try simp only [List.getElem_toArray, List.getElem_cons_zero, List.getElem_cons_succ]); go_simp; any_goals (with_reducible rfl)
        simp only [Act.put, List.getElem_toArray, List.getElem_cons_zero, List.getElem_cons_succ, List.setIfInBounds_toArray, List.set_cons_zero, List.set_cons_succ]
        refine heldO_step (by rfl) (by rfl) (by rfl) (fun K hK => ?_)
        go_simp
        have hd2 : New w2 w2.drew := (Mod.refl (fun _ => False) w2).drew
        have hsd := SSl.dropC (HS.out.new (HM.out.trans hd2)) hks hcs
        generalize (if cs = k then (some ⟨gs, os, none⟩ : Option Addr) else some ⟨gs, os + k, none⟩) = Ax at *
        refine (route_pathOf _ _ _ (segs.drop k) w2.drew hsd (HF.out.drop k)).mono ?_
        clear hsd
        rintro e w4 ⟨rfl, hm4⟩
        have m24 := hd2.trans hm4
        have HR : Hid (matchL ps segs [] = some (out ++ [(pn, ⟨(pathT (segs.drop k)).toArray⟩)])) := Lib.hid (by rw [HAT.out]; simp)
        generalize (⟨(pathT (segs.drop k)).toArray⟩ : ByteArray) = V at *
        go_wp2_with fail
        refine hK.out _ _ (HSW.out _ m24) (fun hHeld => ?_)
        clear hK K hHeld
        try simp only [Act.put, List.setIfInBounds_toArray, List.set_cons_zero, List.set_cons_succ]
        have HSW4 := HSW
        clear HSW
        have HSW : Hid (∀ W, New w4 W → W.cell? ⟨xb, 0, none⟩ = some (.int .i64 3) ∧ W.cell? ⟨xb, 1, none⟩ = some (.string pn) ∧ xb < W.heap.size) := Lib.hid (fun W hW => HSW4.out W (m24.trans hW))
        have HX2 := Lib.hid (HX.out.new2 m24)
        have HO2 := Lib.hid (HO.out.new m24)
        have HM2 : Hid (New w w4) := Lib.hid (HM.out.trans m24)
        clear HX HO HM
        have HX := HX2
        have HO := HO2
        have HM := HM2
        clear HX2 HO2 HM2
        clear m24 hm4 hd2 HSW4
        refine heldO_take ?_ (by rfl) (by rfl) (by rfl) (fun w hSw => ?_) ?_
        rotate_left
        · (try dsimp only at hSw); (try simp only [List.getElem_toArray, List.getElem_cons_zero, List.getElem_cons_succ]); go_simp; any_goals (with_reducible rfl)
        simp only [Act.put, List.getElem_toArray, List.getElem_cons_zero, List.getElem_cons_succ, List.setIfInBounds_toArray, List.set_cons_zero, List.set_cons_succ]
        have HOA := Lib.hid (HO.out.alloc (.cells #[.string pn, .string V] 50))
        have HBN := Lib.hid (Blk.new w4 50 #[.string pn, .string V])
        have hBq : w.heap.size ≤ (World.alloc w4 (.cells #[.string pn, .string V] 50)).heap.size := Nat.le_trans HM.out.size (by simp)
        have HOF : Hid (∀ g', blkOf A' = some g' → w.heap.size ≤ g') := Lib.hid (fun g' e => HO.out.farP g' e)
        refine heldO_step (by rfl) (by rfl) (by rfl) (fun K hK => ?_)
        go_simp
        refine hK.out _ _ (HSW.out _ ((Mod.refl _ _).alloc _)) (fun hHeld => ?_)
        clear hK K hHeld
        try simp only [Act.put, List.setIfInBounds_toArray, List.set_cons_zero, List.set_cons_succ]
        refine heldO_step (by rfl) (by rfl) (by rfl) (fun K hK => ?_)
        refine wp_push _ _ _ rfl 32 Tryz.underlying39 einfo_pair rfl (by exact HOA.out) (pn, V) (World.heap w4).size rfl (by exact HBN.out) (fun j hj => pairEnc_one _ j hj) (by omega) (by omega) hBq ?_
        intro g8 cap8 w8 own8 hm8 hat8 hlt8
        have HO8 := Lib.hid own8
        have m8 : Mod (fun i => blkOf A' = some i) w4 w8 := ((Mod.refl _ _).alloc _).trans hm8
        have HM8 : Hid (New w w8) := Lib.hid (HM.out.step m8 (fun i hi e => by have := HOF.out i e; omega))
        have HX8 := Lib.hid (HX.out.mod m8 (fun e => by have := HOL.out _ e; omega))
        refine hK.out _ _ ⟨(HX8.out.cell 0).trans rfl, (HX8.out.cell 1).trans rfl, HX8.out.lt⟩ (fun hHeld => ?_)
        clear hK K hHeld own8 hm8 m8
        try simp only [Act.put, List.setIfInBounds_toArray, List.set_cons_zero, List.set_cons_succ]
        refine heldO_take ?_ (by rfl) (by rfl) (by rfl) (fun w hSw => ?_) ?_
        rotate_left
        · (try dsimp only at hSw); (try simp only [List.getElem_toArray, List.getElem_cons_zero, List.getElem_cons_succ]); go_simp; any_goals (with_reducible rfl)
        simp only [Act.put, List.getElem_toArray, List.getElem_cons_zero, List.getElem_cons_succ, List.setIfInBounds_toArray, List.set_cons_zero, List.set_cons_succ]
        refine heldO_nil ?_
        go_wp2_with fail
        go_ret2
        exact RMatch.some HR.out HO8.out.sl HM8.out HO8.out.ncap
      · rw [decide_eq_false hk3] at hir
        have hk3' : ((pk : Int) == 3) = false := by simpa using hk3
        by_cases hkn : k < ns
        rotate_left
        · obtain rfl : k = ns := by omega
          have HR : Hid (matchL ps segs [] = none) := Lib.hid (by rw [HAT.out, if_neg hk3, dif_neg (by have := HSL.out; omega)])
          go_wp2_with (first | (refine hir.mono ?_; clear hir; rintro e w2 ⟨rfl, hm2⟩; have HM2 : Hid (New w w2) := Lib.hid (HM.out.trans hm2); clear hm2) | fail)
          go_ret2
          exact RMatch.none HR.out HM2.out (Nat.zero_le _)
        · have hkl : k < segs.length := by have := HSL.out; omega
          have hkni : (k : Int) < (ns : Int) := by omega
          have hat := HAT.out
          rw [if_neg hk3, dif_pos hkl] at hat
          obtain ⟨g2, o2, hA2, ht2, hcc⟩ := (HS.out.new HM.out).2 h0
          injection hA2 with hA2
          injection hA2 with q1 q2
          subst q1 q2
          have z0 := hcc k hkl 0 (by omega)
          have zl := ht2.lt
          simp only [sEnc, Nat.mul_one, Nat.add_zero] at z0
          clear hcc ht2
          generalize segs[k] = x at *
          have HZ : Hid (∀ W, New w1 W → W.cell? ⟨gs, os + k, none⟩ = some (.string x) ∧ gs < W.heap.size) := Lib.hid (fun W hW => ⟨by rw [← z0]; exact hW.cell (p := ⟨gs, os + k, none⟩) zl (fun e => e), Nat.lt_of_lt_of_le zl hW.size⟩)
          clear z0 zl HAT
          by_cases hk1 : pk = 1
          · subst hk1
            by_cases hxp : x = pn
            · subst hxp
              have HE1 : Hid (matchL ps segs [] = matchL (ps.drop (k + 1)) (segs.drop (k + 1)) out) := Lib.hid (by rw [hat]; simp)
              have e1 : (x.toList != x.toList) = false := by simp
              clear hat
              go_upto_region 9 with (first | (refine hir.mono ?_; clear hir; rintro e w2 ⟨rfl, hm2⟩) | fail)
              try clear y0
              try clear y1
              try clear yl
              obtain ⟨z0, zl⟩ := HZ.out w2 hm2
              have HX2 := Lib.hid (HX.out.new2 hm2)
              have HO2 := Lib.hid (HO.out.new hm2)
              have HM2 : Hid (New w w2) := Lib.hid (HM.out.trans hm2)
              clear HX HO HM
              have HX := HX2
              have HO := HO2
              have HM := HM2
              clear HX2 HO2 HM2
              clear hm2
              have x0 := HX.out.cell 0
              have x1 := HX.out.cell 1
              have xl := HX.out.lt
              simp only [List.getElem?_toArray, List.getElem?_cons_zero, List.getElem?_cons_succ] at x0 x1
              go_quiet (fail)
              go_wp2_with fail
              try (go_quiet (fail))
              try (go_wp2_with fail)
              all_goals exact ⟨⟨k + 1, n', c', A', out, by omega, by omega, by go_num, rfl, by omega, Lib.hid (HO.out.drewN _), HE1, Lib.hid (HM.out.drewN _)⟩, by simp [intOf]; omega⟩
            · have HR : Hid (matchL ps segs [] = none) := Lib.hid (by rw [hat, if_pos (Or.inl ⟨rfl, hxp⟩)])
              have e1 := str_beq x pn
              rw [decide_eq_false hxp] at e1
              clear hat hxp
              go_upto_region 9 with (first | (refine hir.mono ?_; clear hir; rintro e w2 ⟨rfl, hm2⟩) | fail)
              try clear y0
              try clear y1
              try clear yl
              obtain ⟨z0, zl⟩ := HZ.out w2 hm2
              have HX2 := Lib.hid (HX.out.new2 hm2)
              have HO2 := Lib.hid (HO.out.new hm2)
              have HM2 : Hid (New w w2) := Lib.hid (HM.out.trans hm2)
              clear HX HO HM
              have HX := HX2
              have HO := HO2
              have HM := HM2
              clear HX2 HO2 HM2
              clear hm2
              have x0 := HX.out.cell 0
              have x1 := HX.out.cell 1
              have xl := HX.out.lt
              simp only [List.getElem?_toArray, List.getElem?_cons_zero, List.getElem?_cons_succ] at x0 x1
              go_quiet (fail)
              go_wp2_with fail
              try (go_quiet (fail))
              try (go_wp2_with fail)
              go_ret2
              exact RMatch.none HR.out (HM.out.trans (by with_reducible (repeat (first | exact Mod.refl _ _ | refine Mod.drewN ?_ _ | refine Mod.drew ?_)))) (Nat.zero_le _)
          · have hk1' : ((pk : Int) == 1) = false := by simpa using hk1
            by_cases hk2 : pk = 2
            · subst hk2
              have e3 := const_eq x []
              by_cases hxe : x = emptyB
              · rw [decide_eq_true hxe] at e3
                have HR : Hid (matchL ps segs [] = none) := Lib.hid (by rw [hat, if_pos (Or.inr ⟨rfl, hxe⟩)])
                clear hat hxe
                go_upto_region 9 with (first | (refine hir.mono ?_; clear hir; rintro e w2 ⟨rfl, hm2⟩) | fail)
                try clear y0
                try clear y1
                try clear yl
                obtain ⟨z0, zl⟩ := HZ.out w2 hm2
                have HX2 := Lib.hid (HX.out.new2 hm2)
                have HO2 := Lib.hid (HO.out.new hm2)
                have HM2 : Hid (New w w2) := Lib.hid (HM.out.trans hm2)
                clear HX HO HM
                have HX := HX2
                have HO := HO2
                have HM := HM2
                clear HX2 HO2 HM2
                clear hm2
                have x0 := HX.out.cell 0
                have x1 := HX.out.cell 1
                have xl := HX.out.lt
                simp only [List.getElem?_toArray, List.getElem?_cons_zero, List.getElem?_cons_succ] at x0 x1
                go_quiet (fail)
                go_wp2_with fail
                try (go_quiet (fail))
                try (go_wp2_with fail)
                go_ret2
                exact RMatch.none HR.out (HM.out.trans (by with_reducible (repeat (first | exact Mod.refl _ _ | refine Mod.drewN ?_ _ | refine Mod.drew ?_)))) (Nat.zero_le _)
              · rw [decide_eq_false hxe] at e3
                have HE1 : Hid (matchL ps segs [] = matchL (ps.drop (k + 1)) (segs.drop (k + 1)) (out ++ [(pn, x)])) := Lib.hid (by rw [hat, if_neg (fun h => h.elim (fun h => hk1 h.1) (fun h => hxe h.2)), if_pos rfl])
                clear hat hxe
                go_upto_region 9 with (first | (refine hir.mono ?_; clear hir; rintro e w2 ⟨rfl, hm2⟩) | fail)
                try clear y0
                try clear y1
                try clear yl
                obtain ⟨z0, zl⟩ := HZ.out w2 hm2
                have HX2 := Lib.hid (HX.out.new2 hm2)
                have HO2 := Lib.hid (HO.out.new hm2)
                have HM2 : Hid (New w w2) := Lib.hid (HM.out.trans hm2)
                clear HX HO HM
                have HX := HX2
                have HO := HO2
                have HM := HM2
                clear HX2 HO2 HM2
                clear hm2
                have x0 := HX.out.cell 0
                have x1 := HX.out.cell 1
                have xl := HX.out.lt
                simp only [List.getElem?_toArray, List.getElem?_cons_zero, List.getElem?_cons_succ] at x0 x1
                go_quiet (fail)
                go_upto_region 13 with fail
                try clear y0
                try clear y1
                try clear yl
                have hm3 : New w2 (w2.drewN nq) := (Mod.refl _ _).drewN _
                have HX2 := Lib.hid (HX.out.new2 hm3)
                have HO2 := Lib.hid (HO.out.new hm3)
                have HM2 : Hid (New w (w2.drewN nq)) := Lib.hid (HM.out.trans hm3)
                clear HX HO HM
                have HX := HX2
                have HO := HO2
                have HM := HM2
                clear HX2 HO2 HM2
                generalize w2.drewN nq = w3 at *
                have z3 : w3.cell? ⟨gs, os + k, none⟩ = some (.string x) := by rw [← z0]; exact hm3.cell (p := ⟨gs, os + k, none⟩) zl (fun e => e)
                have zl3 : gs < w3.heap.size := Nat.lt_of_lt_of_le zl hm3.size
                clear z0 zl hm3
                have HSW : Hid (∀ W, New w3 W → W.cell? ⟨xb, 0, none⟩ = some (.int .i64 2) ∧ W.cell? ⟨xb, 1, none⟩ = some (.string pn) ∧ xb < W.heap.size ∧ W.cell? ⟨gs, os + k, none⟩ = some (.string x) ∧ gs < W.heap.size) := Lib.hid (fun W hW => by
                  have h := HX.out.new2 hW
                  exact ⟨(h.cell 0).trans rfl, (h.cell 1).trans rfl, h.lt, by rw [← z3]; exact hW.cell (p := ⟨gs, os + k, none⟩) zl3 (fun e => e), Nat.lt_of_lt_of_le zl3 hW.size⟩)
                have hd3 : New w3 w3.drew := (Mod.refl (fun _ => False) w3).drew
                clear z3 zl3
                refine wp_region_held_ord (fun W => W.cell? ⟨xb, 0, none⟩ = some (.int .i64 2) ∧ W.cell? ⟨xb, 1, none⟩ = some (.string pn) ∧ xb < W.heap.size ∧ W.cell? ⟨gs, os + k, none⟩ = some (.string x) ∧ gs < W.heap.size) [8, 9] [0, 1, 2, 3, 4, 5, 6, 7, 8, 9] (by kernel_rfl) (by kernel_rfl) (fun _ _ d _ _ h => by cases d <;> exact h) ?_ (fun hHeld => ?_)
                · exact HSW.out _ hd3
                simp only [List.length_cons, List.length_nil, List.drop_succ_cons, List.drop_zero]
                refine heldO_take ?_ (by rfl) (by rfl) (by rfl) (fun w hSw => ?_) ?_
                rotate_left
                · (try dsimp only at hSw); (try simp only [List.getElem_toArray, List.getElem_cons_zero, List.getElem_cons_succ]); go_simp; any_goals (with_reducible rfl)
                simp only [Act.put, List.getElem_toArray, List.getElem_cons_zero, List.getElem_cons_succ, List.setIfInBounds_toArray, List.set_cons_zero, List.set_cons_succ]
                refine heldO_take ?_ (by rfl) (by rfl) (by rfl) (fun w hSw => ?_) ?_
                rotate_left
                · (try dsimp only at hSw); (try simp only [List.getElem_toArray, List.getElem_cons_zero, List.getElem_cons_succ]); go_simp; any_goals (with_reducible rfl)
                simp only [Act.put, List.getElem_toArray, List.getElem_cons_zero, List.getElem_cons_succ, List.setIfInBounds_toArray, List.set_cons_zero, List.set_cons_succ]
                refine heldO_take ?_ (by rfl) (by rfl) (by rfl) (fun w hSw => ?_) ?_
                rotate_left
                · (try dsimp only at hSw); (try simp only [List.getElem_toArray, List.getElem_cons_zero, List.getElem_cons_succ]); go_simp; any_goals (with_reducible rfl)
                simp only [Act.put, List.getElem_toArray, List.getElem_cons_zero, List.getElem_cons_succ, List.setIfInBounds_toArray, List.set_cons_zero, List.set_cons_succ]
                refine heldO_take ?_ (by rfl) (by rfl) (by rfl) (fun w hSw => ?_) ?_
                rotate_left
                · (try dsimp only at hSw); (try simp only [List.getElem_toArray, List.getElem_cons_zero, List.getElem_cons_succ]); go_simp; any_goals (with_reducible rfl)
                simp only [Act.put, List.getElem_toArray, List.getElem_cons_zero, List.getElem_cons_succ, List.setIfInBounds_toArray, List.set_cons_zero, List.set_cons_succ]
                refine heldO_take ?_ (by rfl) (by rfl) (by rfl) (fun w hSw => ?_) ?_
                rotate_left
                · (try dsimp only at hSw); (try simp only [List.getElem_toArray, List.getElem_cons_zero, List.getElem_cons_succ]); go_simp; any_goals (with_reducible rfl)
                simp only [Act.put, List.getElem_toArray, List.getElem_cons_zero, List.getElem_cons_succ, List.setIfInBounds_toArray, List.set_cons_zero, List.set_cons_succ]
                refine heldO_take ?_ (by rfl) (by rfl) (by rfl) (fun w hSw => ?_) ?_
                rotate_left
                · (try dsimp only at hSw); (try simp only [List.getElem_toArray, List.getElem_cons_zero, List.getElem_cons_succ]); go_simp; any_goals (with_reducible rfl)
                simp only [Act.put, List.getElem_toArray, List.getElem_cons_zero, List.getElem_cons_succ, List.setIfInBounds_toArray, List.set_cons_zero, List.set_cons_succ]
                refine heldO_take ?_ (by rfl) (by rfl) (by rfl) (fun w hSw => ?_) ?_
                rotate_left
                · (try dsimp only at hSw); (try simp only [List.getElem_toArray, List.getElem_cons_zero, List.getElem_cons_succ]); go_simp; any_goals (with_reducible rfl)
                simp only [Act.put, List.getElem_toArray, List.getElem_cons_zero, List.getElem_cons_succ, List.setIfInBounds_toArray, List.set_cons_zero, List.set_cons_succ]
                refine heldO_take ?_ (by rfl) (by rfl) (by rfl) (fun w hSw => ?_) ?_
                rotate_left
                · (try dsimp only at hSw); (try simp only [List.getElem_toArray, List.getElem_cons_zero, List.getElem_cons_succ]); go_simp; any_goals (with_reducible rfl)
                simp only [Act.put, List.getElem_toArray, List.getElem_cons_zero, List.getElem_cons_succ, List.setIfInBounds_toArray, List.set_cons_zero, List.set_cons_succ]
                have HSW3 := HSW
                clear HSW
                have HSW : Hid (∀ W, New w3.drew W → W.cell? ⟨xb, 0, none⟩ = some (.int .i64 2) ∧ W.cell? ⟨xb, 1, none⟩ = some (.string pn) ∧ xb < W.heap.size ∧ W.cell? ⟨gs, os + k, none⟩ = some (.string x) ∧ gs < W.heap.size) := Lib.hid (fun W hW => HSW3.out W (hd3.trans hW))
                have HX2 := Lib.hid (HX.out.new2 hd3)
                have HO2 := Lib.hid (HO.out.new hd3)
                have HM2 : Hid (New w w3.drew) := Lib.hid (HM.out.trans hd3)
                clear HX HO HM
                have HX := HX2
                have HO := HO2
                have HM := HM2
                clear HX2 HO2 HM2
                have HOA := Lib.hid (HO.out.alloc (.cells #[.string pn, .string x] 50))
                have HBN := Lib.hid (Blk.new w3.drew 50 #[.string pn, .string x])
                have hBq : w.heap.size ≤ (World.alloc w3.drew (.cells #[.string pn, .string x] 50)).heap.size := Nat.le_trans HM.out.size (by simp)
                have HOF : Hid (∀ g', blkOf A' = some g' → w.heap.size ≤ g') := Lib.hid (fun g' e => HO.out.farP g' e)
                refine heldO_step (by rfl) (by rfl) (by rfl) (fun K hK => ?_)
                go_simp
                refine hK.out _ _ (HSW.out _ ((Mod.refl _ _).alloc _)) (fun hHeld => ?_)
                clear hK K hHeld
                try simp only [Act.put, List.setIfInBounds_toArray, List.set_cons_zero, List.set_cons_succ]
                refine heldO_step (by rfl) (by rfl) (by rfl) (fun K hK => ?_)
                refine wp_push _ _ _ rfl 32 Tryz.underlying39 einfo_pair rfl (by exact HOA.out) (pn, x) (World.heap w3.drew).size rfl (by exact HBN.out) (fun j hj => pairEnc_one _ j hj) (by omega) (by omega) hBq ?_
                intro g8 cap8 w8 own8 hm8 hat8 hlt8
                have HO8 := Lib.hid own8
                have m8 : Mod (fun i => blkOf A' = some i) w3.drew w8 := ((Mod.refl _ _).alloc _).trans hm8
                have HM8 : Hid (New w w8) := Lib.hid (HM.out.step m8 (fun i hi e => by have := HOF.out i e; omega))
                have HX8 := Lib.hid (HX.out.mod m8 (fun e => by have := HOL.out _ e; omega))
                have HXZ := HSW.out _ (Mod.refl _ _)
                refine hK.out _ _ ⟨(HX8.out.cell 0).trans rfl, (HX8.out.cell 1).trans rfl, HX8.out.lt, ?_, Nat.lt_of_lt_of_le HXZ.2.2.2.2 m8.size⟩ (fun hHeld => ?_)
                · rw [← HXZ.2.2.2.1]
                  refine m8.cell (p := ⟨gs, os + k, none⟩) HXZ.2.2.2.2 (fun e => ?_)
                  have := HOF.out gs e
                  have := HSB.out
                  omega
                clear hK K hHeld own8 hm8 m8 HXZ
                try simp only [Act.put, List.setIfInBounds_toArray, List.set_cons_zero, List.set_cons_succ]
                refine heldO_nil ?_
                go_wp2_with fail
                all_goals exact ⟨⟨k + 1, n' + 1, cap8, some ⟨g8, 0, none⟩, _, by omega, by omega, by go_num, rfl, by omega, HO8, HE1, HM8⟩, by simp [intOf]; omega⟩
            · have hk2' : ((pk : Int) == 2) = false := by simpa using hk2
              have HE1 : Hid (matchL ps segs [] = matchL (ps.drop (k + 1)) (segs.drop (k + 1)) out) := Lib.hid (by rw [hat, if_neg (fun h => h.elim (fun h => hk1 h.1) (fun h => hk2 h.1)), if_neg hk2])
              clear hat
              go_upto_region 9 with (first | (refine hir.mono ?_; clear hir; rintro e w2 ⟨rfl, hm2⟩) | fail)
              try clear y0
              try clear y1
              try clear yl
              obtain ⟨z0, zl⟩ := HZ.out w2 hm2
              have HX2 := Lib.hid (HX.out.new2 hm2)
              have HO2 := Lib.hid (HO.out.new hm2)
              have HM2 : Hid (New w w2) := Lib.hid (HM.out.trans hm2)
              clear HX HO HM
              have HX := HX2
              have HO := HO2
              have HM := HM2
              clear HX2 HO2 HM2
              clear hm2
              have x0 := HX.out.cell 0
              have x1 := HX.out.cell 1
              have xl := HX.out.lt
              simp only [List.getElem?_toArray, List.getElem?_cons_zero, List.getElem?_cons_succ] at x0 x1
              go_quiet (fail)
              go_wp2_with fail
              try (go_quiet (fail))
              try (go_wp2_with fail)
              all_goals exact ⟨⟨k + 1, n', c', A', out, by omega, by omega, by go_num, rfl, by omega, Lib.hid (HO.out.drewN _), HE1, Lib.hid (HM.out.drewN _)⟩, by simp [intOf]; omega⟩
    · obtain rfl : k = np := by omega
      have hend := match_end (ps := ps) (segs := segs) (k := k) (by have := HPL.out; omega) (by have := HSL.out; omega) out
      rw [← HE.out] at hend
      have hcc := HO.out.ncap
      by_cases hkn : k = ns
      · subst hkn
        have HR : Hid (matchL ps segs [] = some out) := Lib.hid (by rw [hend, if_pos (by have := HSL.out; omega)])
        clear hend
        go_wp2_with fail
        go_ret2
        exact RMatch.some HR.out HO.out.sl HM.out hcc
      · have hkn' : ((k : Int) == (ns : Int)) = false := by simp; omega
        have HR : Hid (matchL ps segs [] = none) := Lib.hid (by rw [hend, if_neg (by have := HSL.out; omega)])
        clear hend
        go_wp2_with fail
        go_ret2
        exact RMatch.none HR.out HM.out hcc

end Go.Proofs.YtjehlecgnepgmaaGreatDoor

namespace Go.Proofs.YtjehlecgnepgmaaGreatDoor
open Go.RowKit
set_option linter.unusedVariables false
set_option linter.unusedSimpArgs false

set_option maxRecDepth 100000 in
set_option maxHeartbeats 1500000 in
theorem ref1_matched (Ap : Option Addr) (np cp : Nat) (ps : List PartD) (As : Option Addr) (ns cs : Nat) (segs : List ByteArray) (w : World) (hp : PSl w Ap np ps) (hs : SSl w As ns segs) (hn : np ≤ 100000) (hf : PFit segs) (hcs : ns ≤ cs) (h0 : 0 < ns) :
    Calls Tryz.prog 48 #[.slice Ap np cp, .slice As ns cs] w (RMatch (matchL ps segs []) w) := by
  have hsl := hs.1
  have hpl := hp.1
  obtain ⟨gs, os, rfl, htg, -⟩ := hs.2 h0
  have HSB := Lib.hid htg.lt
  clear htg
  have HP := Lib.hid hp
  have HS := Lib.hid hs
  have HF := Lib.hid hf
  have HPL := Lib.hid hpl
  have HSL := Lib.hid hsl
  have hns : ns ≤ 100000 := by have h1 := pathT_ge segs; have h2 := hf.t; omega
  clear hp hs hf hpl hsl
  go_enter Tryz.func48, Tryz.ntmps48
  go_wp2_with fail
  go_loopw [6, 11] (fun o' i wr => ∃ (k n' c' : Nat) (A' : Option Addr) (out : List PairD), k ≤ np ∧ k ≤ ns ∧ i = .int .i64 k ∧ o' = .slice A' n' c' ∧ n' ≤ k ∧ Hid (Own wr w.heap.size 50 2 pairEnc A' n' c' out) ∧ Hid (matchL ps segs [] = matchL (ps.drop k) (segs.drop k) out) ∧ Hid (New w wr)) (fun _ i _ => np - (intOf i).toNat)
  case atStart => exact ⟨0, 0, 0, none, [], Nat.zero_le _, Nat.zero_le _, rfl, rfl, Nat.le_refl _, Lib.hid Own.nil, Lib.hid rfl, Lib.hid (Mod.refl _ _)⟩
  case round =>
    rename World => wr
    obtain ⟨k, n', c', A', out, hk, hks, rfl, rfl, hnk, HO, HE, HM⟩ := hrel
    by_cases hlt : k < np
    · have hkp : k < ps.length := by have := HPL.out; omega
      have HOL : Hid (∀ g', blkOf A' = some g' → g' < wr.heap.size) := Lib.hid (fun g' e => HO.out.belowM g' e)
      have hat := match_at (segs := segs) hkp out
      rw [← HE.out] at hat
      obtain ⟨g, o, hA, htb, hc⟩ := (HP.out.new HM.out).2 (by omega)
      have hgl := htb.lt
      have c0 := hc k hkp 0 (by decide)
      have c1 := hc k hkp 1 (by decide)
      generalize ps[k] = p at *
      obtain ⟨pk, pn⟩ := p
      simp only [PartD.enc, Nat.add_zero] at c0 c1
      simp only at hat
      have HAT := Lib.hid hat
      clear hc htb hat
      subst hA
      have hb1 : (0 : Int) ≤ k := by omega
      have hb2 : (k : Int) < np := by omega
      have hbx := Blk.new wr 34 #[.int .i64 pk, .string pn]
      have hmx : New wr (wr.alloc (.cells #[.int .i64 pk, .string pn] 34)) := (Mod.refl _ _).alloc _
      have HO1 := Lib.hid (HO.out.new hmx)
      go_upto_region 5 with fail
      have HX := Lib.hid hbx
      have HM1 : Hid (New w _) := Lib.hid (HM.out.trans hmx)
      have hBw1 : w.heap.size ≤ _ := HM1.out.size
      clear hbx hmx HM c0 c1 HO
      have HM := HM1
      have HO := HO1
      clear HM1 HO1
      generalize wr.alloc (.cells #[.int .i64 pk, .string pn] 34) = w1 at *
      generalize wr.heap.size = xb at *
      have y0 := HX.out.cell 0
      have y1 := HX.out.cell 1
      have yl := HX.out.lt
      simp only [List.getElem?_toArray, List.getElem?_cons_zero, List.getElem?_cons_succ] at y0 y1
      by_cases hk3 : pk = 3
      · subst hk3
        go_upto_region 6 with fail
        have hm2 : New w1 w1 := Mod.refl _ _
        try clear y0
        try clear y1
        try clear yl
        have HX2 := Lib.hid (HX.out.new2 hm2)
        have HO2 := Lib.hid (HO.out.new hm2)
        have HM2 : Hid (New w w1) := Lib.hid (HM.out.trans hm2)
        clear HX HO HM
        have HX := HX2
        have HO := HO2
        have HM := HM2
        clear HX2 HO2 HM2
        clear hm2
        have HSW : Hid (∀ W, New w1 W → W.cell? ⟨xb, 0, none⟩ = some (.int .i64 3) ∧ W.cell? ⟨xb, 1, none⟩ = some (.string pn) ∧ xb < W.heap.size) := Lib.hid (fun W hW => by
          have h := HX.out.new2 hW
          exact ⟨(h.cell 0).trans rfl, (h.cell 1).trans rfl, h.lt⟩)
        have hmin : min (k : Int) (ns : Int) = (k : Int) := by omega
        have hkn : (k : Int) ≤ (ns : Int) := by omega
        have hnc : (ns : Int) ≤ (cs : Int) := by omega
        refine wp_region_held_ord (fun W => W.cell? ⟨xb, 0, none⟩ = some (.int .i64 3) ∧ W.cell? ⟨xb, 1, none⟩ = some (.string pn) ∧ xb < W.heap.size) [9, 11, 12] [0, 1, 2, 3, 4, 5, 6, 7, 8, 13, 14, 15, 16, 9, 10, 11, 12, 17] (by kernel_rfl) (by kernel_rfl) (fun _ _ d _ _ h => by cases d <;> exact h) ?_ (fun hHeld => ?_)
        · exact HSW.out _ (Mod.refl _ _).drew
        simp only [List.length_cons, List.length_nil, List.drop_succ_cons, List.drop_zero]
        refine heldO_take ?_ (by rfl) (by rfl) (by rfl) (fun w hSw => ?_) ?_
        rotate_left
        · (try dsimp only at hSw); (try simp only [List.getElem_toArray, List.getElem_cons_zero, List.getElem_cons_succ]); go_simp; any_goals (with_reducible rfl)
        simp only [Act.put, List.getElem_toArray, List.getElem_cons_zero, List.getElem_cons_succ, List.setIfInBounds_toArray, List.set_cons_zero, List.set_cons_succ]
        refine heldO_take ?_ (by rfl) (by rfl) (by rfl) (fun w hSw => ?_) ?_
        rotate_left
        · (try dsimp only at hSw); (try simp only [List.getElem_toArray, List.getElem_cons_zero, List.getElem_cons_succ]); go_simp; any_goals (with_reducible rfl)
        simp only [Act.put, List.getElem_toArray, List.getElem_cons_zero, List.getElem_cons_succ, List.setIfInBounds_toArray, List.set_cons_zero, List.set_cons_succ]
        refine heldO_take ?_ (by rfl) (by rfl) (by rfl) (fun w hSw => ?_) ?_
        rotate_left
        · (try dsimp only at hSw); (try simp only [List.getElem_toArray, List.getElem_cons_zero, List.getElem_cons_succ]); go_simp; any_goals (with_reducible rfl)
        simp only [Act.put, List.getElem_toArray, List.getElem_cons_zero, List.getElem_cons_succ, List.setIfInBounds_toArray, List.set_cons_zero, List.set_cons_succ]
        refine heldO_take ?_ (by rfl) (by rfl) (by rfl) (fun w hSw => ?_) ?_
        rotate_left
        · (try dsimp only at hSw); (try simp only [List.getElem_toArray, List.getElem_cons_zero, List.getElem_cons_succ]); go_simp; any_goals (with_reducible rfl)
        simp only [Act.put, List.getElem_toArray, List.getElem_cons_zero, List.getElem_cons_succ, List.setIfInBounds_toArray, List.set_cons_zero, List.set_cons_succ]
        refine heldO_take ?_ (by rfl) (by rfl) (by rfl) (fun w hSw => ?_) ?_
        rotate_left
        · (try dsimp only at hSw); (try simp only [List.getElem_toArray, List.getElem_cons_zero, List.getElem_cons_succ]); go_simp; any_goals (with_reducible rfl)
        simp only [Act.put, List.getElem_toArray, List.getElem_cons_zero, List.getElem_cons_succ, List.setIfInBounds_toArray, List.set_cons_zero, List.set_cons_succ]
        refine heldO_take ?_ (by rfl) (by rfl) (by rfl) (fun w hSw => ?_) ?_
        rotate_left
        · (try dsimp only at hSw); (try simp only [List.getElem_toArray, List.getElem_cons_zero, List.getElem_cons_succ]); go_simp; any_goals (with_reducible rfl)
        simp only [Act.put, List.getElem_toArray, List.getElem_cons_zero, List.getElem_cons_succ, List.setIfInBounds_toArray, List.set_cons_zero, List.set_cons_succ]
        refine heldO_take ?_ (by rfl) (by rfl) (by rfl) (fun w hSw => ?_) ?_
        rotate_left
        · (try dsimp only at hSw); (try simp only [List.getElem_toArray, List.getElem_cons_zero, List.getElem_cons_succ]); go_simp; any_goals (with_reducible rfl)
        simp only [Act.put, List.getElem_toArray, List.getElem_cons_zero, List.getElem_cons_succ, List.setIfInBounds_toArray, List.set_cons_zero, List.set_cons_succ]
        refine heldO_take ?_ (by rfl) (by rfl) (by rfl) (fun w hSw => ?_) ?_
        rotate_left
        · (try dsimp only at hSw); (try simp only [List.getElem_toArray, List.getElem_cons_zero, List.getElem_cons_succ]); go_simp; any_goals (with_reducible rfl)
        simp only [Act.put, List.getElem_toArray, List.getElem_cons_zero, List.getElem_cons_succ, List.setIfInBounds_toArray, List.set_cons_zero, List.set_cons_succ]
        refine heldO_take ?_ (by rfl) (by rfl) (by rfl) (fun w hSw => ?_) ?_
        rotate_left
        · (try dsimp only at hSw); (try simp only [List.getElem_toArray, List.getElem_cons_zero, List.getElem_cons_succ]); go_simp; any_goals (with_reducible rfl)
        simp only [Act.put, List.getElem_toArray, List.getElem_cons_zero, List.getElem_cons_succ, List.setIfInBounds_toArray, List.set_cons_zero, List.set_cons_succ]
        refine heldO_take ?_ (by rfl) (by rfl) (by rfl) (fun w hSw => ?_) ?_
        rotate_left
        · (try dsimp only at hSw); (try simp only [List.getElem_toArray, List.getElem_cons_zero, List.getElem_cons_succ]); go_simp; any_goals (with_reducible rfl)
        simp only [Act.put, List.getElem_toArray, List.getElem_cons_zero, List.getElem_cons_succ, List.setIfInBounds_toArray, List.set_cons_zero, List.set_cons_succ]
        refine heldO_take ?_ (by rfl) (by rfl) (by rfl) (fun w hSw => ?_) ?_
        rotate_left
        · (try dsimp only at hSw); (try simp only [List.getElem_toArray, List.getElem_cons_zero, List.getElem_cons_succ]); go_simp; any_goals (with_reducible rfl)
        simp only [Act.put, List.getElem_toArray, List.getElem_cons_zero, List.getElem_cons_succ, List.setIfInBounds_toArray, List.set_cons_zero, List.set_cons_succ]
        refine heldO_take ?_ (by rfl) (by rfl) (by rfl) (fun w hSw => ?_) ?_
        rotate_left
        · (try dsimp only at hSw); (try simp only [List.getElem_toArray, List.getElem_cons_zero, List.getElem_cons_succ]); go_simp; any_goals (with_reducible rfl)
        simp only [Act.put, List.getElem_toArray, List.getElem_cons_zero, List.getElem_cons_succ, List.setIfInBounds_toArray, List.set_cons_zero, List.set_cons_succ]
        refine heldO_take ?_ (by rfl) (by rfl) (by rfl) (fun w hSw => ?_) ?_
        rotate_left
        · (try dsimp only at hSw); (try simp only [List.getElem_toArray, List.getElem_cons_zero, List.getElem_cons_succ]); go_simp; any_goals (with_reducible rfl)
        simp only [Act.put, List.getElem_toArray, List.getElem_cons_zero, List.getElem_cons_succ, List.setIfInBounds_toArray, List.set_cons_zero, List.set_cons_succ]
        refine heldO_step (by rfl) (by rfl) (by rfl) (fun K hK => ?_)
        go_simp
        have hd2 : New w1 w1.drew := (Mod.refl (fun _ => False) w1).drew
        have hsd := SSl.dropC (HS.out.new (HM.out.trans hd2)) hks hcs
        generalize (if cs = k then (some ⟨gs, os, none⟩ : Option Addr) else some ⟨gs, os + k, none⟩) = Ax at *
        refine (ref1_joined _ _ _ (segs.drop k) w1.drew hsd (HF.out.drop k)).mono ?_
        clear hsd
        rintro e w4 ⟨rfl, hm4⟩
        have m24 := hd2.trans hm4
        have HR : Hid (matchL ps segs [] = some (out ++ [(pn, ⟨(pathT (segs.drop k)).toArray⟩)])) := Lib.hid (by rw [HAT.out]; simp)
        generalize (⟨(pathT (segs.drop k)).toArray⟩ : ByteArray) = V at *
        go_wp2_with fail
        refine hK.out _ _ (HSW.out _ m24) (fun hHeld => ?_)
        clear hK K hHeld
        try simp only [Act.put, List.setIfInBounds_toArray, List.set_cons_zero, List.set_cons_succ]
        have HSW4 := HSW
        clear HSW
        have HSW : Hid (∀ W, New w4 W → W.cell? ⟨xb, 0, none⟩ = some (.int .i64 3) ∧ W.cell? ⟨xb, 1, none⟩ = some (.string pn) ∧ xb < W.heap.size) := Lib.hid (fun W hW => HSW4.out W (m24.trans hW))
        have HX2 := Lib.hid (HX.out.new2 m24)
        have HO2 := Lib.hid (HO.out.new m24)
        have HM2 : Hid (New w w4) := Lib.hid (HM.out.trans m24)
        clear HX HO HM
        have HX := HX2
        have HO := HO2
        have HM := HM2
        clear HX2 HO2 HM2
        clear m24 hm4 hd2 HSW4
        refine heldO_take ?_ (by rfl) (by rfl) (by rfl) (fun w hSw => ?_) ?_
        rotate_left
        · (try dsimp only at hSw); (try simp only [List.getElem_toArray, List.getElem_cons_zero, List.getElem_cons_succ]); go_simp; any_goals (with_reducible rfl)
        simp only [Act.put, List.getElem_toArray, List.getElem_cons_zero, List.getElem_cons_succ, List.setIfInBounds_toArray, List.set_cons_zero, List.set_cons_succ]
        have HOA := Lib.hid (HO.out.alloc (.cells #[.string pn, .string V] 50))
        have HBN := Lib.hid (Blk.new w4 50 #[.string pn, .string V])
        have hBq : w.heap.size ≤ (World.alloc w4 (.cells #[.string pn, .string V] 50)).heap.size := Nat.le_trans HM.out.size (by simp)
        have HOF : Hid (∀ g', blkOf A' = some g' → w.heap.size ≤ g') := Lib.hid (fun g' e => HO.out.farP g' e)
        refine heldO_step (by rfl) (by rfl) (by rfl) (fun K hK => ?_)
        go_simp
        refine hK.out _ _ (HSW.out _ ((Mod.refl _ _).alloc _)) (fun hHeld => ?_)
        clear hK K hHeld
        try simp only [Act.put, List.setIfInBounds_toArray, List.set_cons_zero, List.set_cons_succ]
        refine heldO_step (by rfl) (by rfl) (by rfl) (fun K hK => ?_)
        refine wp_push _ _ _ rfl 32 Tryz.underlying39 einfo_pair rfl (by exact HOA.out) (pn, V) (World.heap w4).size rfl (by exact HBN.out) (fun j hj => pairEnc_one _ j hj) (by omega) (by omega) hBq ?_
        intro g8 cap8 w8 own8 hm8 hat8 hlt8
        have HO8 := Lib.hid own8
        have m8 : Mod (fun i => blkOf A' = some i) w4 w8 := ((Mod.refl _ _).alloc _).trans hm8
        have HM8 : Hid (New w w8) := Lib.hid (HM.out.step m8 (fun i hi e => by have := HOF.out i e; omega))
        have HX8 := Lib.hid (HX.out.mod m8 (fun e => by have := HOL.out _ e; omega))
        refine hK.out _ _ ⟨(HX8.out.cell 0).trans rfl, (HX8.out.cell 1).trans rfl, HX8.out.lt⟩ (fun hHeld => ?_)
        clear hK K hHeld own8 hm8 m8
        try simp only [Act.put, List.setIfInBounds_toArray, List.set_cons_zero, List.set_cons_succ]
        refine heldO_take ?_ (by rfl) (by rfl) (by rfl) (fun w hSw => ?_) ?_
        rotate_left
        · (try dsimp only at hSw); (try simp only [List.getElem_toArray, List.getElem_cons_zero, List.getElem_cons_succ]); go_simp; any_goals (with_reducible rfl)
        simp only [Act.put, List.getElem_toArray, List.getElem_cons_zero, List.getElem_cons_succ, List.setIfInBounds_toArray, List.set_cons_zero, List.set_cons_succ]
        refine heldO_nil ?_
        go_wp2_with fail
        go_ret2
        exact RMatch.some HR.out HO8.out.sl HM8.out HO8.out.ncap
      · have hk3' : ((pk : Int) == 3) = false := by simpa using hk3
        by_cases hkn : k < ns
        rotate_left
        · obtain rfl : k = ns := by omega
          have HR : Hid (matchL ps segs [] = none) := Lib.hid (by rw [HAT.out, if_neg hk3, dif_neg (by have := HSL.out; omega)])
          go_wp2_with fail
          go_quiet (fail)
          go_wp2_with fail
          go_ret2
          exact RMatch.none HR.out (HM.out.drewN _) (Nat.zero_le _)
        · have hkl : k < segs.length := by have := HSL.out; omega
          have hkni : (k : Int) < (ns : Int) := by omega
          have hknd : decide (ns ≤ k) = false := by simp; omega
          have hknn : ¬ ns ≤ k := by omega
          have hat := HAT.out
          rw [if_neg hk3, dif_pos hkl] at hat
          obtain ⟨g2, o2, hA2, ht2, hcc⟩ := (HS.out.new HM.out).2 h0
          injection hA2 with hA2
          injection hA2 with q1 q2
          subst q1 q2
          have z0 := hcc k hkl 0 (by omega)
          have zl := ht2.lt
          simp only [sEnc, Nat.mul_one, Nat.add_zero] at z0
          clear hcc ht2
          generalize segs[k] = x at *
          have HZ : Hid (∀ W, New w1 W → W.cell? ⟨gs, os + k, none⟩ = some (.string x) ∧ gs < W.heap.size) := Lib.hid (fun W hW => ⟨by rw [← z0]; exact hW.cell (p := ⟨gs, os + k, none⟩) zl (fun e => e), Nat.lt_of_lt_of_le zl hW.size⟩)
          clear z0 zl HAT
          by_cases hk1 : pk = 1
          · subst hk1
            by_cases hxp : x = pn
            · subst hxp
              have HE1 : Hid (matchL ps segs [] = matchL (ps.drop (k + 1)) (segs.drop (k + 1)) out) := Lib.hid (by rw [hat]; simp)
              have e1 : (x.toList != x.toList) = false := by simp
              clear hat
              go_upto_region 7 with fail
              have hm2 : New w1 w1 := Mod.refl _ _
              try clear y0
              try clear y1
              try clear yl
              obtain ⟨z0, zl⟩ := HZ.out w1 hm2
              have HX2 := Lib.hid (HX.out.new2 hm2)
              have HO2 := Lib.hid (HO.out.new hm2)
              have HM2 : Hid (New w w1) := Lib.hid (HM.out.trans hm2)
              clear HX HO HM
              have HX := HX2
              have HO := HO2
              have HM := HM2
              clear HX2 HO2 HM2
              clear hm2
              have y0 := HX.out.cell 0
              have y1 := HX.out.cell 1
              have yl := HX.out.lt
              simp only [List.getElem?_toArray, List.getElem?_cons_zero, List.getElem?_cons_succ] at y0 y1
              go_quiet (fail)
              go_wp2_with fail
              try (go_quiet (fail))
              try (go_wp2_with fail)
              all_goals exact ⟨⟨k + 1, n', c', A', out, by omega, by omega, by go_num, rfl, by omega, Lib.hid (HO.out.drewN _), HE1, Lib.hid (HM.out.drewN _)⟩, by simp [intOf]; omega⟩
            · have HR : Hid (matchL ps segs [] = none) := Lib.hid (by rw [hat, if_pos (Or.inl ⟨rfl, hxp⟩)])
              have e1 := str_beq x pn
              rw [decide_eq_false hxp] at e1
              clear hat hxp
              go_upto_region 7 with fail
              have hm2 : New w1 w1 := Mod.refl _ _
              try clear y0
              try clear y1
              try clear yl
              obtain ⟨z0, zl⟩ := HZ.out w1 hm2
              have HX2 := Lib.hid (HX.out.new2 hm2)
              have HO2 := Lib.hid (HO.out.new hm2)
              have HM2 : Hid (New w w1) := Lib.hid (HM.out.trans hm2)
              clear HX HO HM
              have HX := HX2
              have HO := HO2
              have HM := HM2
              clear HX2 HO2 HM2
              clear hm2
              have y0 := HX.out.cell 0
              have y1 := HX.out.cell 1
              have yl := HX.out.lt
              simp only [List.getElem?_toArray, List.getElem?_cons_zero, List.getElem?_cons_succ] at y0 y1
              go_quiet (fail)
              go_wp2_with fail
              try (go_quiet (fail))
              try (go_wp2_with fail)
              go_ret2
              exact RMatch.none HR.out (HM.out.trans (by with_reducible (repeat (first | exact Mod.refl _ _ | refine Mod.drewN ?_ _ | refine Mod.drew ?_)))) (Nat.zero_le _)
          · have hk1' : ((pk : Int) == 1) = false := by simpa using hk1
            by_cases hk2 : pk = 2
            · subst hk2
              have e3 := const_eq x []
              by_cases hxe : x = emptyB
              · rw [decide_eq_true hxe] at e3
                have HR : Hid (matchL ps segs [] = none) := Lib.hid (by rw [hat, if_pos (Or.inr ⟨rfl, hxe⟩)])
                clear hat hxe
                go_upto_region 7 with fail
                have hm2 : New w1 w1 := Mod.refl _ _
                try clear y0
                try clear y1
                try clear yl
                obtain ⟨z0, zl⟩ := HZ.out w1 hm2
                have HX2 := Lib.hid (HX.out.new2 hm2)
                have HO2 := Lib.hid (HO.out.new hm2)
                have HM2 : Hid (New w w1) := Lib.hid (HM.out.trans hm2)
                clear HX HO HM
                have HX := HX2
                have HO := HO2
                have HM := HM2
                clear HX2 HO2 HM2
                clear hm2
                have y0 := HX.out.cell 0
                have y1 := HX.out.cell 1
                have yl := HX.out.lt
                simp only [List.getElem?_toArray, List.getElem?_cons_zero, List.getElem?_cons_succ] at y0 y1
                go_quiet (fail)
                go_wp2_with fail
                try (go_quiet (fail))
                try (go_wp2_with fail)
                go_ret2
                exact RMatch.none HR.out (HM.out.trans (by with_reducible (repeat (first | exact Mod.refl _ _ | refine Mod.drewN ?_ _ | refine Mod.drew ?_)))) (Nat.zero_le _)
              · rw [decide_eq_false hxe] at e3
                have HE1 : Hid (matchL ps segs [] = matchL (ps.drop (k + 1)) (segs.drop (k + 1)) (out ++ [(pn, x)])) := Lib.hid (by rw [hat, if_neg (fun h => h.elim (fun h => hk1 h.1) (fun h => hxe h.2)), if_pos rfl])
                clear hat hxe
                go_upto_region 7 with fail
                have hm2 : New w1 w1 := Mod.refl _ _
                try clear y0
                try clear y1
                try clear yl
                obtain ⟨z0, zl⟩ := HZ.out w1 hm2
                have HX2 := Lib.hid (HX.out.new2 hm2)
                have HO2 := Lib.hid (HO.out.new hm2)
                have HM2 : Hid (New w w1) := Lib.hid (HM.out.trans hm2)
                clear HX HO HM
                have HX := HX2
                have HO := HO2
                have HM := HM2
                clear HX2 HO2 HM2
                clear hm2
                have y0 := HX.out.cell 0
                have y1 := HX.out.cell 1
                have yl := HX.out.lt
                simp only [List.getElem?_toArray, List.getElem?_cons_zero, List.getElem?_cons_succ] at y0 y1
                go_quiet (fail)
                go_upto_region 10 with fail
                try clear y0
                try clear y1
                try clear yl
                have hm3 : New w1 (w1.drewN nq) := (Mod.refl _ _).drewN _
                have HX2 := Lib.hid (HX.out.new2 hm3)
                have HO2 := Lib.hid (HO.out.new hm3)
                have HM2 : Hid (New w (w1.drewN nq)) := Lib.hid (HM.out.trans hm3)
                clear HX HO HM
                have HX := HX2
                have HO := HO2
                have HM := HM2
                clear HX2 HO2 HM2
                generalize w1.drewN nq = w3 at *
                have z3 : w3.cell? ⟨gs, os + k, none⟩ = some (.string x) := by rw [← z0]; exact hm3.cell (p := ⟨gs, os + k, none⟩) zl (fun e => e)
                have zl3 : gs < w3.heap.size := Nat.lt_of_lt_of_le zl hm3.size
                clear z0 zl hm3
                have HSW : Hid (∀ W, New w3 W → W.cell? ⟨xb, 0, none⟩ = some (.int .i64 2) ∧ W.cell? ⟨xb, 1, none⟩ = some (.string pn) ∧ xb < W.heap.size ∧ W.cell? ⟨gs, os + k, none⟩ = some (.string x) ∧ gs < W.heap.size) := Lib.hid (fun W hW => by
                  have h := HX.out.new2 hW
                  exact ⟨(h.cell 0).trans rfl, (h.cell 1).trans rfl, h.lt, by rw [← z3]; exact hW.cell (p := ⟨gs, os + k, none⟩) zl3 (fun e => e), Nat.lt_of_lt_of_le zl3 hW.size⟩)
                have hd3 : New w3 w3.drew := (Mod.refl (fun _ => False) w3).drew
                clear z3 zl3
                refine wp_region_held_ord (fun W => W.cell? ⟨xb, 0, none⟩ = some (.int .i64 2) ∧ W.cell? ⟨xb, 1, none⟩ = some (.string pn) ∧ xb < W.heap.size ∧ W.cell? ⟨gs, os + k, none⟩ = some (.string x) ∧ gs < W.heap.size) [8, 9] [0, 1, 2, 3, 4, 5, 6, 7, 8, 9] (by kernel_rfl) (by kernel_rfl) (fun _ _ d _ _ h => by cases d <;> exact h) ?_ (fun hHeld => ?_)
                · exact HSW.out _ hd3
                simp only [List.length_cons, List.length_nil, List.drop_succ_cons, List.drop_zero]
                refine heldO_take ?_ (by rfl) (by rfl) (by rfl) (fun w hSw => ?_) ?_
                rotate_left
                · (try dsimp only at hSw); (try simp only [List.getElem_toArray, List.getElem_cons_zero, List.getElem_cons_succ]); go_simp; any_goals (with_reducible rfl)
                simp only [Act.put, List.getElem_toArray, List.getElem_cons_zero, List.getElem_cons_succ, List.setIfInBounds_toArray, List.set_cons_zero, List.set_cons_succ]
                refine heldO_take ?_ (by rfl) (by rfl) (by rfl) (fun w hSw => ?_) ?_
                rotate_left
                · (try dsimp only at hSw); (try simp only [List.getElem_toArray, List.getElem_cons_zero, List.getElem_cons_succ]); go_simp; any_goals (with_reducible rfl)
                simp only [Act.put, List.getElem_toArray, List.getElem_cons_zero, List.getElem_cons_succ, List.setIfInBounds_toArray, List.set_cons_zero, List.set_cons_succ]
                refine heldO_take ?_ (by rfl) (by rfl) (by rfl) (fun w hSw => ?_) ?_
                rotate_left
                · (try dsimp only at hSw); (try simp only [List.getElem_toArray, List.getElem_cons_zero, List.getElem_cons_succ]); go_simp; any_goals (with_reducible rfl)
                simp only [Act.put, List.getElem_toArray, List.getElem_cons_zero, List.getElem_cons_succ, List.setIfInBounds_toArray, List.set_cons_zero, List.set_cons_succ]
                refine heldO_take ?_ (by rfl) (by rfl) (by rfl) (fun w hSw => ?_) ?_
                rotate_left
                · (try dsimp only at hSw); (try simp only [List.getElem_toArray, List.getElem_cons_zero, List.getElem_cons_succ]); go_simp; any_goals (with_reducible rfl)
                simp only [Act.put, List.getElem_toArray, List.getElem_cons_zero, List.getElem_cons_succ, List.setIfInBounds_toArray, List.set_cons_zero, List.set_cons_succ]
                refine heldO_take ?_ (by rfl) (by rfl) (by rfl) (fun w hSw => ?_) ?_
                rotate_left
                · (try dsimp only at hSw); (try simp only [List.getElem_toArray, List.getElem_cons_zero, List.getElem_cons_succ]); go_simp; any_goals (with_reducible rfl)
                simp only [Act.put, List.getElem_toArray, List.getElem_cons_zero, List.getElem_cons_succ, List.setIfInBounds_toArray, List.set_cons_zero, List.set_cons_succ]
                refine heldO_take ?_ (by rfl) (by rfl) (by rfl) (fun w hSw => ?_) ?_
                rotate_left
                · (try dsimp only at hSw); (try simp only [List.getElem_toArray, List.getElem_cons_zero, List.getElem_cons_succ]); go_simp; any_goals (with_reducible rfl)
                simp only [Act.put, List.getElem_toArray, List.getElem_cons_zero, List.getElem_cons_succ, List.setIfInBounds_toArray, List.set_cons_zero, List.set_cons_succ]
                refine heldO_take ?_ (by rfl) (by rfl) (by rfl) (fun w hSw => ?_) ?_
                rotate_left
                · (try dsimp only at hSw); (try simp only [List.getElem_toArray, List.getElem_cons_zero, List.getElem_cons_succ]); go_simp; any_goals (with_reducible rfl)
                simp only [Act.put, List.getElem_toArray, List.getElem_cons_zero, List.getElem_cons_succ, List.setIfInBounds_toArray, List.set_cons_zero, List.set_cons_succ]
                refine heldO_take ?_ (by rfl) (by rfl) (by rfl) (fun w hSw => ?_) ?_
                rotate_left
                · (try dsimp only at hSw); (try simp only [List.getElem_toArray, List.getElem_cons_zero, List.getElem_cons_succ]); go_simp; any_goals (with_reducible rfl)
                simp only [Act.put, List.getElem_toArray, List.getElem_cons_zero, List.getElem_cons_succ, List.setIfInBounds_toArray, List.set_cons_zero, List.set_cons_succ]
                have HSW3 := HSW
                clear HSW
                have HSW : Hid (∀ W, New w3.drew W → W.cell? ⟨xb, 0, none⟩ = some (.int .i64 2) ∧ W.cell? ⟨xb, 1, none⟩ = some (.string pn) ∧ xb < W.heap.size ∧ W.cell? ⟨gs, os + k, none⟩ = some (.string x) ∧ gs < W.heap.size) := Lib.hid (fun W hW => HSW3.out W (hd3.trans hW))
                have HX2 := Lib.hid (HX.out.new2 hd3)
                have HO2 := Lib.hid (HO.out.new hd3)
                have HM2 : Hid (New w w3.drew) := Lib.hid (HM.out.trans hd3)
                clear HX HO HM
                have HX := HX2
                have HO := HO2
                have HM := HM2
                clear HX2 HO2 HM2
                have HOA := Lib.hid (HO.out.alloc (.cells #[.string pn, .string x] 50))
                have HBN := Lib.hid (Blk.new w3.drew 50 #[.string pn, .string x])
                have hBq : w.heap.size ≤ (World.alloc w3.drew (.cells #[.string pn, .string x] 50)).heap.size := Nat.le_trans HM.out.size (by simp)
                have HOF : Hid (∀ g', blkOf A' = some g' → w.heap.size ≤ g') := Lib.hid (fun g' e => HO.out.farP g' e)
                refine heldO_step (by rfl) (by rfl) (by rfl) (fun K hK => ?_)
                go_simp
                refine hK.out _ _ (HSW.out _ ((Mod.refl _ _).alloc _)) (fun hHeld => ?_)
                clear hK K hHeld
                try simp only [Act.put, List.setIfInBounds_toArray, List.set_cons_zero, List.set_cons_succ]
                refine heldO_step (by rfl) (by rfl) (by rfl) (fun K hK => ?_)
                refine wp_push _ _ _ rfl 32 Tryz.underlying39 einfo_pair rfl (by exact HOA.out) (pn, x) (World.heap w3.drew).size rfl (by exact HBN.out) (fun j hj => pairEnc_one _ j hj) (by omega) (by omega) hBq ?_
                intro g8 cap8 w8 own8 hm8 hat8 hlt8
                have HO8 := Lib.hid own8
                have m8 : Mod (fun i => blkOf A' = some i) w3.drew w8 := ((Mod.refl _ _).alloc _).trans hm8
                have HM8 : Hid (New w w8) := Lib.hid (HM.out.step m8 (fun i hi e => by have := HOF.out i e; omega))
                have HX8 := Lib.hid (HX.out.mod m8 (fun e => by have := HOL.out _ e; omega))
                have HXZ := HSW.out _ (Mod.refl _ _)
                refine hK.out _ _ ⟨(HX8.out.cell 0).trans rfl, (HX8.out.cell 1).trans rfl, HX8.out.lt, ?_, Nat.lt_of_lt_of_le HXZ.2.2.2.2 m8.size⟩ (fun hHeld => ?_)
                · rw [← HXZ.2.2.2.1]
                  refine m8.cell (p := ⟨gs, os + k, none⟩) HXZ.2.2.2.2 (fun e => ?_)
                  have := HOF.out gs e
                  have := HSB.out
                  omega
                clear hK K hHeld own8 hm8 m8 HXZ
                try simp only [Act.put, List.setIfInBounds_toArray, List.set_cons_zero, List.set_cons_succ]
                refine heldO_nil ?_
                go_wp2_with fail
                all_goals exact ⟨⟨k + 1, n' + 1, cap8, some ⟨g8, 0, none⟩, _, by omega, by omega, by go_num, rfl, by omega, HO8, HE1, HM8⟩, by simp [intOf]; omega⟩
            · have hk2' : ((pk : Int) == 2) = false := by simpa using hk2
              have HE1 : Hid (matchL ps segs [] = matchL (ps.drop (k + 1)) (segs.drop (k + 1)) out) := Lib.hid (by rw [hat, if_neg (fun h => h.elim (fun h => hk1 h.1) (fun h => hk2 h.1)), if_neg hk2])
              clear hat
              go_upto_region 7 with fail
              have hm2 : New w1 w1 := Mod.refl _ _
              try clear y0
              try clear y1
              try clear yl
              obtain ⟨z0, zl⟩ := HZ.out w1 hm2
              have HX2 := Lib.hid (HX.out.new2 hm2)
              have HO2 := Lib.hid (HO.out.new hm2)
              have HM2 : Hid (New w w1) := Lib.hid (HM.out.trans hm2)
              clear HX HO HM
              have HX := HX2
              have HO := HO2
              have HM := HM2
              clear HX2 HO2 HM2
              clear hm2
              have y0 := HX.out.cell 0
              have y1 := HX.out.cell 1
              have yl := HX.out.lt
              simp only [List.getElem?_toArray, List.getElem?_cons_zero, List.getElem?_cons_succ] at y0 y1
              go_quiet (fail)
              go_wp2_with fail
              try (go_quiet (fail))
              try (go_wp2_with fail)
              all_goals exact ⟨⟨k + 1, n', c', A', out, by omega, by omega, by go_num, rfl, by omega, Lib.hid (HO.out.drewN _), HE1, Lib.hid (HM.out.drewN _)⟩, by simp [intOf]; omega⟩
    · obtain rfl : k = np := by omega
      have hend := match_end (ps := ps) (segs := segs) (k := k) (by have := HPL.out; omega) (by have := HSL.out; omega) out
      rw [← HE.out] at hend
      have hcc := HO.out.ncap
      by_cases hkn : k = ns
      · subst hkn
        have HR : Hid (matchL ps segs [] = some out) := Lib.hid (by rw [hend, if_pos (by have := HSL.out; omega)])
        clear hend
        go_wp2_with fail
        go_ret2
        exact RMatch.some HR.out HO.out.sl HM.out hcc
      · have hkn' : ((ns : Int) == (k : Int)) = false := by simp; omega
        have HR : Hid (matchL ps segs [] = none) := Lib.hid (by rw [hend, if_neg (by have := HSL.out; omega)])
        clear hend
        go_wp2_with fail
        go_ret2
        exact RMatch.none HR.out HM.out hcc

end Go.Proofs.YtjehlecgnepgmaaGreatDoor

namespace Go.Proofs.YtjehlecgnepgmaaGreatDoor
open Go.RowKit
set_option linter.unusedVariables false
set_option linter.unusedSimpArgs false

/-- the parameters, whether the path fits, the error -/
def RMat (q : List PairD × Bool × Int) (w : World) (e : Ending) (w' : World) : Prop := ∃ A n c, e = .returned (.tuple #[.slice A n c, .bool q.2.1, .int .i64 q.2.2]) ∧ QSl w' A n q.1 ∧ New w w' ∧ n ≤ c
theorem RMat.fault {q : List PairD × Bool × Int} {w w' : World} {x : Int} (h : q = ([], false, x)) (hm : New w w') : RMat q w (.returned (.tuple #[.slice none 0 0, .bool false, .int .i64 x])) w' :=
  ⟨none, 0, 0, by rw [h], by rw [h]; exact Sl.nil, hm, Nat.le_refl _⟩
theorem segsOf_ne {s : ByteArray} (h : (segsOf s).1 = 0) : 0 < (segsOf s).2.length := by
  unfold segsOf at h ⊢
  split at h
  · rename_i h1; exact absurd h h1
  · rename_i h1
    rw [if_neg h1]
    split at h
    · cases h
    · rename_i h2
      rw [if_neg h2]
      have := pieces_ne (t := ⟨((pathN s).2.drop 1).toArray⟩) (sep := slB) (Nat.le_refl _)
      simp only [List.length_map]
      exact List.length_pos_iff.2 this

set_option maxRecDepth 100000 in
set_option maxHeartbeats 1500000 in
theorem route_Match (t path : ByteArray) (w : World) (h1 : t.size ≤ 100000) (h2 : path.size ≤ 100000) (hx : MaxLn w) :
    Calls Tryz.prog 17 #[.string t, .string path] w (RMat (matchOf t path) w) := by
  have ht := route_parseTemplate t w h1 hx
  by_cases h1 : (tplOf t).1 = 0
  rotate_left
  · have HQ : Hid (matchOf t path = ([], false, (tplOf t).1)) := Lib.hid (by unfold matchOf; rw [if_pos h1])
    generalize tplOf t = q at *
    obtain ⟨q1, q2⟩ := q
    simp only at h1 HQ
    have h1' : ((q1 : Int) != 0) = true := by simpa using h1
    clear h1
    go_enter Tryz.func17, Tryz.ntmps17
    go_wp2_with fail
    refine ht.mono ?_
    clear ht
    rintro e w1 ⟨A, n, c, rfl, -, hm, -⟩
    have HM := Lib.hid hm
    clear hm
    simp only
    go_wp2_with fail
    go_ret3
    exact RMat.fault HQ.out HM.out
  have hsg := fun W (h : New w W) => msg_segments path W h2 (hx.new h)
  have HSG := Lib.hid hsg
  have HQ0 : Hid (matchOf t path = if (segsOf path).1 ≠ 0 then ([], false, (segsOf path).1) else match matchL (tplOf t).2 (segsOf path).2 [] with | none => ([], false, 0) | some l => (l, true, 0)) := Lib.hid (by unfold matchOf; rw [if_neg (fun h => h h1)]; rfl)
  generalize tplOf t = q at *
  obtain ⟨q1, ps⟩ := q
  simp only at h1
  subst h1
  by_cases h2 : (segsOf path).1 = 0
  rotate_left
  · have HQ : Hid (matchOf t path = ([], false, (segsOf path).1)) := Lib.hid (by rw [HQ0.out, if_pos h2])
    clear HQ0 hsg
    generalize segsOf path = q at *
    obtain ⟨q1, q2⟩ := q
    simp only at h2 HQ
    have h2' : ((q1 : Int) != 0) = true := by simpa using h2
    clear h2
    go_enter Tryz.func17, Tryz.ntmps17
    go_wp2_with fail
    refine ht.mono ?_
    clear ht
    rintro e w1 ⟨A, n, c, rfl, -, hm, -⟩
    have HM := Lib.hid hm
    have hsg := HSG.out w1 hm
    clear hm HSG
    simp only
    go_wp2_with fail
    refine hsg.mono ?_
    clear hsg
    rintro e w2 ⟨A2, n2, c2, rfl, -, hm2, -⟩
    have HM2 : Hid (New w w2) := Lib.hid (HM.out.trans hm2)
    clear hm2 HM
    simp only
    go_wp2_with fail
    go_ret3
    exact RMat.fault HQ.out HM2.out
  obtain ⟨hl, hwt⟩ := segs_ok h2
  have hne := segsOf_ne h2
  have HFT := Lib.hid (PFit.of_wt hwt (by omega))
  have HQ1 : Hid (matchOf t path = match matchL ps (segsOf path).2 [] with | none => ([], false, 0) | some l => (l, true, 0)) := Lib.hid (by rw [HQ0.out, if_neg (fun h => h h2)])
  clear HQ0 hsg hwt
  generalize segsOf path = q at *
  obtain ⟨q1, segs⟩ := q
  simp only at h2 hl hne
  subst h2
  go_enter Tryz.func17, Tryz.ntmps17
  go_wp2_with fail
  refine ht.mono ?_
  clear ht
  rintro e w1 ⟨A, n, c, rfl, hps, hm, hn⟩
  have HM := Lib.hid hm
  have HPS := Lib.hid hps
  have hsg := HSG.out w1 hm
  clear hm HSG hps
  simp only
  go_wp2_with fail
  refine hsg.mono ?_
  clear hsg
  rintro e w2 ⟨A2, n2, c2, rfl, hss, hm2, hc2⟩
  have HM2 : Hid (New w w2) := Lib.hid (HM.out.trans hm2)
  have hmt := route_match A n c ps A2 n2 c2 segs w2 (HPS.out.new hm2) hss hn HFT.out hc2 (by have := hss.1; simp only at this; omega)
  clear hm2 HM hss hne
  simp only
  go_wp2_with fail
  refine hmt.mono ?_
  clear hmt
  rintro e w3 ⟨A3, n3, c3, rfl, hq, hm3, hc3⟩
  have HM3 : Hid (New w w3) := Lib.hid (HM2.out.trans hm3)
  clear hm3 HM2
  cases hmm : matchL ps segs [] with
  | none =>
    have HR : Hid (matchOf t path = ([], false, 0)) := Lib.hid (by rw [HQ1.out]; simp only [hmm])
    clear hq
    simp only [Option.isSome_none]
    go_wp2_with fail
    go_ret3
    exact RMat.fault HR.out HM3.out
  | some l =>
    have HR : Hid (matchOf t path = (l, true, 0)) := Lib.hid (by rw [HQ1.out]; simp only [hmm])
    have HS := Lib.hid (hq l hmm)
    clear hq
    simp only [Option.isSome_some]
    go_wp2_with fail
    go_ret3
    exact ⟨A3, n3, c3, by rw [HR.out]; rfl, by rw [HR.out]; exact HS.out, HM3.out, hc3⟩
set_option maxRecDepth 100000 in
set_option maxHeartbeats 1500000 in
theorem ref1_matchOf (t path : ByteArray) (w : World) (h1 : t.size ≤ 100000) (h2 : path.size ≤ 100000) (hx : MaxLn w) (he : ErrSyn w) :
    Calls Tryz.prog 18 #[.string t, .string path] w (RMat (matchOf t path) w) := by
  have ht := ref_templateOf t w h1 hx
  by_cases h1 : (tplOf t).1 = 0
  rotate_left
  · have HQ : Hid (matchOf t path = ([], false, (tplOf t).1)) := Lib.hid (by unfold matchOf; rw [if_pos h1])
    generalize tplOf t = q at *
    obtain ⟨q1, q2⟩ := q
    simp only at h1 HQ
    have h1' : ((q1 : Int) != 0) = true := by simpa using h1
    clear h1
    go_enter Tryz.func18, Tryz.ntmps18
    go_wp2_with fail
    refine ht.mono ?_
    clear ht
    rintro e w1 ⟨A, n, c, rfl, -, hm, -⟩
    have HM := Lib.hid hm
    clear hm
    simp only
    go_wp2_with fail
    go_ret3
    exact RMat.fault HQ.out HM.out
  have hsg := fun W (h : New w W) => ref2_segmentsOf path W h2 (hx.new h) (he.new h)
  have HSG := Lib.hid hsg
  have HQ0 : Hid (matchOf t path = if (segsOf path).1 ≠ 0 then ([], false, (segsOf path).1) else match matchL (tplOf t).2 (segsOf path).2 [] with | none => ([], false, 0) | some l => (l, true, 0)) := Lib.hid (by unfold matchOf; rw [if_neg (fun h => h h1)]; rfl)
  generalize tplOf t = q at *
  obtain ⟨q1, ps⟩ := q
  simp only at h1
  subst h1
  by_cases h2 : (segsOf path).1 = 0
  rotate_left
  · have HQ : Hid (matchOf t path = ([], false, (segsOf path).1)) := Lib.hid (by rw [HQ0.out, if_pos h2])
    clear HQ0 hsg
    generalize segsOf path = q at *
    obtain ⟨q1, q2⟩ := q
    simp only at h2 HQ
    have h2' : ((q1 : Int) != 0) = true := by simpa using h2
    clear h2
    go_enter Tryz.func18, Tryz.ntmps18
    go_wp2_with fail
    refine ht.mono ?_
    clear ht
    rintro e w1 ⟨A, n, c, rfl, -, hm, -⟩
    have HM := Lib.hid hm
    have hsg := HSG.out w1 hm
    clear hm HSG
    simp only
    go_wp2_with fail
    refine hsg.mono ?_
    clear hsg
    rintro e w2 ⟨A2, n2, c2, rfl, -, hm2, -⟩
    have HM2 : Hid (New w w2) := Lib.hid (HM.out.trans hm2)
    clear hm2 HM
    simp only
    go_wp2_with fail
    go_ret3
    exact RMat.fault HQ.out HM2.out
  obtain ⟨hl, hwt⟩ := segs_ok h2
  have hne := segsOf_ne h2
  have HFT := Lib.hid (PFit.of_wt hwt (by omega))
  have HQ1 : Hid (matchOf t path = match matchL ps (segsOf path).2 [] with | none => ([], false, 0) | some l => (l, true, 0)) := Lib.hid (by rw [HQ0.out, if_neg (fun h => h h2)])
  clear HQ0 hsg hwt
  generalize segsOf path = q at *
  obtain ⟨q1, segs⟩ := q
  simp only at h2 hl hne
  subst h2
  go_enter Tryz.func18, Tryz.ntmps18
  go_wp2_with fail
  refine ht.mono ?_
  clear ht
  rintro e w1 ⟨A, n, c, rfl, hps, hm, hn⟩
  have HM := Lib.hid hm
  have HPS := Lib.hid hps
  have hsg := HSG.out w1 hm
  clear hm HSG hps
  simp only
  go_wp2_with fail
  refine hsg.mono ?_
  clear hsg
  rintro e w2 ⟨A2, n2, c2, rfl, hss, hm2, hc2⟩
  have HM2 : Hid (New w w2) := Lib.hid (HM.out.trans hm2)
  have hmt := ref1_matched A n c ps A2 n2 c2 segs w2 (HPS.out.new hm2) hss hn HFT.out hc2 (by have := hss.1; simp only at this; omega)
  clear hm2 HM hss hne
  simp only
  go_wp2_with fail
  refine hmt.mono ?_
  clear hmt
  rintro e w3 ⟨A3, n3, c3, rfl, hq, hm3, hc3⟩
  have HM3 : Hid (New w w3) := Lib.hid (HM2.out.trans hm3)
  clear hm3 HM2
  cases hmm : matchL ps segs [] with
  | none =>
    have HR : Hid (matchOf t path = ([], false, 0)) := Lib.hid (by rw [HQ1.out]; simp only [hmm])
    clear hq
    simp only [Option.isSome_none]
    go_wp2_with fail
    go_ret3
    exact RMat.fault HR.out HM3.out
  | some l =>
    have HR : Hid (matchOf t path = (l, true, 0)) := Lib.hid (by rw [HQ1.out]; simp only [hmm])
    have HS := Lib.hid (hq l hmm)
    clear hq
    simp only [Option.isSome_some]
    go_wp2_with fail
    go_ret3
    exact ⟨A3, n3, c3, by rw [HR.out]; rfl, by rw [HR.out]; exact HS.out, HM3.out, hc3⟩

end Go.Proofs.YtjehlecgnepgmaaGreatDoor

namespace Go.Proofs.YtjehlecgnepgmaaGreatDoor
open Go.RowKit
set_option linter.unusedVariables false
set_option linter.unusedSimpArgs false

theorem lookP_mem {l : List PairD} {s v : ByteArray} (h : lookP l s = some v) : ∃ p ∈ l, p.2 = v := by
  induction l with
  | nil => simp [lookP] at h
  | cons p l ih =>
    unfold lookP at h
    simp only [List.find?_cons] at h
    split at h
    · simp at h; exact ⟨p, by simp, h⟩
    · obtain ⟨q, hq, e⟩ := ih h
      exact ⟨q, List.mem_cons_of_mem _ hq, e⟩
theorem one_row {w w' : World} {g : Nat} {v : ByteArray} (h : Blk w' g 9 #[.string v]) : SSl w' (some ⟨g, 0, none⟩) 1 [v] := by
  refine Sl.of_blk h (by simp) (fun i hi j hj => ?_)
  obtain rfl : j = 0 := by omega
  obtain rfl : i = 0 := by simpa using hi
  rfl
theorem RSegs.one {q : Int × List ByteArray} {w w' : World} {v : ByteArray} {g : Nat} (h : q = (0, [v])) (hm : New w w') (hb : Blk w' g 9 #[.string v]) : RSegs q w (.returned (.tuple #[.slice (some ⟨g, 0, none⟩) 1 1, .int .i64 0])) w' :=
  ⟨some ⟨g, 0, none⟩, 1, 1, by rw [h], by rw [h]; exact one_row (w := w) hb, hm, Nat.le_refl _⟩
set_option maxRecDepth 100000 in
set_option maxHeartbeats 1500000 in
theorem route_built (p : PartD) (A : Option Addr) (n c : Nat) (l : List PairD) (w : World) (hq : QSl w A n l) (hn : n ≤ 100000) (hz : ∀ x ∈ l, x.2.size ≤ 100000) (hx : MaxLn w) :
    Calls Tryz.prog 50 #[p.val, .slice A n c] w (RSegs (builtP p l) w) := by
  obtain ⟨pk, pn⟩ := p
  have hb := Blk.new w 34 #[.int .i64 pk, .string pn]
  have hm1 : New w (w.alloc (.cells #[.int .i64 pk, .string pn] 34)) := (Mod.refl _ _).alloc _
  have HQ0 := Lib.hid hq
  have HX0 := Lib.hid hx
  unfold PartD.val
  simp only
  clear hq hx
  go_enter Tryz.func50, Tryz.ntmps50
  go_upto_region 1 with fail
  have HB := Lib.hid hb
  have HM := Lib.hid hm1
  clear hb hm1
  generalize w.alloc (.cells #[.int .i64 pk, .string pn] 34) = w1 at *
  generalize w.heap.size = xb at *
  have y0 := HB.out.cell 0
  have y1 := HB.out.cell 1
  have yl := HB.out.lt
  simp only [List.getElem?_toArray, List.getElem?_cons_zero, List.getElem?_cons_succ] at y0 y1
  by_cases h1 : pk = 1
  · subst h1
    have HR : Hid (builtP ⟨1, pn⟩ l = (0, [pn])) := Lib.hid (by unfold builtP; rw [if_pos rfl])
    have HN := Lib.hid (Blk.new w1 9 #[.string pn])
    have HM2 : Hid (New w (w1.alloc (.cells #[.string pn] 9))) := Lib.hid (HM.out.alloc _)
    go_wp2_with fail
    go_ret2
    exact RSegs.one HR.out HM2.out HN.out
  · have h1' : ((pk : Int) == 1) = false := by simpa using h1
    have hlk := route_param A n c l pn w1 (HQ0.out.new HM.out) hn
    cases hv : lookP l pn with
    | none =>
      rw [hv] at hlk
      have HR : Hid (builtP ⟨pk, pn⟩ l = (8, [])) := Lib.hid (by unfold builtP; rw [if_neg h1]; simp only [hv])
      clear hv
      go_wp2_with fail
      refine hlk.mono ?_
      clear hlk
      rintro e w2 ⟨rfl, hm2⟩
      have HM2 : Hid (New w w2) := Lib.hid (HM.out.trans hm2)
      clear hm2
      simp only [Option.isSome_none]
      go_wp2_with fail
      go_ret2
      exact RSegs.fault HR.out HM2.out
    | some v =>
      rw [hv] at hlk
      have hR : builtP ⟨pk, pn⟩ l = if pk = 2 then (if v = emptyB then (3, []) else (0, [v])) else if v = emptyB then (0, []) else segsOf v := by
        unfold builtP; rw [if_neg h1]; simp only [hv]
      obtain ⟨px, hpx, hpv⟩ := lookP_mem hv
      have hvz : v.size ≤ 100000 := by rw [← hpv]; exact hz _ hpx
      have e1 := const_eq v []
      have HR0 := Lib.hid hR
      clear hR hv hpx hpv hz
      go_wp2_with fail
      refine hlk.mono ?_
      clear hlk y0 y1 yl
      rintro e w2 ⟨rfl, hm2⟩
      have HM2 : Hid (New w w2) := Lib.hid (HM.out.trans hm2)
      have HB2 := Lib.hid (HB.out.new2 hm2)
      have y0 := HB2.out.cell 0
      have y1 := HB2.out.cell 1
      have yl := HB2.out.lt
      simp only [List.getElem?_toArray, List.getElem?_cons_zero, List.getElem?_cons_succ] at y0 y1
      have hsg := msg_segments v w2 hvz (HX0.out.new HM2.out)
      clear hm2 HM HB
      simp only [Option.isSome_some, Option.getD_some]
      by_cases h2 : pk = 2
      · subst h2
        by_cases hve : v = emptyB
        · rw [decide_eq_true hve] at e1
          have HR : Hid (builtP ⟨2, pn⟩ l = (3, [])) := Lib.hid (by rw [HR0.out, if_pos rfl, if_pos hve])
          clear hve hsg
          go_wp2_with fail
          try (go_quiet (fail))
          try (go_wp2_with fail)
          go_ret2
          exact RSegs.fault HR.out HM2.out
        · rw [decide_eq_false hve] at e1
          have HR : Hid (builtP ⟨2, pn⟩ l = (0, [v])) := Lib.hid (by rw [HR0.out, if_pos rfl, if_neg hve])
          have HN := Lib.hid (Blk.new w2 9 #[.string v])
          have HM3 : Hid (New w (w2.alloc (.cells #[.string v] 9))) := Lib.hid (HM2.out.alloc _)
          clear hve hsg
          go_wp2_with fail
          try (go_quiet (fail))
          try (go_wp2_with fail)
          go_ret2
          exact RSegs.one HR.out HM3.out HN.out
      · have h2' : ((pk : Int) == 2) = false := by simpa using h2
        by_cases hve : v = emptyB
        · rw [decide_eq_true hve] at e1
          have HR : Hid (builtP ⟨pk, pn⟩ l = (0, [])) := Lib.hid (by rw [HR0.out, if_neg h2, if_pos hve])
          clear hve hsg
          go_wp2_with fail
          try (go_quiet (fail))
          try (go_wp2_with fail)
          go_ret2
          exact RSegs.fault HR.out HM2.out
        · rw [decide_eq_false hve] at e1
          have HR : Hid (builtP ⟨pk, pn⟩ l = segsOf v) := Lib.hid (by rw [HR0.out, if_neg h2, if_neg hve])
          clear hve
          go_wp2_with fail
          try (go_quiet (fail))
          try (go_wp2_with fail)
          refine hsg.mono ?_
          clear hsg
          rintro e w3 ⟨A3, n3, c3, rfl, hs3, hm3, hc3⟩
          have HM3 : Hid (New w w3) := Lib.hid (HM2.out.trans hm3)
          have HS3 := Lib.hid hs3
          clear hm3 hs3
          generalize segsOf v = q at *
          obtain ⟨q1, q2⟩ := q
          simp only at HS3 ⊢
          go_wp2_with fail
          go_ret2
          exact ⟨A3, n3, c3, by rw [HR.out]; rfl, by rw [HR.out]; exact HS3.out, HM3.out, hc3⟩

end Go.Proofs.YtjehlecgnepgmaaGreatDoor

namespace Go.Proofs.YtjehlecgnepgmaaGreatDoor
open Go.RowKit
set_option linter.unusedVariables false
set_option linter.unusedSimpArgs false

theorem QSl.take {w : World} {A : Option Addr} {n : Nat} {ps : List PairD} (h : QSl w A n ps) {k : Nat} (hk : k ≤ n) : QSl w A k (ps.take k) := by
  have hl := h.1
  refine ⟨by simp; omega, fun h0 => ?_⟩
  obtain ⟨g, o, hA, htb, hc⟩ := h.2 (by omega)
  exact ⟨g, o, hA, htb, fun i hi j hj => by
    have hi2 : i < ps.length := by simp at hi; omega
    rw [hc i hi2 j hj]
    simp⟩
/-- no name among the first k stands twice -/
def onceP (l : List PairD) (k : Nat) : Prop := (List.range k).any (fun i => (l[i]?).any fun p => (lookP (l.take i) p.1).isSome) = false
theorem onceP.next {l : List PairD} {k : Nat} (h : onceP l k) (hk : k < l.length) (h2 : lookP (l.take k) l[k].1 = none) : onceP l (k + 1) := by
  unfold onceP at h ⊢
  rw [List.range_succ, List.any_append, h, Bool.false_or, List.any_cons, List.getElem?_eq_getElem hk]
  simp [h2]
theorem onceP.hit {l : List PairD} {k : Nat} (hk : k < l.length) {v : ByteArray} (h2 : lookP (l.take k) l[k].1 = some v) : twiceP l = true := by
  unfold twiceP
  rw [List.any_eq_true]
  exact ⟨k, by simp; omega, by rw [List.getElem?_eq_getElem hk]; simp [h2]⟩
theorem onceP.all {l : List PairD} (h : onceP l l.length) : twiceP l = false := h
theorem buildL_at {ps : List PartD} {params : List PairD} {k : Nat} (h : k < ps.length) (out : List ByteArray) :
    builtL (ps.drop k) params out = if (builtP ps[k] params).1 ≠ 0 then ((builtP ps[k] params).1, []) else builtL (ps.drop (k + 1)) params (out ++ (builtP ps[k] params).2) := by
  rw [List.drop_eq_getElem_cons h, builtL]

theorem segs_wt {s : ByteArray} (h : (segsOf s).1 = 0) : wtL (segsOf s).2 ≤ 3 * s.size + 2 := by
  unfold segsOf at h ⊢
  split at h
  · rename_i h1; exact absurd h h1
  · rename_i h1
    rw [if_neg h1]
    have h0 := Decidable.not_not.1 h1
    split at h
    · cases h
    · rename_i h2
      rw [if_neg h2]
      simp only
      have h3 := decB_wt (pieces ⟨((pathN s).2.drop 1).toArray⟩ slB)
      have h4 := pieces_wt _ (⟨((pathN s).2.drop 1).toArray⟩ : ByteArray) (Nat.le_refl _)
      have h5 : (⟨((pathN s).2.drop 1).toArray⟩ : ByteArray).size = (pathN s).2.length - 1 := by show (List.toArray _).size = _; simp
      have h6 : (pathN s).2.length ≤ 3 * s.size + 2 := by
        unfold pathN at h0 ⊢
        split at h0
        · rename_i h1; exact absurd h0 h1
        · rename_i h1
          rw [if_neg h1]
          cases hn : normL s.data.toList with
          | none => rw [hn] at h0; cases h0
          | some t =>
            simp only
            have q2 := normL_length hn
            have q3 : s.data.toList.length = s.size := rfl
            have q4 := join_wt (dotsF (pieces ⟨(t.drop 1).toArray⟩ slB) [])
            have q5 := dotsF_wt (pieces ⟨(t.drop 1).toArray⟩ slB) []
            have q6 := pieces_wt _ (⟨(t.drop 1).toArray⟩ : ByteArray) (Nat.le_refl _)
            have q7 : (⟨(t.drop 1).toArray⟩ : ByteArray).size ≤ t.length := by
              show (List.toArray _).size ≤ _
              rw [List.size_toArray, List.length_drop]
              omega
            have q8 : wtL [] = 0 := rfl
            unfold slashed
            rw [List.length_cons]
            omega
      omega
theorem builtP_ok {p : PartD} {l : List PairD} (h : (builtP p l).1 = 0) (hp : p.name.size ≤ 999) (hz : ∀ x ∈ l, x.2.size ≤ 300) : (builtP p l).2.length ≤ 100 ∧ wtL (builtP p l).2 ≤ 1000 := by
  unfold builtP at h ⊢
  split
  · simp [wtL]; omega
  · rename_i h1
    rw [if_neg h1] at h
    cases hv : lookP l p.name with
    | none => rw [hv] at h; cases h
    | some v =>
      rw [hv] at h
      simp only at h ⊢
      obtain ⟨x, hx, e⟩ := lookP_mem hv
      have hvz : v.size ≤ 300 := by rw [← e]; exact hz _ hx
      split
      · split
        · simp [wtL]
        · simp [wtL]; omega
      · rename_i h2
        rw [if_neg h2] at h
        split
        · simp [wtL]
        · rename_i h3
          rw [if_neg h3] at h
          have := segs_wt h
          exact ⟨(segs_ok h).1, by omega⟩
theorem wtL_append (a b : List ByteArray) : wtL (a ++ b) = wtL a + wtL b := by simp [wtL]
theorem append_empty {P : Program} {t e : TypeId} (ht : P.underlying t = some (.slice e)) {i : TypeInfo} (hi : P.info? e = some i) (A A2 : Option Addr) (n c c2 : Nat) (h : n ≤ c) (ty : TypeId) (w : World) :
    (Builtin.append_ #[t, t] ty #[.slice A n c, .slice A2 0 c2]).run P w = .ok (.slice A n c) w := by
  cases A <;> cases A2 <;> simp [Builtin.append_, run_underlying ht, sizeOf, typeInfo, hi, Builtin.lenOf, Builtin.firstCells, h, storeCells, loadCells, loadCellsFrom]

set_option maxRecDepth 100000 in
set_option maxHeartbeats 600000 in
theorem route_Build (t : ByteArray) (A : Option Addr) (n c : Nat) (l : List PairD) (w : World) (ht : t.size ≤ 100000) (hq : QSl w A n l) (hn : n ≤ 100000) (hnc : n ≤ c) (hz : ∀ x ∈ l, x.2.size ≤ 300) (hp1 : (tplOf t).2.length ≤ 30) (hp2 : ∀ p ∈ (tplOf t).2, p.name.size ≤ 999) (hx : MaxLn w) :
    Calls Tryz.prog 20 #[.string t, .slice A n c] w (RTxt (buildOf t l) w) := by
  have htp := route_parseTemplate t w ht hx
  have hql := hq.1
  by_cases h1 : (tplOf t).1 = 0
  rotate_left
  · have HQ : Hid (buildOf t l = ((tplOf t).1, [])) := Lib.hid (by unfold buildOf; rw [if_pos h1])
    generalize tplOf t = q at *
    obtain ⟨q1, q2⟩ := q
    simp only at h1 HQ
    have h1' : ((q1 : Int) != 0) = true := by simpa using h1
    clear h1 hq
    go_enter Tryz.func20, Tryz.ntmps20
    go_wp2_with fail
    refine htp.mono ?_
    clear htp
    rintro e w1 ⟨A, n, c, rfl, -, hm, -⟩
    have HM := Lib.hid hm
    clear hm
    simp only
    go_wp2_with fail
    go_ret2
    exact RTxt.fault HQ.out HM.out
  have hQ : buildOf t l = if 30 < l.length then (2, []) else if twiceP l then (6, []) else
      if (builtL (tplOf t).2 l []).1 ≠ 0 then ((builtL (tplOf t).2 l []).1, []) else joinP (builtL (tplOf t).2 l []).2 := by
    unfold buildOf; rw [if_neg (fun h => h h1)]
  have HQ := Lib.hid hQ
  clear hQ
  generalize tplOf t = q at *
  obtain ⟨q1, ps⟩ := q
  simp only at h1 HQ
  subst h1
  by_cases h30 : 30 < n
  · have h30' : (30 : Int) < (n : Int) := by omega
    have HR : Hid (buildOf t l = (2, [])) := Lib.hid (by rw [HQ.out, if_pos (by omega)])
    clear hq
    go_enter Tryz.func20, Tryz.ntmps20
    go_wp2_with fail
    refine htp.mono ?_
    clear htp
    rintro e w1 ⟨Ap, np, cp, rfl, -, hm, -⟩
    have HM := Lib.hid hm
    clear hm
    simp only
    go_wp2_with fail
    go_ret2
    exact RTxt.fault HR.out HM.out
  have h30' : ¬ (30 : Int) < (n : Int) := by omega
  have HQ1 : Hid (buildOf t l = if twiceP l then (6, []) else if (builtL ps l []).1 ≠ 0 then ((builtL ps l []).1, []) else joinP (builtL ps l []).2) := Lib.hid (by rw [HQ.out, if_neg (by omega)])
  have HQS := Lib.hid hq
  have HZ := Lib.hid hz
  have HX := Lib.hid hx
  have HLN := Lib.hid hql
  clear hq hz hx hql HQ
  go_enter Tryz.func20, Tryz.ntmps20
  go_wp2_with fail
  refine htp.mono ?_
  clear htp
  rintro e w1 ⟨Ap, np, cp, rfl, hps, hm, hnp⟩
  have HM1 := Lib.hid hm
  have HPS := Lib.hid hps
  clear hm hps
  simp only
  go_wp2_with fail
  go_loopw [30] (fun i wr => ∃ k : Nat, k ≤ n ∧ i = .int .i64 k ∧ Hid (onceP l k) ∧ Hid (New w1 wr)) (fun i _ => n - (intOf i).toNat)
  case atStart => exact ⟨0, Nat.zero_le _, rfl, Lib.hid rfl, Lib.hid (Mod.refl _ _)⟩
  case round =>
    rename World => wr
    obtain ⟨k, hk, rfl, HO, HM⟩ := hrel
    by_cases hlt : k < n
    · have hkl : k < l.length := by have := HLN.out; omega
      have hnx := HO.out.next hkl
      have hht := fun v => onceP.hit (v := v) hkl
      have htk : ∀ W, New w1 W → QSl W A k (l.take k) := fun W h => QSl.take (HQS.out.new (HM1.out.trans h)) hk
      obtain ⟨g, o, hA, htb, hc⟩ := (HQS.out.new (HM1.out.trans HM.out)).2 (by omega)
      have hgl := htb.lt
      have c0 := hc k hkl 0 (by decide)
      have c1 := hc k hkl 1 (by decide)
      have HTK := Lib.hid htk
      generalize l[k] = p at *
      generalize l.take k = before at *
      obtain ⟨pn, pv⟩ := p
      simp only [pairEnc, Nat.add_zero] at c0 c1 hnx hht
      have HNX := Lib.hid hnx
      have HHT := Lib.hid hht
      clear hc htb hnx hht htk
      subst hA
      have hb1 : (0 : Int) ≤ k := by omega
      have hb2 : (k : Int) < n := by omega
      have hb3 : (k : Int) ≤ n := by omega
      have hb4 : (k : Int) ≤ c := by omega
      have hbx := Blk.new wr 50 #[.string pn, .string pv]
      have hmx : New wr (wr.alloc (.cells #[.string pn, .string pv] 50)) := (Mod.refl _ _).alloc _
      go_upto_region 9 with fail
      have HXB := Lib.hid hbx
      have HM2 : Hid (New w1 _) := Lib.hid (HM.out.trans hmx)
      clear hbx hmx HM c0 c1
      generalize wr.alloc (.cells #[.string pn, .string pv] 50) = w2 at *
      generalize wr.heap.size = xb at *
      have HSW : Hid (∀ W, New w2 W → W.cell? ⟨xb, 0, none⟩ = some (.string pn) ∧ W.cell? ⟨xb, 1, none⟩ = some (.string pv) ∧ xb < W.heap.size) := Lib.hid (fun W hW => by
        have h := HXB.out.new2 hW
        exact ⟨(h.cell 0).trans rfl, (h.cell 1).trans rfl, h.lt⟩)
      have hd2 : New w2 w2.drew := (Mod.refl (fun _ => False) w2).drew
      refine wp_region_held_ord (fun W => W.cell? ⟨xb, 0, none⟩ = some (.string pn) ∧ W.cell? ⟨xb, 1, none⟩ = some (.string pv) ∧ xb < W.heap.size) [5] [0, 1, 2, 3, 4, 5, 6, 7, 8, 9] (by kernel_rfl) (by kernel_rfl) (fun _ _ d _ _ h => by cases d <;> exact h) ?_ (fun hHeld => ?_)
      · exact HSW.out _ hd2
      simp only [List.length_cons, List.length_nil, List.drop_succ_cons, List.drop_zero]
      refine heldO_take ?_ (by rfl) (by rfl) (by rfl) (fun w hSw => ?_) ?_
      rotate_left
      · (try dsimp only at hSw); (try simp only [List.getElem_toArray, List.getElem_cons_zero, List.getElem_cons_succ]); go_simp; any_goals (with_reducible rfl)
      simp only [Act.put, List.getElem_toArray, List.getElem_cons_zero, List.getElem_cons_succ, List.setIfInBounds_toArray, List.set_cons_zero, List.set_cons_succ]
      refine heldO_take ?_ (by rfl) (by rfl) (by rfl) (fun w hSw => ?_) ?_
      rotate_left
      · (try dsimp only at hSw); (try simp only [List.getElem_toArray, List.getElem_cons_zero, List.getElem_cons_succ]); go_simp; any_goals (with_reducible rfl)
      simp only [Act.put, List.getElem_toArray, List.getElem_cons_zero, List.getElem_cons_succ, List.setIfInBounds_toArray, List.set_cons_zero, List.set_cons_succ]
      refine heldO_take ?_ (by rfl) (by rfl) (by rfl) (fun w hSw => ?_) ?_
      rotate_left
      · (try dsimp only at hSw); (try simp only [List.getElem_toArray, List.getElem_cons_zero, List.getElem_cons_succ]); go_simp; any_goals (with_reducible rfl)
      simp only [Act.put, List.getElem_toArray, List.getElem_cons_zero, List.getElem_cons_succ, List.setIfInBounds_toArray, List.set_cons_zero, List.set_cons_succ]
      refine heldO_take ?_ (by rfl) (by rfl) (by rfl) (fun w hSw => ?_) ?_
      rotate_left
      · (try dsimp only at hSw); (try simp only [List.getElem_toArray, List.getElem_cons_zero, List.getElem_cons_succ]); go_simp; any_goals (with_reducible rfl)
      simp only [Act.put, List.getElem_toArray, List.getElem_cons_zero, List.getElem_cons_succ, List.setIfInBounds_toArray, List.set_cons_zero, List.set_cons_succ]
      refine heldO_take ?_ (by rfl) (by rfl) (by rfl) (fun w hSw => ?_) ?_
      rotate_left
      · (try dsimp only at hSw); (try simp only [List.getElem_toArray, List.getElem_cons_zero, List.getElem_cons_succ]); go_simp; any_goals (with_reducible rfl)
      simp only [Act.put, List.getElem_toArray, List.getElem_cons_zero, List.getElem_cons_succ, List.setIfInBounds_toArray, List.set_cons_zero, List.set_cons_succ]
      refine heldO_step (by rfl) (by rfl) (by rfl) (fun K hK => ?_)
      go_simp
      refine (route_param _ k c before pn w2.drew (HTK.out _ (HM2.out.trans hd2)) (by omega)).mono ?_
      rintro e w4 ⟨rfl, hm4⟩
      have m24 := hd2.trans hm4
      have HM4 : Hid (New w1 w4) := Lib.hid (HM2.out.trans m24)
      cases hv : lookP before pn with
      | none =>
        simp only [Option.isSome_none]
        go_wp2_with fail
        refine hK.out _ _ (HSW.out _ m24) (fun hHeld => ?_)
        clear hK K hHeld m24 hm4 hd2
        try simp only [Act.put, List.setIfInBounds_toArray, List.set_cons_zero, List.set_cons_succ]
        refine heldO_take ?_ (by rfl) (by rfl) (by rfl) (fun w hSw => ?_) ?_
        rotate_left
        · (try dsimp only at hSw); (try simp only [List.getElem_toArray, List.getElem_cons_zero, List.getElem_cons_succ]); go_simp; any_goals (with_reducible rfl)
        simp only [Act.put, List.getElem_toArray, List.getElem_cons_zero, List.getElem_cons_succ, List.setIfInBounds_toArray, List.set_cons_zero, List.set_cons_succ]
        refine heldO_take ?_ (by rfl) (by rfl) (by rfl) (fun w hSw => ?_) ?_
        rotate_left
        · (try dsimp only at hSw); (try simp only [List.getElem_toArray, List.getElem_cons_zero, List.getElem_cons_succ]); go_simp; any_goals (with_reducible rfl)
        simp only [Act.put, List.getElem_toArray, List.getElem_cons_zero, List.getElem_cons_succ, List.setIfInBounds_toArray, List.set_cons_zero, List.set_cons_succ]
        refine heldO_take ?_ (by rfl) (by rfl) (by rfl) (fun w hSw => ?_) ?_
        rotate_left
        · (try dsimp only at hSw); (try simp only [List.getElem_toArray, List.getElem_cons_zero, List.getElem_cons_succ]); go_simp; any_goals (with_reducible rfl)
        simp only [Act.put, List.getElem_toArray, List.getElem_cons_zero, List.getElem_cons_succ, List.setIfInBounds_toArray, List.set_cons_zero, List.set_cons_succ]
        refine heldO_take ?_ (by rfl) (by rfl) (by rfl) (fun w hSw => ?_) ?_
        rotate_left
        · (try dsimp only at hSw); (try simp only [List.getElem_toArray, List.getElem_cons_zero, List.getElem_cons_succ]); go_simp; any_goals (with_reducible rfl)
        simp only [Act.put, List.getElem_toArray, List.getElem_cons_zero, List.getElem_cons_succ, List.setIfInBounds_toArray, List.set_cons_zero, List.set_cons_succ]
        refine heldO_nil ?_
        have HO1 := Lib.hid (HNX.out hv)
        clear hv
        go_wp2_with fail
        all_goals exact ⟨⟨k + 1, by omega, by go_num, HO1, HM4⟩, by simp [intOf]; omega⟩
      | some v =>
        have HR : Hid (buildOf t l = (6, [])) := Lib.hid (by rw [HQ1.out, if_pos (HHT.out v hv)])
        simp only [Option.isSome_some]
        go_wp2_with fail
        refine hK.out _ _ (HSW.out _ m24) (fun hHeld => ?_)
        clear hK K hHeld m24 hm4 hd2
        try simp only [Act.put, List.setIfInBounds_toArray, List.set_cons_zero, List.set_cons_succ]
        refine heldO_take ?_ (by rfl) (by rfl) (by rfl) (fun w hSw => ?_) ?_
        rotate_left
        · (try dsimp only at hSw); (try simp only [List.getElem_toArray, List.getElem_cons_zero, List.getElem_cons_succ]); go_simp; any_goals (with_reducible rfl)
        simp only [Act.put, List.getElem_toArray, List.getElem_cons_zero, List.getElem_cons_succ, List.setIfInBounds_toArray, List.set_cons_zero, List.set_cons_succ]
        refine heldO_take ?_ (by rfl) (by rfl) (by rfl) (fun w hSw => ?_) ?_
        rotate_left
        · (try dsimp only at hSw); (try simp only [List.getElem_toArray, List.getElem_cons_zero, List.getElem_cons_succ]); go_simp; any_goals (with_reducible rfl)
        simp only [Act.put, List.getElem_toArray, List.getElem_cons_zero, List.getElem_cons_succ, List.setIfInBounds_toArray, List.set_cons_zero, List.set_cons_succ]
        refine heldO_take ?_ (by rfl) (by rfl) (by rfl) (fun w hSw => ?_) ?_
        rotate_left
        · (try dsimp only at hSw); (try simp only [List.getElem_toArray, List.getElem_cons_zero, List.getElem_cons_succ]); go_simp; any_goals (with_reducible rfl)
        simp only [Act.put, List.getElem_toArray, List.getElem_cons_zero, List.getElem_cons_succ, List.setIfInBounds_toArray, List.set_cons_zero, List.set_cons_succ]
        refine heldO_take ?_ (by rfl) (by rfl) (by rfl) (fun w hSw => ?_) ?_
        rotate_left
        · (try dsimp only at hSw); (try simp only [List.getElem_toArray, List.getElem_cons_zero, List.getElem_cons_succ]); go_simp; any_goals (with_reducible rfl)
        simp only [Act.put, List.getElem_toArray, List.getElem_cons_zero, List.getElem_cons_succ, List.setIfInBounds_toArray, List.set_cons_zero, List.set_cons_succ]
        refine heldO_nil ?_
        clear hv
        go_wp2_with fail
        go_ret2
        exact RTxt.fault HR.out (HM1.out.trans HM4.out)
    · obtain rfl : n = k := by omega
      have htw : twiceP l = false := onceP.all (by have := HO.out; rw [← HLN.out] at this; exact this)
      have HQ2 : Hid (buildOf t l = if (builtL ps l []).1 ≠ 0 then ((builtL ps l []).1, []) else joinP (builtL ps l []).2) := Lib.hid (by rw [HQ1.out, htw]; rfl)
      go_wp2_with fail
      have HB0 : Hid (w1.heap.size ≤ wr.heap.size) := Lib.hid HM.out.size
      have HP1 := Lib.hid hp1
      have HP2 := Lib.hid hp2
      have HPL := Lib.hid HPS.out.1
      have hnp30 : np ≤ 30 := by have := HPS.out.1; (try simp only at this); (try simp only at hp1); omega
      have HMZ := HM
      clear HM HO hp1 hp2 htw HQ1
      go_loopw [12, 48] (fun o' i W => ∃ (k n' c' : Nat) (A' : Option Addr) (out : List ByteArray), k ≤ np ∧ i = .int .i64 k ∧ o' = .slice A' n' c' ∧ n' ≤ 100 * k ∧ Hid (wtL out ≤ 1000 * k) ∧ Hid (Own W w1.heap.size 9 1 sEnc A' n' c' out) ∧ Hid (builtL ps l [] = builtL (ps.drop k) l out) ∧ Hid (New w1 W)) (fun _ i _ => np - (intOf i).toNat)
      case atStart => exact ⟨0, 0, 0, none, [], Nat.zero_le _, rfl, rfl, Nat.zero_le _, Lib.hid (Nat.zero_le _), Lib.hid Own.nil, Lib.hid rfl, HMZ⟩
      case round =>
        clear HMZ
        rename World => wi
        obtain ⟨k, n', c', A', out, hk, rfl, rfl, hn', HWT, HO, HE, HM⟩ := hrel
        by_cases hlt : k < np
        · have hkp : k < ps.length := by have := HPL.out; (try simp only at this); omega
          have hat := buildL_at (params := l) hkp out
          rw [← HE.out] at hat
          obtain ⟨g, o, hA, htb, hc⟩ := (HPS.out.new HM.out).2 (by omega)
          have hgl := htb.lt
          have c0 := hc k hkp 0 (by decide)
          have c1 := hc k hkp 1 (by decide)
          have hnm := HP2.out _ (List.getElem_mem hkp)
          have hok := fun h => builtP_ok (l := l) h hnm HZ.out
          have hbt := fun W (h : New w W) => route_built ps[k] A n c l W (HQS.out.new h) hn (fun x hx => Nat.le_trans (HZ.out x hx) (by omega)) (HX.out.new h)
          have HBT := Lib.hid hbt
          generalize ps[k] = p at *
          have HAT := Lib.hid hat
          have HOK := Lib.hid hok
          clear hc htb hat hbt hok hnm
          obtain ⟨pk, pn⟩ := p
          simp only [PartD.enc, Nat.add_zero] at c0 c1
          subst hA
          have hb1 : (0 : Int) ≤ k := by omega
          have hb2 : (k : Int) < np := by omega
          have hbx := Blk.new wi 34 #[.int .i64 pk, .string pn]
          have hmx : New wi (wi.alloc (.cells #[.int .i64 pk, .string pn] 34)) := (Mod.refl _ _).alloc _
          go_upto_region 17 with fail
          have HXB := Lib.hid hbx
          have HM2 : Hid (New w1 _) := Lib.hid (HM.out.trans hmx)
          have HO2 := Lib.hid (HO.out.new hmx)
          clear hbx hmx HM HO c0 c1
          generalize wi.alloc (.cells #[.int .i64 pk, .string pn] 34) = w2 at *
          generalize wi.heap.size = xb at *
          have y0 := HXB.out.cell 0
          have y1 := HXB.out.cell 1
          have yl := HXB.out.lt
          simp only [List.getElem?_toArray, List.getElem?_cons_zero, List.getElem?_cons_succ] at y0 y1
          have hbt := HBT.out w2 (HM1.out.trans HM2.out)
          unfold PartD.val at hbt
          simp only at hbt
          go_wp2_with fail
          refine hbt.mono ?_
          clear hbt y0 y1 yl
          rintro e w3 ⟨A3, n3, c3, rfl, hs3, hm3, hc3⟩
          have HM3 : Hid (New w1 w3) := Lib.hid (HM2.out.trans hm3)
          have HO3 := Lib.hid (HO2.out.new hm3)
          have HS3 := Lib.hid hs3
          clear hm3 hs3 HM2 HO2 HBT
          generalize builtP ⟨pk, pn⟩ l = q at *
          obtain ⟨q1, bs⟩ := q
          simp only at HS3 HAT HOK ⊢
          by_cases hq1 : q1 = 0
          rotate_left
          · have hq1' : ((q1 : Int) != 0) = true := by simpa using hq1
            have HBL : Hid (builtL ps l [] = (q1, [])) := Lib.hid (by rw [HAT.out, if_pos hq1])
            have HR : Hid (buildOf t l = (q1, [])) := Lib.hid (by rw [HQ2.out, HBL.out, if_pos hq1])
            clear hq1
            go_wp2_with fail
            go_ret2
            exact RTxt.fault HR.out (HM1.out.trans HM3.out)
          · subst hq1
            obtain ⟨k1, k2⟩ := HOK.out rfl
            have HE1 : Hid (builtL ps l [] = builtL (ps.drop (k + 1)) l (out ++ bs)) := Lib.hid (by rw [HAT.out, if_neg (by simp)])
            have HWT1 : Hid (wtL (out ++ bs) ≤ 1000 * (k + 1)) := Lib.hid (by rw [wtL_append]; have := HWT.out; omega)
            have hbl : bs.length = n3 := HS3.out.1
            have hn30 : n3 ≤ 100 := by omega
            have HOF : Hid (∀ g', blkOf A' = some g' → w1.heap.size ≤ g') := Lib.hid (fun g' e => HO3.out.farP g' e)
            clear HOK HAT HWT k1 k2
            rcases Nat.eq_zero_or_pos n3 with h0 | h0
            · subst h0
              obtain rfl : bs = [] := List.eq_nil_of_length_eq_zero hbl
              obtain ⟨i9, z9, hi9, _⟩ := einfo_str
              have hap := fun ty => append_empty (P := Tryz.prog) Tryz.underlying56 hi9 A' A3 n' c' c3 HO3.out.ncap ty w3
              have HO4 : Hid (Own w3 w1.heap.size 9 1 sEnc A' n' c' (out ++ [])) := Lib.hid (by rw [List.append_nil]; exact HO3.out)
              go_wp2_with (at_builtin; refine wpList_append_by rfl _ _ 56 rfl rfl rfl hap ?_)
              go_roundw
              case rel => exact ⟨k + 1, n', c', A', _, by omega, by go_num, rfl, by omega, HWT1, HO4, HE1, HM3⟩
              case measure => simp [intOf]; omega
            · obtain ⟨g3, o3, hA3, -, -⟩ := HS3.out.2 h0
              subst hA3
              have hsz3 : w1.heap.size ≤ w3.heap.size := HM3.out.size
              have hs3 := HS3.out
              go_wp2_with (at_builtin; refine wpList_pushAll rfl _ _ _ rfl 16 Tryz.underlying56 einfo_str rfl HO3.out bs g3 o3 n3 c3 rfl hs3 h0 (fun y _ j hj => sEnc_one _ j hj) (by omega) (by omega) (by omega) ?_; intro g8 cap8 w8 own8 hm8 hat8 hlt8)
              have HO8 := Lib.hid own8
              have HM8 : Hid (New w1 w8) := Lib.hid (HM3.out.step hm8 (fun i hi e => by have := HOF.out i e; omega))
              clear own8 hm8
              go_roundw
              case rel => exact ⟨k + 1, n' + n3, cap8, _, _, by omega, by go_num, rfl, by omega, HWT1, HO8, HE1, HM8⟩
              case measure => simp [intOf]; omega
        · obtain rfl : k = np := by omega
          have hend : builtL ps l [] = (0, out) := by
            rw [HE.out, List.drop_eq_nil_of_le (by have := HPL.out; (try simp only at this); omega), builtL]
          have HR : Hid (buildOf t l = joinP out) := Lib.hid (by rw [HQ2.out, hend, if_neg (by simp)])
          have hwt := HWT.out
          have hft : PFit out := ⟨by have := pathT_wt out; omega, fun x hx => by have := wtL_mem hx; omega⟩
          have hjp := msg_joinPath A' n' c' out wi HO.out.sl hft
          have HJP := Lib.hid hjp
          clear hjp hft hwt hend
          go_wp2_with fail
          refine HJP.out.mono ?_
          clear HJP
          rintro e w5 ⟨rfl, hm5⟩
          have HM5 : Hid (New w w5) := Lib.hid (HM1.out.trans (HM.out.trans hm5))
          clear hm5
          generalize joinP out = q at *
          obtain ⟨q1, q2⟩ := q
          simp only
          go_wp2_with fail
          go_ret2
          exact ⟨by rw [HR.out]; rfl, HM5.out⟩

end Go.Proofs.YtjehlecgnepgmaaGreatDoor

namespace Go.Proofs.YtjehlecgnepgmaaGreatDoor
open Go.RowKit
set_option linter.unusedVariables false
set_option linter.unusedSimpArgs false

theorem trimSuffix_length (l s : List UInt8) : (Lib.trimSuffix l s).length ≤ l.length := by
  unfold Lib.trimSuffix
  split
  · rw [List.length_take]; omega
  · exact Nat.le_refl _
theorem partOf_name (x : ByteArray) (before : List PartD) (last : Bool) : (partOf x before last).2.name.size ≤ x.size := by
  have hxl : x.data.toList.length = x.size := rfl
  have hA : ∀ l : List UInt8, (⟨l.toArray⟩ : ByteArray).size = l.length := fun l => by show (List.toArray l).size = _; simp
  unfold partOf
  split
  · split
    · exact Nat.zero_le _
    · simp only
      split
      · exact Nat.zero_le _
      · split
        · exact Nat.zero_le _
        · split
          · exact Nat.zero_le _
          · show (⟨(Lib.trimSuffix (Lib.trimSuffix (x.data.toList.drop 1) [125]) [42]).toArray⟩ : ByteArray).size ≤ _
            rw [hA]
            have h1 := trimSuffix_length (Lib.trimSuffix (x.data.toList.drop 1) [125]) [42]
            have h2 := trimSuffix_length (x.data.toList.drop 1) [125]
            rw [List.length_drop] at h2
            omega
  · split
    · exact Nat.zero_le _
    · split
      · exact Nat.zero_le _
      · rename_i n hn
        split
        · exact Nat.zero_le _
        · show (⟨n.toArray⟩ : ByteArray).size ≤ _
          rw [hA]
          have := decL_length _ _ _ (Nat.le_refl _) hn
          omega
theorem partsOf_names {Z : Nat} : ∀ (xs : List ByteArray) (acc : List PartD), (∀ x ∈ xs, x.size ≤ Z) → (∀ p ∈ acc, p.name.size ≤ Z) → ∀ p ∈ (partsOf xs acc).2, p.name.size ≤ Z
  | [], acc, _, h => by rw [partsOf]; exact h
  | x :: xs, acc, hx, h => by
    rw [partsOf]
    split
    · simp
    · refine partsOf_names xs _ (fun y hy => hx y (List.mem_cons_of_mem x hy)) (fun p hp => ?_)
      rcases List.mem_append.1 hp with h' | h'
      · exact h p h'
      · simp at h'
        subst h'
        exact Nat.le_trans (partOf_name _ _ _) (hx x (by simp))
theorem tplOf_small (t : ByteArray) : (tplOf t).2.length ≤ 30 ∧ ∀ p ∈ (tplOf t).2, p.name.size ≤ 999 := by
  unfold tplOf
  split
  · simp
  · rename_i h1
    split
    · simp
    · rename_i h2
      unfold templateOf
      split
      · simp
      · split
        · simp
        · rename_i h3
          refine ⟨by simp only; omega, ?_⟩
          refine partsOf_names _ [] (fun x hx => ?_) (by simp)
          have h4 := pieces_le hx
          have h5 : (t.extract 1 t.size).size ≤ 999 := by rw [ByteArray.size_extract]; omega
          omega
set_option maxHeartbeats 400000 in
theorem route_BuildT (t : ByteArray) (A : Option Addr) (n c : Nat) (l : List PairD) (w : World) (ht : t.size ≤ 100000) (hq : QSl w A n l) (hn : n ≤ 100000) (hnc : n ≤ c) (hz : ∀ x ∈ l, x.2.size ≤ 300) (hx : MaxLn w) :
    Calls Tryz.prog 20 #[.string t, .slice A n c] w (RTxt (buildOf t l) w) :=
  route_Build t A n c l w ht hq hn hnc hz (tplOf_small t).1 (tplOf_small t).2 hx
end Go.Proofs.YtjehlecgnepgmaaGreatDoor

namespace Go.Proofs.YtjehlecgnepgmaaGreatDoor
open Go.RowKit
set_option linter.unusedVariables false
set_option linter.unusedSimpArgs false

/-- the parameters as the entries of a map -/
def pmap (l : List PairD) : List (ByteArray × Value) := l.map fun p => (p.1, Value.string p.2)
theorem aget_pmap (l : List PairD) (x : ByteArray) : aget (pmap l) x = (lookP l x).map Value.string := by
  induction l with
  | nil => rfl
  | cons p l ih =>
    unfold pmap at ih ⊢
    rw [List.map_cons, aget_cons, ih]
    unfold lookP
    rw [List.find?_cons]
    by_cases h : p.1 = x <;> simp [h]
theorem pmap_put {l : List PairD} {k : Nat} (hk : k < l.length) (h : lookP (l.take k) l[k].1 = none) : aput (pmap (l.take k)) l[k].1 (.string l[k].2) = pmap (l.take (k + 1)) := by
  unfold aput
  rw [if_neg (by rw [aget_pmap, h]; decide), List.take_succ_eq_append_getElem hk]
  unfold pmap
  rw [List.map_append]
  rfl
/-- the map's answer -/
theorem pmap_look {w : World} {mb : Nat} {l : List PairD} (h : MapOf strKeys w mb (pmap l)) (x : ByteArray) :
    ∃ sv hb, (Instr.lookup 91 (.map (some mb)) (.string x) true).run Tryz.prog w = .ok (.tuple #[.string sv, .bool hb]) w ∧ ((hb = false ∧ lookP l x = none) ∨ (hb = true ∧ lookP l x = some sv)) := by
  have hl := run_lookup_ok (P := Tryz.prog) (K := strKeys) Tryz.underlying91 Tryz.underlying9 (z := .string ⟨#[]⟩) (by kernel_rfl) h x
  rw [aget_pmap] at hl
  cases hv : lookP l x with
  | none =>
    rw [hv] at hl
    exact ⟨⟨#[]⟩, false, hl, .inl ⟨rfl, rfl⟩⟩
  | some v =>
    rw [hv] at hl
    exact ⟨v, true, hl, .inr ⟨rfl, rfl⟩⟩
theorem empty_is (v : ByteArray) : v.toList.isEmpty = decide (v = emptyB) := by
  have h := const_eq v []
  have e : v.toList.isEmpty = (v.toList == []) := by cases v.toList <;> rfl
  exact e.trans h

set_option maxRecDepth 100000 in
set_option maxHeartbeats 700000 in
theorem ref1_BuildOf (t : ByteArray) (A : Option Addr) (n c : Nat) (l : List PairD) (w : World) (ht : t.size ≤ 100000) (hq : QSl w A n l) (hn : n ≤ 100000) (hnc : n ≤ c) (hz : ∀ x ∈ l, x.2.size ≤ 300) (hp1 : (tplOf t).2.length ≤ 30) (hp2 : ∀ p ∈ (tplOf t).2, p.name.size ≤ 999) (hx : MaxLn w) (he : ErrSyn w) :
    Calls Tryz.prog 21 #[.string t, .slice A n c] w (RTxt (buildOf t l) w) := by
  have htp := ref_templateOf t w ht hx
  have hql := hq.1
  by_cases h1 : (tplOf t).1 = 0
  rotate_left
  · have HQ : Hid (buildOf t l = ((tplOf t).1, [])) := Lib.hid (by unfold buildOf; rw [if_pos h1])
    generalize tplOf t = q at *
    obtain ⟨q1, q2⟩ := q
    simp only at h1 HQ
    have h1' : ((q1 : Int) != 0) = true := by simpa using h1
    clear h1 hq
    go_enter Tryz.func21, Tryz.ntmps21
    go_wp2_with fail
    refine htp.mono ?_
    clear htp
    rintro e w1 ⟨A, n, c, rfl, -, hm, -⟩
    have HM := Lib.hid hm
    clear hm
    simp only
    go_wp2_with fail
    go_ret2
    exact RTxt.fault HQ.out HM.out
  have hQ : buildOf t l = if 30 < l.length then (2, []) else if twiceP l then (6, []) else
      if (builtL (tplOf t).2 l []).1 ≠ 0 then ((builtL (tplOf t).2 l []).1, []) else joinP (builtL (tplOf t).2 l []).2 := by
    unfold buildOf; rw [if_neg (fun h => h h1)]
  have HQ := Lib.hid hQ
  clear hQ
  generalize tplOf t = q at *
  obtain ⟨q1, ps⟩ := q
  simp only at h1 HQ
  subst h1
  by_cases h30 : 30 < n
  · have h30' : (30 : Int) < (n : Int) := by omega
    have HR : Hid (buildOf t l = (2, [])) := Lib.hid (by rw [HQ.out, if_pos (by omega)])
    clear hq
    go_enter Tryz.func21, Tryz.ntmps21
    go_wp2_with fail
    refine htp.mono ?_
    clear htp
    rintro e w1 ⟨Ap, np, cp, rfl, -, hm, -⟩
    have HM := Lib.hid hm
    clear hm
    simp only
    go_wp2_with fail
    go_ret2
    exact RTxt.fault HR.out HM.out
  have h30' : ¬ (30 : Int) < (n : Int) := by omega
  have HQ1 : Hid (buildOf t l = if twiceP l then (6, []) else if (builtL ps l []).1 ≠ 0 then ((builtL ps l []).1, []) else joinP (builtL ps l []).2) := Lib.hid (by rw [HQ.out, if_neg (by omega)])
  have HQS := Lib.hid hq
  have HZ := Lib.hid hz
  have HX := Lib.hid hx
  have HES := Lib.hid he
  have HLN := Lib.hid hql
  have HP1 := Lib.hid hp1
  have HP2 := Lib.hid hp2
  clear hq hz hx he hql HQ hp1 hp2
  go_enter Tryz.func21, Tryz.ntmps21
  go_wp2_with fail
  refine htp.mono ?_
  clear htp
  rintro e w1 ⟨Ap, np, cp, rfl, hps, hm, hnp⟩
  have HM1 := Lib.hid hm
  have HPS := Lib.hid hps
  have hnp30 : np ≤ 30 := by have := hps.1; have h2 := HP1.out; (try simp only at this); (try simp only at h2); omega
  clear hm hps
  simp only
  have hmm := @run_makeMap Tryz.prog
  go_upto_region 8 with fail
  clear hmm
  have HMP0 : Hid (MapOf strKeys (w1.alloc (.map #[] 0)) w1.heap.size (pmap (l.take 0))) := Lib.hid (MapOf.made (heap_alloc_new w1 _))
  have HM0 : Hid (New w1 (w1.alloc (.map #[] 0))) := Lib.hid ((Mod.refl _ _).alloc _)
  generalize w1.alloc (.map #[] 0) = w2 at *
  have HMB : Hid (w1.heap.size ≤ w1.heap.size) := Lib.hid (Nat.le_refl _)
  generalize hmb : w1.heap.size = mb at *
  have HMB : Hid (∀ i, i < w1.heap.size → ¬ mb ≤ i) := Lib.hid (fun i hi => by omega)
  clear hmb
  go_wp2_with fail
  go_loopw [34] (fun i wr => ∃ k : Nat, k ≤ n ∧ i = .int .i64 k ∧ Hid (onceP l k) ∧ Hid (MapOf strKeys wr mb (pmap (l.take k))) ∧ Hid (New w1 wr)) (fun i _ => n - (intOf i).toNat)
  case atStart => exact ⟨0, Nat.zero_le _, rfl, Lib.hid rfl, HMP0, HM0⟩
  case round =>
    clear HMP0 HM0
    rename World => wr
    obtain ⟨k, hk, rfl, HO, HMP, HM⟩ := hrel
    by_cases hlt : k < n
    · have hkl : k < l.length := by have := HLN.out; omega
      have hnx := HO.out.next hkl
      have hht := fun v => onceP.hit (v := v) hkl
      have hput := pmap_put hkl
      obtain ⟨g, o, hA, htb, hc⟩ := (HQS.out.new (HM1.out.trans HM.out)).2 (by omega)
      have hgl := htb.lt
      have c0 := hc k hkl 0 (by decide)
      have c1 := hc k hkl 1 (by decide)
      generalize l[k] = p at *
      generalize l.take k = before at *
      obtain ⟨pn, pv⟩ := p
      simp only [pairEnc, Nat.add_zero] at c0 c1 hnx hht hput
      have HNX := Lib.hid hnx
      have HHT := Lib.hid hht
      have HPUT := Lib.hid hput
      clear hc htb hnx hht hput
      subst hA
      have hb1 : (0 : Int) ≤ k := by omega
      have hb2 : (k : Int) < n := by omega
      have hbx := Blk.new wr 50 #[.string pn, .string pv]
      have hmx : New wr (wr.alloc (.cells #[.string pn, .string pv] 50)) := (Mod.refl _ _).alloc _
      go_upto_region 10 with fail
      have HXB := Lib.hid hbx
      have HM2 : Hid (New w1 _) := Lib.hid (HM.out.trans hmx)
      have HMP2 : Hid (MapOf strKeys _ mb _) := Lib.hid (HMP.out.mod hmx (fun e => e))
      clear hbx hmx HM HMP c0 c1
      generalize wr.alloc (.cells #[.string pn, .string pv] 50) = w3 at *
      generalize wr.heap.size = xb at *
      have y0 := HXB.out.cell 0
      have y1 := HXB.out.cell 1
      have yl := HXB.out.lt
      simp only [List.getElem?_toArray, List.getElem?_cons_zero, List.getElem?_cons_succ] at y0 y1
      obtain ⟨sv, hb, hlk, ⟨rfl, hv⟩ | ⟨rfl, hv⟩⟩ := pmap_look HMP2.out pn
      · obtain ⟨w4, hins, hmap, honly, hz4⟩ := run_mapUpdate (P := Tryz.prog) (t := 91) Tryz.underlying91 Tryz.underlying9 HMP2.out pn (.string pv)
        simp only [strKeys] at hins
        have HMP4 : Hid (MapOf strKeys w4 mb (pmap (l.take (k + 1)))) := Lib.hid (by rw [← HPUT.out hv]; exact hmap)
        have HM4 : Hid (New w1 w4) := Lib.hid (HM2.out.step honly (fun i hi e => by have := HMB.out i hi; omega))
        have HO1 := Lib.hid (HNX.out hv)
        clear hv hmap honly hz4
        go_wp2_with fail
        go_roundw
        case rel => exact ⟨k + 1, by omega, by go_num, HO1, HMP4, HM4⟩
        case measure => simp [intOf]; omega
      · have HR : Hid (buildOf t l = (6, [])) := Lib.hid (by rw [HQ1.out, if_pos (HHT.out sv hv)])
        clear hv
        go_wp2_with fail
        go_ret2
        exact RTxt.fault HR.out (HM1.out.trans HM2.out)
    · obtain rfl : n = k := by omega
      have htw : twiceP l = false := onceP.all (by have := HO.out; rw [← HLN.out] at this; exact this)
      have HQ2 : Hid (buildOf t l = if (builtL ps l []).1 ≠ 0 then ((builtL ps l []).1, []) else joinP (builtL ps l []).2) := Lib.hid (by rw [HQ1.out, htw]; rfl)
      have HMPA : Hid (MapOf strKeys wr mb (pmap l)) := Lib.hid (by have := HMP.out; rw [← HLN.out, List.take_length] at this; exact this)
      have HPL := Lib.hid HPS.out.1
      have HMZ := HM
      clear HM HO htw HQ1 HMP
      go_wp2_with fail
      go_loopw [13, 54] (fun o' i W => ∃ (k n' c' : Nat) (A' : Option Addr) (out : List ByteArray), k ≤ np ∧ i = .int .i64 k ∧ o' = .slice A' n' c' ∧ n' ≤ 100 * k ∧ Hid (wtL out ≤ 1000 * k) ∧ Hid (Own W (mb + 1) 9 1 sEnc A' n' c' out) ∧ Hid (builtL ps l [] = builtL (ps.drop k) l out) ∧ Hid (MapOf strKeys W mb (pmap l)) ∧ Hid (New w1 W)) (fun _ i _ => np - (intOf i).toNat)
      case atStart => exact ⟨0, 0, 0, none, [], Nat.zero_le _, rfl, rfl, Nat.zero_le _, Lib.hid (Nat.zero_le _), Lib.hid Own.nil, Lib.hid rfl, HMPA, HMZ⟩
      case round =>
        clear HMZ HMPA
        rename World => wi
        obtain ⟨k, n', c', A', out, hk, rfl, rfl, hn', HWT, HO, HE, HMP, HM⟩ := hrel
        by_cases hlt : k < np
        · have hkp : k < ps.length := by have := HPL.out; (try simp only at this); omega
          have hat := buildL_at (params := l) hkp out
          rw [← HE.out] at hat
          obtain ⟨g, o, hA, htb, hc⟩ := (HPS.out.new HM.out).2 (by omega)
          have hgl := htb.lt
          have c0 := hc k hkp 0 (by decide)
          have c1 := hc k hkp 1 (by decide)
          have hnm := HP2.out _ (List.getElem_mem hkp)
          have hok := fun h => builtP_ok (l := l) h hnm HZ.out
          generalize ps[k] = p at *
          have HAT := Lib.hid hat
          have HOK := Lib.hid hok
          clear hc htb hat hok hnm
          obtain ⟨pk, pn⟩ := p
          simp only [PartD.enc, Nat.add_zero] at c0 c1
          subst hA
          have hb1 : (0 : Int) ≤ k := by omega
          have hb2 : (k : Int) < np := by omega
          have hbx := Blk.new wi 34 #[.int .i64 pk, .string pn]
          have hmx : New wi (wi.alloc (.cells #[.int .i64 pk, .string pn] 34)) := (Mod.refl _ _).alloc _
          go_upto_region 19 with fail
          have HXB := Lib.hid hbx
          have HM2 : Hid (New w1 _) := Lib.hid (HM.out.trans hmx)
          have HO2 := Lib.hid (HO.out.new hmx)
          have HMP2 : Hid (MapOf strKeys _ mb _) := Lib.hid (HMP.out.mod hmx (fun e => e))
          clear hbx hmx HM HO HMP c0 c1
          generalize wi.alloc (.cells #[.int .i64 pk, .string pn] 34) = w3 at *
          generalize wi.heap.size = xb at *
          have y0 := HXB.out.cell 0
          have y1 := HXB.out.cell 1
          have yl := HXB.out.lt
          simp only [List.getElem?_toArray, List.getElem?_cons_zero, List.getElem?_cons_succ] at y0 y1
          obtain ⟨sv, hb, hlk, hcase⟩ := pmap_look HMP2.out pn
          have HCASE := Lib.hid hcase
          clear hcase
          by_cases hk1 : pk = 1
          · subst hk1
            have hB : builtP ⟨1, pn⟩ l = (0, [pn]) := by unfold builtP; rw [if_pos rfl]
            rw [hB] at HAT HOK
            have HE1 : Hid (builtL ps l [] = builtL (ps.drop (k + 1)) l (out ++ [pn])) := Lib.hid (by rw [HAT.out, if_neg (by simp)])
            have HWT1 : Hid (wtL (out ++ [pn]) ≤ 1000 * (k + 1)) := Lib.hid (by rw [wtL_append]; have h1 := HWT.out; have h2 := (HOK.out rfl).2; simp only at h2; omega)
            clear hB HAT HOK HCASE
            have hbs := Blk.new w3 9 #[.string pn]
            have hms : New w3 (w3.alloc (.cells #[.string pn] 9)) := (Mod.refl _ _).alloc _
            have hoA := HO2.out.new hms
            have HMA := Lib.hid (HM2.out.trans hms)
            have HPA := Lib.hid (HMP2.out.mod hms (fun e => e))
            have hszA : mb + 1 ≤ (w3.alloc (.cells #[.string pn] 9)).heap.size := HPA.out.lt
            have HOF : Hid (∀ g', blkOf A' = some g' → mb + 1 ≤ g') := Lib.hid (fun g' e => HO2.out.farP g' e)
            go_wp2_with (at_builtin; refine wpList_push rfl _ _ _ rfl 16 Tryz.underlying56 einfo_str rfl hoA pn w3.heap.size rfl hbs (fun j hj => sEnc_one _ j hj) (by omega) (by omega) hszA ?_; intro g8 cap8 w8 own8 hm8 hat8 hlt8)
            have HO8 := Lib.hid own8
            have HM8 : Hid (New w1 w8) := Lib.hid (HMA.out.step hm8 (fun i hi e => by have h1 := HOF.out i e; have h2 := HMB.out i hi; omega))
            have HP8 : Hid (MapOf strKeys w8 mb (pmap l)) := Lib.hid (HPA.out.mod hm8 (fun e => by have := HOF.out _ e; omega))
            clear own8 hm8
            go_roundw
            case rel => exact ⟨k + 1, n' + 1, cap8, _, _, by omega, by go_num, rfl, by omega, HWT1, HO8, HE1, HP8, HM8⟩
            case measure => simp [intOf]; omega
          · have hk1' : ((pk : Int) == 1) = false := by simpa using hk1
            rcases HCASE.out with ⟨rfl, hv⟩ | ⟨rfl, hv⟩
            · have HB : Hid (builtP ⟨pk, pn⟩ l = (8, [])) := Lib.hid (by unfold builtP; rw [if_neg hk1]; simp only [hv])
              have HBL : Hid (builtL ps l [] = (8, [])) := Lib.hid (by rw [HAT.out, HB.out, if_pos (by simp)])
              have HR : Hid (buildOf t l = (8, [])) := Lib.hid (by rw [HQ2.out, HBL.out, if_pos (by simp)])
              clear hv hk1
              go_wp2_with fail
              go_ret2
              exact RTxt.fault HR.out (HM1.out.trans HM2.out)
            · have hR : builtP ⟨pk, pn⟩ l = if pk = 2 then (if sv = emptyB then (3, []) else (0, [sv])) else if sv = emptyB then (0, []) else segsOf sv := by
                unfold builtP; rw [if_neg hk1]; simp only [hv]
              obtain ⟨px, hpx, hpv⟩ := lookP_mem hv
              have hvz : sv.size ≤ 300 := by rw [← hpv]; exact HZ.out _ hpx
              have e1 := const_eq sv []
              have e2 := empty_is sv
              have HR0 := Lib.hid hR
              clear hR hv hpx hpv HCASE hk1
              by_cases h2 : pk = 2
              · subst h2
                by_cases hve : sv = emptyB
                · rw [decide_eq_true hve] at e1
                  have HB : Hid (builtP ⟨2, pn⟩ l = (3, [])) := Lib.hid (by rw [HR0.out, if_pos rfl, if_pos hve])
                  have HBL : Hid (builtL ps l [] = (3, [])) := Lib.hid (by rw [HAT.out, HB.out, if_pos (by simp)])
                  have HR : Hid (buildOf t l = (3, [])) := Lib.hid (by rw [HQ2.out, HBL.out, if_pos (by simp)])
                  clear hve e2
                  go_wp2_with fail
                  try (go_quiet (fail))
                  try (go_wp2_with fail)
                  go_ret2
                  exact RTxt.fault HR.out (HM1.out.trans HM2.out)
                · rw [decide_eq_false hve] at e1
                  have hB : builtP ⟨2, pn⟩ l = (0, [sv]) := by rw [HR0.out, if_pos rfl, if_neg hve]
                  rw [hB] at HAT HOK
                  have HE1 : Hid (builtL ps l [] = builtL (ps.drop (k + 1)) l (out ++ [sv])) := Lib.hid (by rw [HAT.out, if_neg (by simp)])
                  have HWT1 : Hid (wtL (out ++ [sv]) ≤ 1000 * (k + 1)) := Lib.hid (by rw [wtL_append]; have h1 := HWT.out; have h2 := (HOK.out rfl).2; simp only at h2; omega)
                  clear hB HAT HOK hve e2 HR0
                  go_upto_region 24 with fail
                  try (go_quiet (fail))
                  go_upto_region 27 with fail
                  have hbs := Blk.new w3 9 #[.string sv]
                  have hms : New w3 (w3.alloc (.cells #[.string sv] 9)) := (Mod.refl _ _).alloc _
                  have hoA := HO2.out.new hms
                  have HMA := Lib.hid (HM2.out.trans hms)
                  have HPA := Lib.hid (HMP2.out.mod hms (fun e => e))
                  have hszA : mb + 1 ≤ (w3.alloc (.cells #[.string sv] 9)).heap.size := HPA.out.lt
                  have HOF : Hid (∀ g', blkOf A' = some g' → mb + 1 ≤ g') := Lib.hid (fun g' e => HO2.out.farP g' e)
                  go_wp2_with (at_builtin; refine wpList_push rfl _ _ _ rfl 16 Tryz.underlying56 einfo_str rfl hoA sv w3.heap.size rfl hbs (fun j hj => sEnc_one _ j hj) (by omega) (by omega) hszA ?_; intro g8 cap8 w8 own8 hm8 hat8 hlt8)
                  have HO8 := Lib.hid own8
                  have HM8 : Hid (New w1 w8) := Lib.hid (HMA.out.step hm8 (fun i hi e => by have h1 := HOF.out i e; have h2 := HMB.out i hi; omega))
                  have HP8 : Hid (MapOf strKeys w8 mb (pmap l)) := Lib.hid (HPA.out.mod hm8 (fun e => by have := HOF.out _ e; omega))
                  clear own8 hm8
                  go_roundw
                  case rel => exact ⟨k + 1, n' + 1, cap8, _, _, by omega, by go_num, rfl, by omega, HWT1, HO8, HE1, HP8, HM8⟩
                  case measure => simp [intOf]; omega
              · have h2' : ((pk : Int) == 2) = false := by simpa using h2
                by_cases hve : sv = emptyB
                · rw [decide_eq_true hve] at e1 e2
                  have hB : builtP ⟨pk, pn⟩ l = (0, []) := by rw [HR0.out, if_neg h2, if_pos hve]
                  rw [hB] at HAT
                  have HE1 : Hid (builtL ps l [] = builtL (ps.drop (k + 1)) l out) := Lib.hid (by rw [HAT.out, if_neg (by simp)]; simp)
                  have HWT1 : Hid (wtL out ≤ 1000 * (k + 1)) := Lib.hid (by have := HWT.out; omega)
                  clear hB HAT HOK hve HR0 h2
                  go_upto_region 24 with fail
                  try (go_quiet (fail))
                  go_wp2_with fail
                  try (go_quiet (fail))
                  try (go_wp2_with fail)
                  go_roundw
                  case rel => exact ⟨k + 1, n', c', A', out, by omega, by go_num, rfl, by omega, HWT1, HO2, HE1, HMP2, HM2⟩
                  case measure => simp [intOf]; omega
                · rw [decide_eq_false hve] at e1 e2
                  have hB : builtP ⟨pk, pn⟩ l = segsOf sv := by rw [HR0.out, if_neg h2, if_neg hve]
                  rw [hB] at HAT HOK
                  have hsg := ref2_segmentsOf sv w3 (by omega) (HX.out.new (HM1.out.trans HM2.out)) (HES.out.new (HM1.out.trans HM2.out))
                  clear hB hve HR0 h2
                  go_upto_region 24 with fail
                  try (go_quiet (fail))
                  go_wp2_with fail
                  try (go_quiet (fail))
                  try (go_wp2_with fail)
                  refine hsg.mono ?_
                  clear hsg y0 y1 yl hlk
                  rintro e w4 ⟨A3, n3, c3, rfl, hs3, hm3, hc3⟩
                  have HM3 : Hid (New w1 w4) := Lib.hid (HM2.out.trans hm3)
                  have HO3 := Lib.hid (HO2.out.new hm3)
                  have HMP3 := Lib.hid (HMP2.out.mod hm3 (fun e => e))
                  have HS3 := Lib.hid hs3
                  clear hm3 hs3 HM2 HO2 HMP2
                  generalize segsOf sv = q at *
                  obtain ⟨q1, bs⟩ := q
                  simp only at HS3 HAT HOK ⊢
                  by_cases hq1 : q1 = 0
                  rotate_left
                  · have hq1' : ((q1 : Int) != 0) = true := by simpa using hq1
                    have HBL : Hid (builtL ps l [] = (q1, [])) := Lib.hid (by rw [HAT.out, if_pos hq1])
                    have HR : Hid (buildOf t l = (q1, [])) := Lib.hid (by rw [HQ2.out, HBL.out, if_pos hq1])
                    clear hq1
                    go_wp2_with fail
                    go_ret2
                    exact RTxt.fault HR.out (HM1.out.trans HM3.out)
                  · subst hq1
                    obtain ⟨k1, k2⟩ := HOK.out rfl
                    have HE1 : Hid (builtL ps l [] = builtL (ps.drop (k + 1)) l (out ++ bs)) := Lib.hid (by rw [HAT.out, if_neg (by simp)])
                    have HWT1 : Hid (wtL (out ++ bs) ≤ 1000 * (k + 1)) := Lib.hid (by rw [wtL_append]; have := HWT.out; omega)
                    have hbl : bs.length = n3 := HS3.out.1
                    have hn30 : n3 ≤ 100 := by omega
                    have HOF : Hid (∀ g', blkOf A' = some g' → mb + 1 ≤ g') := Lib.hid (fun g' e => HO3.out.farP g' e)
                    clear HOK HAT HWT k1 k2
                    rcases Nat.eq_zero_or_pos n3 with h0 | h0
                    · subst h0
                      obtain rfl : bs = [] := List.eq_nil_of_length_eq_zero hbl
                      obtain ⟨i9, z9, hi9, _⟩ := einfo_str
                      have hap := fun ty => append_empty (P := Tryz.prog) Tryz.underlying56 hi9 A' A3 n' c' c3 HO3.out.ncap ty w4
                      have HO4 : Hid (Own w4 (mb + 1) 9 1 sEnc A' n' c' (out ++ [])) := Lib.hid (by rw [List.append_nil]; exact HO3.out)
                      go_wp2_with (at_builtin; refine wpList_append_by rfl _ _ 56 rfl rfl rfl hap ?_)
                      go_roundw
                      case rel => exact ⟨k + 1, n', c', A', _, by omega, by go_num, rfl, by omega, HWT1, HO4, HE1, HMP3, HM3⟩
                      case measure => simp [intOf]; omega
                    · obtain ⟨g3, o3, hA3, -, -⟩ := HS3.out.2 h0
                      subst hA3
                      have hsz3 : mb + 1 ≤ w4.heap.size := HMP3.out.lt
                      have hs3 := HS3.out
                      go_wp2_with (at_builtin; refine wpList_pushAll rfl _ _ _ rfl 16 Tryz.underlying56 einfo_str rfl HO3.out bs g3 o3 n3 c3 rfl hs3 h0 (fun y _ j hj => sEnc_one _ j hj) (by omega) (by omega) (by omega) ?_; intro g8 cap8 w8 own8 hm8 hat8 hlt8)
                      have HO8 := Lib.hid own8
                      have HM8 : Hid (New w1 w8) := Lib.hid (HM3.out.step hm8 (fun i hi e => by have h1 := HOF.out i e; have h2 := HMB.out i hi; omega))
                      have HP8 : Hid (MapOf strKeys w8 mb (pmap l)) := Lib.hid (HMP3.out.mod hm8 (fun e => by have := HOF.out _ e; omega))
                      clear own8 hm8
                      go_roundw
                      case rel => exact ⟨k + 1, n' + n3, cap8, _, _, by omega, by go_num, rfl, by omega, HWT1, HO8, HE1, HP8, HM8⟩
                      case measure => simp [intOf]; omega
        · obtain rfl : k = np := by omega
          have hend : builtL ps l [] = (0, out) := by
            rw [HE.out, List.drop_eq_nil_of_le (by have := HPL.out; (try simp only at this); omega), builtL]
          have HR : Hid (buildOf t l = joinP out) := Lib.hid (by rw [HQ2.out, hend, if_neg (by simp)])
          have hwt := HWT.out
          have hft : PFit out := ⟨by have := pathT_wt out; omega, fun x hx => by have := wtL_mem hx; omega⟩
          have hjp := ref2_pathFrom A' n' c' out wi HO.out.sl hft
          have HJP := Lib.hid hjp
          clear hjp hft hwt hend
          go_wp2_with fail
          refine HJP.out.mono ?_
          clear HJP
          rintro e w5 ⟨rfl, hm5⟩
          have HM5 : Hid (New w w5) := Lib.hid (HM1.out.trans (HM.out.trans hm5))
          clear hm5
          generalize joinP out = q at *
          obtain ⟨q1, q2⟩ := q
          simp only
          go_wp2_with fail
          go_ret2
          exact ⟨by rw [HR.out]; rfl, HM5.out⟩

set_option maxHeartbeats 400000 in
theorem ref1_BuildOfT (t : ByteArray) (A : Option Addr) (n c : Nat) (l : List PairD) (w : World) (ht : t.size ≤ 100000) (hq : QSl w A n l) (hn : n ≤ 100000) (hnc : n ≤ c) (hz : ∀ x ∈ l, x.2.size ≤ 300) (hx : MaxLn w) (he : ErrSyn w) :
    Calls Tryz.prog 21 #[.string t, .slice A n c] w (RTxt (buildOf t l) w) :=
  ref1_BuildOf t A n c l w ht hq hn hnc hz (tplOf_small t).1 (tplOf_small t).2 hx he
end Go.Proofs.YtjehlecgnepgmaaGreatDoor
