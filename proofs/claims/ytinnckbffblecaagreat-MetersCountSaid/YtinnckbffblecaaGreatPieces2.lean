/- What lasts: leaving out what does not count any more. Conditions: a row that the call owns, pieces with modest numbers. -/
import Derived.Test.YtinnckbffblecaaGreatPieces
namespace Go.Proofs.YtinnckbffblecaaGreat
open Go.RowKit
set_option linter.unusedVariables false
set_option linter.unusedSimpArgs false

theorem flat_set2 {α : Type} (enc : α → Nat → Value) (xs : List α) (i : Nat) (x : α) : (xs.set i x).flatMap (encL 2 enc) = ((xs.flatMap (encL 2 enc)).set (i * 2) (enc x 0)).set (i * 2 + 1) (enc x 1) := by
  induction xs generalizing i with
  | nil => simp
  | cons y xs ih =>
    cases i with
    | zero => simp [encL, List.range_succ, List.range_zero]
    | succ i =>
      simp only [List.set_cons_succ, List.flatMap_cons, ih]
      simp [encL, List.range_succ, List.range_zero, Nat.succ_mul]
section
variable {α : Type} {w : World} {B : Nat} {t : TypeId} {enc : α → Nat → Value} {n c : Nat} {xs : List α}
/-- a store of one element that takes two cells -/
theorem Own.set2 {g : Nat} (h : Own w B t 2 enc (some ⟨g, 0, none⟩) n c xs) (i : Nat) (x : α) : Own ((w.setCell ⟨g, i * 2, none⟩ (enc x 0)).setCell ⟨g, i * 2 + 1, none⟩ (enc x 1)) B t 2 enc (some ⟨g, 0, none⟩) n c (xs.set i x) := by
  refine ⟨by simpa using h.1, ?_⟩
  rw [flat_set2]
  exact ((h.2.stored (i * 2) (enc x 0)).1.stored (i * 2 + 1) (enc x 1)).1
end

theorem pass1 (x : Pc) (ab : Nat) (t : Int) (w : World) (h : Blk w ab 3 #[.int .i64 t]) :
    Calls Tryz.prog 154 #[.agg #[.int .i64 x.until_, .int .i64 x.cost], .pointer (some ⟨ab, 0, none⟩)] w fun e w' => e = .returned (.bool (decide (x.until_ ≤ t))) ∧ New w w' := by
  have c0 := h.cell 0
  simp at c0
  have hl := h.lt
  go_enter Tryz.func154, Tryz.ntmps154
  go_wp2_with fail
  go_ret
  exact ⟨rfl, (by with_reducible (repeat (first | exact Mod.refl _ _ | refine Mod.drewN ?_ _ | refine Mod.drew ?_ | refine Mod.alloc ?_ _)))⟩
theorem enters_pass1 (args : Array Value) (w : World) : (callFunc 154 args).run Tryz.prog w = .ok (.enter 154 args) w := by
  go_simp

/-- the place of the first one that has ended, or n -/
def ended (t : Int) (ps : List Pc) : Nat := (ps.takeWhile fun x => decide (t < x.until_)).length

set_option maxHeartbeats 1000000 in
theorem indexFunc_pc (w : World) (A : Option Addr) (n c : Nat) (ps : List Pc) (hs : PcRows w A n ps) (ab : Nat) (t : Int) (h : Blk w ab 3 #[.int .i64 t]) (hn : n ≤ 1000000) :
    Calls Tryz.prog 156 #[.slice A n c, .func (.func 154) #[] #[.pointer (some ⟨ab, 0, none⟩)]] w fun e w' => ∃ r : Int, e = .returned (.int .i64 r) ∧ ((r = -1 ∧ ∀ x ∈ ps, t < x.until_) ∨ ∃ k : Nat, r = k ∧ ∃ hk : k < ps.length, ps[k].until_ ≤ t ∧ ∀ j (hj : j < ps.length), j < k → t < ps[j].until_) ∧ New w w' := by
  have hlen := hs.1
  have HS := Lib.hid hs
  have HB := Lib.hid h
  have eg := enters_pass1
  clear hs h
  go_enter Tryz.func156, Tryz.ntmps156
  go_wp2_with fail
  go_loopw [5, 8] (fun _ i wr => ∃ k : Nat, k ≤ n ∧ i = .int .i64 k ∧ New w wr ∧ Hid (∀ j (hj : j < ps.length), j < k → t < ps[j].until_)) (fun _ i _ => n - (intOf i).toNat)
  case atStart => exact ⟨0, Nat.zero_le _, rfl, Mod.refl _ _, Lib.hid (fun j _ hj => absurd hj (by omega))⟩
  case round =>
    rename World => wr
    obtain ⟨k, hk, rfl, hm, HA⟩ := hrel
    by_cases hlt : k < n
    · obtain ⟨g, o, rfl, hg, hc⟩ := (HS.out.new hm).2 (by omega)
      have hkl : k < ps.length := by omega
      have k0 := hc k hkl 0 (by omega)
      have k1 := hc k hkl 1 (by omega)
      simp only [Pc.enc, Nat.add_zero] at k0 k1
      have hcall := pass1 ps[k] ab t wr (HB.out.mod hm (fun e => e))
      have hb1 : (0 : Int) ≤ k := by omega
      have hb2 : (k : Int) < n := by omega
      clear hc
      by_cases hx : ps[k].until_ ≤ t
      · have HX := Lib.hid hx
        rw [decide_eq_true hx] at hcall
        clear hx
        go_wp2_with (refine hcall.mono ?_; clear hcall; rintro e w' ⟨rfl, hm'⟩)
        go_ret
        exact ⟨k, rfl, .inr ⟨k, rfl, hkl, HX.out, HA.out⟩, hm.trans hm'⟩
      · have HX := Lib.hid hx
        rw [decide_eq_false hx] at hcall
        clear hx
        go_wp2_with (refine hcall.mono ?_; clear hcall; rintro e w' ⟨rfl, hm'⟩)
        refine ⟨⟨k + 1, by omega, by go_num, hm.trans hm', Lib.hid (fun j hj1 hj2 => ?_)⟩, by simp [intOf]; omega⟩
        by_cases e : j = k
        · subst e; have := HX.out; omega
        · exact HA.out j hj1 (by omega)
    · obtain rfl : k = n := by omega
      go_wp2_with fail
      go_ret
      refine ⟨-1, rfl, .inl ⟨rfl, fun x hx => ?_⟩, hm⟩
      obtain ⟨j, hj, rfl⟩ := List.getElem_of_mem hx
      exact HA.out j hj (by omega)

theorem zero_pc (w : World) : (zeroValue 211).run Tryz.prog w = .ok (.agg #[.int .i64 0, .int .i64 0]) w := by kernel_rfl
theorem passP_snoc {ps : List Pc} {t : Int} {j : Nat} (hj : j < ps.length) : passP (ps.take (j + 1)) t = passP (ps.take j) t ++ (if ps[j].until_ ≤ t then [] else [ps[j]]) := by
  unfold passP
  rw [List.take_succ_eq_append_getElem hj, List.filter_append]
  by_cases h : ps[j].until_ ≤ t
  · simp [h]
  · have : t < ps[j].until_ := by omega
    simp [h, this]
def RPass (w : World) (B g c : Nat) (xs : List Pc) (e : Ending) (w' : World) : Prop :=
  e = .returned (.slice (some ⟨g, 0, none⟩) xs.length c) ∧ Own w' B 211 2 Pc.enc (some ⟨g, 0, none⟩) xs.length c xs ∧ Only g w w'

set_option maxRecDepth 100000 in
set_option maxHeartbeats 1000000 in
theorem deleteFunc_pc (w : World) (B g n c : Nat) (ps : List Pc) (hs : Own w B 211 2 Pc.enc (some ⟨g, 0, none⟩) n c ps) (ab : Nat) (t : Int) (h : Blk w ab 3 #[.int .i64 t]) (hn : n ≤ 1000000) :
    Calls Tryz.prog 153 #[.slice (some ⟨g, 0, none⟩) n c, .func (.func 154) #[] #[.pointer (some ⟨ab, 0, none⟩)]] w (RPass w B g c (passP ps t)) := by
  have hlen := hs.1
  obtain ⟨_, hrow, _, hnc, hcm, _⟩ := hs.row
  have hgab : g ≠ ab := hrow.tb.ne h.tb (by decide)
  have hgl := hrow.lt
  unfold maxLen at hcm
  have hif := indexFunc_pc w (some ⟨g, 0, none⟩) n c ps hs.sl ab t h hn
  have eg := enters_pass1
  have HS := Lib.hid hs
  have HB := Lib.hid h
  have HL := Lib.hid hlen
  clear hs h hlen hrow
  go_enter Tryz.func153, Tryz.ntmps153
  go_wp2_with fail
  refine hif.mono ?_
  clear hif
  rintro e w1 ⟨r, rfl, hr, hm1⟩
  rcases hr with ⟨rfl, hall⟩ | ⟨i0, rfl, hi0, hp0, hmin⟩
  · have hpp : passP ps t = ps := by unfold passP; rw [List.filter_eq_self]; intro x hx; simpa using hall x hx
    have HPP := Lib.hid hpp
    clear hpp hall
    go_wp2_with fail
    go_ret
    refine ⟨by rw [HPP.out, HL.out]; rfl, ?_, hm1.mono (fun _ _ e => e.elim)⟩
    rw [HPP.out, HL.out]
    exact HS.out.new hm1
  · have hi0n : i0 < n := by have := HL.out; omega
    have hpre : passP (ps.take i0) t = ps.take i0 := by
      unfold passP
      rw [List.filter_eq_self]
      intro x hx
      obtain ⟨i, hi, rfl⟩ := List.getElem_of_mem hx
      have hi' : i < i0 := by simp at hi; omega
      have := hmin i (by omega) hi'
      simpa using this
    have hne : ((i0 : Int) == -1) = false := beq_eq_false_iff_ne.2 (by omega)
    have e1 : passP (ps.take (i0 + 1)) t = ps.take i0 := by rw [passP_snoc hi0, hpre, if_pos hp0]; simp
    have HE1 := Lib.hid e1
    clear hpre hmin hp0 e1
    go_wp2_with fail
    go_loopw [5, 6, 7] (fun si sj _ wr => ∃ (i j : Nat) (L : List Pc), i < j ∧ j ≤ n ∧ si = .int .i64 i ∧ sj = .int .i64 j ∧ Hid (Own wr B 211 2 Pc.enc (some ⟨g, 0, none⟩) n c L) ∧ Only g w wr ∧ Hid (L.take i = passP (ps.take j) t) ∧ Hid (L.drop j = ps.drop j) ∧ Hid ((passP (ps.take j) t).length = i)) (fun _ sj _ _ => n - (intOf sj).toNat)
    case atStart =>
      refine ⟨i0, i0 + 1, ps, by omega, by omega, rfl, by go_num, Lib.hid (HS.out.new hm1), hm1.mono (fun _ _ e => e.elim), Lib.hid (by rw [HE1.out]), Lib.hid rfl, Lib.hid ?_⟩
      rw [HE1.out]; simp; omega
    case round =>
      rename World => wr
      obtain ⟨i, j, L, hij, hj, rfl, rfl, HOWN, hmod, HT, HD, HLN⟩ := hrel
      have hLl := HOWN.out.1
      by_cases hlt : j < n
      · have hjo : j < ps.length := by rw [HL.out]; exact hlt
        have hLj : L[j]'(by omega) = ps[j] := by
          have := congrArg (fun l => l[0]?) HD.out
          simpa [List.getElem?_drop, List.getElem?_eq_getElem hjo, List.getElem?_eq_getElem (show j < L.length by omega)] using this
        obtain ⟨g', o', hA, htb, hc⟩ := HOWN.out.sl.2 (by omega)
        injection hA with hA
        injection hA with hA1 hA2
        subst hA1 hA2
        have c0 := hc j (by omega) 0 (by omega)
        have c1 := hc j (by omega) 1 (by omega)
        rw [hLj] at c0 c1
        have d0 := hc i (by omega) 0 (by omega)
        have d1 := hc i (by omega) 1 (by omega)
        simp only [Pc.enc, Nat.add_zero, Nat.zero_add] at c0 c1 d0 d1
        have f0 := HOWN.out.frozen (i * 2)
        have f1 := HOWN.out.frozen (i * 2 + 1)
        have hgl2 := htb.lt
        have hcall := fun o : Obj => pass1 ps[j] ab t (wr.alloc o) ((HB.out.mod hmod (Ne.symm hgab)).mod ((Mod.refl (fun _ => False) wr).alloc o) (fun e => e))
        have HSN := Lib.hid (passP_snoc (t := t) hjo)
        have hb1 : (0 : Int) ≤ j := by omega
        have hb2 : (j : Int) < n := by omega
        have hb3 : (0 : Int) ≤ i := by omega
        have hb4 : (i : Int) < n := by omega
        have HDD : Hid (L.drop (j + 1) = ps.drop (j + 1)) := Lib.hid (by
          have := congrArg (List.drop 1) HD.out
          simpa [List.drop_drop] using this)
        clear hc hLj
        generalize hx0 : ps[j] = x at *
        have HX0 := Lib.hid hx0
        clear hx0
        by_cases hx : x.until_ ≤ t
        · have hsn := HSN.out
          rw [if_pos hx, List.append_nil] at hsn
          have HSN2 := Lib.hid hsn
          have hcall := hcall (.cells #[.int .i64 x.until_, .int .i64 x.cost] 211)
          rw [decide_eq_true hx] at hcall
          clear hx hsn
          go_wp2_with (refine hcall.mono ?_; clear hcall; rintro e w' ⟨rfl, hm'⟩)
          have hmm : New wr w' := ((Mod.refl _ wr).alloc _).trans hm'
          exact ⟨⟨i, j + 1, L, by omega, by omega, rfl, by go_num, Lib.hid (HOWN.out.new hmm), hmod.step hmm (fun _ _ e => e.elim), Lib.hid (by rw [HSN2.out]; exact HT.out), HDD, Lib.hid (by rw [HSN2.out]; exact HLN.out)⟩, by simp [intOf]; omega⟩
        · have hsn := HSN.out
          rw [if_neg hx] at hsn
          have HSN2 := Lib.hid hsn
          have hcall := hcall (.cells #[.int .i64 x.until_, .int .i64 x.cost] 211)
          rw [decide_eq_false hx] at hcall
          clear hx hsn
          go_upto_region 9 with (refine hcall.mono ?_; clear hcall; rintro e w' ⟨rfl, hm'⟩)
          have hmm : New wr w' := ((Mod.refl _ wr).alloc _).trans hm'
          have hbx := (Blk.new wr 211 #[.int .i64 x.until_, .int .i64 x.cost]).mod hm' (fun e => e)
          have y0 := hbx.cell 0
          have y1 := hbx.cell 1
          simp at y0 y1
          have HO2 := Lib.hid (HOWN.out.new hmm)
          obtain ⟨g', o', hA, htb2, hc⟩ := HO2.out.sl.2 (by omega)
          injection hA with hA
          injection hA with hA1 hA2
          subst hA1 hA2
          have d0 := hc i (by omega) 0 (by omega)
          have d1 := hc i (by omega) 1 (by omega)
          simp only [Pc.enc, Nat.add_zero, Nat.zero_add] at d0 d1
          have f0 := HO2.out.frozen (i * 2)
          have f1 := HO2.out.frozen (i * 2 + 1)
          have hgl3 := htb2.lt
          have hxg : wr.heap.size ≠ g := by omega
          have hxl := hbx.lt
          clear hc hbx
          go_wp2_with fail
          have hos := HO2.out.set2 i x
          have hon : Only g w ((w'.setCell ⟨g, i * 2, none⟩ (Pc.enc x 0)).setCell ⟨g, i * 2 + 1, none⟩ (Pc.enc x 1)) := ((hmod.step hmm (fun _ _ e => e.elim)).setCell (p := ⟨g, i * 2, none⟩) (.inl rfl) _).setCell (p := ⟨g, i * 2 + 1, none⟩) (.inl rfl) _
          refine ⟨⟨i + 1, j + 1, L.set i x, by omega, by omega, by go_num, by go_num, Lib.hid hos, hon, Lib.hid ?_, Lib.hid ?_, Lib.hid ?_⟩, by simp [intOf]; omega⟩
          · rw [HSN2.out, ← HT.out, List.take_succ_eq_append_getElem (by simp; omega), List.getElem_set_self, List.take_set_of_le (by omega)]
          · rw [List.drop_set_of_lt (by omega)]; exact HDD.out
          · rw [HSN2.out, List.length_append, HLN.out]; rfl
      · obtain rfl : j = n := by omega
        have hfull : ps.take j = ps := List.take_of_length_le (by rw [HL.out]; omega)
        obtain ⟨w2, hcl, hown2, hon2, hz2⟩ := HOWN.out.clear_tail (P := Tryz.prog) (ts := 160) Tryz.underlying160 (zero_pc wr) (by simp [Value.cells]; decide) rfl (by omega) i (i * 2) (c - i) (by omega) rfl
        have hb3 : (0 : Int) ≤ i := by omega
        have hb4 : (i : Int) < j := by omega
        have hb5 : i < c := by omega
        have HO2 := Lib.hid hown2
        have HFU := Lib.hid hfull
        clear hown2 hz2 hfull
        go_wp2_with fail
        go_ret
        have e3 := HLN.out
        have e4 := HT.out
        rw [HFU.out] at e3 e4
        refine ⟨by rw [e3]; rfl, ?_, hmod.trans hon2⟩
        rw [e3, ← e4]
        exact HO2.out

end Go.Proofs.YtinnckbffblecaaGreat
