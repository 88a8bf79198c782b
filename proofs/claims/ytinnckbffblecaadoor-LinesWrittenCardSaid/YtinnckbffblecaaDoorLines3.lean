/- The reference's LinesOf, and slices.Equal of headers. Conditions: right limits that can be read, of modest size; strconv's table. -/
import Derived.Test.YtinnckbffblecaaDoorLines2
import Derived.Test.YtinnckbffblecaaDoorRoom
namespace Go.Proofs.YtinnckbffblecaaDoor
open Go.RowKit
set_option linter.unusedVariables false
set_option linter.unusedSimpArgs false


def RLinesOf (w : World) (ls : List Lim) (v : VerdictD) (e : Ending) (w' : World) : Prop :=
  ((linesE ls v ≠ 0 ∧ e = .returned (.tuple #[.slice none 0 0, .int .i64 (linesE ls v)])) ∨ (linesE ls v = 0 ∧ ∃ A n c, e = .returned (.tuple #[.slice A n c, .int .i64 0]) ∧ HdOwn w' w.heap.size A n c (linesL ls v))) ∧ New w w'

theorem hasL_succ {ls : List Lim} {v : VerdictD} {k : Nat} (hk : k < ls.length) : hasL (ls.take (k + 1)) v = (hasL (ls.take k) v || (ls[k].key.toList == v.by_.toList)) := by
  unfold hasL
  rw [List.take_succ_eq_append_getElem hk, List.any_append]
  simp

set_option maxRecDepth 100000 in
set_option maxHeartbeats 2000000 in
theorem ref_LinesOf (w : World) (ls : List Lim) (A : Option Addr) (n c : Nat) (v : VerdictD) (hl : LimRows w A n ls) (hn : n ≤ 4) (hf : ∀ l ∈ ls, l.Fine) (hv : v.by_.size ≤ 2) (ht : Pow10 w) (hf0 : limsFault ls = 0) :
    Calls Tryd.prog 11 #[.slice A n c, v.val] w (RLinesOf w ls v) := by
  obtain ⟨ok, by_, wait⟩ := v
  have hlen := hl.1
  have hA1 := (Mod.refl (fun _ => False) w).alloc (.cells #[.bool ok, .string by_, .int .i64 wait] 31)
  have hx1 := Blk.new w 31 #[.bool ok, .string by_, .int .i64 wait]
  unfold VerdictD.val
  have HL := Lib.hid hl
  have HX := Lib.hid hx1
  have HF := Lib.hid hf
  have HT := Lib.hid ht
  have HF1 := Lib.hid hf0
  clear hl hx1 hf ht hf0
  go_enter Tryd.func11, Tryd.ntmps11
  go_upto_region 1 with (fail)
  generalize hvb : w.heap.size = vb at *
  generalize w.alloc (.cells #[.bool ok, .string by_, .int .i64 wait] 31) = w1 at *
  go_wp2_with fail
  go_loopw [6, 7, 9, 10, 14] (fun t hs _ _ i wr => ∃ (k c2 : Nat) (A2 : Option Addr), k ≤ n ∧ i = .int .i64 k ∧ t = .slice A2 k c2 ∧ hs = .bool (hasL (ls.take k) ⟨ok, by_, wait⟩) ∧ Hid (HdOwn wr w1.heap.size A2 k c2 ((ls.take k).map hdOf)) ∧ New w1 wr) (fun _ _ _ _ i _ => n - (intOf i).toNat)
  case atStart => exact ⟨0, 0, none, Nat.zero_le _, rfl, rfl, rfl, Lib.hid (by simpa using Own.nil), Mod.refl _ _⟩
  case round =>
    rename World => wr
    obtain ⟨k, c2, A2, hk, rfl, rfl, rfl, HOW, hmr⟩ := hrel
    have hmrw : New w wr := hA1.trans hmr
    by_cases hlt : k < n
    · obtain ⟨g, o, hA, hg, hc⟩ := (HL.out.new hmrw).2 (by omega)
      subst hA
      have hgl := hg.lt
      have hkl : k < ls.length := by omega
      have HTK : Hid ((ls.take (k + 1)).map hdOf = (ls.take k).map hdOf ++ [hdOf ls[k]]) := Lib.hid (by rw [List.take_succ_eq_append_getElem hkl, List.map_append]; rfl)
      have HHA := Lib.hid (hasL_succ (v := ⟨ok, by_, wait⟩) hkl)
      obtain ⟨hki, hmo, hpz, hpe, _⟩ := limSelf_zero (lims_self HF1.out k hkl)
      have hsm := (HF.out ls[k] (List.getElem_mem _)).2
      have hkz := (HF.out ls[k] (List.getElem_mem _)).1
      have c0 := hc k hkl 0 (by omega)
      have c1 := hc k hkl 1 (by omega)
      have c2' := hc k hkl 2 (by omega)
      have c3 := hc k hkl 3 (by omega)
      have c4 := hc k hkl 4 (by omega)
      simp only [Lim.enc, Nat.add_zero] at c0 c1 c2' c3 c4
      have hb1 : (0 : Int) ≤ k := by omega
      have hb2 : (k : Int) < n := by omega
      clear hc
      generalize ls[k] = l at *
      generalize hasL (ls.take k) ⟨ok, by_, wait⟩ = hb at *
      go_upto_region 6 with (fail)
      have hAl := (Mod.refl (fun _ => False) wr).alloc (.cells #[.string l.key, .int .i64 l.kind, .int .i64 l.most, .int .i64 l.per, .int .i64 l.burst] 45)
      have hbx := Blk.new wr 45 #[.string l.key, .int .i64 l.kind, .int .i64 l.most, .int .i64 l.per, .int .i64 l.burst]
      have hown4 := HOW.out.new hAl
      have hm4 : New w1 (wr.alloc (.cells #[.string l.key, .int .i64 l.kind, .int .i64 l.most, .int .i64 l.per, .int .i64 l.burst] 45)) := hmr.trans hAl
      clear c0 c1 c2' c3 c4 hAl
      generalize wr.alloc (.cells #[.string l.key, .int .i64 l.kind, .int .i64 l.most, .int .i64 l.per, .int .i64 l.burst] 45) = w4 at *
      generalize wr.heap.size = xb at *
      have x1 := hbx.cell 1
      have x2 := hbx.cell 2
      simp at x1 x2
      have hxl := hbx.lt
      have HBX := Lib.hid hbx
      have HO4 := Lib.hid hown4
      have hm4w : New w w4 := hA1.trans hm4
      have i64m : I64 l.most := ⟨by omega, by omega⟩
      have z1 := kindWord_size l.kind
      have z2 := itoaB_size i64m
      have z3 : ¬ 9223372036854775807 < (kindWord l.kind).size + 1 := by omega
      have z4 : ¬ 9223372036854775807 < (kindWord l.kind).size + 1 + (itoaB l.most).size := by omega
      have z5 : ¬ 9223372036854775807 < 8 + l.key.size := by omega
      have hkw := kindWord_any l.kind hki.1 hki.2
      have hit := fun (w' : World) (h : New w w') => itoa_any l.most i64m w' (HT.out.new h)
      refine wp_region_held_mark (fun w' => w'.cell? ⟨xb, 1, none⟩ = some (.int .i64 l.kind) ∧ w'.cell? ⟨xb, 2, none⟩ = some (.int .i64 l.most)) (fun _ _ => True) [2, 6] [0, 1, 4, 5, 2, 3, 6] (by kernel_rfl) (by kernel_rfl) (fun _ _ d _ _ h => by cases d <;> exact h) ?_ (fun hHeld => ?_)
      · exact ⟨x1, x2⟩
      simp only [List.length_cons, List.length_nil, List.drop_succ_cons, List.drop_zero]
      refine heldM_take ?_ (by rfl) (by rfl) (by rfl) (fun w hSw => ?_) ?_
      rotate_left
      · (try simp only [heldBy] at hSw); go_simp; any_goals (with_reducible rfl)
      simp only [Act.put, List.setIfInBounds_toArray, List.set_cons_zero, List.set_cons_succ]
      refine heldM_take ?_ (by rfl) (by rfl) (by rfl) (fun w hSw => ?_) ?_
      rotate_left
      · (try simp only [heldBy] at hSw); go_simp; any_goals (with_reducible rfl)
      simp only [Act.put, List.setIfInBounds_toArray, List.set_cons_zero, List.set_cons_succ]
      refine heldM_take ?_ (by rfl) (by rfl) (by rfl) (fun w hSw => ?_) ?_
      rotate_left
      · (try simp only [heldBy] at hSw); go_simp; any_goals (with_reducible rfl)
      simp only [Act.put, List.setIfInBounds_toArray, List.set_cons_zero, List.set_cons_succ]
      refine heldM_take ?_ (by rfl) (by rfl) (by rfl) (fun w hSw => ?_) ?_
      rotate_left
      · (try simp only [heldBy] at hSw); go_simp; any_goals (with_reducible rfl)
      simp only [Act.put, List.setIfInBounds_toArray, List.set_cons_zero, List.set_cons_succ]
      refine heldM_step (by rfl) (by rfl) (by rfl) (fun K hK => ?_)
      go_simp
      refine (hkw _).mono ?_
      rintro e w5 ⟨rfl, hw5⟩
      have hm5 : New w4 w5 := by rw [hw5]; exact ((Mod.refl _ w4).drewN 1).alloc _
      have hbx5 := HBX.out.mod hm5 (fun e => e)
      have k1 : w5.cell? ⟨xb, 1, none⟩ = some (.int .i64 l.kind) := (hbx5.cell 1).trans rfl
      have k2 : w5.cell? ⟨xb, 2, none⟩ = some (.int .i64 l.most) := (hbx5.cell 2).trans rfl
      have hxl5 := hbx5.lt
      have hit := hit w5 (hm4w.trans hm5)
      clear hw5 hkw
      go_wp2_with fail
      refine hK.out _ _ ⟨trivial, k1, k2⟩ (fun hHeld => ?_)
      clear hK K
      try simp only [Act.put, List.setIfInBounds_toArray, List.set_cons_zero, List.set_cons_succ]
      refine heldM_take ?_ (by rfl) (by rfl) (by rfl) (fun w hSw => ?_) ?_
      rotate_left
      · (try simp only [heldBy] at hSw); go_simp; any_goals (with_reducible rfl)
      simp only [Act.put, List.setIfInBounds_toArray, List.set_cons_zero, List.set_cons_succ]
      refine heldM_step (by rfl) (by rfl) (by rfl) (fun K hK => ?_)
      go_simp
      refine hit.mono ?_
      clear hit
      rintro e w6 ⟨rfl, hm6⟩
      have hbx6 := hbx5.mod hm6 (fun e => e)
      have j1 : w6.cell? ⟨xb, 1, none⟩ = some (.int .i64 l.kind) := (hbx6.cell 1).trans rfl
      have j2 : w6.cell? ⟨xb, 2, none⟩ = some (.int .i64 l.most) := (hbx6.cell 2).trans rfl
      have j0 := hbx6.cell 0
      have j3 := hbx6.cell 3
      simp at j0 j3
      have hxl6 := hbx6.lt
      have hm6w : New w1 w6 := (hm4.trans hm5).trans hm6
      have HO6 := Lib.hid (HO4.out.new (hm5.trans hm6))
      have HBX6 := Lib.hid hbx6
      have hvx6 := HX.out.mod hm6w (fun e => e)
      have HVX6 := Lib.hid hvx6
      go_wp2_with fail
      refine hK.out _ _ ⟨trivial, trivial, j1, j2⟩ (fun hHeld => ?_)
      clear hK K x1 x2 k1 k2 hbx5 hbx6 hHeld hvx6
      try simp only [Act.put, List.setIfInBounds_toArray, List.set_cons_zero, List.set_cons_succ]
      refine heldM_nil ?_
      by_cases hper : l.per = 0
      · have hp0 : ¬ 0 < l.per := by omega
        have HHD : Hid (hdOf l = ⟨xlim ++ l.key, (kindWord l.kind ++ ⟨#[32]⟩) ++ itoaB l.most⟩) := Lib.hid (by unfold hdOf hdVal; rw [if_pos hper])
        clear hper
        go_upto_region 10 with (at_builtin; refine wpList_push rfl _ _ _ rfl 32 Tryd.underlying33 einfo_hd rfl (HO6.out.alloc _) ⟨xlim ++ l.key, (kindWord l.kind ++ ⟨#[32]⟩) ++ itoaB l.most⟩ w6.heap.size rfl (Blk.new _ _ _) (fun j hj => HdD.one _ j hj) (by omega) (by omega) (by have := hm6w.size; simp; omega) ?_; intro g7 cap7 w7 own7 hm7 hat7 hlt7)
        have hfar7 : ∀ i, blkOf A2 = some i → w1.heap.size ≤ i ∧ TB (w6) i 41 := fun i e => by
          rcases HO6.out.blk with ⟨hA, _⟩ | ⟨g3, hA, hB3, ht3⟩
          · rw [hA] at e; cases e
          · rw [hA] at e; injection e with e; subst e; exact ⟨hB3, ht3⟩
        have hmz7 : Mod (fun i => blkOf A2 = some i) w6 w7 := Mod.step ((Mod.refl _ w6).alloc _) hm7 (fun i hi e => e)
        have hbx7 := HBX6.out.mod hmz7 (fun e => (hfar7 _ e).2.ne HBX6.out.tb (by decide) rfl)
        have hvx7 := HVX6.out.mod hmz7 (fun e => (hfar7 _ e).2.ne HVX6.out.tb (by decide) rfl)
        have y0 := hbx7.cell 0
        have y1 := hvx7.cell 1
        simp at y0 y1
        have l1 := hbx7.lt
        have l2 := hvx7.lt
        have hn7 : New w1 w7 := (hm6w.alloc _).step hm7 (fun i hi e => by have := (hfar7 i e).1; omega)
        have HOW7 : Hid (HdOwn w7 w1.heap.size (some ⟨g7, 0, none⟩) (k + 1) cap7 ((ls.take (k + 1)).map hdOf)) := Lib.hid (by rw [HTK.out, HHD.out]; exact own7)
        clear hm7 hmz7 own7 hbx7 hvx7 hfar7
        cases hb with
        | true =>
          go_wp2_with fail
          exact ⟨⟨k + 1, cap7, some ⟨g7, 0, none⟩, by omega, by go_num, rfl, by rw [HHA.out]; rfl, HOW7, hn7⟩, by simp [intOf]; omega⟩
        | false =>
          go_wp2_with fail
          exact ⟨⟨k + 1, cap7, some ⟨g7, 0, none⟩, by omega, by go_num, rfl, by rw [HHA.out]; rfl, HOW7, hn7⟩, by simp [intOf]; omega⟩
      · have hp0 : 0 < l.per := by
          rcases Decidable.em (l.kind = 4) with e | e
          · exact absurd (hpz e) hper
          · have := hpe e; omega
        have HHD : Hid (hdOf l = ⟨xlim ++ l.key, ((kindWord l.kind ++ ⟨#[32]⟩) ++ itoaB l.most) ++ (⟨#[47]⟩ ++ itoaB l.per)⟩) := Lib.hid (by unfold hdOf hdVal; rw [if_neg hper])
        have i64p : I64 l.per := ⟨by have := hsm.2.2.1; omega, by have := hsm.2.2.1; omega⟩
        have z6 := itoaB_size i64p
        have z7 : ¬ 9223372036854775807 < 1 + (itoaB l.per).size := by omega
        have z8 : ¬ 9223372036854775807 < (kindWord l.kind).size + 1 + (itoaB l.most).size + (1 + (itoaB l.per).size) := by omega
        have hip := itoa_any l.per i64p w6 (HT.out.new (hA1.trans hm6w))
        clear hper
        go_upto_region 9 with (first | (go_at_call 21; refine hip.mono ?_; clear hip; rintro e w8 ⟨rfl, hm8⟩; have hm8w : New w1 w8 := hm6w.trans hm8))
        have HO8 := Lib.hid (HO6.out.new hm8)
        have hbx8 := HBX6.out.mod hm8 (fun e => e)
        have HBX8 := Lib.hid hbx8
        have HVX8 := Lib.hid (HVX6.out.mod hm8 (fun e => e))
        have j0' := hbx8.cell 0
        simp at j0'
        have hxl8 := hbx8.lt
        clear HO6 j0 j3 hxl6 hm6w j1 j2
        go_upto_region 10 with (at_builtin; refine wpList_push rfl _ _ _ rfl 32 Tryd.underlying33 einfo_hd rfl (HO8.out.alloc _) ⟨xlim ++ l.key, ((kindWord l.kind ++ ⟨#[32]⟩) ++ itoaB l.most) ++ (⟨#[47]⟩ ++ itoaB l.per)⟩ w8.heap.size rfl (Blk.new _ _ _) (fun j hj => HdD.one _ j hj) (by omega) (by omega) (by have := hm8w.size; simp; omega) ?_; intro g7 cap7 w7 own7 hm7 hat7 hlt7)
        have hfar7 : ∀ i, blkOf A2 = some i → w1.heap.size ≤ i ∧ TB (w8) i 41 := fun i e => by
          rcases HO8.out.blk with ⟨hA, _⟩ | ⟨g3, hA, hB3, ht3⟩
          · rw [hA] at e; cases e
          · rw [hA] at e; injection e with e; subst e; exact ⟨hB3, ht3⟩
        have hmz7 : Mod (fun i => blkOf A2 = some i) w8 w7 := Mod.step ((Mod.refl _ w8).alloc _) hm7 (fun i hi e => e)
        have hbx7 := HBX8.out.mod hmz7 (fun e => (hfar7 _ e).2.ne HBX8.out.tb (by decide) rfl)
        have hvx7 := HVX8.out.mod hmz7 (fun e => (hfar7 _ e).2.ne HVX8.out.tb (by decide) rfl)
        have y0 := hbx7.cell 0
        have y1 := hvx7.cell 1
        simp at y0 y1
        have l1 := hbx7.lt
        have l2 := hvx7.lt
        have hn7 : New w1 w7 := (hm8w.alloc _).step hm7 (fun i hi e => by have := (hfar7 i e).1; omega)
        have HOW7 : Hid (HdOwn w7 w1.heap.size (some ⟨g7, 0, none⟩) (k + 1) cap7 ((ls.take (k + 1)).map hdOf)) := Lib.hid (by rw [HTK.out, HHD.out]; exact own7)
        clear hm7 hmz7 own7 hbx7 hvx7 hfar7
        cases hb with
        | true =>
          go_wp2_with fail
          exact ⟨⟨k + 1, cap7, some ⟨g7, 0, none⟩, by omega, by go_num, rfl, by rw [HHA.out]; rfl, HOW7, hn7⟩, by simp [intOf]; omega⟩
        | false =>
          go_wp2_with fail
          exact ⟨⟨k + 1, cap7, some ⟨g7, 0, none⟩, by omega, by go_num, rfl, by rw [HHA.out]; rfl, HOW7, hn7⟩, by simp [intOf]; omega⟩
    · obtain rfl : k = n := by omega
      have HOWn : Hid (HdOwn wr w1.heap.size A2 k c2 (ls.map hdOf)) := Lib.hid (by have := HOW.out; rwa [List.take_of_length_le (by omega)] at this)
      rw [List.take_of_length_le (show ls.length ≤ k by omega)]
      have hxr := HX.out.mod hmr (fun e => e)
      have x0 := hxr.cell 0
      have x1 := hxr.cell 1
      have x2 := hxr.cell 2
      simp at x0 x1 x2
      have hxrl := hxr.lt
      clear HOW
      cases ok with
      | true =>
        by_cases hw0 : wait = 0
        case neg =>
          have HE : Hid (linesE ls ⟨true, by_, wait⟩ = 3) := Lib.hid (by unfold linesE; simp [hw0])
          have hw1 : (wait != 0) = true := by simpa using hw0
          cases hb : (by_.toList == []) with
          | true =>
            go_wp2_with fail
            go_ret2
            exact ⟨.inl ⟨by rw [HE.out]; decide, by rw [HE.out]; rfl⟩, hmrw⟩
          | false =>
            go_wp2_with fail
            go_ret2
            exact ⟨.inl ⟨by rw [HE.out]; decide, by rw [HE.out]; rfl⟩, hmrw⟩
        case pos =>
        subst hw0
        cases hb : (by_.toList == []) with
        | false =>
          have hb' : ¬ by_.toList = [] := by simpa using hb
          have HE : Hid (linesE ls ⟨true, by_, 0⟩ = 3) := Lib.hid (by unfold linesE; simp [hb'])
          clear hb'
          go_wp2_with fail
          go_ret2
          exact ⟨.inl ⟨by rw [HE.out]; decide, by rw [HE.out]; rfl⟩, hmrw⟩
        | true =>
          have hb' : by_.toList = [] := by simpa using hb
          have HE : Hid (linesE ls ⟨true, by_, 0⟩ = 0) := Lib.hid (by unfold linesE; simp [hb', inW])
          clear hb'
          go_wp2_with fail
          go_ret2
          refine ⟨.inr ⟨HE.out, A2, k, c2, rfl, ?_⟩, hmrw⟩
          have : linesL ls ⟨true, by_, 0⟩ = ls.map hdOf := by unfold linesL tailH; simp
          rw [this]
          exact HOWn.out.less (by have := hA1.size; omega)
      | false =>
        cases hh : hasL ls ⟨false, by_, wait⟩ with
        | false =>
          have HE : Hid (linesE ls ⟨false, by_, wait⟩ = 8) := Lib.hid (by unfold linesE; simp [hh])
          go_wp2_with fail
          go_ret2
          exact ⟨.inl ⟨by rw [HE.out]; decide, by rw [HE.out]; rfl⟩, hmrw⟩
        | true =>
        have hou := ref1_in wait (-1) 345686400000
        have e1 : (decide (-1 ≤ wait) && decide (wait ≤ 345686400000)) = inW wait := rfl
        rw [e1] at hou
        clear e1
        cases hi : inW wait with
        | false =>
          rw [hi] at hou
          have HE : Hid (linesE ls ⟨false, by_, wait⟩ = 1) := Lib.hid (by unfold linesE; simp [hh, hi])
          clear hi
          go_wp2_with (first | (go_at_call 28; refine (hou _).mono ?_; clear hou; rintro e w4 ⟨rfl, rfl⟩))
          go_ret2
          exact ⟨.inl ⟨by rw [HE.out]; decide, by rw [HE.out]; rfl⟩, hmrw⟩
        | true =>
        rw [hi] at hou
        have HE : Hid (linesE ls ⟨false, by_, wait⟩ = 0) := Lib.hid (by unfold linesE; simp [hh, hi])
        have hw : -1 ≤ wait ∧ wait ≤ 345686400000 := by unfold inW at hi; simpa using hi
        clear hi hh
        go_upto_region 20 with (first | (go_at_call 28; refine (hou _).mono ?_; clear hou; rintro e w4 ⟨rfl, rfl⟩))
        by_cases hw1 : wait = -1
        · have hw2 : ¬ 0 ≤ wait := by omega
          have HWS : Hid (waitS wait = ⟨#[110, 101, 118, 101, 114]⟩) := Lib.hid (by unfold waitS; rw [if_pos hw1])
          clear hw1
          go_wp2_with (at_builtin; refine wpList_pushAll rfl _ _ _ rfl 32 Tryd.underlying33 einfo_hd rfl (HOWn.out.alloc _) [⟨⟨#[114, 101, 116, 114, 121, 45, 97, 102, 116, 101, 114]⟩, ⟨#[110, 101, 118, 101, 114]⟩⟩, ⟨⟨#[120, 45, 108, 105, 109, 105, 116, 101, 100, 45, 98, 121]⟩, by_⟩] wr.heap.size 0 2 2 rfl (Sl.of_blk (Blk.new _ _ _) rfl (fun i hi j hj => by rcases (by simp at hi; omega : i = 0 ∨ i = 1) with rfl | rfl <;> rcases (by omega : j = 0 ∨ j = 1) with rfl | rfl <;> rfl)) (by omega) (fun y _ j hj => HdD.one y j hj) (by omega) (by omega) (by have := hmr.size; simp; omega) ?_; intro g7 cap7 w7 own7 hm7 hat7 hlt7)
          go_ret2
          refine ⟨.inr ⟨HE.out, some ⟨g7, 0, none⟩, k + 2, cap7, rfl, ?_⟩, ?_⟩
          · have : linesL ls ⟨false, by_, wait⟩ = ls.map hdOf ++ [⟨⟨#[114, 101, 116, 114, 121, 45, 97, 102, 116, 101, 114]⟩, ⟨#[110, 101, 118, 101, 114]⟩⟩, ⟨⟨#[120, 45, 108, 105, 109, 105, 116, 101, 100, 45, 98, 121]⟩, by_⟩] := by unfold linesL tailH; rw [HWS.out]; rfl
            rw [this]
            exact own7.less (by have := hA1.size; omega)
          · exact (hA1.trans hmr |>.alloc _).step hm7 (fun i hi e => by have := (HOWn.out.far i e).1; have := hA1.size; omega)
        · have hw2 : 0 ≤ wait := by omega
          have HWS : Hid (waitS wait = itoaB (upDiv wait 1000)) := Lib.hid (by unfold waitS; rw [if_neg hw1])
          have hud := upDiv_bd wait 1000 (by omega) (by omega)
          have huq := upDiv_quo wait 1000 (by omega) (by omega)
          have hq1 : (wait + 999).tdiv 1000 = upDiv wait 1000 := by rw [Int.tdiv_eq_ediv_of_nonneg (by omega), ← huq]; congr 1; omega
          have hq2 : (wait + 999) / 1000 = upDiv wait 1000 := by rw [← huq]; congr 1; omega
          have hiw := itoa_any (upDiv wait 1000) ⟨by omega, by omega⟩ wr (HT.out.new hmrw)
          clear hw1 huq
          go_upto_region 23 with (first | (go_at_call 21; refine hiw.mono ?_; clear hiw; rintro e w8 ⟨rfl, hm8⟩))
          have hm8r : New w1 w8 := hmr.trans hm8
          have HO8 := Lib.hid (HOWn.out.new hm8)
          have hx8 := hxr.mod hm8 (fun e => e)
          have x18 := hx8.cell 1
          simp at x18
          have hx8l := hx8.lt
          clear x0 x1 x2
          go_wp2_with (at_builtin; refine wpList_pushAll rfl _ _ _ rfl 32 Tryd.underlying33 einfo_hd rfl (HO8.out.alloc _) [⟨⟨#[114, 101, 116, 114, 121, 45, 97, 102, 116, 101, 114]⟩, itoaB (upDiv wait 1000)⟩, ⟨⟨#[120, 45, 108, 105, 109, 105, 116, 101, 100, 45, 98, 121]⟩, by_⟩] w8.heap.size 0 2 2 rfl (Sl.of_blk (Blk.new _ _ _) rfl (fun i hi j hj => by rcases (by simp at hi; omega : i = 0 ∨ i = 1) with rfl | rfl <;> rcases (by omega : j = 0 ∨ j = 1) with rfl | rfl <;> rfl)) (by omega) (fun y _ j hj => HdD.one y j hj) (by omega) (by omega) (by have := hm8r.size; simp; omega) ?_; intro g7 cap7 w7 own7 hm7 hat7 hlt7)
          go_ret2
          refine ⟨.inr ⟨HE.out, some ⟨g7, 0, none⟩, k + 2, cap7, rfl, ?_⟩, ?_⟩
          · have : linesL ls ⟨false, by_, wait⟩ = ls.map hdOf ++ [⟨⟨#[114, 101, 116, 114, 121, 45, 97, 102, 116, 101, 114]⟩, itoaB (upDiv wait 1000)⟩, ⟨⟨#[120, 45, 108, 105, 109, 105, 116, 101, 100, 45, 98, 121]⟩, by_⟩] := by unfold linesL tailH; rw [HWS.out]; rfl
            rw [this]
            exact own7.less (by have := hA1.size; omega)
          · exact (hA1.trans hm8r |>.alloc _).step hm7 (fun i hi e => by have := (HO8.out.far i e).1; have := hA1.size; omega)

end Go.Proofs.YtinnckbffblecaaDoor
