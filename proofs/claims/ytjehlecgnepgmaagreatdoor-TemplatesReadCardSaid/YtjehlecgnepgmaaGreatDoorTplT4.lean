/- The reference's text of a template (TemplateFrom). Conditions: names of at most 1000 bytes. -/
import Derived.Test.YtjehlecgnepgmaaGreatDoorTplT3
import Derived.Test.YtjehlecgnepgmaaGreatDoorTplR4
import Derived.Test.YtjehlecgnepgmaaGreatDoorMap3J
namespace Go.Proofs.YtjehlecgnepgmaaGreatDoor
open Go.RowKit
set_option linter.unusedVariables false
set_option linter.unusedSimpArgs false

theorem heldG_step {P : Program} {ops : Array Oper} {Q : Exit → Act → World → Prop} {S : World → Prop} {cs : List Nat} {L : Act → World → Prop} {k : Nat} {o : Oper} {l : List Nat} {a : Act} {w : World} (hk : cs.contains k = true) (ho : ops[k]? = some o) (hg : Region.wanted o (yielded ops a.tmps) = true)
    (h : ∀ K : Act → World → Prop, Shut (∀ a' w', S w' → (S w' → wpHeldO P ops Q S cs L l a' w') → K a' w') → o.wp P a w K Q) : wpHeldO P ops Q S cs L (k :: l) a w := by
  unfold wpHeldO
  rw [if_pos hk]
  unfold wpOp
  simp only [ho]
  rw [if_pos hg]
  exact .inl (h _ (fun a' w' h1 h2 => ⟨h1, h2 h1⟩))
set_option maxRecDepth 100000 in
set_option maxHeartbeats 700000 in
theorem ref_templateFrom (A : Option Addr) (n c : Nat) (ps : List PartD) (w : World) (hps : PSl w A n ps) (hnc : n ≤ c) (hn : n ≤ 100000) (hsh : PMild ps) :
    Calls Tryz.prog 11 #[.slice A n c] w (RTxt (templateText ps) w) := by
  have hl := hps.1
  by_cases h0 : n = 0
  · subst h0
    have HQ : Hid (templateText ps = (3, [])) := Lib.hid (by unfold templateText; rw [if_pos (by omega)])
    clear hl hps
    go_enter Tryz.func11, Tryz.ntmps11
    go_wp2_with fail
    go_ret2
    exact RTxt.fault HQ.out (Mod.refl _ _)
  have h0' : ((n : Int) == 0) = false := by simp; omega
  by_cases h30 : 30 < n
  · have h30' : (30 : Int) < (n : Int) := by omega
    have HQ : Hid (templateText ps = (2, [])) := Lib.hid (by unfold templateText; rw [if_neg (by omega), if_pos (by omega)])
    clear hl hps h0
    go_enter Tryz.func11, Tryz.ntmps11
    go_wp2_with fail
    go_ret2
    exact RTxt.fault HQ.out (Mod.refl _ _)
  have h30' : ¬ (30 : Int) < (n : Int) := by omega
  have HPS := Lib.hid hps
  have HSH := Lib.hid hsh
  have HLN := Lib.hid hl
  clear hps hsh
  go_enter Tryz.func11, Tryz.ntmps11
  go_wp2_with fail
  go_loopw [4, 17] (fun s i wr => ∃ (k : Nat) (out : ByteArray), k ≤ n ∧ i = .int .i64 k ∧ s = .string out ∧ Hid (partsText ps [] [] = partsText (ps.drop k) (ps.take k) out.data.toList) ∧ Hid (out.size ≤ 3010 * k) ∧ Hid (New w wr)) (fun _ i _ => n - (intOf i).toNat)
  case atStart => exact ⟨0, ⟨#[]⟩, Nat.zero_le _, rfl, rfl, Lib.hid rfl, Lib.hid (Nat.zero_le _), Lib.hid (Mod.refl _ _)⟩
  case round =>
    rename World => wr
    obtain ⟨k, out, hk, rfl, rfl, HT, HZ, HM⟩ := hrel
    by_cases hlt : k < n
    · have hkp : k < ps.length := by omega
      have hst := text_stop (by omega) (by omega) hkp HT.out
      have hsp := text_step hkp HT.out
      have hzt := partText_length (HSH.out _ (List.getElem_mem hkp))
      have hHP := fun (W : World) (h : New w W) (x : ByteArray) => ref_hasParam A k c (ps.take k) x W ((HPS.out.take (by omega)).new h) (by omega)
      obtain ⟨g, o, hA, htb, hc⟩ := (HPS.out.new HM.out).2 (by omega)
      have hgl := htb.lt
      have c0 := hc k hkp 0 (by decide)
      have c1 := hc k hkp 1 (by decide)
      have hnz := HSH.out _ (List.getElem_mem hkp)
      have hlast : (decide (k + 1 = ps.length) = false) ↔ (k : Int) < (n : Int) - 1 := by rw [decide_eq_false_iff_not]; omega
      have HTK := Lib.hid hHP
      clear hHP
      generalize ps.take k = before at *
      generalize ps[k] = p at *
      generalize decide (k + 1 = ps.length) = last at *
      obtain ⟨pk, pn⟩ := p
      rw [partBad_arg] at hst hsp
      simp only [PartD.enc, Nat.add_zero] at c0 c1
      simp only at hnz
      have HST := Lib.hid hst
      have HSP := Lib.hid hsp
      have HLAST := Lib.hid hlast
      clear hst hsp hc htb HT hlast
      subst hA
      have hb1 : (0 : Int) ≤ k := by omega
      have hb2 : (k : Int) < n := by omega
      have hb3 : (k : Int) ≤ n := by omega
      have hb4 : (k : Int) ≤ c := by omega
      have hbx := Blk.new wr 34 #[.int .i64 pk, .string pn]
      have hmx : New wr (wr.alloc (.cells #[.int .i64 pk, .string pn] 34)) := (Mod.refl _ _).alloc _
      go_upto_region 9 with fail
      have HX := Lib.hid hbx
      have HM1 : Hid (New w _) := Lib.hid (HM.out.trans hmx)
      clear hbx hmx HM c0 c1
      have HM := HM1
      clear HM1
      generalize wr.alloc (.cells #[.int .i64 pk, .string pn] 34) = w1 at *
      generalize wr.heap.size = xb at *
      have ho := ref1_in pk 1 3 w1
      have x0 := HX.out.cell 0
      have x1 := HX.out.cell 1
      have xl := HX.out.lt
      simp only [List.getElem?_toArray, List.getElem?_cons_zero, List.getElem?_cons_succ] at x0 x1
      by_cases h1 : (decide (1 ≤ pk) && decide (pk ≤ 3)) = true
      rotate_left
      · have h1' : (decide (1 ≤ pk) && decide (pk ≤ 3)) = false := by simpa using h1
        rw [h1'] at ho
        have hbad : badArg pk pn before last = 4 := by
          unfold badArg
          rw [if_pos (by simp only [Bool.and_eq_false_iff, decide_eq_false_iff_not] at h1'; simp only [Bool.or_eq_true, decide_eq_true_eq]; omega)]
        have HE := HST.out (by rw [hbad]; decide)
        rw [hbad] at HE
        clear h1 h1' hbad
        go_wp2_with (first | (refine ho.mono ?_; clear ho; rintro e w' ⟨rfl, rfl⟩))
        go_ret2
        exact RTxt.fault HE HM.out
      · rw [h1] at ho
        have hp3 : 1 ≤ pk ∧ pk ≤ 3 := by
          simp only [Bool.and_eq_true, decide_eq_true_eq] at h1
          exact h1
        have hQ1 : badArg pk pn before last = if pk = 1 then (if dotsL pn.data.toList = true then 5 else 0)
            else if isWord pn.data.toList = false then 5
            else if hasP before pn = true then 6
            else if pk = 3 ∧ last = false then 7
            else 0 := by
          unfold badArg
          rw [if_neg (by simp only [Bool.or_eq_true, decide_eq_true_eq]; omega)]
        clear h1
        by_cases hk1 : pk = 1
        · subst hk1
          rw [if_pos rfl] at hQ1
          have b1 := beq_const pn [46]
          have b2 := beq_const pn [46, 46]
          unfold dotsL at hQ1
          generalize decide (pn.data.toList = [46]) = q1 at *
          generalize decide (pn.data.toList = [46, 46]) = q2 at *
          cases q1
          · cases q2
            · have hB : badArg 1 pn before last = 0 := hQ1
              clear hQ1
              go_upto_region 14 with (first | (refine ho.mono ?_; clear ho; rintro e w' ⟨rfl, rfl⟩))
              go_quiet (fail)
              go_upto_region 18 with fail
              rename_i nq
              have hmq : New w1 (w1.drewN nq) := (Mod.refl _ _).drewN _
              clear x0 x1 xl
              have HX1 := Lib.hid (HX.out.new2 hmq)
              have HM1 : Hid (New w _) := Lib.hid (HM.out.trans hmq)
              clear HX HM
              have HX := HX1
              have HM := HM1
              clear HX1 HM1
              clear hmq
              generalize w1.drewN nq = w4 at *
              have HS : Hid (∀ W, New w4 W → W.cell? ⟨xb, 0, none⟩ = some (.int .i64 1) ∧ W.cell? ⟨xb, 1, none⟩ = some (.string pn) ∧ xb < W.heap.size) := Lib.hid (fun W hW => by
                have h := HX.out.new2 hW
                exact ⟨(h.cell 0).trans rfl, (h.cell 1).trans rfl, h.lt⟩)
              have hseg := fun W => ref_segmentText pn W (by omega)
              have hTz : (⟨(segL pn.data.toList).toArray⟩ : ByteArray).size ≤ 3000 := by
                have h2 := segL_length pn.data.toList
                have h3 : pn.data.toList.length = pn.size := rfl
                show (segL pn.data.toList).toArray.size ≤ 3000
                simp only [List.size_toArray]
                omega
              have HTT : Hid ((⟨(segL pn.data.toList).toArray⟩ : ByteArray).data.toList = segL pn.data.toList) := Lib.hid rfl
              generalize (⟨(segL pn.data.toList).toArray⟩ : ByteArray) = T at *
              have HSEG := Lib.hid hseg
              clear hseg
              have e1 : (⟨#[123]⟩ : ByteArray).size = 1 := rfl
              have e2 : (⟨#[125]⟩ : ByteArray).size = 1 := rfl
              have e3 : (⟨#[42, 125]⟩ : ByteArray).size = 2 := rfl
              have e4 : (⟨#[47]⟩ : ByteArray).size = 1 := rfl
              have hXz : (T : ByteArray).size ≤ 3000 := by (try simp only [ByteArray.size_append]); omega
              have hoz : out.size ≤ 200000 := by have := HZ.out; omega
              have HS1 : Hid (partsText ps [] [] = partsText (ps.drop (k + 1)) (ps.take (k + 1)) (out ++ (⟨#[47]⟩ ++ (T : ByteArray))).data.toList) := Lib.hid (by
                rw [HSP.out hB, cat_list, cat_list]
                (try simp only [cat_list])
                (try rw [HTT.out])
                rfl)
              have HZ1 : Hid ((out ++ (⟨#[47]⟩ ++ (T : ByteArray))).size ≤ 3010 * (k + 1)) := Lib.hid (by rw [ByteArray.size_append, ByteArray.size_append]; have := HZ.out; omega)
              clear e1 e2 e3 e4 hXz hB
              refine wp_region_held_drew (S := fun W => W.cell? ⟨xb, 0, none⟩ = some (.int .i64 1) ∧ W.cell? ⟨xb, 1, none⟩ = some (.string pn) ∧ xb < W.heap.size) (by kernel_rfl) (HS.out _ (Mod.refl _ _).drew) (fun hHeld => ?_)
              refine wpAnyH_take (i := 0) (v := ?_) rfl (by kernel_rfl) (by kernel_rfl) (by kernel_rfl) (fun _ _ _ h => h) (Or.inl ⟨by rfl, fun W hSw => ?_⟩) (by assumption) ?_
              rotate_left
              · (try dsimp only at hSw); (try simp only [List.getElem_toArray, List.getElem_cons_zero, List.getElem_cons_succ]); go_simp; any_goals (with_reducible rfl)
              simp only [Act.put, List.getElem_toArray, List.getElem_cons_zero, List.getElem_cons_succ, List.setIfInBounds_toArray, List.set_cons_zero, List.set_cons_succ]
              refine wpAnyH_take (i := 2) (v := ?_) rfl (by kernel_rfl) (by kernel_rfl) (by kernel_rfl) (fun _ _ _ h => h) (Or.inl ⟨by rfl, fun W hSw => ?_⟩) (by assumption) ?_
              rotate_left
              · (try dsimp only at hSw); (try simp only [List.getElem_toArray, List.getElem_cons_zero, List.getElem_cons_succ]); go_simp; any_goals (with_reducible rfl)
              simp only [Act.put, List.getElem_toArray, List.getElem_cons_zero, List.getElem_cons_succ, List.setIfInBounds_toArray, List.set_cons_zero, List.set_cons_succ]
              refine wpAnyH_take (i := 3) (v := ?_) rfl (by kernel_rfl) (by kernel_rfl) (by kernel_rfl) (fun _ _ _ h => h) (Or.inl ⟨by rfl, fun W hSw => ?_⟩) (by assumption) ?_
              rotate_left
              · (try dsimp only at hSw); (try simp only [List.getElem_toArray, List.getElem_cons_zero, List.getElem_cons_succ]); go_simp; any_goals (with_reducible rfl)
              simp only [Act.put, List.getElem_toArray, List.getElem_cons_zero, List.getElem_cons_succ, List.setIfInBounds_toArray, List.set_cons_zero, List.set_cons_succ]
              refine wpAnyH_take (i := 6) (v := ?_) rfl (by kernel_rfl) (by kernel_rfl) (by kernel_rfl) (fun _ _ _ h => h) (Or.inl ⟨by rfl, fun W hSw => ?_⟩) (by assumption) ?_
              rotate_left
              · (try dsimp only at hSw); (try simp only [List.getElem_toArray, List.getElem_cons_zero, List.getElem_cons_succ]); go_simp; any_goals (with_reducible rfl)
              simp only [Act.put, List.getElem_toArray, List.getElem_cons_zero, List.getElem_cons_succ, List.setIfInBounds_toArray, List.set_cons_zero, List.set_cons_succ]
              refine wpAnyH_take (i := 7) (v := ?_) rfl (by kernel_rfl) (by kernel_rfl) (by kernel_rfl) (fun _ _ _ h => h) (Or.inl ⟨by rfl, fun W hSw => ?_⟩) (by assumption) ?_
              rotate_left
              · (try dsimp only at hSw); (try simp only [List.getElem_toArray, List.getElem_cons_zero, List.getElem_cons_succ]); go_simp; any_goals (with_reducible rfl)
              simp only [Act.put, List.getElem_toArray, List.getElem_cons_zero, List.getElem_cons_succ, List.setIfInBounds_toArray, List.set_cons_zero, List.set_cons_succ]
              refine wpAnyH_take (i := 8) (v := ?_) rfl (by kernel_rfl) (by kernel_rfl) (by kernel_rfl) (fun _ _ _ h => h) (Or.inl ⟨by rfl, fun W hSw => ?_⟩) (by assumption) ?_
              rotate_left
              · (try simp only [List.getElem_toArray, List.getElem_cons_zero, List.getElem_cons_succ]); go_simp; rw [if_neg (by (try simp [ByteArray.size_append]); omega)]
              simp only [Act.put, List.getElem_toArray, List.getElem_cons_zero, List.getElem_cons_succ, List.setIfInBounds_toArray, List.set_cons_zero, List.set_cons_succ]
              refine wpAnyH_take (i := 9) (v := ?_) rfl (by kernel_rfl) (by kernel_rfl) (by kernel_rfl) (fun _ _ _ h => h) (Or.inl ⟨by rfl, fun W hSw => ?_⟩) (by assumption) ?_
              rotate_left
              · (try simp only [List.getElem_toArray, List.getElem_cons_zero, List.getElem_cons_succ]); go_simp; rw [if_neg (by (try simp [ByteArray.size_append]); omega)]
              simp only [Act.put, List.getElem_toArray, List.getElem_cons_zero, List.getElem_cons_succ, List.setIfInBounds_toArray, List.set_cons_zero, List.set_cons_succ]
              refine wpAnyH_take (i := 11) (v := ?_) rfl (by kernel_rfl) (by kernel_rfl) (by kernel_rfl) (fun _ _ _ h => h) (Or.inl ⟨by rfl, fun W hSw => ?_⟩) (by assumption) ?_
              rotate_left
              · (try dsimp only at hSw); (try simp only [List.getElem_toArray, List.getElem_cons_zero, List.getElem_cons_succ]); go_simp; any_goals (with_reducible rfl)
              simp only [Act.put, List.getElem_toArray, List.getElem_cons_zero, List.getElem_cons_succ, List.setIfInBounds_toArray, List.set_cons_zero, List.set_cons_succ]
              refine wpAnyH_take (i := 12) (v := ?_) rfl (by kernel_rfl) (by kernel_rfl) (by kernel_rfl) (fun _ _ _ h => h) (Or.inl ⟨by rfl, fun W hSw => ?_⟩) (by assumption) ?_
              rotate_left
              · (try dsimp only at hSw); (try simp only [List.getElem_toArray, List.getElem_cons_zero, List.getElem_cons_succ]); go_simp; any_goals (with_reducible rfl)
              simp only [Act.put, List.getElem_toArray, List.getElem_cons_zero, List.getElem_cons_succ, List.setIfInBounds_toArray, List.set_cons_zero, List.set_cons_succ]
              refine wpAnyH_take (i := 13) (v := ?_) rfl (by kernel_rfl) (by kernel_rfl) (by kernel_rfl) (fun _ _ _ h => h) (Or.inl ⟨by rfl, fun W hSw => ?_⟩) (by assumption) ?_
              rotate_left
              · (try simp only [List.getElem_toArray, List.getElem_cons_zero, List.getElem_cons_succ]); go_simp; rw [if_neg (by (try simp [ByteArray.size_append]); omega)]
              simp only [Act.put, List.getElem_toArray, List.getElem_cons_zero, List.getElem_cons_succ, List.setIfInBounds_toArray, List.set_cons_zero, List.set_cons_succ]
              refine wpAnyH_take (i := 14) (v := ?_) rfl (by kernel_rfl) (by kernel_rfl) (by kernel_rfl) (fun _ _ _ h => h) (Or.inl ⟨by rfl, fun W hSw => ?_⟩) (by assumption) ?_
              rotate_left
              · (try simp only [List.getElem_toArray, List.getElem_cons_zero, List.getElem_cons_succ]); go_simp; rw [if_neg (by (try simp [ByteArray.size_append]); omega)]
              simp only [Act.put, List.getElem_toArray, List.getElem_cons_zero, List.getElem_cons_succ, List.setIfInBounds_toArray, List.set_cons_zero, List.set_cons_succ]
              refine wpAnyH_take (i := 17) (v := ?_) rfl (by kernel_rfl) (by kernel_rfl) (by kernel_rfl) (fun _ _ _ h => h) (Or.inl ⟨by rfl, fun W hSw => ?_⟩) (by assumption) ?_
              rotate_left
              · (try dsimp only at hSw); (try simp only [List.getElem_toArray, List.getElem_cons_zero, List.getElem_cons_succ]); go_simp; any_goals (with_reducible rfl)
              simp only [Act.put, List.getElem_toArray, List.getElem_cons_zero, List.getElem_cons_succ, List.setIfInBounds_toArray, List.set_cons_zero, List.set_cons_succ]
              refine wpAnyH_take (i := 18) (v := ?_) rfl (by kernel_rfl) (by kernel_rfl) (by kernel_rfl) (fun _ _ _ h => h) (Or.inl ⟨by rfl, fun W hSw => ?_⟩) (by assumption) ?_
              rotate_left
              · (try dsimp only at hSw); (try simp only [List.getElem_toArray, List.getElem_cons_zero, List.getElem_cons_succ]); go_simp; any_goals (with_reducible rfl)
              simp only [Act.put, List.getElem_toArray, List.getElem_cons_zero, List.getElem_cons_succ, List.setIfInBounds_toArray, List.set_cons_zero, List.set_cons_succ]
              have hmd : New w4 w4.drew := (Mod.refl _ _).drew
              refine wpAnyH_map3_at (g := 5) (by kernel_rfl) (L := fun b1 b4 b5 b10 b15 => #[true, b1, true, true, b4, b5, true, true, true, true, b10, true, true, true, true, b15, false, true, true, false, false, false, false]) 1 4 5 10 15 74 77 (J3 w4.drew T (⟨#[123]⟩ ++ pn ++ ⟨#[125]⟩) (⟨#[123]⟩ ++ pn ++ ⟨#[42, 125]⟩)) (by kernel_rfl) (fun _ _ _ _ => rfl) (fun _ _ _ _ => rfl) (fun _ _ _ _ => rfl) (fun _ _ _ _ => rfl) (fun _ _ _ _ => rfl) ?_ ?_ ?_ ?_ ?_ ?_ (fun _ _ => J3.start _ _)
              · intro b4 m t W hJ K hK
                have HJ := Lib.hid hJ.made
                have hSW := HS.out _ ((hmd.trans hJ.new).alloc (.map #[] 0))
                clear hJ
                have hmm := @run_makeMap Tryz.prog
                refine wpOp_of rfl rfl ?_
                simp only [act2, Act.put, List.getElem_toArray, List.getElem_cons_zero, List.getElem_cons_succ, List.setIfInBounds_toArray, List.set_cons_zero, List.set_cons_succ]
                go_simp
                have h := hK.out _ _ hSW HJ.out
                simp only [act2, Act.put, List.getElem_toArray, List.getElem_cons_zero, List.getElem_cons_succ, List.setIfInBounds_toArray, List.set_cons_zero, List.set_cons_succ] at h
                exact h
              · intro b1 b10 b15 m t W hJ K hK
                refine wpOp_of rfl rfl ?_
                simp only [act2, Act.put, List.getElem_toArray, List.getElem_cons_zero, List.getElem_cons_succ, List.setIfInBounds_toArray, List.set_cons_zero, List.set_cons_succ]
                go_simp
                refine (HSEG.out W).mono ?_
                rintro e w' ⟨rfl, hm⟩
                have HJ := Lib.hid (hJ.call hm)
                have hSW := HS.out _ ((hmd.trans hJ.new).trans hm)
                clear hJ hm
                go_wp2_with fail
                have h := hK.out _ _ hSW HJ.out
                simp only [act2, Act.put, List.getElem_toArray, List.getElem_cons_zero, List.getElem_cons_succ, List.setIfInBounds_toArray, List.set_cons_zero, List.set_cons_succ] at h
                exact h
              · intro b10 b15 m t W hJ K hK
                obtain ⟨mb, w', rfl, rfl, hrun, hJ'⟩ := hJ.put1
                have HJ := Lib.hid hJ'
                have hSW := HS.out _ (hmd.trans hJ'.new)
                clear hJ hJ'
                refine wpOp_of rfl rfl ?_
                simp only [act2, Act.put, List.getElem_toArray, List.getElem_cons_zero, List.getElem_cons_succ, List.setIfInBounds_toArray, List.set_cons_zero, List.set_cons_succ]
                go_simp
                have h := hK.out _ hSW HJ.out
                simp only [act2, Act.put, List.getElem_toArray, List.getElem_cons_zero, List.getElem_cons_succ, List.setIfInBounds_toArray, List.set_cons_zero, List.set_cons_succ] at h
                exact h
              · intro b4 b5 b15 m t W hJ K hK
                obtain ⟨mb, w', rfl, hrun, hJ'⟩ := hJ.put2
                have HJ := Lib.hid hJ'
                have hSW := HS.out _ (hmd.trans hJ'.new)
                clear hJ hJ'
                refine wpOp_of rfl rfl ?_
                simp only [act2, Act.put, List.getElem_toArray, List.getElem_cons_zero, List.getElem_cons_succ, List.setIfInBounds_toArray, List.set_cons_zero, List.set_cons_succ]
                go_simp
                have h := hK.out _ hSW HJ.out
                simp only [act2, Act.put, List.getElem_toArray, List.getElem_cons_zero, List.getElem_cons_succ, List.setIfInBounds_toArray, List.set_cons_zero, List.set_cons_succ] at h
                exact h
              · intro b4 b5 b10 m t W hJ K hK
                obtain ⟨mb, w', rfl, hrun, hJ'⟩ := hJ.put3
                have HJ := Lib.hid hJ'
                have hSW := HS.out _ (hmd.trans hJ'.new)
                clear hJ hJ'
                refine wpOp_of rfl rfl ?_
                simp only [act2, Act.put, List.getElem_toArray, List.getElem_cons_zero, List.getElem_cons_succ, List.setIfInBounds_toArray, List.set_cons_zero, List.set_cons_succ]
                go_simp
                have h := hK.out _ hSW HJ.out
                simp only [act2, Act.put, List.getElem_toArray, List.getElem_cons_zero, List.getElem_cons_succ, List.setIfInBounds_toArray, List.set_cons_zero, List.set_cons_succ] at h
                exact h
              · intro m t W hJ
                obtain ⟨mb, rfl, rfl, q1, q2, q3⟩ := hJ.look
                have hHeld := HS.out _ (hmd.trans hJ.new)
                have HM7 : Hid (New w W) := Lib.hid (HM.out.trans (hmd.trans hJ.new))
                clear hJ
                simp only [act2, Act.put, List.getElem_toArray, List.getElem_cons_zero, List.getElem_cons_succ, List.setIfInBounds_toArray, List.set_cons_zero, List.set_cons_succ]
                refine wpAnyH_take (i := 16) (v := ?_) rfl (by kernel_rfl) (by kernel_rfl) (by kernel_rfl) (fun _ _ _ h => h) (Or.inl ⟨by rfl, fun W hSw => ?_⟩) (by assumption) ?_
                rotate_left
                · (try dsimp only at hSw); (try simp only [List.getElem_toArray, List.getElem_cons_zero, List.getElem_cons_succ]); go_simp; any_goals (with_reducible rfl)
                simp only [Act.put, List.getElem_toArray, List.getElem_cons_zero, List.getElem_cons_succ, List.setIfInBounds_toArray, List.set_cons_zero, List.set_cons_succ]
                refine wpAnyH_ready (rs := [19]) (by kernel_rfl) (by simp) ?_
                refine AllReadyH.cons rfl (fun K hK => ?_) AllReadyH.nil
                (try simp only [List.getElem_toArray, List.getElem_cons_zero, List.getElem_cons_succ])
                go_simp
                refine hK.out _ _ hHeld (fun _ => ?_)
                clear hK K q1 q2 q3
                simp only [Act.put, List.getElem_toArray, List.getElem_cons_zero, List.getElem_cons_succ, List.setIfInBounds_toArray, List.set_cons_zero, List.set_cons_succ]
                refine wpAnyH_take (i := 20) (v := ?_) rfl (by kernel_rfl) (by kernel_rfl) (by kernel_rfl) (fun _ _ _ h => h) (Or.inl ⟨by rfl, fun W hSw => ?_⟩) (by assumption) ?_
                rotate_left
                · (try simp only [List.getElem_toArray, List.getElem_cons_zero, List.getElem_cons_succ]); go_simp; rw [if_neg (by (try simp [ByteArray.size_append]); omega)]
                simp only [Act.put, List.getElem_toArray, List.getElem_cons_zero, List.getElem_cons_succ, List.setIfInBounds_toArray, List.set_cons_zero, List.set_cons_succ]
                refine wpAnyH_take (i := 21) (v := ?_) rfl (by kernel_rfl) (by kernel_rfl) (by kernel_rfl) (fun _ _ _ h => h) (Or.inl ⟨by rfl, fun W hSw => ?_⟩) (by assumption) ?_
                rotate_left
                · (try simp only [List.getElem_toArray, List.getElem_cons_zero, List.getElem_cons_succ]); go_simp; rw [if_neg (by (try simp [ByteArray.size_append]); omega)]
                simp only [Act.put, List.getElem_toArray, List.getElem_cons_zero, List.getElem_cons_succ, List.setIfInBounds_toArray, List.set_cons_zero, List.set_cons_succ]
                refine wpAnyH_take (i := 22) (v := ?_) rfl (by kernel_rfl) (by kernel_rfl) (by kernel_rfl) (fun _ _ _ h => h) (Or.inl ⟨by rfl, fun W hSw => ?_⟩) (by assumption) ?_
                rotate_left
                · (try dsimp only at hSw); (try simp only [List.getElem_toArray, List.getElem_cons_zero, List.getElem_cons_succ]); go_simp; any_goals (with_reducible rfl)
                simp only [Act.put, List.getElem_toArray, List.getElem_cons_zero, List.getElem_cons_succ, List.setIfInBounds_toArray, List.set_cons_zero, List.set_cons_succ]
                refine wpAnyH_done (by kernel_rfl) ?_ _
                clear hHeld hoz hTz
                go_wp2_with fail
                go_roundw
                case rel => exact ⟨k + 1, _, by omega, by go_num, rfl, HS1, HZ1, HM7⟩
                case measure => simp [intOf]; omega
            · have hB : badArg 1 pn before last = 5 := hQ1
              have HE := HST.out (by rw [hB]; decide)
              rw [hB] at HE
              clear hQ1 hB
              go_wp2_with (first | (refine ho.mono ?_; clear ho; rintro e w' ⟨rfl, rfl⟩))
              go_ret2
              exact RTxt.fault HE HM.out
          · have hB : badArg 1 pn before last = 5 := hQ1
            have HE := HST.out (by rw [hB]; decide)
            rw [hB] at HE
            clear hQ1 hB
            go_wp2_with (first | (refine ho.mono ?_; clear ho; rintro e w' ⟨rfl, rfl⟩))
            go_ret2
            exact RTxt.fault HE HM.out
        · rw [if_neg hk1] at hQ1
          have HK23 := Lib.hid (show pk = 2 ∨ pk = 3 by omega)
          have hk1' : ((pk : Int) == 1) = false := by simpa using hk1
          have hk1n : ((pk : Int) != 1) = true := by simpa using hk1
          have hw := ref_word pn w1 (by omega)
          cases hwq : isWord pn.data.toList <;> rw [hwq] at hw hQ1
          · have hB : badArg pk pn before last = 5 := hQ1
            have HE := HST.out (by rw [hB]; decide)
            rw [hB] at HE
            clear hQ1 hB hwq hk1
            go_wp2_with fail
            refine ho.mono ?_
            clear ho
            rintro e w' ⟨rfl, rfl⟩
            go_upto_region 12 with fail
            go_wp2_with fail
            refine hw.mono ?_
            clear hw
            rintro e w2 ⟨rfl, hm2⟩
            have hm2 := Lib.hid hm2
            go_wp2_with fail
            go_ret2
            exact RTxt.fault HE (HM.out.trans hm2.out)
          · rw [if_neg (by decide)] at hQ1
            clear hwq hk1
            go_wp2_with fail
            refine ho.mono ?_
            clear ho
            rintro e w' ⟨rfl, rfl⟩
            go_upto_region 12 with fail
            go_wp2_with fail
            refine hw.mono ?_
            clear hw
            rintro e w2 ⟨rfl, hm2⟩
            go_upto_region 14 with fail
            clear x0 x1 xl
            have HX1 := Lib.hid (HX.out.new2 hm2)
            have HM1 : Hid (New w _) := Lib.hid (HM.out.trans hm2)
            clear HX HM
            have HX := HX1
            have HM := HM1
            clear HX1 HM1
            clear hm2
            have HS : Hid (∀ W, New w2 W → W.cell? ⟨xb, 0, none⟩ = some (.int .i64 pk) ∧ W.cell? ⟨xb, 1, none⟩ = some (.string pn) ∧ xb < W.heap.size) := Lib.hid (fun W hW => by
              have h := HX.out.new2 hW
              exact ⟨(h.cell 0).trans rfl, (h.cell 1).trans rfl, h.lt⟩)
            refine wp_region_held_ord (fun W => W.cell? ⟨xb, 0, none⟩ = some (.int .i64 pk) ∧ W.cell? ⟨xb, 1, none⟩ = some (.string pn) ∧ xb < W.heap.size) [9] [0, 1, 2, 3, 4, 5, 6, 7, 8, 9] (by kernel_rfl) (by kernel_rfl) (fun _ _ d _ _ h => by cases d <;> exact h) ?_ (fun hHeld => ?_)
            · exact HS.out _ (Mod.refl _ _).drew
            simp only [List.length_cons, List.length_nil, List.drop_succ_cons, List.drop_zero]
            refine heldO_take ?_ (by rfl) (by rfl) (by rfl) (fun w hSw => ?_) ?_
            rotate_left
            · (try dsimp only at hSw); (try simp only [List.getElem_toArray, List.getElem_cons_zero, List.getElem_cons_succ]); go_simp; any_goals (with_reducible rfl)
            simp only [Act.put, List.getElem_toArray, List.getElem_cons_zero, List.getElem_cons_succ, List.setIfInBounds_toArray, List.set_cons_zero, List.set_cons_succ]
            refine heldO_take ?_ (by rfl) (by rfl) (by rfl) (fun w hSw => ?_) ?_
            rotate_left
            · (try dsimp only at hSw); (try simp only [List.getElem_toArray, List.getElem_cons_zero, List.getElem_cons_succ]); go_simp; any_goals (with_reducible rfl)
            simp only [Act.put, List.getElem_toArray, List.getElem_cons_zero, List.getElem_cons_succ, List.setIfInBounds_toArray, List.set_cons_zero, List.set_cons_succ]
            refine heldO_take ?_ (by rfl) (by rfl) (by rfl) (fun w hSw => ?_) ?_
            rotate_left
            · (try dsimp only at hSw); (try simp only [List.getElem_toArray, List.getElem_cons_zero, List.getElem_cons_succ]); go_simp; any_goals (with_reducible rfl)
            simp only [Act.put, List.getElem_toArray, List.getElem_cons_zero, List.getElem_cons_succ, List.setIfInBounds_toArray, List.set_cons_zero, List.set_cons_succ]
            refine heldO_take ?_ (by rfl) (by rfl) (by rfl) (fun w hSw => ?_) ?_
            rotate_left
            · (try dsimp only at hSw); (try simp only [List.getElem_toArray, List.getElem_cons_zero, List.getElem_cons_succ]); go_simp; any_goals (with_reducible rfl)
            simp only [Act.put, List.getElem_toArray, List.getElem_cons_zero, List.getElem_cons_succ, List.setIfInBounds_toArray, List.set_cons_zero, List.set_cons_succ]
            refine heldO_take ?_ (by rfl) (by rfl) (by rfl) (fun w hSw => ?_) ?_
            rotate_left
            · (try dsimp only at hSw); (try simp only [List.getElem_toArray, List.getElem_cons_zero, List.getElem_cons_succ]); go_simp; any_goals (with_reducible rfl)
            simp only [Act.put, List.getElem_toArray, List.getElem_cons_zero, List.getElem_cons_succ, List.setIfInBounds_toArray, List.set_cons_zero, List.set_cons_succ]
            refine heldO_take ?_ (by rfl) (by rfl) (by rfl) (fun w hSw => ?_) ?_
            rotate_left
            · (try dsimp only at hSw); (try simp only [List.getElem_toArray, List.getElem_cons_zero, List.getElem_cons_succ]); go_simp; any_goals (with_reducible rfl)
            simp only [Act.put, List.getElem_toArray, List.getElem_cons_zero, List.getElem_cons_succ, List.setIfInBounds_toArray, List.set_cons_zero, List.set_cons_succ]
            refine heldO_take ?_ (by rfl) (by rfl) (by rfl) (fun w hSw => ?_) ?_
            rotate_left
            · (try dsimp only at hSw); (try simp only [List.getElem_toArray, List.getElem_cons_zero, List.getElem_cons_succ]); go_simp; any_goals (with_reducible rfl)
            simp only [Act.put, List.getElem_toArray, List.getElem_cons_zero, List.getElem_cons_succ, List.setIfInBounds_toArray, List.set_cons_zero, List.set_cons_succ]
            refine heldO_take ?_ (by rfl) (by rfl) (by rfl) (fun w hSw => ?_) ?_
            rotate_left
            · (try dsimp only at hSw); (try simp only [List.getElem_toArray, List.getElem_cons_zero, List.getElem_cons_succ]); go_simp; any_goals (with_reducible rfl)
            simp only [Act.put, List.getElem_toArray, List.getElem_cons_zero, List.getElem_cons_succ, List.setIfInBounds_toArray, List.set_cons_zero, List.set_cons_succ]
            refine heldO_take ?_ (by rfl) (by rfl) (by rfl) (fun w hSw => ?_) ?_
            rotate_left
            · (try dsimp only at hSw); (try simp only [List.getElem_toArray, List.getElem_cons_zero, List.getElem_cons_succ]); go_simp; any_goals (with_reducible rfl)
            simp only [Act.put, List.getElem_toArray, List.getElem_cons_zero, List.getElem_cons_succ, List.setIfInBounds_toArray, List.set_cons_zero, List.set_cons_succ]
            refine heldG_step (by rfl) (by rfl) (by rfl) (fun K hK => ?_)
            go_simp
            have hm2d : New w2 w2.drew := (Mod.refl (fun _ => False) w2).drew
            refine (HTK.out w2.drew (HM.out.trans hm2d) pn).mono ?_
            rintro e w4 ⟨rfl, hm4⟩
            have m24 := hm2d.trans hm4
            go_wp2_with fail
            refine hK.out _ _ (HS.out _ m24) (fun hHeld => ?_)
            clear hK K hHeld
            try simp only [Act.put, List.setIfInBounds_toArray, List.set_cons_zero, List.set_cons_succ]
            have HX1 := Lib.hid (HX.out.new2 m24)
            have HM1 : Hid (New w _) := Lib.hid (HM.out.trans m24)
            clear HX HM
            have HX := HX1
            have HM := HM1
            clear HX1 HM1
            clear m24 hm4 hm2d
            refine heldO_nil ?_
            have x0 := HX.out.cell 0
            have x1 := HX.out.cell 1
            have xl := HX.out.lt
            simp only [List.getElem?_toArray, List.getElem?_cons_zero, List.getElem?_cons_succ] at x0 x1
            cases hhq : hasP before pn <;> rw [hhq] at hQ1
            · rw [if_neg (by decide)] at hQ1
              rcases HK23.out with rfl | rfl
              all_goals clear HK23
              · have hB : badArg 2 pn before last = 0 := by rw [hQ1, if_neg (fun h => absurd h.1 (by decide))]
                clear hQ1 hhq
                go_upto_region 18 with fail
                clear x0 x1 xl
                have HS : Hid (∀ W, New w4 W → W.cell? ⟨xb, 0, none⟩ = some (.int .i64 2) ∧ W.cell? ⟨xb, 1, none⟩ = some (.string pn) ∧ xb < W.heap.size) := Lib.hid (fun W hW => by
                  have h := HX.out.new2 hW
                  exact ⟨(h.cell 0).trans rfl, (h.cell 1).trans rfl, h.lt⟩)
                have hseg := fun W => ref_segmentText pn W (by omega)
                have hTz : (⟨(segL pn.data.toList).toArray⟩ : ByteArray).size ≤ 3000 := by
                  have h2 := segL_length pn.data.toList
                  have h3 : pn.data.toList.length = pn.size := rfl
                  show (segL pn.data.toList).toArray.size ≤ 3000
                  simp only [List.size_toArray]
                  omega
                have HTT : Hid ((⟨(segL pn.data.toList).toArray⟩ : ByteArray).data.toList = segL pn.data.toList) := Lib.hid rfl
                generalize (⟨(segL pn.data.toList).toArray⟩ : ByteArray) = T at *
                have HSEG := Lib.hid hseg
                clear hseg
                have e1 : (⟨#[123]⟩ : ByteArray).size = 1 := rfl
                have e2 : (⟨#[125]⟩ : ByteArray).size = 1 := rfl
                have e3 : (⟨#[42, 125]⟩ : ByteArray).size = 2 := rfl
                have e4 : (⟨#[47]⟩ : ByteArray).size = 1 := rfl
                have hXz : ((⟨#[123]⟩ ++ pn ++ ⟨#[125]⟩) : ByteArray).size ≤ 3000 := by (try simp only [ByteArray.size_append]); omega
                have hoz : out.size ≤ 200000 := by have := HZ.out; omega
                have HS1 : Hid (partsText ps [] [] = partsText (ps.drop (k + 1)) (ps.take (k + 1)) (out ++ (⟨#[47]⟩ ++ ((⟨#[123]⟩ ++ pn ++ ⟨#[125]⟩) : ByteArray))).data.toList) := Lib.hid (by
                  rw [HSP.out hB, cat_list, cat_list]
                  (try simp only [cat_list])
                  (try rw [HTT.out])
                  rfl)
                have HZ1 : Hid ((out ++ (⟨#[47]⟩ ++ ((⟨#[123]⟩ ++ pn ++ ⟨#[125]⟩) : ByteArray))).size ≤ 3010 * (k + 1)) := Lib.hid (by rw [ByteArray.size_append, ByteArray.size_append]; have := HZ.out; omega)
                clear e1 e2 e3 e4 hXz hB
                refine wp_region_held_drew (S := fun W => W.cell? ⟨xb, 0, none⟩ = some (.int .i64 2) ∧ W.cell? ⟨xb, 1, none⟩ = some (.string pn) ∧ xb < W.heap.size) (by kernel_rfl) (HS.out _ (Mod.refl _ _).drew) (fun hHeld => ?_)
                refine wpAnyH_take (i := 0) (v := ?_) rfl (by kernel_rfl) (by kernel_rfl) (by kernel_rfl) (fun _ _ _ h => h) (Or.inl ⟨by rfl, fun W hSw => ?_⟩) (by assumption) ?_
                rotate_left
                · (try dsimp only at hSw); (try simp only [List.getElem_toArray, List.getElem_cons_zero, List.getElem_cons_succ]); go_simp; any_goals (with_reducible rfl)
                simp only [Act.put, List.getElem_toArray, List.getElem_cons_zero, List.getElem_cons_succ, List.setIfInBounds_toArray, List.set_cons_zero, List.set_cons_succ]
                refine wpAnyH_take (i := 2) (v := ?_) rfl (by kernel_rfl) (by kernel_rfl) (by kernel_rfl) (fun _ _ _ h => h) (Or.inl ⟨by rfl, fun W hSw => ?_⟩) (by assumption) ?_
                rotate_left
                · (try dsimp only at hSw); (try simp only [List.getElem_toArray, List.getElem_cons_zero, List.getElem_cons_succ]); go_simp; any_goals (with_reducible rfl)
                simp only [Act.put, List.getElem_toArray, List.getElem_cons_zero, List.getElem_cons_succ, List.setIfInBounds_toArray, List.set_cons_zero, List.set_cons_succ]
                refine wpAnyH_take (i := 3) (v := ?_) rfl (by kernel_rfl) (by kernel_rfl) (by kernel_rfl) (fun _ _ _ h => h) (Or.inl ⟨by rfl, fun W hSw => ?_⟩) (by assumption) ?_
                rotate_left
                · (try dsimp only at hSw); (try simp only [List.getElem_toArray, List.getElem_cons_zero, List.getElem_cons_succ]); go_simp; any_goals (with_reducible rfl)
                simp only [Act.put, List.getElem_toArray, List.getElem_cons_zero, List.getElem_cons_succ, List.setIfInBounds_toArray, List.set_cons_zero, List.set_cons_succ]
                refine wpAnyH_take (i := 6) (v := ?_) rfl (by kernel_rfl) (by kernel_rfl) (by kernel_rfl) (fun _ _ _ h => h) (Or.inl ⟨by rfl, fun W hSw => ?_⟩) (by assumption) ?_
                rotate_left
                · (try dsimp only at hSw); (try simp only [List.getElem_toArray, List.getElem_cons_zero, List.getElem_cons_succ]); go_simp; any_goals (with_reducible rfl)
                simp only [Act.put, List.getElem_toArray, List.getElem_cons_zero, List.getElem_cons_succ, List.setIfInBounds_toArray, List.set_cons_zero, List.set_cons_succ]
                refine wpAnyH_take (i := 7) (v := ?_) rfl (by kernel_rfl) (by kernel_rfl) (by kernel_rfl) (fun _ _ _ h => h) (Or.inl ⟨by rfl, fun W hSw => ?_⟩) (by assumption) ?_
                rotate_left
                · (try dsimp only at hSw); (try simp only [List.getElem_toArray, List.getElem_cons_zero, List.getElem_cons_succ]); go_simp; any_goals (with_reducible rfl)
                simp only [Act.put, List.getElem_toArray, List.getElem_cons_zero, List.getElem_cons_succ, List.setIfInBounds_toArray, List.set_cons_zero, List.set_cons_succ]
                refine wpAnyH_take (i := 8) (v := ?_) rfl (by kernel_rfl) (by kernel_rfl) (by kernel_rfl) (fun _ _ _ h => h) (Or.inl ⟨by rfl, fun W hSw => ?_⟩) (by assumption) ?_
                rotate_left
                · (try simp only [List.getElem_toArray, List.getElem_cons_zero, List.getElem_cons_succ]); go_simp; rw [if_neg (by (try simp [ByteArray.size_append]); omega)]
                simp only [Act.put, List.getElem_toArray, List.getElem_cons_zero, List.getElem_cons_succ, List.setIfInBounds_toArray, List.set_cons_zero, List.set_cons_succ]
                refine wpAnyH_take (i := 9) (v := ?_) rfl (by kernel_rfl) (by kernel_rfl) (by kernel_rfl) (fun _ _ _ h => h) (Or.inl ⟨by rfl, fun W hSw => ?_⟩) (by assumption) ?_
                rotate_left
                · (try simp only [List.getElem_toArray, List.getElem_cons_zero, List.getElem_cons_succ]); go_simp; rw [if_neg (by (try simp [ByteArray.size_append]); omega)]
                simp only [Act.put, List.getElem_toArray, List.getElem_cons_zero, List.getElem_cons_succ, List.setIfInBounds_toArray, List.set_cons_zero, List.set_cons_succ]
                refine wpAnyH_take (i := 11) (v := ?_) rfl (by kernel_rfl) (by kernel_rfl) (by kernel_rfl) (fun _ _ _ h => h) (Or.inl ⟨by rfl, fun W hSw => ?_⟩) (by assumption) ?_
                rotate_left
                · (try dsimp only at hSw); (try simp only [List.getElem_toArray, List.getElem_cons_zero, List.getElem_cons_succ]); go_simp; any_goals (with_reducible rfl)
                simp only [Act.put, List.getElem_toArray, List.getElem_cons_zero, List.getElem_cons_succ, List.setIfInBounds_toArray, List.set_cons_zero, List.set_cons_succ]
                refine wpAnyH_take (i := 12) (v := ?_) rfl (by kernel_rfl) (by kernel_rfl) (by kernel_rfl) (fun _ _ _ h => h) (Or.inl ⟨by rfl, fun W hSw => ?_⟩) (by assumption) ?_
                rotate_left
                · (try dsimp only at hSw); (try simp only [List.getElem_toArray, List.getElem_cons_zero, List.getElem_cons_succ]); go_simp; any_goals (with_reducible rfl)
                simp only [Act.put, List.getElem_toArray, List.getElem_cons_zero, List.getElem_cons_succ, List.setIfInBounds_toArray, List.set_cons_zero, List.set_cons_succ]
                refine wpAnyH_take (i := 13) (v := ?_) rfl (by kernel_rfl) (by kernel_rfl) (by kernel_rfl) (fun _ _ _ h => h) (Or.inl ⟨by rfl, fun W hSw => ?_⟩) (by assumption) ?_
                rotate_left
                · (try simp only [List.getElem_toArray, List.getElem_cons_zero, List.getElem_cons_succ]); go_simp; rw [if_neg (by (try simp [ByteArray.size_append]); omega)]
                simp only [Act.put, List.getElem_toArray, List.getElem_cons_zero, List.getElem_cons_succ, List.setIfInBounds_toArray, List.set_cons_zero, List.set_cons_succ]
                refine wpAnyH_take (i := 14) (v := ?_) rfl (by kernel_rfl) (by kernel_rfl) (by kernel_rfl) (fun _ _ _ h => h) (Or.inl ⟨by rfl, fun W hSw => ?_⟩) (by assumption) ?_
                rotate_left
                · (try simp only [List.getElem_toArray, List.getElem_cons_zero, List.getElem_cons_succ]); go_simp; rw [if_neg (by (try simp [ByteArray.size_append]); omega)]
                simp only [Act.put, List.getElem_toArray, List.getElem_cons_zero, List.getElem_cons_succ, List.setIfInBounds_toArray, List.set_cons_zero, List.set_cons_succ]
                refine wpAnyH_take (i := 17) (v := ?_) rfl (by kernel_rfl) (by kernel_rfl) (by kernel_rfl) (fun _ _ _ h => h) (Or.inl ⟨by rfl, fun W hSw => ?_⟩) (by assumption) ?_
                rotate_left
                · (try dsimp only at hSw); (try simp only [List.getElem_toArray, List.getElem_cons_zero, List.getElem_cons_succ]); go_simp; any_goals (with_reducible rfl)
                simp only [Act.put, List.getElem_toArray, List.getElem_cons_zero, List.getElem_cons_succ, List.setIfInBounds_toArray, List.set_cons_zero, List.set_cons_succ]
                refine wpAnyH_take (i := 18) (v := ?_) rfl (by kernel_rfl) (by kernel_rfl) (by kernel_rfl) (fun _ _ _ h => h) (Or.inl ⟨by rfl, fun W hSw => ?_⟩) (by assumption) ?_
                rotate_left
                · (try dsimp only at hSw); (try simp only [List.getElem_toArray, List.getElem_cons_zero, List.getElem_cons_succ]); go_simp; any_goals (with_reducible rfl)
                simp only [Act.put, List.getElem_toArray, List.getElem_cons_zero, List.getElem_cons_succ, List.setIfInBounds_toArray, List.set_cons_zero, List.set_cons_succ]
                have hmd : New w4 w4.drew := (Mod.refl _ _).drew
                refine wpAnyH_map3_at (g := 5) (by kernel_rfl) (L := fun b1 b4 b5 b10 b15 => #[true, b1, true, true, b4, b5, true, true, true, true, b10, true, true, true, true, b15, false, true, true, false, false, false, false]) 1 4 5 10 15 74 77 (J3 w4.drew T (⟨#[123]⟩ ++ pn ++ ⟨#[125]⟩) (⟨#[123]⟩ ++ pn ++ ⟨#[42, 125]⟩)) (by kernel_rfl) (fun _ _ _ _ => rfl) (fun _ _ _ _ => rfl) (fun _ _ _ _ => rfl) (fun _ _ _ _ => rfl) (fun _ _ _ _ => rfl) ?_ ?_ ?_ ?_ ?_ ?_ (fun _ _ => J3.start _ _)
                · intro b4 m t W hJ K hK
                  have HJ := Lib.hid hJ.made
                  have hSW := HS.out _ ((hmd.trans hJ.new).alloc (.map #[] 0))
                  clear hJ
                  have hmm := @run_makeMap Tryz.prog
                  refine wpOp_of rfl rfl ?_
                  simp only [act2, Act.put, List.getElem_toArray, List.getElem_cons_zero, List.getElem_cons_succ, List.setIfInBounds_toArray, List.set_cons_zero, List.set_cons_succ]
                  go_simp
                  have h := hK.out _ _ hSW HJ.out
                  simp only [act2, Act.put, List.getElem_toArray, List.getElem_cons_zero, List.getElem_cons_succ, List.setIfInBounds_toArray, List.set_cons_zero, List.set_cons_succ] at h
                  exact h
                · intro b1 b10 b15 m t W hJ K hK
                  refine wpOp_of rfl rfl ?_
                  simp only [act2, Act.put, List.getElem_toArray, List.getElem_cons_zero, List.getElem_cons_succ, List.setIfInBounds_toArray, List.set_cons_zero, List.set_cons_succ]
                  go_simp
                  refine (HSEG.out W).mono ?_
                  rintro e w' ⟨rfl, hm⟩
                  have HJ := Lib.hid (hJ.call hm)
                  have hSW := HS.out _ ((hmd.trans hJ.new).trans hm)
                  clear hJ hm
                  go_wp2_with fail
                  have h := hK.out _ _ hSW HJ.out
                  simp only [act2, Act.put, List.getElem_toArray, List.getElem_cons_zero, List.getElem_cons_succ, List.setIfInBounds_toArray, List.set_cons_zero, List.set_cons_succ] at h
                  exact h
                · intro b10 b15 m t W hJ K hK
                  obtain ⟨mb, w', rfl, rfl, hrun, hJ'⟩ := hJ.put1
                  have HJ := Lib.hid hJ'
                  have hSW := HS.out _ (hmd.trans hJ'.new)
                  clear hJ hJ'
                  refine wpOp_of rfl rfl ?_
                  simp only [act2, Act.put, List.getElem_toArray, List.getElem_cons_zero, List.getElem_cons_succ, List.setIfInBounds_toArray, List.set_cons_zero, List.set_cons_succ]
                  go_simp
                  have h := hK.out _ hSW HJ.out
                  simp only [act2, Act.put, List.getElem_toArray, List.getElem_cons_zero, List.getElem_cons_succ, List.setIfInBounds_toArray, List.set_cons_zero, List.set_cons_succ] at h
                  exact h
                · intro b4 b5 b15 m t W hJ K hK
                  obtain ⟨mb, w', rfl, hrun, hJ'⟩ := hJ.put2
                  have HJ := Lib.hid hJ'
                  have hSW := HS.out _ (hmd.trans hJ'.new)
                  clear hJ hJ'
                  refine wpOp_of rfl rfl ?_
                  simp only [act2, Act.put, List.getElem_toArray, List.getElem_cons_zero, List.getElem_cons_succ, List.setIfInBounds_toArray, List.set_cons_zero, List.set_cons_succ]
                  go_simp
                  have h := hK.out _ hSW HJ.out
                  simp only [act2, Act.put, List.getElem_toArray, List.getElem_cons_zero, List.getElem_cons_succ, List.setIfInBounds_toArray, List.set_cons_zero, List.set_cons_succ] at h
                  exact h
                · intro b4 b5 b10 m t W hJ K hK
                  obtain ⟨mb, w', rfl, hrun, hJ'⟩ := hJ.put3
                  have HJ := Lib.hid hJ'
                  have hSW := HS.out _ (hmd.trans hJ'.new)
                  clear hJ hJ'
                  refine wpOp_of rfl rfl ?_
                  simp only [act2, Act.put, List.getElem_toArray, List.getElem_cons_zero, List.getElem_cons_succ, List.setIfInBounds_toArray, List.set_cons_zero, List.set_cons_succ]
                  go_simp
                  have h := hK.out _ hSW HJ.out
                  simp only [act2, Act.put, List.getElem_toArray, List.getElem_cons_zero, List.getElem_cons_succ, List.setIfInBounds_toArray, List.set_cons_zero, List.set_cons_succ] at h
                  exact h
                · intro m t W hJ
                  obtain ⟨mb, rfl, rfl, q1, q2, q3⟩ := hJ.look
                  have hHeld := HS.out _ (hmd.trans hJ.new)
                  have HM7 : Hid (New w W) := Lib.hid (HM.out.trans (hmd.trans hJ.new))
                  clear hJ
                  simp only [act2, Act.put, List.getElem_toArray, List.getElem_cons_zero, List.getElem_cons_succ, List.setIfInBounds_toArray, List.set_cons_zero, List.set_cons_succ]
                  refine wpAnyH_take (i := 16) (v := ?_) rfl (by kernel_rfl) (by kernel_rfl) (by kernel_rfl) (fun _ _ _ h => h) (Or.inl ⟨by rfl, fun W hSw => ?_⟩) (by assumption) ?_
                  rotate_left
                  · (try dsimp only at hSw); (try simp only [List.getElem_toArray, List.getElem_cons_zero, List.getElem_cons_succ]); go_simp; any_goals (with_reducible rfl)
                  simp only [Act.put, List.getElem_toArray, List.getElem_cons_zero, List.getElem_cons_succ, List.setIfInBounds_toArray, List.set_cons_zero, List.set_cons_succ]
                  refine wpAnyH_ready (rs := [19]) (by kernel_rfl) (by simp) ?_
                  refine AllReadyH.cons rfl (fun K hK => ?_) AllReadyH.nil
                  (try simp only [List.getElem_toArray, List.getElem_cons_zero, List.getElem_cons_succ])
                  go_simp
                  refine hK.out _ _ hHeld (fun _ => ?_)
                  clear hK K q1 q2 q3
                  simp only [Act.put, List.getElem_toArray, List.getElem_cons_zero, List.getElem_cons_succ, List.setIfInBounds_toArray, List.set_cons_zero, List.set_cons_succ]
                  refine wpAnyH_take (i := 20) (v := ?_) rfl (by kernel_rfl) (by kernel_rfl) (by kernel_rfl) (fun _ _ _ h => h) (Or.inl ⟨by rfl, fun W hSw => ?_⟩) (by assumption) ?_
                  rotate_left
                  · (try simp only [List.getElem_toArray, List.getElem_cons_zero, List.getElem_cons_succ]); go_simp; rw [if_neg (by (try simp [ByteArray.size_append]); omega)]
                  simp only [Act.put, List.getElem_toArray, List.getElem_cons_zero, List.getElem_cons_succ, List.setIfInBounds_toArray, List.set_cons_zero, List.set_cons_succ]
                  refine wpAnyH_take (i := 21) (v := ?_) rfl (by kernel_rfl) (by kernel_rfl) (by kernel_rfl) (fun _ _ _ h => h) (Or.inl ⟨by rfl, fun W hSw => ?_⟩) (by assumption) ?_
                  rotate_left
                  · (try simp only [List.getElem_toArray, List.getElem_cons_zero, List.getElem_cons_succ]); go_simp; rw [if_neg (by (try simp [ByteArray.size_append]); omega)]
                  simp only [Act.put, List.getElem_toArray, List.getElem_cons_zero, List.getElem_cons_succ, List.setIfInBounds_toArray, List.set_cons_zero, List.set_cons_succ]
                  refine wpAnyH_take (i := 22) (v := ?_) rfl (by kernel_rfl) (by kernel_rfl) (by kernel_rfl) (fun _ _ _ h => h) (Or.inl ⟨by rfl, fun W hSw => ?_⟩) (by assumption) ?_
                  rotate_left
                  · (try dsimp only at hSw); (try simp only [List.getElem_toArray, List.getElem_cons_zero, List.getElem_cons_succ]); go_simp; any_goals (with_reducible rfl)
                  simp only [Act.put, List.getElem_toArray, List.getElem_cons_zero, List.getElem_cons_succ, List.setIfInBounds_toArray, List.set_cons_zero, List.set_cons_succ]
                  refine wpAnyH_done (by kernel_rfl) ?_ _
                  clear hHeld hoz hTz
                  go_wp2_with fail
                  go_roundw
                  case rel => exact ⟨k + 1, _, by omega, by go_num, rfl, HS1, HZ1, HM7⟩
                  case measure => simp [intOf]; omega
              · by_cases hls : (k : Int) < (n : Int) - 1
                · have hB : badArg 3 pn before last = 7 := by rw [hQ1, if_pos ⟨rfl, HLAST.out.2 hls⟩]
                  have HE := HST.out (by rw [hB]; decide)
                  rw [hB] at HE
                  clear hQ1 hB hhq
                  go_wp2_with fail
                  go_ret2
                  exact RTxt.fault HE HM.out
                · have hB : badArg 3 pn before last = 0 := by rw [hQ1, if_neg (fun h => hls (HLAST.out.1 h.2))]
                  clear hQ1 hhq
                  go_upto_region 18 with fail
                  clear x0 x1 xl
                  have HS : Hid (∀ W, New w4 W → W.cell? ⟨xb, 0, none⟩ = some (.int .i64 3) ∧ W.cell? ⟨xb, 1, none⟩ = some (.string pn) ∧ xb < W.heap.size) := Lib.hid (fun W hW => by
                    have h := HX.out.new2 hW
                    exact ⟨(h.cell 0).trans rfl, (h.cell 1).trans rfl, h.lt⟩)
                  have hseg := fun W => ref_segmentText pn W (by omega)
                  have hTz : (⟨(segL pn.data.toList).toArray⟩ : ByteArray).size ≤ 3000 := by
                    have h2 := segL_length pn.data.toList
                    have h3 : pn.data.toList.length = pn.size := rfl
                    show (segL pn.data.toList).toArray.size ≤ 3000
                    simp only [List.size_toArray]
                    omega
                  have HTT : Hid ((⟨(segL pn.data.toList).toArray⟩ : ByteArray).data.toList = segL pn.data.toList) := Lib.hid rfl
                  generalize (⟨(segL pn.data.toList).toArray⟩ : ByteArray) = T at *
                  have HSEG := Lib.hid hseg
                  clear hseg
                  have e1 : (⟨#[123]⟩ : ByteArray).size = 1 := rfl
                  have e2 : (⟨#[125]⟩ : ByteArray).size = 1 := rfl
                  have e3 : (⟨#[42, 125]⟩ : ByteArray).size = 2 := rfl
                  have e4 : (⟨#[47]⟩ : ByteArray).size = 1 := rfl
                  have hXz : ((⟨#[123]⟩ ++ pn ++ ⟨#[42, 125]⟩) : ByteArray).size ≤ 3000 := by (try simp only [ByteArray.size_append]); omega
                  have hoz : out.size ≤ 200000 := by have := HZ.out; omega
                  have HS1 : Hid (partsText ps [] [] = partsText (ps.drop (k + 1)) (ps.take (k + 1)) (out ++ (⟨#[47]⟩ ++ ((⟨#[123]⟩ ++ pn ++ ⟨#[42, 125]⟩) : ByteArray))).data.toList) := Lib.hid (by
                    rw [HSP.out hB, cat_list, cat_list]
                    (try simp only [cat_list])
                    (try rw [HTT.out])
                    rfl)
                  have HZ1 : Hid ((out ++ (⟨#[47]⟩ ++ ((⟨#[123]⟩ ++ pn ++ ⟨#[42, 125]⟩) : ByteArray))).size ≤ 3010 * (k + 1)) := Lib.hid (by rw [ByteArray.size_append, ByteArray.size_append]; have := HZ.out; omega)
                  clear e1 e2 e3 e4 hXz hB
                  refine wp_region_held_drew (S := fun W => W.cell? ⟨xb, 0, none⟩ = some (.int .i64 3) ∧ W.cell? ⟨xb, 1, none⟩ = some (.string pn) ∧ xb < W.heap.size) (by kernel_rfl) (HS.out _ (Mod.refl _ _).drew) (fun hHeld => ?_)
                  refine wpAnyH_take (i := 0) (v := ?_) rfl (by kernel_rfl) (by kernel_rfl) (by kernel_rfl) (fun _ _ _ h => h) (Or.inl ⟨by rfl, fun W hSw => ?_⟩) (by assumption) ?_
                  rotate_left
                  · (try dsimp only at hSw); (try simp only [List.getElem_toArray, List.getElem_cons_zero, List.getElem_cons_succ]); go_simp; any_goals (with_reducible rfl)
                  simp only [Act.put, List.getElem_toArray, List.getElem_cons_zero, List.getElem_cons_succ, List.setIfInBounds_toArray, List.set_cons_zero, List.set_cons_succ]
                  refine wpAnyH_take (i := 2) (v := ?_) rfl (by kernel_rfl) (by kernel_rfl) (by kernel_rfl) (fun _ _ _ h => h) (Or.inl ⟨by rfl, fun W hSw => ?_⟩) (by assumption) ?_
                  rotate_left
                  · (try dsimp only at hSw); (try simp only [List.getElem_toArray, List.getElem_cons_zero, List.getElem_cons_succ]); go_simp; any_goals (with_reducible rfl)
                  simp only [Act.put, List.getElem_toArray, List.getElem_cons_zero, List.getElem_cons_succ, List.setIfInBounds_toArray, List.set_cons_zero, List.set_cons_succ]
                  refine wpAnyH_take (i := 3) (v := ?_) rfl (by kernel_rfl) (by kernel_rfl) (by kernel_rfl) (fun _ _ _ h => h) (Or.inl ⟨by rfl, fun W hSw => ?_⟩) (by assumption) ?_
                  rotate_left
                  · (try dsimp only at hSw); (try simp only [List.getElem_toArray, List.getElem_cons_zero, List.getElem_cons_succ]); go_simp; any_goals (with_reducible rfl)
                  simp only [Act.put, List.getElem_toArray, List.getElem_cons_zero, List.getElem_cons_succ, List.setIfInBounds_toArray, List.set_cons_zero, List.set_cons_succ]
                  refine wpAnyH_take (i := 6) (v := ?_) rfl (by kernel_rfl) (by kernel_rfl) (by kernel_rfl) (fun _ _ _ h => h) (Or.inl ⟨by rfl, fun W hSw => ?_⟩) (by assumption) ?_
                  rotate_left
                  · (try dsimp only at hSw); (try simp only [List.getElem_toArray, List.getElem_cons_zero, List.getElem_cons_succ]); go_simp; any_goals (with_reducible rfl)
                  simp only [Act.put, List.getElem_toArray, List.getElem_cons_zero, List.getElem_cons_succ, List.setIfInBounds_toArray, List.set_cons_zero, List.set_cons_succ]
                  refine wpAnyH_take (i := 7) (v := ?_) rfl (by kernel_rfl) (by kernel_rfl) (by kernel_rfl) (fun _ _ _ h => h) (Or.inl ⟨by rfl, fun W hSw => ?_⟩) (by assumption) ?_
                  rotate_left
                  · (try dsimp only at hSw); (try simp only [List.getElem_toArray, List.getElem_cons_zero, List.getElem_cons_succ]); go_simp; any_goals (with_reducible rfl)
                  simp only [Act.put, List.getElem_toArray, List.getElem_cons_zero, List.getElem_cons_succ, List.setIfInBounds_toArray, List.set_cons_zero, List.set_cons_succ]
                  refine wpAnyH_take (i := 8) (v := ?_) rfl (by kernel_rfl) (by kernel_rfl) (by kernel_rfl) (fun _ _ _ h => h) (Or.inl ⟨by rfl, fun W hSw => ?_⟩) (by assumption) ?_
                  rotate_left
                  · (try simp only [List.getElem_toArray, List.getElem_cons_zero, List.getElem_cons_succ]); go_simp; rw [if_neg (by (try simp [ByteArray.size_append]); omega)]
                  simp only [Act.put, List.getElem_toArray, List.getElem_cons_zero, List.getElem_cons_succ, List.setIfInBounds_toArray, List.set_cons_zero, List.set_cons_succ]
                  refine wpAnyH_take (i := 9) (v := ?_) rfl (by kernel_rfl) (by kernel_rfl) (by kernel_rfl) (fun _ _ _ h => h) (Or.inl ⟨by rfl, fun W hSw => ?_⟩) (by assumption) ?_
                  rotate_left
                  · (try simp only [List.getElem_toArray, List.getElem_cons_zero, List.getElem_cons_succ]); go_simp; rw [if_neg (by (try simp [ByteArray.size_append]); omega)]
                  simp only [Act.put, List.getElem_toArray, List.getElem_cons_zero, List.getElem_cons_succ, List.setIfInBounds_toArray, List.set_cons_zero, List.set_cons_succ]
                  refine wpAnyH_take (i := 11) (v := ?_) rfl (by kernel_rfl) (by kernel_rfl) (by kernel_rfl) (fun _ _ _ h => h) (Or.inl ⟨by rfl, fun W hSw => ?_⟩) (by assumption) ?_
                  rotate_left
                  · (try dsimp only at hSw); (try simp only [List.getElem_toArray, List.getElem_cons_zero, List.getElem_cons_succ]); go_simp; any_goals (with_reducible rfl)
                  simp only [Act.put, List.getElem_toArray, List.getElem_cons_zero, List.getElem_cons_succ, List.setIfInBounds_toArray, List.set_cons_zero, List.set_cons_succ]
                  refine wpAnyH_take (i := 12) (v := ?_) rfl (by kernel_rfl) (by kernel_rfl) (by kernel_rfl) (fun _ _ _ h => h) (Or.inl ⟨by rfl, fun W hSw => ?_⟩) (by assumption) ?_
                  rotate_left
                  · (try dsimp only at hSw); (try simp only [List.getElem_toArray, List.getElem_cons_zero, List.getElem_cons_succ]); go_simp; any_goals (with_reducible rfl)
                  simp only [Act.put, List.getElem_toArray, List.getElem_cons_zero, List.getElem_cons_succ, List.setIfInBounds_toArray, List.set_cons_zero, List.set_cons_succ]
                  refine wpAnyH_take (i := 13) (v := ?_) rfl (by kernel_rfl) (by kernel_rfl) (by kernel_rfl) (fun _ _ _ h => h) (Or.inl ⟨by rfl, fun W hSw => ?_⟩) (by assumption) ?_
                  rotate_left
                  · (try simp only [List.getElem_toArray, List.getElem_cons_zero, List.getElem_cons_succ]); go_simp; rw [if_neg (by (try simp [ByteArray.size_append]); omega)]
                  simp only [Act.put, List.getElem_toArray, List.getElem_cons_zero, List.getElem_cons_succ, List.setIfInBounds_toArray, List.set_cons_zero, List.set_cons_succ]
                  refine wpAnyH_take (i := 14) (v := ?_) rfl (by kernel_rfl) (by kernel_rfl) (by kernel_rfl) (fun _ _ _ h => h) (Or.inl ⟨by rfl, fun W hSw => ?_⟩) (by assumption) ?_
                  rotate_left
                  · (try simp only [List.getElem_toArray, List.getElem_cons_zero, List.getElem_cons_succ]); go_simp; rw [if_neg (by (try simp [ByteArray.size_append]); omega)]
                  simp only [Act.put, List.getElem_toArray, List.getElem_cons_zero, List.getElem_cons_succ, List.setIfInBounds_toArray, List.set_cons_zero, List.set_cons_succ]
                  refine wpAnyH_take (i := 17) (v := ?_) rfl (by kernel_rfl) (by kernel_rfl) (by kernel_rfl) (fun _ _ _ h => h) (Or.inl ⟨by rfl, fun W hSw => ?_⟩) (by assumption) ?_
                  rotate_left
                  · (try dsimp only at hSw); (try simp only [List.getElem_toArray, List.getElem_cons_zero, List.getElem_cons_succ]); go_simp; any_goals (with_reducible rfl)
                  simp only [Act.put, List.getElem_toArray, List.getElem_cons_zero, List.getElem_cons_succ, List.setIfInBounds_toArray, List.set_cons_zero, List.set_cons_succ]
                  refine wpAnyH_take (i := 18) (v := ?_) rfl (by kernel_rfl) (by kernel_rfl) (by kernel_rfl) (fun _ _ _ h => h) (Or.inl ⟨by rfl, fun W hSw => ?_⟩) (by assumption) ?_
                  rotate_left
                  · (try dsimp only at hSw); (try simp only [List.getElem_toArray, List.getElem_cons_zero, List.getElem_cons_succ]); go_simp; any_goals (with_reducible rfl)
                  simp only [Act.put, List.getElem_toArray, List.getElem_cons_zero, List.getElem_cons_succ, List.setIfInBounds_toArray, List.set_cons_zero, List.set_cons_succ]
                  have hmd : New w4 w4.drew := (Mod.refl _ _).drew
                  refine wpAnyH_map3_at (g := 5) (by kernel_rfl) (L := fun b1 b4 b5 b10 b15 => #[true, b1, true, true, b4, b5, true, true, true, true, b10, true, true, true, true, b15, false, true, true, false, false, false, false]) 1 4 5 10 15 74 77 (J3 w4.drew T (⟨#[123]⟩ ++ pn ++ ⟨#[125]⟩) (⟨#[123]⟩ ++ pn ++ ⟨#[42, 125]⟩)) (by kernel_rfl) (fun _ _ _ _ => rfl) (fun _ _ _ _ => rfl) (fun _ _ _ _ => rfl) (fun _ _ _ _ => rfl) (fun _ _ _ _ => rfl) ?_ ?_ ?_ ?_ ?_ ?_ (fun _ _ => J3.start _ _)
                  · intro b4 m t W hJ K hK
                    have HJ := Lib.hid hJ.made
                    have hSW := HS.out _ ((hmd.trans hJ.new).alloc (.map #[] 0))
                    clear hJ
                    have hmm := @run_makeMap Tryz.prog
                    refine wpOp_of rfl rfl ?_
                    simp only [act2, Act.put, List.getElem_toArray, List.getElem_cons_zero, List.getElem_cons_succ, List.setIfInBounds_toArray, List.set_cons_zero, List.set_cons_succ]
                    go_simp
                    have h := hK.out _ _ hSW HJ.out
                    simp only [act2, Act.put, List.getElem_toArray, List.getElem_cons_zero, List.getElem_cons_succ, List.setIfInBounds_toArray, List.set_cons_zero, List.set_cons_succ] at h
                    exact h
                  · intro b1 b10 b15 m t W hJ K hK
                    refine wpOp_of rfl rfl ?_
                    simp only [act2, Act.put, List.getElem_toArray, List.getElem_cons_zero, List.getElem_cons_succ, List.setIfInBounds_toArray, List.set_cons_zero, List.set_cons_succ]
                    go_simp
                    refine (HSEG.out W).mono ?_
                    rintro e w' ⟨rfl, hm⟩
                    have HJ := Lib.hid (hJ.call hm)
                    have hSW := HS.out _ ((hmd.trans hJ.new).trans hm)
                    clear hJ hm
                    go_wp2_with fail
                    have h := hK.out _ _ hSW HJ.out
                    simp only [act2, Act.put, List.getElem_toArray, List.getElem_cons_zero, List.getElem_cons_succ, List.setIfInBounds_toArray, List.set_cons_zero, List.set_cons_succ] at h
                    exact h
                  · intro b10 b15 m t W hJ K hK
                    obtain ⟨mb, w', rfl, rfl, hrun, hJ'⟩ := hJ.put1
                    have HJ := Lib.hid hJ'
                    have hSW := HS.out _ (hmd.trans hJ'.new)
                    clear hJ hJ'
                    refine wpOp_of rfl rfl ?_
                    simp only [act2, Act.put, List.getElem_toArray, List.getElem_cons_zero, List.getElem_cons_succ, List.setIfInBounds_toArray, List.set_cons_zero, List.set_cons_succ]
                    go_simp
                    have h := hK.out _ hSW HJ.out
                    simp only [act2, Act.put, List.getElem_toArray, List.getElem_cons_zero, List.getElem_cons_succ, List.setIfInBounds_toArray, List.set_cons_zero, List.set_cons_succ] at h
                    exact h
                  · intro b4 b5 b15 m t W hJ K hK
                    obtain ⟨mb, w', rfl, hrun, hJ'⟩ := hJ.put2
                    have HJ := Lib.hid hJ'
                    have hSW := HS.out _ (hmd.trans hJ'.new)
                    clear hJ hJ'
                    refine wpOp_of rfl rfl ?_
                    simp only [act2, Act.put, List.getElem_toArray, List.getElem_cons_zero, List.getElem_cons_succ, List.setIfInBounds_toArray, List.set_cons_zero, List.set_cons_succ]
                    go_simp
                    have h := hK.out _ hSW HJ.out
                    simp only [act2, Act.put, List.getElem_toArray, List.getElem_cons_zero, List.getElem_cons_succ, List.setIfInBounds_toArray, List.set_cons_zero, List.set_cons_succ] at h
                    exact h
                  · intro b4 b5 b10 m t W hJ K hK
                    obtain ⟨mb, w', rfl, hrun, hJ'⟩ := hJ.put3
                    have HJ := Lib.hid hJ'
                    have hSW := HS.out _ (hmd.trans hJ'.new)
                    clear hJ hJ'
                    refine wpOp_of rfl rfl ?_
                    simp only [act2, Act.put, List.getElem_toArray, List.getElem_cons_zero, List.getElem_cons_succ, List.setIfInBounds_toArray, List.set_cons_zero, List.set_cons_succ]
                    go_simp
                    have h := hK.out _ hSW HJ.out
                    simp only [act2, Act.put, List.getElem_toArray, List.getElem_cons_zero, List.getElem_cons_succ, List.setIfInBounds_toArray, List.set_cons_zero, List.set_cons_succ] at h
                    exact h
                  · intro m t W hJ
                    obtain ⟨mb, rfl, rfl, q1, q2, q3⟩ := hJ.look
                    have hHeld := HS.out _ (hmd.trans hJ.new)
                    have HM7 : Hid (New w W) := Lib.hid (HM.out.trans (hmd.trans hJ.new))
                    clear hJ
                    simp only [act2, Act.put, List.getElem_toArray, List.getElem_cons_zero, List.getElem_cons_succ, List.setIfInBounds_toArray, List.set_cons_zero, List.set_cons_succ]
                    refine wpAnyH_take (i := 16) (v := ?_) rfl (by kernel_rfl) (by kernel_rfl) (by kernel_rfl) (fun _ _ _ h => h) (Or.inl ⟨by rfl, fun W hSw => ?_⟩) (by assumption) ?_
                    rotate_left
                    · (try dsimp only at hSw); (try simp only [List.getElem_toArray, List.getElem_cons_zero, List.getElem_cons_succ]); go_simp; any_goals (with_reducible rfl)
                    simp only [Act.put, List.getElem_toArray, List.getElem_cons_zero, List.getElem_cons_succ, List.setIfInBounds_toArray, List.set_cons_zero, List.set_cons_succ]
                    refine wpAnyH_ready (rs := [19]) (by kernel_rfl) (by simp) ?_
                    refine AllReadyH.cons rfl (fun K hK => ?_) AllReadyH.nil
                    (try simp only [List.getElem_toArray, List.getElem_cons_zero, List.getElem_cons_succ])
                    go_simp
                    refine hK.out _ _ hHeld (fun _ => ?_)
                    clear hK K q1 q2 q3
                    simp only [Act.put, List.getElem_toArray, List.getElem_cons_zero, List.getElem_cons_succ, List.setIfInBounds_toArray, List.set_cons_zero, List.set_cons_succ]
                    refine wpAnyH_take (i := 20) (v := ?_) rfl (by kernel_rfl) (by kernel_rfl) (by kernel_rfl) (fun _ _ _ h => h) (Or.inl ⟨by rfl, fun W hSw => ?_⟩) (by assumption) ?_
                    rotate_left
                    · (try simp only [List.getElem_toArray, List.getElem_cons_zero, List.getElem_cons_succ]); go_simp; rw [if_neg (by (try simp [ByteArray.size_append]); omega)]
                    simp only [Act.put, List.getElem_toArray, List.getElem_cons_zero, List.getElem_cons_succ, List.setIfInBounds_toArray, List.set_cons_zero, List.set_cons_succ]
                    refine wpAnyH_take (i := 21) (v := ?_) rfl (by kernel_rfl) (by kernel_rfl) (by kernel_rfl) (fun _ _ _ h => h) (Or.inl ⟨by rfl, fun W hSw => ?_⟩) (by assumption) ?_
                    rotate_left
                    · (try simp only [List.getElem_toArray, List.getElem_cons_zero, List.getElem_cons_succ]); go_simp; rw [if_neg (by (try simp [ByteArray.size_append]); omega)]
                    simp only [Act.put, List.getElem_toArray, List.getElem_cons_zero, List.getElem_cons_succ, List.setIfInBounds_toArray, List.set_cons_zero, List.set_cons_succ]
                    refine wpAnyH_take (i := 22) (v := ?_) rfl (by kernel_rfl) (by kernel_rfl) (by kernel_rfl) (fun _ _ _ h => h) (Or.inl ⟨by rfl, fun W hSw => ?_⟩) (by assumption) ?_
                    rotate_left
                    · (try dsimp only at hSw); (try simp only [List.getElem_toArray, List.getElem_cons_zero, List.getElem_cons_succ]); go_simp; any_goals (with_reducible rfl)
                    simp only [Act.put, List.getElem_toArray, List.getElem_cons_zero, List.getElem_cons_succ, List.setIfInBounds_toArray, List.set_cons_zero, List.set_cons_succ]
                    refine wpAnyH_done (by kernel_rfl) ?_ _
                    clear hHeld hoz hTz
                    go_wp2_with fail
                    go_roundw
                    case rel => exact ⟨k + 1, _, by omega, by go_num, rfl, HS1, HZ1, HM7⟩
                    case measure => simp [intOf]; omega
            · have hB : badArg pk pn before last = 6 := by rw [hQ1]; rfl
              have HE := HST.out (by rw [hB]; decide)
              rw [hB] at HE
              clear hQ1 hB hhq
              go_wp2_with fail
              go_ret2
              exact RTxt.fault HE HM.out
    · obtain rfl : k = n := by omega
      have HE : Hid (templateText ps = if out.data.toList.length > 1000 then (3, []) else (0, out.data.toList)) := Lib.hid (text_end (by omega) (by omega) (by rw [HLN.out]; exact HT.out))
      by_cases hbig : 1000 < out.size
      · have hbig' : (1000 : Int) < (out.size : Int) := by omega
        have HE2 : Hid (templateText ps = (3, [])) := Lib.hid (by rw [HE.out, if_pos (show out.data.toList.length > 1000 from hbig)])
        go_wp2_with fail
        go_ret2
        exact RTxt.fault HE2.out HM.out
      · have hbig' : ¬ (1000 : Int) < (out.size : Int) := by omega
        have HE2 : Hid (templateText ps = (0, out.data.toList)) := Lib.hid (by rw [HE.out, if_neg (show ¬ out.data.toList.length > 1000 from hbig)])
        go_wp2_with fail
        go_ret2
        exact ⟨by rw [HE2.out, mkList]; rfl, HM.out⟩

end Go.Proofs.YtjehlecgnepgmaaGreatDoor
