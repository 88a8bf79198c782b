/- The reference's replay, walked. Conditions: limits and asks were checked, few asks. -/
import Derived.Test.YtinnckbffblecaaGreatRefReplay
namespace Go.Proofs.YtinnckbffblecaaGreat
open Go.RowKit Go.MapKept
set_option linter.unusedVariables false
set_option linter.unusedSimpArgs false



set_option maxRecDepth 100000 in
set_option maxHeartbeats 4000000 in
theorem ref_replayOf (Al Aa : Option Addr) (nl cl na ca : Nat) (ls : List Lim) (ks : List AskD) (w : World) (hl : LimRows w Al nl ls) (hks : AskRows w Aa na ks) (hR : ∀ l ∈ ls, RLim' l) (hka : ∀ a ∈ ks, RAskD a) (hs : ks.Pairwise fun a b => a.at_ ≤ b.at_) (hnl : nl ≤ 1000) (hna : na ≤ 1000) :
    Calls Tryz.prog 27 #[.slice Al nl cl, .slice Aa na ca] w (RVds w (runR ls ks []) 0) := by
  have hlen := hks.1
  have hmm := @run_makeMap Tryz.prog
  have HL := Lib.hid hl
  have HK := Lib.hid hks
  have HR := Lib.hid hR
  have HKA := Lib.hid hka
  have HS := Lib.hid hs
  have HLEN := Lib.hid hlen
  clear hl hks hR hka hs hlen
  go_enter Tryz.func27, Tryz.ntmps27
  go_wp2_with fail
  have hA1 := (Mod.refl (fun _ => False) w).alloc (.map #[] 0)
  have hm0 : MapOf strKeys (w.alloc (.map #[] 0)) w.heap.size [] := MapOf.made (heap_alloc_new w _)
  have hz1 : (w.alloc (.map #[] 0)).heap.size = w.heap.size + 1 := by simp
  generalize w.alloc (.map #[] 0) = w1 at *
  have HA1 := Lib.hid hA1
  have HZ1 := Lib.hid hz1
  have HRA0 : Hid (RefAt w1 w.heap.size w.heap.size []) := Lib.hid ⟨Nat.le_refl _, hm0, fun who s h => by simp [gget_nil] at h, fun a b s s' _ h => by simp [gget_nil] at h⟩
  clear hA1 hm0 hz1
  go_loopw [7, 9, 10, 14] (fun o _ _ i wr => ∃ (k c : Nat) (A : Option Addr) (vs : List Vd) (π : List (ByteArray × PastD)) (τ : Int), k ≤ na ∧ i = .int .i64 k ∧ o = .slice A k c ∧ Hid (VdOwn wr w.heap.size A k c vs) ∧ Hid (RefAt wr w.heap.size w.heap.size π) ∧ Hid (RInv ls (pureR π) τ) ∧ Hid (∀ a ∈ ks.drop k, τ ≤ a.at_) ∧ π.length ≤ k ∧ Hid (∀ who s, gget π who = some s → s.p.length ≤ k) ∧
    Hid (New w wr) ∧ Hid (runR ls ks [] = vs ++ runR ls (ks.drop k) (pureR π))) (fun _ _ _ i _ => na - (intOf i).toNat)
  case atStart => exact ⟨0, 0, none, [], [], 0, Nat.zero_le _, rfl, rfl, Lib.hid Own.nil, HRA0, Lib.hid (RInv.start HR.out), Lib.hid (fun a ha => (HKA.out a (by simpa using ha)).at_.1), by simp, Lib.hid (fun who s h => by simp [gget_nil] at h), HA1, Lib.hid rfl⟩
  case round =>
    rename World => wr
    obtain ⟨k, c, A, vs, π, τ, hk, rfl, rfl, HO, HRA, HRI, HT, hpl, HPL, HM, HE⟩ := hrel
    by_cases hlt : k < na
    · obtain ⟨g, o, hA, htb, hc⟩ := (HK.out.new HM.out).2 (by omega)
      subst hA
      have hkl : k < ks.length := by have := HLEN.out; omega
      have c0 := hc k hkl 0 (by omega)
      have c1 := hc k hkl 1 (by omega)
      have c2 := hc k hkl 2 (by omega)
      have c3 := hc k hkl 3 (by omega)
      simp only [AskD.enc, Nat.add_zero] at c0 c1 c2 c3
      have hgl := htb.lt
      have hra := HKA.out ks[k] (List.getElem_mem _)
      have hτ : τ ≤ ks[k].at_ := HT.out _ (by rw [List.drop_eq_getElem_cons hkl]; exact List.mem_cons_self)
      have hsuf : ∀ a ∈ ks.drop (k + 1), ks[k].at_ ≤ a.at_ := by
        have h1 := HS.out
        rw [← List.take_append_drop k ks, List.pairwise_append] at h1
        have h2 := h1.2.1
        rw [List.drop_eq_getElem_cons hkl] at h2
        exact (List.pairwise_cons.1 h2).1
      have HSUF := Lib.hid hsuf
      have HDR := Lib.hid (HE.out.trans (congrArg (vs ++ ·) (runR_drop hkl (pureR π))))
      have hb1 : (0 : Int) ≤ k := by omega
      have hb2 : (k : Int) < na := by omega
      clear hc hsuf
      generalize ks[k] = a at *
      rw [curR_pure] at HDR
      have hcurO := HRA.out.cur a.who
      have hcp := HRI.out.cur a.who
      have hpo := HRI.out.pour a.who hτ
      rw [curR_pure] at hcp hpo
      have hcl : (curD π a.who).p.length ≤ k := by
        unfold curD
        cases e : gget π a.who with
        | none => simp [past0]
        | some s => exact HPL.out _ _ e
      have hlk : ∀ W, MapOf strKeys W w.heap.size (π.map fun p => (p.1, p.2.val)) → (Instr.lookup 106 (.map (some w.heap.size)) (.string a.who) false).run Tryz.prog W = .ok (.slice (curD π a.who).A (curD π a.who).p.length (curD π a.who).cp) W := fun W hW => by
        have h1 := run_lookup (P := Tryz.prog) (K := strKeys) Tryz.underlying106 Tryz.underlying9 (z := .slice none 0 0) (by kernel_rfl) hW a.who
        rw [aget_val PastD.val] at h1
        refine h1.trans ?_
        unfold curD
        cases gget π a.who <;> rfl
      have hstepI := HRI.out.step HR.out hra hτ
      have HLK := Lib.hid hlk
      have HSI := Lib.hid hstepI
      have HCO := Lib.hid hcurO
      have hvd := fun W (hW : New wr W) => ref_verdictOf Al (curD π a.who).A nl cl _ (curD π a.who).cp ls (curD π a.who).p a W (HL.out.new (HM.out.trans hW)) (hcurO.sl.new hW) HR.out hcp.1.each hpo hra hnl (by omega)
      have HVD := Lib.hid hvd
      clear hlk hstepI hcurO hcp hpo hvd
      have hlk1 := HLK.out (wr.alloc (.cells #[.int .i64 a.at_, .string a.who, .int .i64 a.cost, .int .i64 a.long] 70)) (HRA.out.new ((Mod.refl _ _).alloc _)).map
      have hvd := HVD.out (wr.alloc (.cells #[.int .i64 a.at_, .string a.who, .int .i64 a.cost, .int .i64 a.long] 70)) ((Mod.refl _ _).alloc _)
      have HPUT : Hid (putR ls (pureR π) a = if (verdR ls (curD π a.who).p a vd0).ok = true then gput (pureR π) a.who ((curD π a.who).p ++ [a]) else pureR π) := Lib.hid (by unfold putR; rw [curR_pure])
      generalize hcur : curD π a.who = cur at *
      have HCUR := Lib.hid hcur
      clear hcur
      generalize hvv : verdR ls cur.p a vd0 = v at *
      have HVV := Lib.hid hvv
      clear hvv
      obtain ⟨at_, who, cost, long⟩ := a
      simp only [AskD.val] at *
      go_wp2_with fail
      refine hvd.mono ?_
      clear hvd
      rintro e w2 ⟨rfl, hm2⟩
      have bA := (Blk.new wr 70 #[.int .i64 at_, .string who, .int .i64 cost, .int .i64 long]).new'' hm2
      have hm12 := hm2.pre.1
      have HM12 := Lib.hid hm12
      have HBA := Lib.hid bA
      have hzr := HM.out.size
      clear hm2 hm12 bA hlk1 c0 c1 c2 c3
      obtain ⟨ok, by_, wt⟩ := v
      simp only [Vd.val]
      cases ok with
      | false =>
        have HP2 : Hid (putR ls (pureR π) ⟨at_, who, cost, long⟩ = pureR π) := Lib.hid (by rw [HPUT.out]; simp)
        have HNI : Hid (RInv ls (pureR π) at_) := Lib.hid (by have := HSI.out; rw [HP2.out] at this; exact this)
        have HEN : Hid (runR ls ks [] = (vs ++ [⟨false, by_, wt⟩]) ++ runR ls (ks.drop (k + 1)) (pureR π)) := Lib.hid (by
          rw [HDR.out, HP2.out]; simp)
        have hplN : π.length ≤ k + 1 := by omega
        have HPLN : Hid (∀ who s, gget π who = some s → s.p.length ≤ k + 1) := Lib.hid (fun who' s' hg => by have := HPL.out who' s' hg; omega)
        have newW : New w (w2.alloc (.cells #[.bool false, .string by_, .int .i64 wt] 57)) := (HM.out.trans HM12.out).alloc _
        have ownO : VdOwn (w2.alloc (.cells #[.bool false, .string by_, .int .i64 wt] 57)) w.heap.size A k c vs := (HO.out.new HM12.out).alloc _
        have refW : RefAt (w2.alloc (.cells #[.bool false, .string by_, .int .i64 wt] 57)) w.heap.size w.heap.size π := (HRA.out.new HM12.out).new ((Mod.refl _ _).alloc _)
        have hBB : w.heap.size ≤ (((w2.alloc (.cells #[.bool false, .string by_, .int .i64 wt] 57))).alloc (.cells #[.bool false, .string by_, .int .i64 wt] 57)).heap.size := by
          have h1 := newW.size
          simp at h1 ⊢
          omega
        have HBB := Lib.hid hBB
        have ownA := ownO.alloc (.cells #[.bool false, .string by_, .int .i64 wt] 57)
        have blkA : Blk (((w2.alloc (.cells #[.bool false, .string by_, .int .i64 wt] 57))).alloc (.cells #[.bool false, .string by_, .int .i64 wt] 57)) (w2.heap.size + 1) 57 (encL 3 Vd.enc ⟨false, by_, wt⟩).toArray := Blk.new' _ _ (by first | rfl | simp)
        clear hBB
        go_wp2_with (at_builtin; refine wpList_push rfl _ _ _ rfl 32 Tryz.underlying49 einfo_vd rfl ownA ⟨false, by_, wt⟩ (w2.heap.size + 1) rfl blkA (fun j hj => Vd.one _ j hj) (by omega) (by omega) HBB.out ?_; intro g9 cap9 w9 own9 hm9 hat9 hlt9)
        have hmw : New w w9 := Own.push_mod (a := w) ownA (newW.alloc _) hm9 (Nat.le_refl _)
        have hpb : ∀ x, blkOf A = some x → TB (((w2.alloc (.cells #[.bool false, .string by_, .int .i64 wt] 57))).alloc (.cells #[.bool false, .string by_, .int .i64 wt] 57)) x 57 := fun x hx => by
          rcases ownA.blk with ⟨h1, _⟩ | ⟨g', h1, _, ht⟩
          · rw [h1] at hx; cases hx
          · rw [h1] at hx; injection hx with hx; simp only at hx; subst hx; exact ht
        have hrf : RefAt w9 w.heap.size w.heap.size π := by
          have h1 := refW.new ((Mod.refl (fun _ => False) ((w2.alloc (.cells #[.bool false, .string by_, .int .i64 wt] 57)))).alloc (.cells #[.bool false, .string by_, .int .i64 wt] 57))
          refine ⟨h1.b0, h1.map.mod hm9 (fun e => h1.map.ne_blk (hpb _ e) rfl), fun who' s' hg => (h1.own who' s' hg).mod hm9 (fun x hx e => ?_), h1.apart⟩
          rcases (h1.own who' s' hg).blk with ⟨h2, _⟩ | ⟨g', h2, _, ht⟩
          · rw [h2] at hx; cases hx
          · rw [h2] at hx; injection hx with hx; simp only at hx; subst hx; exact ht.ne (hpb _ e) (by decide) rfl
        exact ⟨⟨k + 1, cap9, some ⟨g9, 0, none⟩, vs ++ [⟨false, by_, wt⟩], π, at_, by omega, by go_num, rfl, Lib.hid own9, Lib.hid hrf, HNI, HSUF, hplN, HPLN, Lib.hid hmw, HEN⟩, by simp [intOf]; omega⟩
      | true =>
        have HP2 : Hid (putR ls (pureR π) ⟨at_, who, cost, long⟩ = gput (pureR π) who (cur.p ++ [⟨at_, who, cost, long⟩])) := Lib.hid (by rw [HPUT.out]; simp)
        have newW : New w (w2.alloc (.cells #[.bool true, .string by_, .int .i64 wt] 57)) := (HM.out.trans HM12.out).alloc _
        have newR : New wr (w2.alloc (.cells #[.bool true, .string by_, .int .i64 wt] 57)) := HM12.out.alloc _
        have bA := HBA.out.new'' ((Mod.refl (fun _ => False) w2).alloc (.cells #[.bool true, .string by_, .int .i64 wt] 57))
        have bV := Blk.new w2 57 #[.bool true, .string by_, .int .i64 wt]
        have x0 := bA.cell 0
        have x1 := bA.cell 1
        have x2 := bA.cell 2
        have x3 := bA.cell 3
        have xl := bA.lt
        simp only [List.getElem?_toArray, List.getElem?_cons_zero, List.getElem?_cons_succ] at x0 x1 x2 x3
        have x0 : (w2.alloc (.cells #[.bool true, .string by_, .int .i64 wt] 57)).cell? ⟨wr.heap.size, 0, none⟩ = some (.int .i64 at_) := x0
        have x1 : (w2.alloc (.cells #[.bool true, .string by_, .int .i64 wt] 57)).cell? ⟨wr.heap.size, 1, none⟩ = some (.string who) := x1
        have x2 : (w2.alloc (.cells #[.bool true, .string by_, .int .i64 wt] 57)).cell? ⟨wr.heap.size, 2, none⟩ = some (.int .i64 cost) := x2
        have x3 : (w2.alloc (.cells #[.bool true, .string by_, .int .i64 wt] 57)).cell? ⟨wr.heap.size, 3, none⟩ = some (.int .i64 long) := x3
        have refW := HRA.out.new newR
        have hlk3 := HLK.out (w2.alloc (.cells #[.bool true, .string by_, .int .i64 wt] 57)) refW.map
        have hcurfar : ∀ x, blkOf cur.A = some x → x < wr.heap.size := fun x hx => by
          rcases HCO.out.blk with ⟨h1, _⟩ | ⟨g', h1, _, ht⟩
          · rw [h1] at hx; cases hx
          · rw [h1] at hx; injection hx with hx; simp only at hx; subst hx; exact ht.lt
        have hcurne : blkOf cur.A ≠ some w.heap.size := HRA.out.ne (who := who) HCO.out
        have HFAR := Lib.hid hcurfar
        have HNE := Lib.hid hcurne
        have HREF := Lib.hid refW
        have HNW := Lib.hid newW
        have HNR := Lib.hid newR
        have HBV := Lib.hid bV
        have HBA3 := Lib.hid bA
        have hzw2 : wr.heap.size < w2.heap.size := HBA.out.lt
        have HZW2 := Lib.hid hzw2
        clear hcurfar hcurne refW newW newR bV bA hzw2
        go_wp2_with fail
        refine wp_region_held_ord (fun w' => w'.cell? ⟨wr.heap.size, 0, none⟩ = some (.int .i64 at_) ∧ w'.cell? ⟨wr.heap.size, 1, none⟩ = some (.string who) ∧ w'.cell? ⟨wr.heap.size, 2, none⟩ = some (.int .i64 cost) ∧ w'.cell? ⟨wr.heap.size, 3, none⟩ = some (.int .i64 long) ∧ (Instr.lookup 106 (.map (some w.heap.size)) (.string who) false).run Tryz.prog w' = .ok (.slice cur.A cur.p.length cur.cp) w' ∧ wr.heap.size < w'.heap.size) [8, 9] [0, 1, 2, 3, 4, 5, 6, 7, 8, 9] (by kernel_rfl) (by kernel_rfl) (fun _ _ d _ _ h => by cases d <;> exact h) ?_ (fun hHeld => ?_)
        · exact ⟨x0, x1, x2, x3, HLK.out _ (HREF.out.new (Mod.refl _ _).drew).map, xl⟩
        simp only [List.length_cons, List.length_nil, List.drop_succ_cons, List.drop_zero]
        refine heldO_take ?_ (by rfl) (by rfl) (by rfl) (fun w hSw => ?_) ?_
        rotate_left
        · (try dsimp only at hSw); go_simp; any_goals (with_reducible rfl)
        simp only [Act.put, List.setIfInBounds_toArray, List.set_cons_zero, List.set_cons_succ]
        refine heldO_take ?_ (by rfl) (by rfl) (by rfl) (fun w hSw => ?_) ?_
        rotate_left
        · (try dsimp only at hSw); go_simp; any_goals (with_reducible rfl)
        simp only [Act.put, List.setIfInBounds_toArray, List.set_cons_zero, List.set_cons_succ]
        refine heldO_take ?_ (by rfl) (by rfl) (by rfl) (fun w hSw => ?_) ?_
        rotate_left
        · (try dsimp only at hSw); go_simp; any_goals (with_reducible rfl)
        simp only [Act.put, List.setIfInBounds_toArray, List.set_cons_zero, List.set_cons_succ]
        refine heldO_take ?_ (by rfl) (by rfl) (by rfl) (fun w hSw => ?_) ?_
        rotate_left
        · (try dsimp only at hSw); go_simp; any_goals (with_reducible rfl)
        simp only [Act.put, List.setIfInBounds_toArray, List.set_cons_zero, List.set_cons_succ]
        refine heldO_take ?_ (by rfl) (by rfl) (by rfl) (fun w hSw => ?_) ?_
        rotate_left
        · (try dsimp only at hSw); go_simp; any_goals (with_reducible rfl)
        simp only [Act.put, List.setIfInBounds_toArray, List.set_cons_zero, List.set_cons_succ]
        refine heldO_take ?_ (by rfl) (by rfl) (by rfl) (fun w hSw => ?_) ?_
        rotate_left
        · (try dsimp only at hSw); go_simp; any_goals (with_reducible rfl)
        simp only [Act.put, List.setIfInBounds_toArray, List.set_cons_zero, List.set_cons_succ]
        refine heldO_take ?_ (by rfl) (by rfl) (by rfl) (fun w hSw => ?_) ?_
        rotate_left
        · (try dsimp only at hSw); go_simp; any_goals (with_reducible rfl)
        simp only [Act.put, List.setIfInBounds_toArray, List.set_cons_zero, List.set_cons_succ]
        refine heldO_take ?_ (by rfl) (by rfl) (by rfl) (fun w hSw => ?_) ?_
        rotate_left
        · (try dsimp only at hSw); go_simp; any_goals (with_reducible rfl)
        simp only [Act.put, List.setIfInBounds_toArray, List.set_cons_zero, List.set_cons_succ]
        generalize hW3 : w2.alloc (.cells #[.bool true, .string by_, .int .i64 wt] 57) = W3 at *
        have hw3s : W3.heap.size = w2.heap.size + 1 := by rw [← hW3]; simp
        have HW3 := Lib.hid hw3s
        clear hW3 hw3s hlk3
        refine heldO_step (by rfl) (by rfl) (by rfl) (fun K hK => ?_)
        go_simp
        have m4 : New W3 ((W3.drewN 1).alloc (.cells #[.int .i64 at_, .string who, .int .i64 cost, .int .i64 long] 70)) := ((Mod.refl _ W3).drewN 1).alloc _
        have b4 := HBA3.out.new'' m4
        have r4 := HREF.out.new m4
        refine hK.out _ _ ⟨(b4.cell 0).trans rfl, (b4.cell 1).trans rfl, (b4.cell 2).trans rfl, (b4.cell 3).trans rfl, HLK.out _ r4.map, b4.lt⟩ (fun hHeld => ?_)
        clear hK K
        try simp only [Act.put, List.setIfInBounds_toArray, List.set_cons_zero, List.set_cons_succ]
        have own4 : PastOwn ((W3.drewN 1).alloc (.cells #[.int .i64 at_, .string who, .int .i64 cost, .int .i64 long] 70)) w.heap.size cur := (HCO.out.new HNR.out).new m4
        have blk4 : Blk ((W3.drewN 1).alloc (.cells #[.int .i64 at_, .string who, .int .i64 cost, .int .i64 long] 70)) W3.heap.size 70 (encL 4 AskD.enc ⟨at_, who, cost, long⟩).toArray := Blk.new (W3.drewN 1) _ _
        refine heldO_step (by rfl) (by rfl) (by rfl) (fun K hK => ?_)
        refine wp_push (.tmp 33) (.tmp 35) _ rfl 40 Tryz.underlying47 einfo_ask rfl (by exact own4) ⟨at_, who, cost, long⟩ W3.heap.size rfl (by exact blk4) (fun j hj => AskD.one _ j hj) (by omega) (by omega) (by have h1 := HNW.out.size; simp; omega) ?_
        intro g5 cap5 w5 own5 hm5 hat5 hlt5
        have b5 := b4.mod hm5 (fun e => by have := HFAR.out _ e; omega)
        have map5 := r4.map.mod hm5 HNE.out
        refine hK.out _ _ ⟨(b5.cell 0).trans rfl, (b5.cell 1).trans rfl, (b5.cell 2).trans rfl, (b5.cell 3).trans rfl, HLK.out _ map5, b5.lt⟩ (fun hHeld => ?_)
        clear hK K
        try simp only [Act.put, List.setIfInBounds_toArray, List.set_cons_zero, List.set_cons_succ]
        refine heldO_nil ?_
        at_mapUpdate
        refine wpList_mapPut (K := strKeys) rfl _ _ _ _ rfl Tryz.underlying106 Tryz.underlying9 rfl map5 who rfl (.slice (some ⟨g5, 0, none⟩) (cur.p.length + 1) cap5) rfl ?_
        intro w6 map6 ho6 hs6
        clear hs6
        have hcb : ∀ x, blkOf cur.A = some x → TB ((W3.drewN 1).alloc (.cells #[.int .i64 at_, .string who, .int .i64 cost, .int .i64 long] 70)) x 70 ∧ w.heap.size ≤ x := fun x hx => by
          rcases own4.blk with ⟨h1, _⟩ | ⟨g', h1, h2, ht⟩
          · rw [h1] at hx; cases hx
          · rw [h1] at hx; injection hx with hx; simp only at hx; subst hx; exact ⟨ht, h2⟩
        have hs' : PastOwn w5 w.heap.size ⟨some ⟨g5, 0, none⟩, cap5, cur.p ++ [⟨at_, who, cost, long⟩]⟩ := by
          show Own w5 w.heap.size 70 4 AskD.enc (some ⟨g5, 0, none⟩) (cur.p ++ [(⟨at_, who, cost, long⟩ : AskD)]).length cap5 _
          rw [List.length_append]; exact own5
        have hmap6 : MapOf strKeys w6 w.heap.size ((gput π who ⟨some ⟨g5, 0, none⟩, cap5, cur.p ++ [⟨at_, who, cost, long⟩]⟩).map fun p => (p.1, p.2.val)) := by
          rw [← aput_val PastD.val]
          show MapOf strKeys w6 w.heap.size (aput _ who (.slice (some ⟨g5, 0, none⟩) (cur.p ++ [(⟨at_, who, cost, long⟩ : AskD)]).length cap5))
          rw [List.length_append]; exact map6
        have refW : RefAt w6 w.heap.size w.heap.size (gput π who ⟨some ⟨g5, 0, none⟩, cap5, cur.p ++ [⟨at_, who, cost, long⟩]⟩) := by
          refine r4.put (who := who) (w1 := w5) (by rw [HCUR.out]; exact hm5) hs' (fun x hx => ?_) hmap6 ho6
          rw [HCUR.out]
          injection hx with hx
          simp only at hx
          subst hx
          rcases hat5 with h1 | h1
          · exact .inl h1
          · right; rw [h1]; exact Nat.le_refl _
        have newW : New w w6 := ((HNW.out.trans m4).step hm5 (fun x hx e => by have := (hcb x e).2; omega)).step ho6 (fun x hx e => by omega)
        have hOb : ∀ (W : World) x, VdOwn W w.heap.size A k c vs → blkOf A = some x → TB W x 57 := fun W x h hx => by
          rcases h.blk with ⟨h1, _⟩ | ⟨g', h1, _, ht⟩
          · rw [h1] at hx; cases hx
          · rw [h1] at hx; injection hx with hx; simp only at hx; subst hx; exact ht
        have o4 := (HO.out.new HNR.out).new m4
        have o5 := o4.mod hm5 (fun x hx e => (hOb _ x o4 hx).ne (hcb x e).1 (by decide) rfl)
        have ownO : VdOwn w6 w.heap.size A k c vs := o5.mod ho6 (fun x hx e => map5.ne_blk (hOb _ x o5 hx) e)
        have v4 := HBV.out.new'' m4
        have v5 := v4.mod hm5 (fun e => v4.tb.ne (hcb _ e).1 (by decide) rfl)
        have v6 := v5.mod ho6 (fun e => map5.ne_blk v5.tb e)
        have y0 := v6.cell 0
        have y1 := v6.cell 1
        have y2 := v6.cell 2
        have yl := v6.lt
        simp at y0 y1 y2
        have HNI : Hid (RInv ls (pureR (gput π who ⟨some ⟨g5, 0, none⟩, cap5, cur.p ++ [⟨at_, who, cost, long⟩]⟩)) at_) := Lib.hid (by
          have h1 := HSI.out
          rw [HP2.out] at h1
          unfold pureR
          rw [gput_gmap]
          exact h1)
        have HEN : Hid (runR ls ks [] = (vs ++ [⟨true, by_, wt⟩]) ++ runR ls (ks.drop (k + 1)) (pureR (gput π who ⟨some ⟨g5, 0, none⟩, cap5, cur.p ++ [⟨at_, who, cost, long⟩]⟩))) := Lib.hid (by
          rw [HDR.out, HP2.out]
          unfold pureR
          rw [gput_gmap]
          simp)
        have hplN : (gput π who (⟨some ⟨g5, 0, none⟩, cap5, cur.p ++ [⟨at_, who, cost, long⟩]⟩ : PastD)).length ≤ k + 1 := by
          have := gput_length π who (⟨some ⟨g5, 0, none⟩, cap5, cur.p ++ [⟨at_, who, cost, long⟩]⟩ : PastD); omega
        have HPLN : Hid (∀ who' s, gget (gput π who (⟨some ⟨g5, 0, none⟩, cap5, cur.p ++ [⟨at_, who, cost, long⟩]⟩ : PastD)) who' = some s → s.p.length ≤ k + 1) := Lib.hid (fun who' s' hg => by
          rw [gget_gput] at hg
          split at hg
          · injection hg with hg
            subst hg
            simp only [List.length_append, List.length_cons, List.length_nil]
            omega
          · have := HPL.out who' s' hg; omega)
        clear hmap6 hs' v4 v5 v6 o4 o5 hOb hcb map6 map5 b4 b5 r4 own4 blk4 own5 hm5 hat5 x0 x1 x2 x3
        generalize gput π who (⟨some ⟨g5, 0, none⟩, cap5, cur.p ++ [⟨at_, who, cost, long⟩]⟩ : PastD) = π' at *
        have hBB : w.heap.size ≤ ((w6).alloc (.cells #[.bool true, .string by_, .int .i64 wt] 57)).heap.size := by
          have h1 := newW.size
          simp at h1 ⊢
          omega
        have HBB := Lib.hid hBB
        have ownA := ownO.alloc (.cells #[.bool true, .string by_, .int .i64 wt] 57)
        have blkA : Blk ((w6).alloc (.cells #[.bool true, .string by_, .int .i64 wt] 57)) (w6.heap.size) 57 (encL 3 Vd.enc ⟨true, by_, wt⟩).toArray := Blk.new' _ _ (by first | rfl | simp)
        clear hBB
        go_wp2_with (at_builtin; refine wpList_push rfl _ _ _ rfl 32 Tryz.underlying49 einfo_vd rfl ownA ⟨true, by_, wt⟩ (w6.heap.size) rfl blkA (fun j hj => Vd.one _ j hj) (by omega) (by omega) HBB.out ?_; intro g9 cap9 w9 own9 hm9 hat9 hlt9)
        have hmw : New w w9 := Own.push_mod (a := w) ownA (newW.alloc _) hm9 (Nat.le_refl _)
        have hpb : ∀ x, blkOf A = some x → TB ((w6).alloc (.cells #[.bool true, .string by_, .int .i64 wt] 57)) x 57 := fun x hx => by
          rcases ownA.blk with ⟨h1, _⟩ | ⟨g', h1, _, ht⟩
          · rw [h1] at hx; cases hx
          · rw [h1] at hx; injection hx with hx; simp only at hx; subst hx; exact ht
        have hrf : RefAt w9 w.heap.size w.heap.size π' := by
          have h1 := refW.new ((Mod.refl (fun _ => False) (w6)).alloc (.cells #[.bool true, .string by_, .int .i64 wt] 57))
          refine ⟨h1.b0, h1.map.mod hm9 (fun e => h1.map.ne_blk (hpb _ e) rfl), fun who' s' hg => (h1.own who' s' hg).mod hm9 (fun x hx e => ?_), h1.apart⟩
          rcases (h1.own who' s' hg).blk with ⟨h2, _⟩ | ⟨g', h2, _, ht⟩
          · rw [h2] at hx; cases hx
          · rw [h2] at hx; injection hx with hx; simp only at hx; subst hx; exact ht.ne (hpb _ e) (by decide) rfl
        exact ⟨⟨k + 1, cap9, some ⟨g9, 0, none⟩, vs ++ [⟨true, by_, wt⟩], π', at_, by omega, by go_num, rfl, Lib.hid own9, Lib.hid hrf, HNI, HSUF, hplN, HPLN, Lib.hid hmw, HEN⟩, by simp [intOf]; omega⟩
    · obtain rfl : k = na := by omega
      have h1 := HE.out
      rw [List.drop_of_length_le (by have := HLEN.out; omega), runR, List.append_nil] at h1
      have HE2 := Lib.hid h1
      have hvl := HO.out.1
      have HVL := Lib.hid hvl
      have hmlen := fun ty => run_len_map (P := Tryz.prog) 106 ty Tryz.underlying106 HRA.out.map
      simp only [List.length_map] at hmlen
      have hp1 : ¬ (2000 : Int) < (π.length : Int) := by omega
      have hp2 : decide ((2000 : Int) < (π.length : Int)) = false := by simpa using hp1
      clear h1 hvl
      go_wp2_with fail
      go_ret2
      exact ⟨A, c, by rw [HE2.out, HVL.out]; rfl, by rw [HE2.out, HVL.out]; exact HO.out.sl, HM.out⟩

end Go.Proofs.YtinnckbffblecaaGreat
